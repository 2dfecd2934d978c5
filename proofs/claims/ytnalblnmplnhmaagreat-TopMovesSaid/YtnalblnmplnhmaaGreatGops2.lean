/-
 close.Step on any state: the ways of counts. (Printed by wip/mkpath.py out of wip/paths/gops2.py.)
-/
import Derived.Test.YtnalblnmplnhmaaGreatZ
set_option linter.unusedVariables false
set_option linter.unusedSimpArgs false
namespace Go.Proofs.YtnalblnmplnhmaaGreat
open Go.RowKit Mc
set_option maxRecDepth 1000000
abbrev b_Op_count_eq_ok:Bk:={ vars:=[(0,3),(0,4),(0,1),(0,1073741824),(0,1000000),(0,40),(0,40),(0,40),(0,4),(0,4),(0,5),(0,5),(1,4),(0,1073741824),w60],facts:=[([([0],-1),([8],1)],1,5),([([0],-1),([9],1)],1,5),([([1],-1),([10],1)],1,5),([([1],-1),([11],1)],1,5),([([3],1),([14],-1)],0,0)],lens:=[(4,[([5],1)]),(5,[([6],1)]),(6,[([7],1)]),(2,[([8],1)]),(3,[([9],1)]),(7,[([10],1)]),(8,[([11],1)])],ats:=[(2,[([0],1)],[.q 1 7]),(3,[([0],1)],[.q 1 8]),(7,[([1],1)],[.v 12]),(8,[([1],1)],[.v 13])],extV:=[(19,[(.agg [.i 7,.v 0,.v 1,.v 2,.i 0,.v 3,.i 0,.i 0,.emp])],(.c (.bool true))),
 (113,[(sN (.q 8 0) (.v 4)),.v 0,.v 1],(.i 0)),
 (16,[(sN (.q 8 0) (.v 4)),.v 0,.v 1,.v 2],(.agg [.q 3 9,.o 3,.o 4,.o 5])),
 (201,[.v 12,(.agg [.q 3 9,.o 3,.o 4,.o 5])],(.v 14))] }
theorem Op_count_eq_ok {S:StD} {e:Int} (he:0≤e∧e≤3) {item:Int} (hitem:0≤item∧item≤4) {loc:Int} (hloc:0≤loc∧loc≤1) {qty:Int} (hqty:0≤qty∧qty≤1073741824) (hd:Od S) {ms cs:List Int} {meth cost:Int} (hms:S.methods[e.toNat]?=some ms) (hcs:S.costs[e.toNat]?=some cs) (hm:ms[item.toNat]?=some meth) (hc:cs[item.toNat]?=some cost) (bm:1≤meth∧meth≤4) (bc:0≤cost∧cost≤1073741824) (hn1:S.methods.length≤4) (hn2:S.costs.length≤4) (hn3:ms.length≤5) (hn4:cs.length≤5) {p0 p1 p2:Int} {L:List Lay} {fr:Int} (b_fr:B60 fr) (hfr:qty=fr) {d':Int} (h_d':d'=1+S.done) (hC:Ck 19 [opAv 7 e item loc 0 qty 0 0] (.c (.bool true))) (h2:Ck 113 [S.av,.i e,.i item] (.i 0)) (h3:Ck 16 [S.av,.i e,.i item,.i loc] (PoolD.av ⟨L,p0,p1,p2⟩)) (h4:Ck 201 [.i meth,PoolD.av ⟨L,p0,p1,p2⟩] (.i fr)) :
 Ck 11 [S.av,opAv 7 e item loc 0 qty 0 0] (.tup [S.avX (entsR S.ents) (rcsR S.receipts) (sasR S.sales) (trsR S.transits) d',.i 0]):=by
 have:=(List.getElem?_eq_some_iff.1 hms).1;have:=(List.getElem?_eq_some_iff.1 hcs).1;have:=(List.getElem?_eq_some_iff.1 hm).1;have:=(List.getElem?_eq_some_iff.1 hc).1
 obtain⟨ρ,hρ⟩:=rh [e,item,loc,qty,S.done,(S.receipts.length:Int),(S.sales.length:Int),(S.transits.length:Int),(S.methods.length:Int),(S.costs.length:Int),(ms.length:Int),(cs.length:Int),meth,cost,fr]
 obtain rfl:=eqv hρ h_d' [([],1),([4],1)]
 subst hρ
 let ev:=evS b_Op_count_eq_ok [e,item,loc,qty,S.done,(S.receipts.length:Int),(S.sales.length:Int),(S.transits.length:Int),(S.methods.length:Int),(S.costs.length:Int),(ms.length:Int),(cs.length:Int),meth,cost,fr] [.int .i64 S.entities,.int .i64 S.periods,.int .i64 S.done,.int .i64 p0,.int .i64 p1,.int .i64 p2] (oS S [intsR ms,intsR cs,laysR L]) BndL.nil.c.c.c.c.c.c.c.c.c.c.c.c.c.c.c FctL.nil.c.c.c.c.c LenL.nil.c.c.c.c.c.c.c (.d (aS hms) (.d (aS hcs) (.d (aI hm) (.d (aI hc) .nil))))
 exact CK.way _ ev [(sN (.q 8 0) (.v 4)),(.agg [.i 7,.v 0,.v 1,.v 2,.i 0,.v 3,.i 0,.i 0,.emp])] (.tup [(sN (.q 8 0) (.e [([],1),([4],1)])),.i 0]) (by decide +kernel) (kc hC (kc h2 (kc h3 (kc h4 kn))))
end Go.Proofs.YtnalblnmplnhmaaGreat
