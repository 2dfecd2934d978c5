/-
 What there is, by entity and item: what is asked of a state's shape; what the stock's functions answer. No program in sight.
-/
import Derived.Test.YtjccjmmbebiegaaSt3
set_option linter.unusedVariables false
set_option linter.unusedSimpArgs false
namespace Go.Proofs.Ytjccjmmbebiegaa
open Go.RowKit Mc
def StD.withEnts (S:StD) (E:List EntD):StD:={ S with ents:=E }
def StD.avE (S:StD) (R:List (List AV)):AV:=.agg [.i S.entities,.i S.periods,.lit 1 (intsR S.weights),.lit 1 (intssR S.methods),.lit 1 (intssR S.costs),.lit 8 R,.lit 8 (rcsR S.receipts),.lit 9 (sasR S.sales),.lit 6 (trsR S.transits),.i S.done]
theorem cl_avE {S:StD} {R:List (List AV)} (h:ClR R):Cl (S.avE R) :=
 .agg _ (cl_cons (.c _) (cl_cons (.c _) (cl_cons (cl_ints _).lit (cl_cons (cl_intss _).lit (cl_cons (cl_intss _).lit (cl_cons h.lit (cl_cons (cl_rcs _).lit (cl_cons (cl_sas _).lit (cl_cons (cl_trs _).lit (cl_cons (.c _) cl_nil))))))))))
def entRw (now:Int) (closed:Bool) (P B R Pr D A:List (List AV)):List AV:=[.i now,.c (.bool closed),.lit 4 P,.lit 1 B,.lit 11 R,.lit 1 Pr,.lit 1 D,.lit 8 A]
theorem cl_entRw {now:Int} {closed:Bool} {P B R Pr D A:List (List AV)} (h1:ClR P) (h2:ClR B) (h3:ClR R) (h4:ClR Pr) (h5:ClR D) (h6:ClR A):∀x∈entRw now closed P B R Pr D A,Cl x :=
 cl_cons (.c _) (cl_cons (.c _) (cl_cons h1.lit (cl_cons h2.lit (cl_cons h3.lit (cl_cons h4.lit (cl_cons h5.lit (cl_cons h6.lit cl_nil)))))))
structure Wx (S:StD) (e item now:Int) (closed:Bool) (pools:List PoolD) (bal:List Int) (rolls:List (List Int)) (prices down:List Int) (ahead:List EntC) (ms cs:List Int) (m c:Int):Prop where
 hn:S.ents.length≤4
 e0:0≤e
 e1:e<S.ents.length
 hx:S.ents[e.toNat]?=some ⟨⟨now,closed,pools,bal,rolls,prices,down⟩,ahead⟩
 hw:S.weights.length≤5
 i0:0≤item
 i1:item<S.weights.length
 hmm:S.methods.length=S.ents.length
 hcc:S.costs.length=S.ents.length
 hms:S.methods[e.toNat]?=some ms
 hcs:S.costs[e.toNat]?=some cs
 hml:ms.length=S.weights.length
 hcl:cs.length=S.weights.length
 hpl:pools.length=2*S.weights.length
 hrl:rolls.length=S.weights.length
 hm:ms[item.toNat]?=some m
 hc:cs[item.toNat]?=some c
 mb:I64 m
 cb:I64 c
theorem gIntsAt {z:List Int} {k:Nat} {v:Int} (h:z[k]?=some v):(intsR z)[k]?=some [.i v]:=by
 rw[intsR,List.getElem?_map,h];rfl
def StD.setRow (S:StD) (e:Int) (r:List AV):AV:=S.avE ((entsR S.ents).set e.toNat r)
theorem cl_setRow {S:StD} {e:Int} {r:List AV} (h:∀x∈r,Cl x):Cl (S.setRow e r):=cl_avE (clR_set (cl_ents _) h)
def StD.avX (S:StD) (R RC SA TR:List (List AV)) (d:Int):AV:=.agg [.i S.entities,.i S.periods,.lit 1 (intsR S.weights),.lit 1 (intssR S.methods),.lit 1 (intssR S.costs),.lit 8 R,.lit 8 RC,.lit 9 SA,.lit 6 TR,.i d]
theorem cl_avX {S:StD} {R RC SA TR:List (List AV)} {d:Int} (h:ClR R) (h2:ClR RC) (h3:ClR SA) (h4:ClR TR):Cl (S.avX R RC SA TR d) :=
 .agg _ (cl_cons (.c _) (cl_cons (.c _) (cl_cons (cl_ints _).lit (cl_cons (cl_intss _).lit (cl_cons (cl_intss _).lit (cl_cons h.lit (cl_cons h2.lit (cl_cons h3.lit (cl_cons h4.lit (cl_cons (.c _) cl_nil))))))))))
theorem cl_saRow (x:SaD):∀y∈x.row,Cl y:=fun y hy=>by simp only[SaD.row,List.mem_cons,List.not_mem_nil,or_false]at hy;rcases hy with rfl|rfl|rfl|rfl|rfl|rfl|rfl|rfl|rfl<;>exact .c _
theorem getD_some {α:Type} {l:List α} {k:Nat} {d:α} (h:k<l.length):l[k]?=some (l.getD k d):=by
 rw[List.getD,List.getElem?_eq_getElem h];rfl
theorem getD_mem {α:Type} {l:List α} {k:Nat} {d:α} (h:k<l.length):l.getD k d∈l:=List.mem_of_getElem? (getD_some (d:=d) h)
end Go.Proofs.Ytjccjmmbebiegaa
