/-
 Texts joined and made small by wip/small.sh.
-/
import Derived.Test.YtnepgggkgnckcaaGreatJ4
import Derived.Deep.RegionHeld3
import Derived.IntWalk
import Derived.StillTailTactics
import Derived.WalkLawsBesides
import Derived.Deep.QuietTactic
import Derived.BigQuiet
set_option linter.unusedVariables false
set_option linter.unusedSimpArgs false
namespace Go.Proofs.YtnepgggkgnckcaaGreat
open Go.RowKit
end Go.Proofs.YtnepgggkgnckcaaGreat
namespace Go.Value
abbrev I (x:Int):Go.Value:=.int .i64 x
end Go.Value
namespace Go.Proofs.YtnepgggkgnckcaaGreat
open Go.RowKit
section
open Mc
abbrev Ck (k:FuncId) (xa:List AV) (r:AV):Prop:=CK Tryz.prog k xa r
abbrev Mc.AV.v (k:Nat):AV:=.e [([k],1)]
abbrev Mc.AV.q (sz k:Nat):AV:=.seq sz k [] []
abbrev sN (E d:AV):AV:=.agg [.o 0,.o 1,.q 1 1,.q 1 2,.q 1 3,E,.q 8 4,.q 9 5,.q 6 6,d]
class lE (l:List (List AV)):Prop where out:pG l
class ClS (ss:List (List (List AV))):Prop where out:∀l∈ss,∀r∈l,∀x∈r,Cl x
class EE (l:List AV):Prop where out:∀x∈l,Cl x
class GQ (x:AV):Prop where out:Cl x
instance:ClS []:=⟨aeU⟩
instance {l:List (List AV)} {ss:List (List (List AV))} [h:lE l] [g:ClS ss]:ClS (l::ss):=⟨abJ h.out g.out⟩
instance:EE []:=⟨eM⟩
instance {x:AV} {l:List AV} [h:GQ x] [g:EE l]:EE (x::l):=⟨aX h.out g.out⟩
instance (v:Value):GQ (.c v):=⟨.c v⟩
instance (l:List AV) [h:EE l]:GQ (.agg l):=⟨.agg _ h.out⟩
instance (l:List AV) [h:EE l]:GQ (.aZ l):=⟨.aZ _ h.out⟩
instance (k:Nat) (l:List (List AV)) [h:lE l]:GQ (.lit k l):=⟨h.out.lit⟩
instance:lE []:=⟨pG.nil⟩
instance {r:List AV} {l:List (List AV)} [h:EE r] [g:lE l]:lE (r::l):=⟨ad1 h.out g.out⟩
instance {a b:List (List AV)} [h:lE a] [g:lE b]:lE (a++b):=⟨SP h.out g.out⟩
instance {a:List (List AV)} {k:Nat} {r:List AV} [h:lE a] [g:EE r]:lE (a.set k r):=⟨Xt h.out g.out⟩
instance (l:List Int):lE (aA l):=⟨kK l⟩
instance (l:List bB):lE (aO l):=⟨tQ l⟩
instance (l:List cD):lE (bR l):=⟨zE l⟩
instance (l:List yF):lE (kW l):=⟨SO l⟩
instance (l:List AP):lE (gD l):=⟨SN l⟩
instance (l:List wX):lE (gY l):=⟨SM l⟩
instance (l:List (List Int)):lE (bM l):=⟨O0 l⟩
instance (l:List (List Int)):lE (dM l):=⟨rG l⟩
instance (l:List dA):lE (bL l):=⟨O1 l⟩
instance (l:List EntC):lE (bV l):=⟨O4 l⟩
instance (l:List eC):lE (bN l):=⟨Mw l⟩
instance (l:List Int):EE (lY l):=⟨wJ l⟩
instance (p:dA):EE p.row:=⟨AE p⟩
instance (p:AP):EE p.row:=⟨adZ p⟩
instance (p:dA):GQ p.av:=⟨.agg _ (AE p)⟩
instance (x:bB):GQ x.av:=⟨Mv x⟩
instance (S:bH):GQ S.av:=⟨ajN S⟩
instance (a b c d e f g h:Int):GQ (uE a b c d e f g h):=⟨ajO _⟩
instance {now:Int} {closed:Bool} {P B R Pr D A:List (List AV)} [h1:lE P] [h2:lE B] [h3:lE R] [h4:lE Pr] [h5:lE D] [h6:lE A]:EE (DD now closed P B R Pr D A):=⟨ad0 h1.out h2.out h3.out h4.out h5.out h6.out⟩
instance {S:bH} {e:Int} {r:List AV} [h:EE r]:GQ (S.setRow e r):=⟨aaV h.out⟩
instance {S:bH} {R RC SA TR:List (List AV)} {d:Int} [h1:lE R] [h2:lE RC] [h3:lE SA] [h4:lE TR]:GQ (S.avX R RC SA TR d):=⟨ah9 h1.out h2.out h3.out h4.out⟩
abbrev gV:List (Int×Int):=[(0,3),(1,4),(0,4),(1,5),(-9223372036854775808,9223372036854775807),(-9223372036854775808,9223372036854775807)]
abbrev gF:List (Poly×Int×Int):=[([([0],-1),([1],1)],1,4),([([2],-1),([3],1)],1,5)]
abbrev gL:List (Nat×Poly):=[(0,[([1],1)]),(1,[([3],1)]),(2,[([1],1)]),(3,[([1],1)]),(13,[([3],1)]),(14,[([3],1)]),(9,[([3],1)]),(7,[([3],2)])]
abbrev gAw (c:AV):List (Nat×Poly×List AV):=[(0,[([0],1)],[.o 3,c,.q 4 7,.q 1 8,.q 11 9,.q 1 10,.q 1 11,.q 8 12]),(2,[([0],1)],[.q 1 13]),(3,[([0],1)],[.q 1 14]),(13,[([2],1)],[.v 4]),(14,[([2],1)],[.v 5])]
abbrev gA:List (Nat×Poly×List AV):=gAw (.o 4)
abbrev gS (S:bH) (bE:List dA) (dC:List Int) (bF:List (List Int)) (aW down:List Int) (ahead:List EntC) (ms cs:List Int) (l:List (List (List AV))):List (List (List AV)):=bN S.aH::aA S.weights::dM S.methods::dM S.iC::kW S.bX::gD S.aU::gY S.aM::bL bE::aA dC::bM bF::aA aW::aA down::bV ahead::aA ms::aA cs::l
abbrev zK:Int×Int:=(-9223372036854775808,9223372036854775807)
abbrev w60:Int×Int:=(-1152921504606846976,1152921504606846976)
abbrev wZ:Int×Int:=(-288230376151711744,288230376151711744)
abbrev Od (S:bH):Prop:=(0≤S.done∧S.done≤1000000)∧S.bX.length≤40∧S.aU.length≤40∧S.aM.length≤40
abbrev oS (S:bH) (l:List (List (List AV))):List (List (List AV)):=bN S.aH::aA S.weights::dM S.methods::dM S.iC::kW S.bX::gD S.aU::gY S.aM::l
theorem Wx.bd {S:bH} {e item now:Int} {closed:Bool} {bE:List dA} {dC:List Int} {bF:List (List Int)} {aW down:List Int} {ahead:List EntC} {ms cs:List Int} {m c:Int} (H:Wx S e item now closed bE dC bF aW down ahead ms cs m c) :
  S.aH.length≤4∧0≤e∧e<S.aH.length∧S.weights.length≤5∧0≤item∧item<S.weights.length∧S.methods.length=S.aH.length∧S.iC.length=S.aH.length∧ms.length=S.weights.length∧cs.length=S.weights.length∧bE.length=2*S.weights.length∧bF.length=S.weights.length∧(-9223372036854775808≤m∧m≤9223372036854775807)∧(-9223372036854775808≤c∧c≤9223372036854775807) :=
 ⟨H.hn,H.e0,H.e1,H.hw,H.i0,H.i1,H.GR,H.DB,H.AO,H.uF,H.hpl,H.hrl,⟨H.mb.lo,H.mb.hi⟩,⟨H.cb.lo,H.cb.hi⟩⟩
namespace Mc
theorem jO.c {a b x:Int} {l:List (Int×Int)} {xs:List Int} (h:jO l xs) (h1:a≤x:=by omega) (h2:x≤b:=by omega):jO ((a,b)::l) (x::xs):=.cons h1 h2 h
theorem jQ.c {ρ:Nat→Int} {p:Poly} {a b:Int} {l:List (Poly×Int×Int)} (h:jQ ρ l) (h1:a≤bJ ρ p:=by simp[bJ,lG];omega) (h2:bJ ρ p≤b:=by simp[bJ,lG];omega):jQ ρ ((p,a,b)::l):=.cons h1 h2 h
theorem kL.c {ρ:Nat→Int} {ss:List (List (List AV))} {k:Nat} {p:Poly} {l:List (Nat×Poly)} (h:kL ρ ss l) (h1:((ss.getD k []).length:Int)=bJ ρ p:=by simp[bJ,lG,bN,aA,bL,kW,gD,gY,bR,aO,bM,bV,dM];try omega):kL ρ ss ((k,p)::l):=.cons h1 h
theorem yH.d {ρ:Nat→Int} {vl:Nat→Value} {ss:List (List (List AV))} {k:Nat} {p:Poly} {r r0:List AV} {l:List (Nat×Poly×List AV)} (h1:(ss.getD k [])[(bJ ρ p).toNat]?=some r0) (h:yH ρ vl ss l) (h0:0≤bJ ρ p:=by simp[bJ,lG];try omega) (h2:r.map (zO ρ vl (fun i=>ss.getD i []) 12)=r0:=by rfl) (h3:r.all (lA 12)=true:=by rfl):yH ρ vl ss ((k,p,r)::l):=.cons h0 h1 h2 h3 h
theorem eqv {ρ σ:Nat→Int} {c x:Int} (hr:ρ=σ) (h:c=x) (p:Poly) (hp:x=bJ σ p:=by simp[bJ,lG]<;>omega):c=PS ρ p:=by rw[uG,h,hp,hr]
theorem rh (l:List Int):∃ρ:Nat→Int,ρ=fun i=>l.getD i 0:=⟨_,rfl⟩
theorem jQ.e {ρ:Nat→Int} {p:Poly} {a b:Int} {l:List (Poly×Int×Int)} (h:jQ ρ l) (h1:a≤bJ ρ p:=by first|(simp[bJ,lG]<;>omega)|omega) (h2:bJ ρ p≤b:=by first|(simp[bJ,lG]<;>omega)|omega):jQ ρ ((p,a,b)::l):=.cons h1 h2 h
abbrev Xn (b:Bk) (xs:List Int) (vs:List Value) (ss:List (List (List AV))) [g:ClS ss] (hb:jO b.vars xs) (hf:jQ (fun i=>xs.getD i 0) b.facts) (hl:kL (fun i=>xs.getD i 0) ss b.lens) (ha:yH (fun i=>xs.getD i 0) (fun i=>vs.getD i (.bool false)) ss b.kT) (hd:vD (fun i=>xs.getD i 0) b.defs:=by exact .nil) (ho:(vs.all Value.oneCell')=true:=by rfl) (hk:b.kinds=[]:=by rfl) (hc:∀t∈b.aa3,ss.getD t.2.2 []=ss.getD t.1 []++ss.getD t.2.1 []:=by exact fun t h=>nomatch h):@Ev b :=
 ajM b xs vs ss hd hb hf (fun v hv=>List.all_eq_true.1 ho v hv) hl ha g.out hk hc
abbrev ev1 (b:Bk) (xs:List Int) (vs:List Value) (ss:List (List (List AV))) [g:ClS ss] (ha:yH (fun i=>xs.getD i 0) (fun i=>vs.getD i (.bool false)) ss b.kT) (hd:vD (fun i=>xs.getD i 0) b.defs:=by exact .nil) (ho:(vs.all Value.oneCell')=true:=by rfl) (hk:b.kinds=[]:=by rfl) (hc:∀t∈b.aa3,ss.getD t.2.2 []=ss.getD t.1 []++ss.getD t.2.1 []:=by exact fun t h=>nomatch h) (hb:jO b.vars xs:=by repeat (first|exact jO.nil|refine jO.c ?_ (by omega) (by omega))) (hf:jQ (fun i=>xs.getD i 0) b.facts:=by repeat (first|exact jQ.nil|refine jQ.e ?_)) (hl:kL (fun i=>xs.getD i 0) ss b.lens:=by repeat (first|exact kL.nil|refine kL.c ?_)):@Ev b :=Xn b xs vs ss hb hf hl ha hd ho hk hc
theorem kc {P:Program} {b:Bk} {ev:@Ev b} {k:Nat} {xa xa':List AV} {r r':AV} {l:List (Nat×List AV×AV)} (h:CK P k xa' r') (hl:@MO b ev P l) (ea:xa.map (@den b ev 12)=xa':=by rfl) (er:@den b ev 12 r=r':=by rfl) (hu:lA 12 r=true:=by rfl):@MO b ev P ((k,xa,r)::l):=ah1 b ev (CK.named b ev h ea er hu) hl
theorem kn {P:Program} {b:Bk} {ev:@Ev b}:@MO b ev P []:=ajI b ev
theorem CK.PW {P:Program} (b:Bk) (ev:@Ev b) {k:FuncId} (xa:List AV) {xa':List AV} (r:AV) {r':AV} [g1:EE xa'] [g2:GQ r'] (h:@Fe b P 100000 60 k xa r=true) (hk:@MO b ev P b.bT) (hx:@PL b ev P b.ext:=by exact adF _ _) (hy:@PG b ev P b.yes:=by exact abq _ _) (ea:xa.map (@den b ev 12)=xa':=by rfl) (er:@den b ev 12 r=r':=by rfl) (hu:xa.all (lA 12)=true:=by rfl) (hg:b.kI=[]:=by rfl):CK P k xa' r' :=
 CK.ac7 b ev h hx hy hk ea er g1.out g2.out hu hg
theorem fmo {P:Prop} (h:P:=by simp only[List.forall_mem_cons,List.not_mem_nil,false_imp_iff,implies_true,and_true];omega):P:=h
theorem jO.b {a b x:Int} {l:List (Int×Int)} {xs:List Int} (h:jO l xs) (hb:a≤x∧x≤b):jO ((a,b)::l) (x::xs):=.cons hb.1 hb.2 h
theorem cw {P:Program} (b:Bk) (ev:@Ev b) {k:FuncId} (xa:List AV) {xa':List AV} (r:AV) {r':AV} [g1:EE xa'] [g2:GQ r'] (hk:@MO b ev P b.bT) (h:@Fe b P 100000 60 k xa r=true:=by decide +kernel) (hx:@PL b ev P b.ext:=by exact adF _ _) (hy:@PG b ev P b.yes:=by exact abq _ _) (ea:xa.map (@den b ev 12)=xa':=by rfl) (er:@den b ev 12 r=r':=by rfl) (hu:xa.all (lA 12)=true:=by rfl) (hg:b.kI=[]:=by rfl):CK P k xa' r':=CK.ac7 b ev h hx hy hk ea er g1.out g2.out hu hg
abbrev sT (S:bH) (l:List (List (List AV))):List (List (List AV)):=bN S.aH::aA S.weights::dM S.methods::dM S.iC::kW S.bX::gD S.aU::gY S.aM::l
abbrev vT (S:bH) (l:List Value):List Value:=.int .i64 S.aB::.int .i64 S.aD::.int .i64 S.done::l
end Mc
noncomputable abbrev Nm (b:Bk) (c:Code) (N:Nat) (f:List AV) (t:List Mc.bY) (n:Nat):Option (RT Out):=@mS b Tryz.prog (@jF b Tryz.prog 100000 60) 100000 100 c (Ft.of N f) (EN t) n
noncomputable abbrev rsA (b:Bk) (c:Option (RT Out)) (k:Nat) (N:Nat) (f:List AV) (t:List Mc.bY) (n:Nat):Option (RT Out):=@rN b Tryz.prog (@jF b Tryz.prog 100000 60) 100000 (oK c) (.exit k) (Ft.of N f) (EN t) n
theorem BU (v m:Int) (h1:0<m:=by omega) (h2:m≤1099511627776:=by omega):Ck 14 [.i v,.i m] (.i (v%m)) :=
 ⟨aX (.c _) (aX (.c _) eM),.c _,@ahZ dI dN _ [.int .i64 v,.int .i64 m] _ fun w=>afc v m w h1 h2⟩
theorem aE {xs:List Int} {i:Nat} {l:List eC} {now:Int} {closed:Bool} {bE:List dA} {dC:List Int} {bF:List (List Int)} {aW down:List Int} {ahead:List EntC} (h:l[(xs.getD i 0).toNat]?=some ⟨⟨now,closed,bE,dC,bF,aW,down⟩,ahead⟩):(bN l)[(bJ (fun k=>xs.getD k 0) [([i],1)]).toNat]?=some (DD now closed (bL bE) (aA dC) (bM bF) (aA aW) (aA down) (bV ahead)):=tT (mA _ _) (adM h)
theorem aI {xs:List Int} {i:Nat} {z:List Int} {v:Int} (h:z[(xs.getD i 0).toNat]?=some v):(aA z)[(bJ (fun k=>xs.getD k 0) [([i],1)]).toNat]?=some [.i v]:=tT (mA _ _) (Xg h)
theorem aS {xs:List Int} {i:Nat} {z:List (List Int)} {v:List Int} (h:z[(xs.getD i 0).toNat]?=some v):(dM z)[(bJ (fun k=>xs.getD k 0) [([i],1)]).toNat]?=some [.lit 1 (aA v)]:=tT (mA _ _) (adD h)
theorem aR {xs:List Int} {i:Nat} {z:List (List Int)} {v:List Int} (h:z[(xs.getD i 0).toNat]?=some v):(bM z)[(bJ (fun k=>xs.getD k 0) [([i],1)]).toNat]?=some (lY v):=tT (mA _ _) (ae4 h)
theorem aC {xs:List Int} {i:Nat} {z:List yF} {x:yF} (h:z[(xs.getD i 0).toNat]?=some x):(kW z)[(bJ (fun k=>xs.getD k 0) [([i],1)]).toNat]?=some [.i x.eX,.i x.item,.i x.loc,.i x.lS,.i x.value,.i x.RZ,.i x.lV,.i x.back]:=tT (mA _ _) (ajv h)
theorem aV {xs:List Int} {i:Nat} {z:List AP} {x:AP} (h:z[(xs.getD i 0).toNat]?=some x):(gD z)[(bJ (fun k=>xs.getD k 0) [([i],1)]).toNat]?=some [.i x.eX,.i x.item,.i x.loc,.i x.lS,.i x.back,.i x.cost,.i x.cN,.i x.period,.c (.bool x.waits)]:=tT (mA _ _) (aju h)
theorem aT {xs:List Int} {i:Nat} {z:List wX} {x:wX} (h:z[(xs.getD i 0).toNat]?=some x):(gY z)[(bJ (fun k=>xs.getD k 0) [([i],1)]).toNat]?=some [.i x.src,.i x.dst,.i x.item,.i x.lS,.i x.value,.i x.cN]:=tT (mA _ _) (aiz h)
theorem aP {ρ:Nat→Int} {p:Poly} {z:List dA} {x:dA} (h:z[(PS ρ p).toNat]?=some x):(bL z)[(bJ ρ p).toNat]?=some [.lit 3 (aO x.bK),.i x.p0,.i x.p1,.i x.p2]:=tT (uG ρ p).symm (TL h)
abbrev tA:=List AV
abbrev tB:=List (List AV)
abbrev tC:=List (Poly×Int×Int)
abbrev tD:=List (Nat×Poly)
abbrev tE:=List (Nat×Poly×List AV)
abbrev tF:=List (Nat×List AV×AV)
abbrev tG:=List (Int×Int)
abbrev tH:=Nat×List AV×AV
abbrev tI:=Poly×Int×Int
abbrev tJ:=Nat×Poly×List AV
abbrev tK:=Nat×Poly×Poly×Poly
abbrev tLz:=List (Nat×Poly×Poly×Poly)
abbrev tM:=List Mc.bY
abbrev Wv:AV:=(sN (.q 8 0) (.v 7))
abbrev Yy:tH:=(89,[Wv,.v 0,.v 1],(.i 0))
abbrev Yz:tH:=(89,[Wv,.v 3,.v 1],(.i 0))
abbrev Yh:tA:=[Wv,.v 0,.v 1,.v 2,.i 3,.v 4]
abbrev Ww:AV:=(sN (.q 8 7) (.v 7))
abbrev K9:tH:=(217,Yh,(.aZ [Ww,(.agg [.o 2,.v 14,.v 15]),.o 3,.i 0]))
abbrev W4:AV:=(.e [([5],-1)])
abbrev VP:tA:=[.i 15,W4]
abbrev Jf:tA:=[Ww,.v 0,(.lit 2 [[.i 13,.v 5],VP,[.i 16,.v 14],[.i 0,(.e [([14],-1)])]])]
abbrev Wy:AV:=(sN (.q 8 8) (.v 7))
abbrev Uk:AV:=(.aZ [Wy,.i 0])
abbrev KL:tH:=(92,Jf,Uk)
abbrev Qb:tA:=[Wy,.v 3,(.lit 2 [[.i 12,.v 5],[.i 14,W4]])]
abbrev Wz:AV:=(sN (.q 8 9) (.v 7))
abbrev Ul:AV:=(.aZ [Wz,.i 0])
abbrev Jc:tH:=(92,Qb,Ul)
abbrev Js:tA:=[Wz,.v 0,.v 1,(.agg [.i 0,.i 0,.i 0,.i 0,.i 0,.i 0,.v 14,.i 0,.i 0,.i 0,.i 0])]
abbrev Ka:tF:=[Yy,Yz,K9,KL,Jc,(124,Js,(.aZ [(sN (.q 8 10) (.v 7)),.i 0]))]
abbrev JN:Mc.bY:=(.cells 31 10 [[.o 0,.o 1,.q 1 1,.q 1 2,.q 1 3,.q 8 0,.q 8 4,.q 9 5,.q 6 6,.o 2]])
abbrev ZB:tB:=[[.i 0,.i 0,.emp,.emp,.emp,.emp,.emp,.emp,.emp,.i 0]]
abbrev QH:Mc.bY:=(.cells 31 10 ZB)
abbrev Jp:Mc.bY:=(.cells 31 10 [[.o 0,.o 1,.q 1 1,.q 1 2,.q 1 3,(.cE 76 8 3 [([0],1)]),.q 8 4,.q 9 5,.q 6 6,.o 2]])
abbrev KD:Mc.bY:=(.sc 76 8 0 [([([1],1)],[.o 3,.o 4,(.cE 161 4 4 [([2],2)]),(.cE 3 1 5 [([],17)]),(.cE 140 11 6 [([2],1)]),(.cE 3 1 7 [([2],1)]),(.cE 3 1 8 [([2],1)]),.q 8 12])] [] [([0],1)])
abbrev UV:Mc.bY:=(.sc 161 4 7 [] [] [([2],2)])
abbrev U6:Mc.bY:=(.sc 3 1 8 [] [] [([],17)])
abbrev UQ:Mc.bY:=(.sc 140 11 9 [] [] [([2],1)])
abbrev UZ:Mc.bY:=(.sc 3 1 10 [] [] [([2],1)])
abbrev Kb:tM:=[JN,QH,Jp,KD,UV,U6,UQ,UZ,(.sc 3 1 13 [] [] [([2],1)]),(.sc 44 2 14 [] [] [([3],1)])]
abbrev WY:AV:=(.own 3 1 1 0 1)
abbrev JO:Mc.bY:=(.cells 25 5 [[.i 3,.i 1,WY,(.own 22 1 2 0 3),(.own 22 1 3 0 3)]])
abbrev Wo:Mc.bY:=(.cells 3 1 [[.i 1]])
abbrev Qs:Mc.bY:=(.cells 22 1 [[(.own 3 1 4 0 1)],[(.own 3 1 6 0 1)],[(.own 3 1 8 0 1)]])
abbrev Qt:Mc.bY:=(.cells 22 1 [[(.own 3 1 5 0 1)],[(.own 3 1 7 0 1)],[(.own 3 1 9 0 1)]])
abbrev Wp:Mc.bY:=(.cells 3 1 [[.i 2]])
abbrev Wq:Mc.bY:=(.cells 3 1 [[.i 0]])
abbrev Kc:tM:=[JO,Wo,Qs,Qt,Wp,Wq,Wp,Wq,Wp,Wq,(.sc 50 9 1 [] [] [([2],1)])]
abbrev Kd:tM:=[JO,Wo,Qs,Qt,Wp,Wq,Wp,Wq,Wp,Wq]
abbrev WH:AV:=(.c (.bool false))
abbrev Ke:tA:=[.i 1,WH,(.lit 4 [[(.lit 3 []),.i 0,.i 0,.i 0],[(.lit 3 []),.i 0,.i 0,.i 0]]),(.lit 1 [[.i 0],[.i 0],[.i 0],[.i 0],[.i 0],[.i 0],[.i 0],[.i 0],[.i 0],[.i 0],[.i 0],[.i 0],[.i 0],[.i 0],[.i 0],[.i 0],[.i 0]]),(.lit 11 [[.i 0,.i 0,.i 0,.i 0,.i 0,.i 0,.i 0,.i 0,.i 0,.i 0,.i 0]]),(.lit 1 [[(.i (-1))]]),(.lit 1 [[.i 0]]),(.lit 8 [])]
abbrev Va:Mc.bY:=(.sc 3 1 0 [] [] [([0],1)])
abbrev Vb:Mc.bY:=(.sc 3 1 1 [] [] [([0],1)])
abbrev Vc:Mc.bY:=(.sc 3 1 2 [] [] [([0],1)])
abbrev KU:Mc.bY:=(.cells 128 2 [[(.ptr 4 0 0 0),(.cE 3 1 1 [([0],1)])],[(.ptr 4 0 0 1),(.cE 3 1 2 [([0],1)])],[(.ptr 4 0 0 2),(.cE 3 1 3 [([0],1)])]])
abbrev VV:tB:=[[.i 0,.i 0,.i 0,.i 0]]
abbrev Y2:Mc.bY:=(.cells 46 4 VV)
abbrev Kf:tM:=[(.cells 46 4 [[.o 1,.i 0,.i 0,.o 0]]),Va,Vb,Vc,KU,Y2]
abbrev Kg:tM:=[(.cells 46 4 [[.o 1,.o 2,.i 0,.o 0]]),Va,Vb,Vc,KU,Y2]
abbrev Kh:tM:=[(.cells 46 4 [[.o 1,.o 2,.o 3,.o 0]]),Va,Vb,Vc,KU,Y2]
abbrev Ki:tM:=[(.cells 25 5 [[.i 3,.i 1,WY,(.own 22 1 2 0 2),(.own 22 1 3 0 2)]]),Wo,(.cells 22 1 [[(.own 3 1 4 0 1)],[(.own 3 1 6 0 1)]]),(.cells 22 1 [[(.own 3 1 5 0 1)],[(.own 3 1 7 0 1)]]),Wp,Wq,Wp,Wq]
abbrev Uw:Mc.bY:=(.cells 101 3 [[.o 6,.o 7,.o 8]])
abbrev WV:Poly:=[([],1),([2],1)]
abbrev YK:Mc.bY:=(.sc 3 1 7 [] [[.v 1]] WV)
abbrev WL:Poly:=[([3],1),([4],-1)]
abbrev Kj:tM:=[JN,Uw,QH,YK,(.sc 3 1 8 [] [[(.e WL)]] WV)]
abbrev WF:tA:=[(.lit 1 [[.i 2]])]
abbrev QA:AV:=(.lit 1 [WF,WF,WF])
abbrev WG:tA:=[(.lit 1 [[.i 0]])]
abbrev QC:AV:=(.lit 1 [WG,WG,WG])
abbrev KF:tA:=[(.agg [.i 3,.i 1,(.lit 1 [[.i 1]]),QA,QC])]
abbrev QY:tA:=[.o 4,.o 5,.q 1 3,.q 1 4,.q 1 5,.q 8 2,.q 8 6,.q 9 7,.q 6 8,.o 6]
abbrev Kk:tF:=[(15,KF,(.agg QY))]
abbrev Y3:Mc.bY:=(.cells 38 4 [[.i 0,.emp,.emp,.emp]])
abbrev VF:AV:=(.cE 46 4 3 [([0],1)])
abbrev U1:Mc.bY:=(.sc 46 4 7 [] [] [([0],1)])
abbrev Kl:tM:=[JN,Y3,(.cells 38 4 [[.o 3,VF,.q 2 8,(.cE 3 1 4 [([3],1)])]]),U1,(.sc 3 1 9 [] [] [([3],1)])]
abbrev Km:tM:=[JN,Y3,(.cells 38 4 [[.o 3,VF,.q 2 8,(.cE 3 1 4 [([],17)])]]),U1,(.sc 3 1 9 [] [] [([],17)])]
abbrev U4:Mc.bY:=(.sc 3 1 7 [] [] [([1],1)])
abbrev Ko:tM:=[JN,(.cells 101 3 [[.o 3,.o 4,.o 5]]),QH,U4,(.sc 137 9 10 [] [] [([0],1)])]
abbrev Kp:tM:=[JN,Uw,QH,(.sc 3 1 7 [] [] [([2],1)]),(.sc 3 1 8 [] [] [([2],1)])]
abbrev Kq:tM:=[JN,Uw,QH,U4,(.sc 3 1 8 [] [] [([1],1)])]
abbrev Uz:tB:=[[.i 14],[.i 13],[.i 15],[.i 16]]
abbrev Yq:Mc.bY:=(.cells 3 1 Uz)
abbrev V4:tA:=[.i 14,(.e [([3],-1)])]
abbrev V5:tA:=[.i 13,(.e [([4],-1)])]
abbrev W7:AV:=(.e [([6],-1)])
abbrev Jk:Mc.bY:=(.cells 44 2 [V4,V5,VP,[.i 16,W7]])
abbrev Kr:tM:=[JN,Yq,Jk]
abbrev QV:tA:=[.o 0,.o 1,.q 1 1,.q 1 2,.q 1 3,.q 8 7,.q 8 4,.q 9 8,.q 6 6,.o 2]
abbrev Ks:tM:=[JN,QH,(.cells 31 10 [QV])]
abbrev Wj:Mc.bY:=(.cells 3 1 [[.v 0]])
abbrev U7:Mc.bY:=(.sc 3 1 7 [] [] [([4],1)])
abbrev U8:Mc.bY:=(.sc 3 1 8 [] [] [([4],1)])
abbrev U9:Mc.bY:=(.sc 3 1 9 [] [] [([4],1)])
abbrev Kt:tM:=[JN,Wj,Y2,U7,U8,U9]
abbrev Ku:tM:=[JN,Wj,Y2,(.sc 3 1 7 [] [] [([2],1)]),(.sc 3 1 8 [] [] [([2],1)]),(.sc 3 1 9 [] [] [([2],1)])]
abbrev Kv:tM:=[JN,Jk,(.sc 3 1 7 [] [] [([7],1)])]
abbrev Kw:tM:=[JN,Yq,(.cells 44 2 [V4,V5,VP])]
abbrev Kx:tG:=[(0,30),(0,1073741824),(1,288230376151711744),(0,3),(1,1),(0,288230376151711744),(0,288230376151711744),(-576460752303423488,576460752303423488),(0,288230376151711744),(0,288230376151711744),wZ,(0,288230376151711744)]
abbrev Ky:tM:=[(.cells 25 5 [[.i 3,.i 1,WY,(.own 22 1 2 0 1),(.own 22 1 3 0 1)]]),Wo,(.cells 22 1 [[(.own 3 1 4 0 1)]]),(.cells 22 1 [[(.own 3 1 5 0 1)]]),Wp,Wq]
abbrev Kz:tM:=[JN,Uw,QH,U4]
abbrev KA:tM:=[JN,Y3,(.cells 38 4 [[.o 3,VF,.emp,.emp]]),U1]
abbrev KB:tM:=[JN,Yq,(.cells 44 2 [V4,V5])]
abbrev KR:tA:=[(sN (.q 8 9) (.o 2)),.v 0,(.lit 2 [[.i 5,.v 6],[.i 7,.v 7],[.i 8,.v 8],[.i 0,W7],[.i 0,(.e [([7],-1)])],[.i 0,(.e [([8],-1)])]])]
abbrev Wg:AV:=(sN (.q 8 10) (.o 2))
abbrev KC:tH:=(92,KR,(.aZ [Wg,.i 0]))
abbrev KE:tG:=[(1,5),(0,4),(0,40),(-1125899906842624,1125899906842624),(-1125899906842624,1125899906842624),(-1125899906842624,1125899906842624),(-1125899906842624,1125899906842624),(0,20),(0,3)]
abbrev KG:tM:=[JN,Yq,(.cells 44 2 [V4])]
abbrev VK:AV:=(.agg [.v 5,.v 6,.v 7])
abbrev Q0:tH:=(215,[.q 3 0,.v 2],(.aZ [.q 3 1,VK,.i 0]))
abbrev Zx:tH:=(198,[.q 3 0],(.aZ [(.agg [.v 8,.v 9,.v 10]),.i 0]))
abbrev KH:tF:=[Q0,Zx,(148,[.v 2,.v 1,.i 1],(.aZ [.v 11,.o 3,.i 0]))]
abbrev KJ:tG:=[(1,5),(0,4),(0,40),(-1125899906842624,1125899906842624),(-1125899906842624,1125899906842624),(-1125899906842624,1125899906842624),(-1125899906842624,1125899906842624)]
abbrev KK:tG:=[(0,3),(0,4),(0,1),(0,288230376151711744),(0,288230376151711744),(0,288230376151711744),(0,288230376151711744),(0,288230376151711744),(0,288230376151711744),(1,20)]
abbrev KM:tM:=[JN,QH]
abbrev KN:tG:=[(0,30),(0,288230376151711744),(0,288230376151711744),(0,288230376151711744),(0,288230376151711744),(0,288230376151711744),wZ,(1,9223372036854775807)]
abbrev KO:AV:=(.aZ [(.agg [(.lit 3 [[(.e [([2],(-1)),([8],1)]),.i 0,(.e [([7],(-1)),([10],1)])]]),.o 0,.o 1,.o 2]),(.agg [.v 5,.v 9,.v 7]),WH,.i 0])
abbrev KP:tG:=[(0,30),(0,288230376151711744),(0,288230376151711744),(0,288230376151711744),(0,288230376151711744),(0,288230376151711744),wZ,(1,288230376151711744)]
abbrev KQ:tM:=[JN,Yq,(.cells 44 2 [])]
abbrev VX:AV:=(.cE 3 1 3 [([4],1)])
abbrev KT:Mc.bY:=(.cells 128 2 [[(.ptr 4 0 0 0),(.cE 3 1 1 [([4],1)])],[(.ptr 4 0 0 1),(.cE 3 1 2 [([4],1)])],[(.ptr 4 0 0 2),VX]])
abbrev KV:tM:=[(.cells 25 5 [[.i 3,.i 1,WY,(.own 22 1 2 0 0),(.own 22 1 3 0 0)]]),Wo,(.cells 22 1 []),(.cells 22 1 [])]
abbrev KW:tH:=(122,[(.agg [.q 3 7,.v 3,.v 4,.v 5])],(.aZ [(.agg [.q 3 8,.i 0,.i 0,.i 0]),(.agg [.o 3,.v 6,.o 4,.o 5,.v 7,.o 6,.o 7,.v 8,.o 8])]))
abbrev Q1:tH:=(215,[.q 3 0,.v 0],(.aZ [.q 3 1,(.agg [.o 0,.o 1,.o 2]),.o 3]))
abbrev Q2:tH:=(215,[.q 3 1,.v 1],(.aZ [.q 3 2,(.agg [.o 4,.o 5,.o 6]),.o 7]))
abbrev KX:tF:=[Q1,Q2]
abbrev KY:tD:=[(1,[([1],1)]),(0,[([2],1)]),(6,[([3],1)]),(7,[([4],1)]),(8,[([4],1)]),(9,[([4],1)]),(14,[([1],1)]),(20,[([1],1)]),(26,[([1],1)])]
abbrev Jy:tA:=[Ww,.v 0,(.lit 2 [[.i 0,.v 19],[.i 6,.v 20],[.i 12,(.e [([17],-1)])]])]
abbrev KZ:tH:=(92,Jy,Uk)
abbrev JG:tA:=[Ww,.v 0,(.lit 2 [[.i 0,.v 14],[.i 6,.v 15],[.i 1,W4]])]
abbrev K5:tH:=(92,JG,Uk)
abbrev UG:AV:=(.agg [.q 3 15,.o 5,.o 6,.o 7])
abbrev QK:tA:=[.v 4,.v 5,UG,(.agg [.o 8,.v 7,.o 9])]
abbrev UH:AV:=(.agg [.q 3 16,.o 5,.o 6,.o 7])
abbrev K6:tH:=(196,QK,(.aZ [UH,.v 8,.i 0]))
abbrev Wu:AV:=(sN (.q 8 0) (.o 2))
abbrev ZQ:tA:=[.o 9,.o 10,.o 11,.v 3,.v 4,.o 12,.o 13,.o 14,.o 15]
abbrev Ju:tA:=[Wu,(.agg ZQ),.o 3,.o 4,.o 5]
abbrev WP:AV:=(.c (.bool true))
abbrev K7:tF:=[(180,Ju,WP)]
abbrev K8:tG:=[(0,30),zK,(0,3),(0,30),(0,288230376151711744),(0,288230376151711744),(-576460752303423488,576460752303423488),(1,20)]
abbrev Ja:tD:=[(0,[([0],1)]),(7,[([2],2)]),(8,[([],17)]),(9,[([2],1)]),(10,[([2],1)]),(11,[([2],1)]),(13,[([2],1)]),(14,[([3],1)])]
abbrev Q3:tA:=[Wv,.v 0,.v 1,.v 2,(.agg [.v 4,.v 17,.v 18])]
abbrev Jb:tH:=(145,Q3,(.aZ [Ww,.v 19,.v 20,.i 0]))
abbrev Jd:tD:=[(1,[([1],1)]),(0,[([2],1)]),(6,[([3],1)]),(7,[([4],1)]),(8,[([4],1)]),(9,[([4],1)]),(14,[([1],1)]),(20,[([1],1)])]
abbrev Q9:tA:=[Wv,.v 0,.v 1,.v 2,(.agg [.v 4,.v 5,.i 0])]
abbrev Je:tH:=(145,Q9,(.aZ [Ww,.v 14,.v 15,.i 0]))
abbrev Jg:tM:=[(.sc 50 9 1 [] [] [([2],1)]),(.cells 31 10 [QY])]
abbrev QZ:tA:=[.o 0,.o 1,.q 1 2,.q 1 3,.q 1 4,.q 8 1,.q 8 5,.q 9 6,.q 6 7,.o 2]
abbrev Jh:tM:=[(.sc 50 9 0 [] [] [([2],1)]),(.cells 31 10 [QZ])]
abbrev Ji:tG:=[(0,30),zK,(0,3),(0,30),(0,288230376151711744),(0,288230376151711744),(-576460752303423488,576460752303423488)]
abbrev Jj:tA:=[(sN (.seq 8 0 [([([1],1)],[.o 3,.o 4,.q 4 7,.q 1 8,.q 11 9,.q 1 10,.q 1 13,.q 8 12])] []) (.o 2)),.v 1,.q 2 14]
abbrev Jl:tG:=[(0,1073741824),(0,1125899906842624),(0,1073741824),(0,1125899906842624),(0,1073741824),(0,1125899906842624)]
abbrev Jm:tA:=[Wu,.v 0,.v 2,(.agg [.o 16,.o 17,.o 18,.o 19,.o 20,.o 21,.o 22,.o 23,.o 24,.o 25,.o 26])]
abbrev Jn:tA:=[Wv,.v 0,(.lit 2 [[.i 1,.v 19],[.i 6,(.e [([5],1),([19],-1)])],[.i 2,W4]])]
abbrev Jo:tA:=[Wu,(.agg [.v 5,.v 6,.v 7,.o 5,.o 6,.o 7,.o 8,.v 8,WP]),.v 1,.v 2,.v 3]
abbrev We:AV:=(sN (.q 8 17) (.o 2))
abbrev Jq:tH:=(123,[Wu,.v 0,.v 2,.v 6,UH],We)
abbrev Jr:tA:=[Wy,.v 0,.v 1,(.agg [.i 0,.v 14,.i 0,.i 0,.i 0,.i 0,.i 0,.i 0,.i 0,.i 0,.i 0])]
abbrev Jt:tA:=[Wy,.v 0,.v 1,(.agg [.i 0,.i 0,.i 0,.v 19,.i 0,.i 0,.i 0,.i 0,.i 0,.i 0,.i 0])]
abbrev Jv:tA:=[Wg,.v 0,.v 1,(.agg [.i 0,.i 0,.i 0,.i 0,.i 0,.v 6,.i 0,.i 0,.v 7,.v 8,.i 0])]
abbrev Jw:tH:=(123,[Wu,.v 0,.v 1,.v 2,(.agg [.q 3 8,.i 0,.i 0,.i 0])],(sN (.q 8 9) (.o 2)))
abbrev Jx:tE:=[(0,[([1],1)],[.o 3,WH,.q 4 7,.q 1 8,.q 11 9,.q 1 10,.q 1 11,(.lit 8 [])])]
abbrev Qq:AV:=(.agg QV)
abbrev Jz:tA:=[Qq,.v 1,.v 3,.v 4]
abbrev JA:tG:=[(0,1073741824),(0,1125899906842624),(0,1073741824),(0,1125899906842624),(0,1073741824)]
abbrev JB:AV:=(.aZ [(.agg [.o 0,.o 1,.q 1 1,.q 1 2,.q 1 3,.q 8 11,.q 8 4,.q 9 12,.q 6 6,.o 2]),.i 0])
abbrev UK:AV:=(.agg [.q 3 1,.o 0,.o 1,.o 2])
abbrev VI:AV:=(.agg [.v 4,.v 5,.v 6])
abbrev JC:AV:=(.aZ [UK,VI,WH,.i 0])
abbrev UJ:AV:=(.agg [.q 3 0,.o 0,.o 1,.o 2])
abbrev VJ:AV:=(.agg [.i 0,.i 0,.i 0])
abbrev JD:AV:=(.aZ [UJ,VJ,WH,.v 7])
abbrev JE:AV:=(.aZ [UJ,VJ,WH,.i 1])
abbrev UL:AV:=(.agg [.q 3 0,.v 1,.v 2,.v 3])
abbrev JF:AV:=(.aZ [UL,VJ,WH,.i 5])
abbrev JH:tD:=[(0,[([0],1)]),(7,[([2],2)]),(8,[([],17)]),(9,[([2],1)]),(10,[([2],1)]),(11,[([2],1)])]
abbrev JI:tJ:=(0,[([],1)],[.v 1,WP,.q 4 13,.q 1 14,.q 11 15,.q 1 16,.q 1 17,.q 8 18])
abbrev JJ:tJ:=(0,[([],2)],[.v 2,WP,.q 4 19,.q 1 20,.q 11 21,.q 1 22,.q 1 23,.q 8 24])
abbrev JK:tD:=[(1,[([1],1)]),(0,[([2],1)]),(6,[([3],1)]),(7,[([4],1)]),(8,[([4],1)]),(9,[([4],1)])]
abbrev JL:tD:=[(1,[([1],1)]),(0,[([2],1)]),(6,[([3],1)]),(7,[([2],1)]),(8,[([2],1)]),(9,[([2],1)])]
abbrev JM:tF:=[(181,[.o 7,.q 1 8],(.aZ [.q 1 9,.i 0])),(181,[.o 8,.q 1 8],(.aZ [.q 1 10,.i 0]))]
abbrev Uv:tA:=[We,.v 0,.v 2]
abbrev JP:tH:=(88,Uv,(.aZ [(.agg [.o 10,.o 11,.o 12]),.i 0]))
abbrev JQ:tH:=(121,[We,.v 0,.v 2,.i 0],(.agg [.q 3 18,.o 13,.o 14,.o 15]))
abbrev JR:tH:=(121,[We,.v 0,.v 2,.i 1],(.agg [.q 3 19,.o 16,.o 17,.o 18]))
abbrev Zv:AV:=(.agg [.i 12,.o 3,.o 4,.o 5,.o 6,.o 7,.o 8,.i 0,.emp])
abbrev JS:tH:=(22,[Zv],WP)
abbrev Zw:AV:=(.agg [.i 13,.i 0,.i 0,.o 3,.i 0,.o 4,.i 0,.o 5,.emp])
abbrev JT:tH:=(22,[Zw],WP)
abbrev JU:tA:=[Qq,.v 1]
abbrev JV:tE:=[(9,[([2],1)],[.o 5,.o 6,.o 7,.o 8,.o 9,.o 10,.o 11,.o 12,.o 13,.o 14,.o 15])]
abbrev ZA:AV:=(.agg [.i 1,.o 3,.o 4,.o 5,.i 0,.o 6,.o 7,.i 0,.emp])
abbrev JW:tH:=(22,[ZA],WP)
abbrev JX:tA:=[.o 3,WH,.q 4 10,.q 1 11,.q 11 12,.q 1 13,.q 1 14,(.lit 8 [])]
abbrev YU:tA:=[Wu,.v 0,.v 1,.i 0]
abbrev Ut:AV:=(.agg [.q 3 7,.o 12,.o 13,.o 14])
abbrev JY:tH:=(112,YU,Ut)
abbrev YV:tA:=[Wu,.v 0,.v 1,.i 1]
abbrev Uu:AV:=(.agg [.q 3 8,.o 15,.o 16,.o 17])
abbrev JZ:tH:=(112,YV,Uu)
abbrev J0:tH:=(121,YU,Ut)
abbrev J1:tH:=(121,YV,Uu)
abbrev Zu:AV:=(.agg [.i 12,.v 0,.v 1,.v 2,.v 3,.v 4,.v 5,.i 0,.emp])
abbrev J2:tA:=[Wv,Zu]
abbrev J3:tA:=[Wv,(.agg [.i 13,.i 0,.i 0,.v 2,.i 0,.v 4,.i 0,.v 6,.emp])]
abbrev J4:tA:=[Wu,Zv]
abbrev J5:tA:=[Wu,Zw]
abbrev QD:tA:=[.o 3,.o 4,.q 1 9,.q 1 10,.q 1 11,.q 8 8,.q 8 12,.q 9 13,.q 6 14,.o 5]
abbrev J6:AV:=(.agg QD)
abbrev J7:tA:=[Wv,(.agg [.i 1,.v 0,.v 1,.v 2,.i 0,.v 4,.v 5,.i 0,.emp])]
abbrev J8:tA:=[Wv,(.agg [.i 2,.i 0,.i 0,.i 0,.i 0,.v 4,.v 5,.v 6,.emp])]
abbrev J9:tA:=[Wu,ZA]
abbrev YT:tA:=[Wu,.v 0,.v 2,.v 6]
abbrev Qa:tH:=(121,YT,UG)
abbrev Yr:Poly:=[([1],-1),([2],-1),([3],-1),([4],1),([7],-1)]
abbrev Qc:tC:=[(Yr,-18446744073709551616,-1)]
abbrev Yo:tA:=[.v 0,.v 1,.v 2,.v 14,.v 15,.v 16,.v 17,.v 18]
abbrev Qd:tH:=(223,[(.agg Yo),.v 4],(.v 19))
abbrev Qe:tG:=[(0,1073741824),(0,1125899906842624),wZ,(0,1125899906842624),wZ,wZ,wZ]
abbrev Y1:tA:=[Wu,.v 0,.v 1,.v 2]
abbrev Qf:tH:=(121,Y1,(.agg [.q 3 7,.v 3,.v 4,.v 5]))
abbrev QL:tA:=[.o 0,.o 1,.q 1 1,.q 1 2,.q 1 3,.q 8 10,.q 8 4,.q 9 11,.q 6 6,.o 2]
abbrev Qg:AV:=(.agg QL)
abbrev Qh:tJ:=(0,[([],2)],[.o 9,.o 10,.q 4 22,.q 1 23,.q 11 24,.q 1 25,.q 1 26,.q 8 27])
abbrev Qi:tLz:=[(1,[([5],1)],[([],3)],[([7],1)]),(1,[([],1),([5],1)],[([],3)],[([8],1)])]
abbrev Vg:tI:=([([6],-1),([10],1)],1,40)
abbrev Qj:tC:=[Vg,([([4],1),([14],-1)],-1152921504606846976,0)]
abbrev Qk:tE:=[(0,[([1],1)],[.v 4,.o 4,.q 4 7,.q 1 8,.q 11 9,.q 1 10,.q 1 11,.q 8 12])]
abbrev Zj:tA:=[.o 3,.o 4,.q 4 7,.q 1 8,.q 11 9,.q 1 10,.q 1 11,.q 8 12]
abbrev Qw:tJ:=(0,[([1],1)],Zj)
abbrev Ql:tE:=[Qw]
abbrev Qm:tJ:=(0,[([],1)],[.o 6,.o 7,.q 4 16,.q 1 17,.q 11 18,.q 1 19,.q 1 20,.q 8 21])
abbrev Qn:tJ:=(0,[([],1)],[.o 6,.o 7,.q 4 13,.q 1 14,.q 11 15,.q 1 16,.q 1 17,.q 8 18])
abbrev Vm:tI:=([([6],-1),([8],1)],1,40)
abbrev Qo:tC:=[Vm,([([4],1),([16],-1)],-1152921504606846976,0)]
abbrev Qp:tD:=[(5,[([0],1)]),(7,[([1],1)]),(10,[([0],1)]),(8,[([1],1)]),(9,[([1],1)])]
abbrev Qr:AV:=(.agg [.o 0,.o 1,.q 1 1,.q 1 2,.q 1 3,.q 8 9,.q 8 4,.q 9 8,.q 6 6,.o 2])
abbrev Qu:AV:=(.agg QZ)
abbrev Qv:tC:=[(Yr,0,1152921504606846976)]
abbrev Qx:tD:=[(1,[([0],1)]),(0,[([1],1)]),(7,[([0],1)]),(8,[([2],1)]),(9,[([3],1)])]
abbrev Qy:tD:=[(1,[([0],1)]),(0,[([1],1)]),(7,[([0],1)]),(8,[([2],1)]),(9,[([],17)])]
abbrev Qz:tA:=[.v 0,WP,.q 4 7,.q 1 8,.q 11 9,.q 1 10,.q 1 11,.q 8 12]
abbrev Ue:tH:=(45,[.q 2 1],(.aZ [.q 2 2,.i 0]))
abbrev QE:tF:=[Ue,(200,[.q 2 2],WP)]
abbrev QG:tA:=[.o 3,.o 4,.q 1 8,.q 1 9,.q 1 10,.q 8 7,.q 8 11,.q 9 12,.q 6 13,.o 5]
abbrev QI:tE:=[(5,[([1],1)],ZQ)]
abbrev Wd:AV:=(.e [([],1),([1],1)])
abbrev QJ:tF:=[(14,[.o 4,.i 300],(.v 6)),(14,[.o 2,Wd],(.v 9))]
abbrev VH:AV:=(.agg [.o 3,.o 4,.o 6])
abbrev QM:tA:=[.i 1,.o 5,UJ,VH]
abbrev QN:tA:=[.i 2,.o 5,UJ,VH]
abbrev QO:tA:=[.i 3,.o 5,UJ,VH]
abbrev QP:tA:=[.i 4,.v 3,UJ,(.agg [.v 1,.v 2,.o 3])]
abbrev QQ:tF:=[(215,[.q 3 0,.v 1],(.aZ [.q 3 1,VI,.i 0]))]
abbrev QR:tF:=[(215,[.q 3 0,.v 1],(.aZ [.q 3 1,VI,.v 7]))]
abbrev QS:tF:=[Q1]
abbrev VL:AV:=(.agg [.o 3,.o 4,.o 5])
abbrev QT:tH:=(146,[Ut],VL)
abbrev VO:AV:=(.agg [.o 6,.o 7,.o 8])
abbrev QU:tH:=(146,[Uu],VO)
abbrev Wb:AV:=(.e [([3],1),([6],1)])
abbrev QW:tA:=[.i 12,.v 7,.i 0,.i 0,.v 8,.v 1,Wb,.i 0,.emp]
abbrev QX:tA:=[.i 12,.v 7,.i 0,.i 0,.i 0,.v 1,Wb,.i 0,.emp]
abbrev Q4:tE:=[(4,[([6],1)],Yo)]
abbrev Ud:tA:=[(.seq 3 0 [] [[.v 1,.v 2,.o 0]])]
abbrev Q5:tF:=[(199,Ud,WH)]
abbrev UB:tA:=[.q 3 0,VH]
abbrev Ws:AV:=(.aZ [.q 3 1,.i 0])
abbrev Q6:tF:=[(226,UB,Ws)]
abbrev Q7:tF:=[(226,UB,(.aZ [.q 3 1,.v 2]))]
abbrev Q8:tA:=[Wu,.v 0,.v 2,.v 6,(.agg [.o 8,.v 7,.o 9])]
abbrev Za:tG:=[(0,4),(0,3),(0,4),(-2,3),(0,100),(0,3),(0,4),(-2,3),(0,100)]
abbrev Zb:tA:=[Wu,.o 3,.o 4,.o 5,VO]
abbrev Zc:tF:=[(72,[(.lit 1 [[.o 5],[.o 8],[.o 11]])],(.aZ [.o 12,.i 0]))]
abbrev Zd:tI:=([([7],-1),([10],1)],-288230376151711744,288230376151711744)
abbrev Ze:tA:=[.o 3,.o 4,.q 4 10,.q 1 11,.q 11 12,.q 1 13,.q 1 14,.q 8 15]
abbrev Zf:tG:=[(0,9223372036854775807),(1,50),(0,20),(0,10000),(0,10000)]
abbrev Zg:tG:=[(0,30),(1,9223372036854775807),(-9223372036854775808,-1)]
abbrev Zh:tH:=(199,Ud,WP)
abbrev U2:Mc.bY:=(.sc 3 1 0 [] [] [([],17)])
abbrev Zi:tM:=[U2,(.sc 3 1 2 [] [] [([],17)])]
abbrev Zk:tD:=[(0,[([0],1)]),(1,[([2],1)]),(2,[([0],1)]),(9,[([2],1)])]
abbrev Zl:tD:=[(1,[([0],1)]),(0,[([1],1)]),(6,[([2],1)]),(7,[([7],1)])]
abbrev Zm:tD:=[(1,[([0],1)]),(0,[([1],1)]),(7,[([0],1)]),(8,[([2],1)])]
abbrev Zn:tG:=[(0,29),(1,9223372036854775807),(0,9223372036854775807)]
abbrev Zo:tG:=[(0,30),(1,9223372036854775807),(0,9223372036854775807)]
abbrev Zp:tD:=[(18,[([9],1)]),(19,[([10],1)]),(20,[([9],1),([10],1)])]
abbrev Zq:tA:=[Zu]
abbrev Zr:tA:=[(.agg [.o 0,.o 1,.o 2,.o 3,.o 4,.v 0,.v 2,.o 5]),.v 1]
abbrev Zs:tG:=[(0,3),(0,4),(0,1),(0,3),(1,1073741824),(0,1073741824)]
abbrev ZG:tH:=(198,[.q 3 0],(.aZ [VI,.i 0]))
abbrev Zt:tF:=[ZG]
abbrev Vl:AV:=(.agg [.o 9,.o 10,.o 11])
abbrev Zy:AV:=(.aZ [Vl,WH])
abbrev Zz:tA:=[.v 4,.v 5,UG,.v 7,.v 8]
abbrev ZC:tF:=[(36,[Wu,.v 3],(.aZ [.v 4,.i 0]))]
abbrev ZD:tF:=[(14,[.o 0,.i 50],(.v 1)),(14,[.o 1,.i 5000],(.v 2))]
abbrev ZE:tA:=[.i 1,.o 3,UJ,.v 2,.v 1]
abbrev ZF:tA:=[.i 2,.o 3,UJ,.v 2,.v 1]
abbrev ZH:tA:=[.i 3,.o 0,UL,.i 0,.v 7]
abbrev ZI:tA:=[.i 3,.o 0,UL,.i 1,.v 7]
abbrev ZJ:tA:=[.i 3,.o 0,UL,.i 2,.v 7]
abbrev ZK:tA:=[.i 3,.o 0,UL,.i 3,.v 7]
abbrev ZL:tA:=[.i 4,.v 1,UJ,.v 3,.v 2]
abbrev YS:AV:=(.aZ [VL,.i 0])
abbrev ZM:tH:=(169,[.q 3 7],YS)
abbrev ZN:tH:=(169,[.q 3 8],(.aZ [VO,.i 0]))
abbrev ZO:tG:=[(0,1073741824),(0,1073741824),(0,1125899906842624)]
abbrev ZP:tG:=[(0,40),(0,39),(0,40),(0,1073741824),(0,1073741824)]
abbrev Vf:tA:=[(.lit 1 [[.o 5],[.o 8]])]
abbrev WJ:AV:=(.aZ [.o 9,.i 0])
abbrev ZR:tF:=[(72,Vf,WJ)]
abbrev Ve:tA:=[(.lit 1 [[.o 4],[.o 7]])]
abbrev ZS:tH:=(72,Ve,(.aZ [.o 10,.i 0]))
abbrev ZT:tH:=(72,Vf,(.aZ [.o 11,.i 0]))
abbrev ZU:tH:=(72,Ve,(.aZ [.o 10,.i 2]))
abbrev ZV:tH:=(72,Vf,(.aZ [.o 11,.i 2]))
abbrev ZW:tH:=(81,Ve,(.aZ [.o 10,.i 0]))
abbrev ZX:tH:=(81,Vf,(.aZ [.o 11,.i 0]))
abbrev ZY:tH:=(81,Vf,(.aZ [.o 11,.i 2]))
abbrev ZZ:tH:=(81,Ve,(.aZ [.o 10,.i 2]))
abbrev Z0:tC:=[([([3],1),([4],1),([5],1)],1,1152921504606846976)]
abbrev WI:Poly:=[([0],1),([1],-1)]
abbrev Vx:tI:=(WI,1,4)
abbrev Z1:tC:=[Vx,([([2],1),([4],-1)],1,5)]
abbrev Z2:tC:=[Vx,([([2],1),([3],-1)],1,5)]
abbrev Vd:tA:=[(.lit 1 [[.o 3],[.o 6]])]
abbrev Z3:tH:=(72,Vd,WJ)
abbrev Z4:tH:=(72,Vd,(.aZ [.o 9,.i 2]))
abbrev Z5:tH:=(81,Vd,WJ)
abbrev Z6:tH:=(81,Vd,(.aZ [.o 9,.i 2]))
abbrev Z7:tE:=[(6,[([6],1)],[.v 3,.v 0,.v 1,.v 14,.v 15,.v 16])]
abbrev V9:tA:=[Wu]
abbrev WB:AV:=(.aZ [.q 2 8,.i 0])
abbrev Z8:tF:=[(35,V9,WB)]
abbrev Z9:tA:=[.o 6,.o 7,.o 8,.o 9,.o 10,.o 11,.o 12,.o 13,.emp]
abbrev Ya:AV:=(.aZ [UK,.i 0,.i 0])
abbrev Yb:AV:=(.aZ [UJ,.i 0,.v 2])
abbrev Yc:AV:=(.aZ [UJ,.i 0,.i 1])
abbrev Yd:AV:=(.aZ [UJ,.i 0,.i 2])
abbrev Ye:tE:=[(1,[([1],1)],[.v 2,.o 0]),(2,[([2],1)],[.o 1])]
abbrev WQ:Poly:=[([2],2),([6],1)]
abbrev Yf:tE:=[(7,WQ,[.q 3 15,.o 5,.o 6,.o 7])]
abbrev Yg:tA:=[Wu,.v 0,.v 2,.v 6,.v 7,.v 8]
abbrev Yi:tG:=[(1,288230376151711744),(1,288230376151711744)]
abbrev Yj:tE:=[(6,[([5],1)],[.o 3,.o 4,.v 6,.o 5,.o 6,.o 7])]
abbrev Yk:tA:=[.i 13,.i 0,.i 0,.i 0,.i 0,.v 9,.i 0,.v 5,.emp]
abbrev Yl:tH:=(148,[.v 1,.v 3,.i 1],(.aZ [.v 4,.o 4,.i 0]))
abbrev Ym:tF:=[(89,[Wv,.v 0,.v 1],(.i 7))]
abbrev Yn:tF:=[Yy]
abbrev Yp:tG:=[(0,4),(1,5),(0,4),(0,40),(0,44),(0,39),(0,4)]
abbrev Ys:tD:=[(8,[([],17)]),(10,[([3],1)]),(11,[([3],1)])]
abbrev Yt:AV:=(.aZ [Wv,.i 0,.i 0,.v 13])
abbrev Yu:tE:=[(2,[([1],1)],[.q 1 9]),(9,[([3],1)],[.i 3])]
abbrev Yv:tE:=[(2,[([1],1)],[.q 1 9]),(9,[([3],1)],[.v 4])]
abbrev Yw:tG:=[(1,5),(1,4),(0,12),(0,16),wZ,(0,11),(0,16)]
abbrev Yx:AV:=(.aZ [Wu,.i 0,.i 0,.i 2])
abbrev WO:Poly:=[([0],1),([5],-1)]
abbrev YA:tC:=[(WO,1,9223372036854775807)]
abbrev YB:tD:=[(0,[([],17)]),(2,[([],17)]),(1,[([0],1)])]
abbrev YC:tD:=[(5,[([0],1)]),(7,[([2],1)]),(8,[([2],1)])]
abbrev YD:tD:=[(5,[([0],1)]),(7,[([1],1)]),(8,[([1],1)])]
abbrev YE:tD:=[(1,[([1],1)]),(0,[([2],1)]),(6,[([3],1)])]
abbrev YF:tD:=[(0,[([0],1)]),(1,[([0],1)]),(2,[([0],1)])]
abbrev YG:tD:=[(1,[([0],1)]),(0,[([1],1)]),(6,[([2],1)])]
abbrev YH:tI:=([([2],-1),([8],1)],0,288230376151711744)
abbrev YI:tG:=[(0,1073741824),(0,1125899906842624),wZ]
abbrev YJ:tG:=[(0,9223372036854775807),(0,49),(0,4999)]
abbrev YL:AV:=(.aZ [Vl,.i 2])
abbrev YM:tH:=(83,[.o 10,.o 21],(.aZ [.o 32,.i 0]))
abbrev YN:tH:=(83,[.o 11,.o 22],(.aZ [.o 33,.i 0]))
abbrev YO:tH:=(83,[.o 12,.o 23],(.aZ [.o 34,.i 0]))
abbrev YP:tH:=(83,[.o 13,.o 24],(.aZ [.o 35,.i 0]))
abbrev YQ:tH:=(83,[.o 14,.o 25],(.aZ [.o 36,.i 0]))
abbrev YR:tG:=[(0,30),(-9223372036854775808,0),zK]
abbrev YW:tH:=(83,[.o 5,.o 16],(.aZ [.o 27,.i 0]))
abbrev YX:tH:=(83,[.o 6,.o 17],(.aZ [.o 28,.i 0]))
abbrev YY:tH:=(83,[.o 7,.o 18],(.aZ [.o 29,.i 0]))
abbrev YZ:tH:=(83,[.o 8,.o 19],(.aZ [.o 30,.i 0]))
abbrev Y0:tH:=(83,[.o 9,.o 20],(.aZ [.o 31,.i 0]))
abbrev Y4:tC:=[([([2],-2),([3],2),([6],-1)],1,10)]
abbrev Y5:tH:=(45,[.q 2 15],(.aZ [.q 2 16,.i 0]))
abbrev Y6:tF:=[(33,V9,(.i 0))]
abbrev Y7:tA:=[Wu,.v 0,.q 2 15]
abbrev Y8:AV:=(.aZ [Wv,.v 13])
abbrev Y9:AV:=(.aZ [Ww,.v 13])
abbrev Ua:AV:=(.aZ [Wy,.v 13])
abbrev Ub:AV:=(.aZ [(sN (.q 8 15) (.o 2)),.i 0])
abbrev Uc:tC:=[([([0],1)],7,9223372036854775807)]
abbrev Uf:AV:=(.aZ [Wu,.v 6])
abbrev Ug:AV:=(.agg [.q 3 16,.o 11,.o 12,.o 13])
abbrev Uh:AV:=(.aZ [Wu,.i 2])
abbrev Ui:AV:=(.aZ [Wv,.i 7])
abbrev Uj:AV:=(.aZ [Wv,.i 6])
abbrev Um:AV:=(.aZ [Wv,.i 4])
abbrev Un:AV:=(.aZ [Wv,.i 5])
abbrev Uo:AV:=(.aZ [Wv,.i 2])
abbrev U3:tA:=[Wu,.v 0]
abbrev Up:AV:=(.aZ U3)
abbrev Uq:AV:=(.aZ [Wu,.i 0])
abbrev Ur:AV:=(.aZ [Wu,.v 9])
abbrev Us:tG:=[(0,30),(-9223372036854775808,0)]
abbrev Ux:tG:=[(0,4),(1,5),(2,2),(0,40),(0,44)]
abbrev Uy:tG:=[(0,4),(1,5),(3,3),(0,40),(0,44)]
abbrev UA:tA:=[.q 3 0,(.agg [.v 1,.v 2,.o 0])]
abbrev UC:tA:=[Wu,.v 0,.v 1]
abbrev UD:tH:=(149,[.v 15,.v 4,.v 14],(.v 17))
abbrev UE:tH:=(149,[.v 16,.v 4,.v 14],(.v 18))
abbrev WZ:Poly:=[([],2),([2],1)]
abbrev UF:AV:=(.cE 50 9 10 WZ)
abbrev UI:tG:=[(1,5),(1,4),(0,12),(0,16),wZ]
abbrev UM:AV:=(.agg [.q 3 1,.i 0,.i 0,.i 0])
abbrev UN:AV:=(.agg [.q 3 2,.i 0,.i 0,.i 0])
abbrev UO:AV:=(.cE 3 1 3 WV)
abbrev UP:AV:=(.cE 3 1 4 WV)
abbrev UR:tD:=[(0,[([0],1)]),(1,[([1],1)])]
abbrev US:tD:=[(0,[([0],1)]),(1,[([3],1)])]
abbrev UT:tD:=[(0,[([0],1)]),(1,[([4],1)])]
abbrev UU:tD:=[(0,[([],17)]),(2,[([0],1)])]
abbrev UW:tD:=[(0,[([0],1)]),(1,[([2],1)])]
abbrev UX:tM:=[Vb]
abbrev UY:Poly:=[([5],1),([14],-1),([15],1)]
abbrev U0:tG:=[(1,12),(1,12),(1,12),(3,3)]
abbrev U5:tA:=[Wu,.v 1]
abbrev Vh:tC:=[Vx]
abbrev Vi:tG:=[(0,4),(1,5),(0,4),(0,40)]
abbrev WM:Poly:=[([0],-1),([1],1)]
abbrev VD:tI:=(WM,1,5)
abbrev Vj:tC:=[VD]
abbrev Vk:tC:=[([([1],1),([8],-1)],1,4)]
abbrev Vn:tI:=(WI,1,40)
abbrev Vp:tI:=([([1],1),([2],-1)],0,40)
abbrev Vq:AV:=(.cE 137 9 4 [([0],1)])
abbrev Vr:tG:=[(0,4),(0,3),(1,5),(0,4)]
abbrev Vs:tI:=([([3],1),([5],-1)],1,40)
abbrev Vt:tI:=([([2],1),([5],-1)],1,12)
abbrev Vu:tG:=[(0,9223372036854775807)]
abbrev Vv:AV:=(.cE 50 9 10 [([2],1)])
abbrev Vw:AV:=(.agg [.o 8,.o 9,.o 10])
abbrev Vy:tI:=([([1],-1),([5],1)],0,0)
abbrev Vz:tI:=([([2],-1),([6],1)],0,0)
abbrev VA:tI:=([([3],-1),([7],1)],0,0)
abbrev VB:tG:=[(1,288230376151711744)]
abbrev VC:AV:=(.cE 44 2 9 [([3],1)])
abbrev VE:tI:=(WM,0,0)
abbrev VG:AV:=(.cE 50 9 0 [([2],1)])
abbrev VM:AV:=(.cE 3 1 0 [([],17)])
abbrev VN:AV:=(.cE 3 1 1 [([],17)])
abbrev VQ:AV:=(.cE 3 1 3 [([2],1)])
abbrev VR:AV:=(.cE 3 1 4 [([2],1)])
abbrev VS:AV:=(.cE 3 1 3 [([1],1)])
abbrev VT:AV:=(.cE 3 1 4 [([1],1)])
abbrev VY:AV:=(.cE 3 1 4 [([4],1)])
abbrev VZ:AV:=(.cE 3 1 5 [([4],1)])
abbrev V2:AV:=(.cE 3 1 5 [([2],1)])
abbrev V3:AV:=(.cE 3 1 0 [([0],1)])
abbrev V6:AV:=(.cE 3 1 2 [([7],1)])
abbrev V7:tA:=[.o 0,.o 1,.q 1 0,.o 2]
abbrev V8:tG:=[(0,30),(0,30),(1,20)]
abbrev Wa:tE:=[(0,[([5],1)],[.o 4])]
abbrev Wc:AV:=(.e [([4],1),([6],1)])
abbrev Wf:AV:=(.e [([],1),([0],1)])
abbrev Wh:AV:=(sN (.q 8 11) (.o 2))
abbrev WW:Poly:=[([],1),([4],1)]
abbrev Wi:AV:=(.e WW)
abbrev Wk:AV:=(.e [([],1),([5],1)])
abbrev Wl:tJ:=(14,[([0],1)],[.o 5])
abbrev Wm:tJ:=(20,[([0],1)],[.o 8])
abbrev Wn:tG:=[(1,12),(1,12),(2,2)]
abbrev Wr:AV:=(.aZ [.q 3 0,.i 1])
abbrev WA:tG:=[(1,20),(0,1000000)]
abbrev WC:tG:=[(1,5),(1,4),(0,12)]
abbrev WR:tI:=([([10],1)],0,39)
abbrev WD:tC:=[WR]
abbrev WE:tG:=[(0,4),(0,3),(1,5)]
abbrev WK:tC:=[([([8],1)],0,39)]
abbrev WN:AV:=(.own 50 9 10 0 1)
abbrev WS:AV:=(.own 44 2 2 0 0)
abbrev WU:AV:=(.own 44 2 2 0 4)
abbrev WX:Poly:=[([],1),([3],1)]
abbrev W2:tD:=[(0,[([0],1)])]
abbrev W3:tA:=[.q 1 0,.q 2 1]
abbrev W5:Mc.bY:=(.cells 3 1 [])
abbrev W6:tG:=[(0,40),(0,40)]
abbrev W8:tD:=[(0,[([2],1)])]
abbrev W9:tD:=[(0,[([3],1)])]
abbrev Ha:tG:=[(0,3),(0,4)]
end
namespace Mc
section
variable {b1:Bk} {e1:@Ev b1} {b2:Bk} {e2:@Ev b2} {ids:oU}
theorem Slot.abK {T sz id id':Nat} {n:Poly} {k:Nat} (h:ids[id']?=some (some id)) (hn:k=(bJ (@Ev.dL b1 e1) n).toNat):Slot b1 e1 b2 e2 ids (.cE T sz id n) (.own T sz id' 0 k):=by
 intro m A w v hr;have hm:=qU (m:=m) h
 cases hr with
 |pure _ _ h=>cases h
 |cE _ _ _ _ b len cap hm' hb hl hn' hc hr =>
  have:k=len:=by rw[hn,hl];rfl
  subst this;have:=@Rd.own b2 e2 _ A w T sz id' 0 k b cap (hm.trans hm') hb hn' hc (by rw[Nat.zero_add];exact hr)
  rwa[Nat.zero_mul]at this
 |sG _ _ _ _ a hm' h0 =>
  have:k=0:=by rw[hn,h0];rfl
  subst this;exact @Rd.sA b2 e2 _ A w T sz id' 0 a (hm.trans hm')
 |sJ _ _ _ _ a n0 cap hm'=>exact @Rd.uD b2 e2 _ A w T sz id' 0 k a n0 cap (hm.trans hm')
theorem Rd.fn0 [Bk] [Ev] {m:Nat→St} {A:Nat→Prop} {w:World} {q:FuncId} {v:Value} (hr:Rd m A w (.fn (.func q) [] []) v):v=.func (.func q) #[] #[]:=by
 cases hr with
 |pure _ _ h=>cases h with|fn _ _ _ vs us hl hk=>rw[Array.eq_empty_of_size_eq_zero hl,Array.eq_empty_of_size_eq_zero hk]
 |fn _ _ _ vs us hl hk=>rw[Array.eq_empty_of_size_eq_zero hl,Array.eq_empty_of_size_eq_zero hk]
theorem dG.fn0 [Bk] [Ev] {A:Nat→Prop} {w:World} {q:FuncId}:dG A w (.fn (.func q) [] []) (.func (.func q) #[] #[]):=.fn _ [] [] #[] #[] rfl rfl (by intro i x h;simp at h) (by intro i x h;simp at h)
theorem Slot.fnC {q:FuncId}:Slot b1 e1 b2 e2 ids (.fn (.func q) [] []) (.c (.func (.func q) #[] #[])):=by
 intro m A w v hr;obtain rfl:=@Rd.fn0 b1 e1 _ _ _ _ _ hr
 exact .pure _ _ (.c _)
theorem Slot.cFn {q:FuncId}:Slot b1 e1 b2 e2 ids (.c (.func (.func q) #[] #[])) (.fn (.func q) [] []):=by
 intro m A w v hr;cases hr with|pure _ _ h=>cases h;exact .pure _ _ dG.fn0
theorem Slot.fnF {q:FuncId}:Slot b1 e1 b2 e2 ids (.fn (.func q) [] []) (.fn (.func q) [] []):=by
 intro m A w v hr;obtain rfl:=@Rd.fn0 b1 e1 _ _ _ _ _ hr
 exact .pure _ _ dG.fn0
theorem Slot.afL {k:Nat}:Slot b1 e1 b2 e2 ids .emp (.lit k []):=by
 intro m A w v hr;cases hr with
 |pure _ _ hr=>cases hr with|emp a=>exact .pure _ _ (.nG k a 0 (Nat.zero_le _))
theorem Slot.afK {T sz id':Nat} (h:ids[id']?=some none):Slot b1 e1 b2 e2 ids .emp (.own T sz id' 0 0):=by
 intro m A w v hr;have hm:=Oc (m:=m) h
 cases hr with
 |pure _ _ hr=>cases hr with|emp a=>exact @Rd.sA b2 e2 _ A w T sz id' 0 a hm
end
def jP [Bk] [Ev] (x:AV):AV:=match x with
 | .cE T sz id n=>.own T sz id 0 (PS Ev.dL n).toNat
 | .own T sz id i n=>.own T sz id i n
 | .ptr sz id i off=>.ptr sz id i off
 | .fn (.func q) [] []=>.c (.func (.func q) #[] #[])
 | .nV=>.nV
 |x=>den 12 x
def uH [Bk] [Ev] (B:bY):bY:=match B with
 | .cells T sz aN=>.cells T sz (aN.map (·.map jP))
 | .sc T sz base bG tail _=>.cells T sz (abi ((bG.map fun q=>(q.1,q.2.map jP)).foldl (fun l q=>l.set (PS Ev.dL q.1).toNat q.2) (Ev.seq base)) (tail.map (·.map jP)))
 |B=>B
def sO (n:Nat) (x:AV):Bool:=match x with
 | .ptr _ id _ _=>decide (id<n)
 | .cE _ _ id _=>decide (id<n)
 | .own _ _ id _ _=>decide (id<n)
 | .fn (.func _) [] []=>true
 | .nV=>true
 |x=>CQ 12 x
def sI (b:Bk) (n:Nat) (x:AV):Bool:=match x with
 | .ptr _ id _ _=>decide (id<n)
 | .cE _ _ id p=>decide (id<n)&&b.lens.any fun t=>t.2==p
 | .own _ _ id _ _=>decide (id<n)
 | .fn (.func _) [] []=>true
 | .nV=>true
 |x=>CQ 12 x&&lA 12 x
def bO (n:Nat) (B:bY):Bool:=match B with
 | .cells _ _ aN=>aN.all (·.all (sO n))
 | .sc _ _ _ bG tail _=>bG.all (fun q=>q.2.all (sO n))&&tail.all (·.all (sO n))
 |_=>false
def bI (b:Bk) (n:Nat) (B:bY):Bool:=match B with
 | .cells _ _ aN=>aN.all (·.all (sI b n))
 | .sc _ _ base bG tail p=>(bG.all fun q=>q.2.all (sI b n)&&b.kT.any fun t=>t.1==base&&t.2.1==q.1)&&tail.isEmpty&&b.lens.any fun t=>t.1==base&&t.2==p
 |_=>false
theorem BP [Bk] [Ev] (x:AV):(jP x).one=x.one:=by
 cases x with
 |fn f a b=>cases f<;>cases a<;>cases b<;>first|rfl|exact nJ 12 _
 |_=>first|rfl|exact nJ 12 _
theorem Mt [Bk] [Ev] {x:AV} (h:Cl x):jP x=x:=by
 cases x<;>first|rfl|exact h.den 12|(cases h;done)
theorem HI [Bk] [Ev] (base:Nat) (bG:List (Poly×List AV)) (tail:List (List AV)):abi ((bG.map fun q=>(q.1,q.2.map jP)).foldl (fun l q=>l.set (PS Ev.dL q.1).toNat q.2) (Ev.seq base)) (tail.map (·.map jP))=(rowsOf base bG tail).map (·.map jP):=by
 have hb:(Ev.seq base).map (·.map jP)=Ev.seq base:=by
  conv=>rhs;rw[←List.map_id (Ev.seq base)]
  refine List.map_congr_left fun e he=>?_
  show e.map jP=id e
  conv=>rhs;rw[id,←List.map_id e]
  exact List.map_congr_left fun x hx=>Mt (Ev.uA base e he x hx)
 have hf:∀(bG:List (Poly×List AV)) (l:List (List AV)),(bG.map fun q=>(q.1,q.2.map jP)).foldl (fun l q=>l.set (PS Ev.dL q.1).toNat q.2) (l.map (·.map jP))=(bG.foldl (fun l q=>l.set (bJ Ev.dL q.1).toNat q.2) l).map (·.map jP):=by
  intro bG;induction bG with
  |nil=>intro l;rfl
  |cons q bG ih =>
   intro l;simp only[List.map_cons,List.foldl_cons];rw[←ih,List.map_set,uG]
 rw[ML];unfold rowsOf;rw[List.map_append,←hf,hb]
section
variable {b:Bk} {ev:@Ev b} {n:Nat}
theorem Tw {x:AV} (h:sO n x=true):Slot b ev dI dN (OA n) x (@jP b ev x):=by
 have data:CQ 12 x=true→Slot b ev dI dN (OA n) x (@den b ev 12 x):=fun h=>by
  have hc:=@Ms b ev 12 x h
  exact Slot.data rfl (hc.den 12) hc (rD 12 _ hc)
 cases x with
 |ptr sz id i off=>exact Slot.ptr (yX (of_decide_eq_true h))
 |own T sz id i k=>exact Slot.own (yX (of_decide_eq_true h))
 |cE T sz id p=>exact Slot.abK (yX (of_decide_eq_true h)) (by rw[uG])
 |nV=>exact Slot.nV
 |fn f a b=>cases f<;>cases a<;>cases b<;>first|exact Slot.fnC|exact data h
 |_=>exact data h
theorem abY {x:AV} (h:sI b n x=true):Slot dI dN b ev (OA n) (@jP b ev x) x:=by
 have data:(CQ 12 x&&lA 12 x)=true→Slot dI dN b ev (OA n) (@den b ev 12 x) x:=fun h=>by
  rw[Bool.and_eq_true]at h;have hc:=@Ms b ev 12 x h.1
  exact Slot.data (hc.den 12) rfl hc h.2
 cases x with
 |ptr sz id i off=>exact Slot.ptr (yX (of_decide_eq_true h))
 |own T sz id i k=>exact Slot.own (yX (of_decide_eq_true h))
 |cE T sz id p =>
  simp only[sI,Bool.and_eq_true]at h;obtain⟨t,ht,hp⟩:=List.any_eq_true.1 h.2;have hp:t.2=p:=eq_of_beq hp
  have:=@Ev.ahJ b ev t ht
  rw[hp]at this;refine Slot.acP (yX (of_decide_eq_true h.1)) ?_
  rw[uG];show((bJ (@Ev.dL b ev) p).toNat:Int)=bJ (@Ev.dL b ev) p
  have:bJ (@Ev.dL b ev) p=(((@Ev.A4 b ev).getD t.1 []).length:Int):=this.symm
  omega
 |nV=>exact Slot.nV
 |fn f a b=>cases f<;>cases a<;>cases b<;>first|exact Slot.cFn|exact data h
 |_=>exact data h
theorem abW:∀{l:List AV},l.all (sO n)=true→yD b ev dI dN (OA n) l (l.map (@jP b ev))
 |[],_=>.nil
 |x::l,h=>by
  rw[List.all_cons,Bool.and_eq_true]at h;exact .cons (Tw h.1) (abW h.2)
theorem abX:∀{l:List AV},l.all (sI b n)=true→yD dI dN b ev (OA n) (l.map (@jP b ev)) l
 |[],_=>.nil
 |x::l,h=>by
  rw[List.all_cons,Bool.and_eq_true]at h;exact .cons (abY h.1) (abX h.2)
theorem Pm [Bk] [Ev] {aN:List (List AV)} {i j:Nat} {y:AV} (h:fW (aN.map (·.map jP)) i j=some y):∃x,fW aN i j=some x∧y=jP x:=by
 rw[pT]at h;obtain⟨x,hx,rfl⟩:=Option.map_eq_some_iff.1 h;exact⟨x,hx,rfl⟩
theorem ajV {h1:AH} {i:Nat} {B:bY} (hi:h1 i=B) (h:bO n B=true):Hr b ev dI dN (OA n) h1 (some i) (@uH b ev B):=by
 cases B with
 |cells T sz aN =>
  refine⟨trivial,T,sz,aN,aN.map (·.map (@jP b ev)),by rw[hi];rfl,rfl,by simp,?_,?_⟩
  ·intro i j y hy
   obtain⟨x,hx,rfl⟩:=@Pm b ev _ _ _ _ hy
   obtain⟨r,hr,hxr⟩:=oG hx;exact⟨x,hx,(@BP b ev x).symm,Tw (List.all_eq_true.1 (List.all_eq_true.1 h r hr) x hxr)⟩
  ·intro h e he
   obtain⟨r,hr,rfl⟩:=List.mem_map.1 he;rw[List.length_map];exact h r hr
 |sc T sz base bG tail p =>
  have hr:=@HI b ev base bG tail
  refine⟨trivial,T,sz,@rowsOf b ev base bG tail,(@rowsOf b ev base bG tail).map (·.map (@jP b ev)),by rw[hi];rfl,by simp only[uH];rw[hr];rfl,by simp,?_,?_⟩
  ·intro i j y hy
   obtain⟨x,hx,rfl⟩:=@Pm b ev _ _ _ _ hy
   refine⟨x,hx,(@BP b ev x).symm,?_⟩
   obtain⟨r,h2,h3⟩:=oG hx;simp only[bO,Bool.and_eq_true]at h;rcases @Ak b ev _ _ _ _ h2 with h2|⟨q,hq,rfl⟩|h2
   ·have hc:=@Ev.uA b ev base r h2 _ h3
    rw[@Mt b ev x hc];exact Slot.data (hc.den 12) (hc.den 12) hc (rD 12 _ hc)
   ·exact Tw (List.all_eq_true.1 (List.all_eq_true.1 h.1 q hq) x h3)
   ·exact Tw (List.all_eq_true.1 (List.all_eq_true.1 h.2 r h2) x h3)
  ·intro h e he
   obtain⟨r,hr,rfl⟩:=List.mem_map.1 he;rw[List.length_map];exact h r hr
 |_=>cases h
theorem ajW {h1:AH} {i:Nat} {B:bY} (hi:h1 i=@uH b ev B) (h:bI b n B=true):Hr dI dN b ev (OA n) h1 (some i) B:=by
 cases B with
 |cells T sz aN =>
  refine⟨trivial,T,sz,aN.map (·.map (@jP b ev)),aN,by rw[hi];rfl,rfl,by simp,?_,?_⟩
  ·intro i j y hy
   obtain⟨r,hr,hxr⟩:=oG hy;exact⟨_,by rw[pT,hy];rfl,@BP b ev y,abY (List.all_eq_true.1 (List.all_eq_true.1 h r hr) y hxr)⟩
  ·intro h e he
   have:=h _ (List.mem_map.2 ⟨e,he,rfl⟩)
   rwa[List.length_map]at this
 |sc T sz base bG tail p =>
  simp only[bI,Bool.and_eq_true,List.isEmpty_iff]at h;obtain⟨⟨hu,rfl⟩,h⟩:=h
  obtain⟨t,ht,hp⟩:=List.any_eq_true.1 h;rw[Bool.and_eq_true]at hp;have hp1:t.1=base:=eq_of_beq hp.1
  have hp2:t.2=p:=eq_of_beq hp.2
  have hl:=@Ev.ahJ b ev t ht
  rw[hp1,hp2]at hl;have hr:=@HI b ev base bG []
  refine⟨⟨?_,?_⟩,T,sz,(@rowsOf b ev base bG []).map (·.map (@jP b ev)),@rowsOf b ev base bG [],?_,rfl,by simp,?_,?_⟩
  ·rw[@gE b ev]
   simp only[List.length_nil,Nat.add_zero];exact hl.symm
  ·intro q hq
   have:=List.all_eq_true.1 hu q hq
   simp only[Bool.and_eq_true]at this;obtain⟨z,hz,hzq⟩:=List.any_eq_true.1 this.2;rw[Bool.and_eq_true]at hzq;have hz1:z.1=base:=eq_of_beq hzq.1
   have hz2:z.2.1=q.1:=eq_of_beq hzq.2
   obtain⟨k1,k2,-⟩:=@Ev.sat b ev z hz
   rw[hz2]at k1 k2;rw[hz1]at k2;exact⟨k1,(List.getElem?_eq_some_iff.1 k2).1⟩
  ·rw[hi];simp only[uH];rw[hr];rfl
  ·intro i j y hy
   refine⟨@jP b ev y,by rw[pT,hy];rfl,@BP b ev y,?_⟩
   obtain⟨r,h2,h3⟩:=oG hy;rcases @Ak b ev _ _ _ _ h2 with h2|⟨q,hq,rfl⟩|h2
   ·have hc:=@Ev.uA b ev base r h2 _ h3
    rw[@Mt b ev y hc];exact Slot.data (hc.den 12) (hc.den 12) hc (rD 12 _ hc)
   ·have:=List.all_eq_true.1 hu q hq
    simp only[Bool.and_eq_true]at this;exact abY (List.all_eq_true.1 this.1 y h3)
   ·exact absurd h2 List.not_mem_nil
  ·intro h e he
   have:=h _ (List.mem_map.2 ⟨e,he,rfl⟩)
   rwa[List.length_map]at this
 |_=>cases h
theorem ady {n:Nat}:∀(i j k:Nat),(OA n)[i]?=some (some k)→(OA n)[j]?=some (some k)→i=j:=by
 intro i j k hi hj;unfold OA at hi hj;rw[List.getElem?_map]at hi hj;obtain⟨x,hx,e⟩:=Option.map_eq_some_iff.1 hi;obtain⟨y,hy,e'⟩:=Option.map_eq_some_iff.1 hj;cases e;cases e'
 obtain⟨a1,a2⟩:=List.getElem?_eq_some_iff.1 hx
 obtain⟨b1,b2⟩:=List.getElem?_eq_some_iff.1 hy
 rw[List.getElem_range]at a2 b2;omega
end
theorem Ny (b:Bk) (ev:@Ev b) {A:Nat→Prop} {w0:World} {a0:Act} {m:Nat→St} {w:World} {a:Act} {f:List AV} {bs:List bY} (pr:@eU b ev A w0 a0 m w a f (eZ bs)) (hf:(f.all (sO bs.length)&&bs.all (bO bs.length))=true) :
  ∃m',@eU dI dN A w0 a0 m' w a (f.map (@jP b ev)) (eZ (bs.map (@uH b ev))):=by
 rw[Bool.and_eq_true]at hf;refine⟨_,eU.to (ids:=OA bs.length) pr (abW hf.1) ?_ ady⟩
 have:=Xz b ev dI dN (OA bs.length) (h1:=eZ bs) (bs:=bs.map (@uH b ev)) some ?_
 ·rw[List.length_map]at this;exact this
 ·intro i B hB
  rw[List.getElem?_map]at hB;obtain⟨B',h',rfl⟩:=Option.map_eq_some_iff.1 hB;exact ajV (by unfold eZ;rw[List.getD,h'];rfl) (List.all_eq_true.1 hf.2 B' (List.mem_of_getElem? h'))
theorem sS (b:Bk) (ev:@Ev b) {A:Nat→Prop} {w0:World} {a0:Act} {m:Nat→St} {w:World} {a:Act} {f fc:List AV} {bs bc:List bY} (pr:@eU dI dN A w0 a0 m w a fc (eZ bc)) (ef:f.map (@jP b ev)=fc) (eb:bs.map (@uH b ev)=bc) (hf:(f.all (sI b bs.length)&&bs.all (bI b bs.length))=true) (hg:b.kI=[]:=by rfl) :
  ∃m',@eU b ev A w0 a0 m' w a f (eZ bs):=by
 subst ef;subst eb;rw[Bool.and_eq_true]at hf;refine⟨_,eU.to (ids:=OA bs.length) pr (abX hf.1) ?_ ady hg⟩
 refine Xz dI dN b ev (OA bs.length) (bs:=bs) some ?_
 intro i B hB;exact ajW (by unfold eZ;rw[List.getD,List.getElem?_map,hB];rfl) (List.all_eq_true.1 hf.2 B (List.mem_of_getElem? hB))
def zU (ids:oU) (x y:AV):Bool:=match x,y with
 | .emp,.own _ _ id 0 0=>decide (ids[id]?=some none)
 | .emp,.lit _ []=>true
 | .fn (.func q) [] [],.fn (.func q') [] []=>decide (q=q')
 |x,y=>Dq ids 16 x y
def aey (ids:oU):List (Poly×List AV)→List (Poly×List AV)→Bool
 |[],[]=>true
 |q'::l',q::l=>decide (q'.1=q.1)&&Ez (zU ids) q'.2 q.2&&q.2.all (fun x=>x.one)&&aey ids l' l
 |_,_=>false
def aie (ids:oU) (h:AH) (o:Option Nat) (B:bY):Bool:=match o,B with
 |some i,.sc T sz base bG [] n=>(match h i with | .sc T' sz' base' ups' [] n'=>decide (T'=T∧sz'=sz∧base'=base∧n'=n)&&aey ids ups' bG|_=>false)
 |_,_=>false
def aif (ids:oU) (h:AH) (o:Option Nat) (B:bY):Bool:=aie ids h o B||match o,B with
 |none,.cells _ _ []=>true
 |some i,.cells T sz aN=>(match h i with | .cells T' sz' els'=>decide (T'=T∧sz'=sz)&&(C6 (zU ids) els' aN&&aN.all (·.all fun x=>x.one))|_=>false)
 |o,B=>aih ids h o B
def Ph (ids:oU) (h:AH):oU→List bY→Bool
 |[],[]=>true
 |o::l,B::bs=>aif ids h o B&&Ph ids h l bs
 |_,_=>false
theorem EY [b:Bk] [e:Ev] {ids:oU} {x y:AV} (h:zU ids x y=true):Slot b e b e ids x y:=by
 unfold zU at h;split at h
 ·exact Slot.afK (of_decide_eq_true h)
 ·exact Slot.afL
 ·rw[of_decide_eq_true h];exact Slot.fnF
 ·exact EZ h
theorem Cr [b:Bk] [e:Ev] {ids:oU}:∀{l l':List AV},Ez (zU ids) l l'=true→yD b e b e ids l l'
 |[],[],_=>.nil
 |[],_::_,h=>by cases h
 |_::_,[],h=>by cases h
 |x::l,y::m,h=>by
  unfold Ez at h;rw[Bool.and_eq_true]at h;exact .cons (EY h.1) (Cr h.2)
theorem Hy {ids:oU} {x y:AV} (h:zU ids x y=true) (hy:y.one=true):x.one=true:=by
 unfold zU at h;split at h
 ·rfl
 ·rfl
 ·rfl
 ·exact Hz h hy
def aeo (b:Bk) (e:@Ev b) (ids:oU) (r' r:List AV):Prop:=r'.length=r.length∧∀(j:Nat) (y:AV),r[j]?=some y→∃x,r'[j]?=some x∧x.one=y.one∧Slot b e b e ids x y
theorem aeo.of [b:Bk] [e:Ev] {ids:oU} {r' r:List AV} (h:Ez (zU ids) r' r=true) (h1:r.all (fun x=>x.one)=true):aeo b e ids r' r:=by
 obtain⟨l,g⟩:=tO h;refine⟨l,fun j y hy=>?_⟩
 obtain⟨x,hx,hs⟩:=g j y hy;have hy1:=List.all_eq_true.1 h1 y (List.mem_of_getElem? hy)
 exact⟨x,hx,by rw[hy1];exact Hy hs hy1,EY hs⟩
theorem Tm [b:Bk] [e:Ev] {ids:oU}:∀{ups' bG:List (Poly×List AV)},aey ids ups' bG=true→∀(l' l:List (List AV)),l'.length=l.length→(∀(i:Nat) (r' r:List AV),l'[i]?=some r'→l[i]?=some r→aeo b e ids r' r) →
  (∀q∈bG,∃q'∈ups',q'.1=q.1)∧(ups'.foldl (fun l q=>l.set (bJ Ev.dL q.1).toNat q.2) l').length=(bG.foldl (fun l q=>l.set (bJ Ev.dL q.1).toNat q.2) l).length∧∀(i:Nat) (r' r:List AV),(ups'.foldl (fun l q=>l.set (bJ Ev.dL q.1).toNat q.2) l')[i]?=some r'→(bG.foldl (fun l q=>l.set (bJ Ev.dL q.1).toNat q.2) l)[i]?=some r→aeo b e ids r' r
 |[],[],_,l',l,hl,hr=>⟨fun q hq=>absurd hq List.not_mem_nil,hl,hr⟩
 |[],_::_,h,_,_,_,_=>by cases h
 |_::_,[],h,_,_,_,_=>by cases h
 |q'::ups',q::bG,h,l',l,hl,hr=>by
  unfold aey at h;simp only[Bool.and_eq_true,decide_eq_true_eq]at h;obtain⟨⟨⟨h1,h2⟩,h3⟩,h4⟩:=h
  obtain⟨k0,k1,k2⟩:=Tm h4 (l'.set (bJ Ev.dL q'.1).toNat q'.2) (l.set (bJ Ev.dL q.1).toNat q.2) (by simp[hl]) (by
   intro i r' r hi hj;rw[h1,List.getElem?_set]at hi;rw[List.getElem?_set]at hj;split at hi
   ·rename_i he
    rw[if_pos he]at hj;rw[hl]at hi;split at hi
    ·rename_i hlt
     rw[if_pos hlt]at hj;cases hi;cases hj
     exact aeo.of h2 h3
    ·cases hi
   ·rename_i he
    rw[if_neg he]at hj;exact hr i r' r hi hj)
  refine⟨?_,k1,k2⟩
  intro z hz;rcases List.mem_cons.1 hz with rfl|hz
  ·exact⟨q',by simp,h1⟩
  ·obtain⟨y,hy,e⟩:=k0 z hz
   exact⟨y,by simp[hy],e⟩
theorem afW [b:Bk] [e:Ev] {ids:oU} {h:AH} (hs:∀i,mK (h i)) {o:Option Nat} {B:bY} (hb:aie ids h o B=true):Hr b e b e ids h o B:=by
 unfold aie at hb;split at hb
 ·rename_i i T sz base bG n
  split at hb
  ·rename_i T' sz' base' ups' n' hi
   rw[Bool.and_eq_true,decide_eq_true_eq]at hb;obtain⟨⟨rfl,rfl,rfl,rfl⟩,h2⟩:=hb
   obtain⟨k0,k1,k2⟩:=Tm h2 (Ev.seq base') (Ev.seq base') rfl (fun i r' r hi hj=>by
    rw[hi]at hj;cases hj
    exact⟨rfl,fun j y hy=>⟨y,hy,rfl,Slot.cl (Ev.uA base' r' (List.mem_of_getElem? hi) y (List.mem_of_getElem? hy))⟩⟩)
   have hsc:=hs i;rw[hi]at hsc;obtain⟨s1,s2⟩:=hsc;refine⟨⟨?_,?_⟩,T',sz',rowsOf base' ups' [],rowsOf base' bG [],by rw[hi];rfl,rfl,?_,?_,?_⟩
   ·rw[s1,gE,gE]
   ·intro q hq
    obtain⟨q',hq',e⟩:=k0 q hq;rw[←e];exact s2 q' hq'
   ·rw[gE,gE]
   ·intro i j y hy
    unfold rowsOf at hy ⊢;rw[List.append_nil]at hy ⊢;unfold fW at hy ⊢;cases hr:(bG.foldl (fun l q=>l.set (bJ Ev.dL q.1).toNat q.2) (Ev.seq base'))[i]? with
    |none=>rw[hr]at hy;cases hy
    |some r =>
     rw[hr]at hy;have hlt:=(List.getElem?_eq_some_iff.1 hr).1
     rw[←k1]at hlt;have hr':=List.getElem?_eq_getElem hlt
     obtain⟨-,g⟩:=k2 i _ r hr' hr;obtain⟨x,q1,q2,q3⟩:=g j y hy;exact⟨x,by rw[hr'];exact q1,q2,q3⟩
   ·intro hz r hr
    unfold rowsOf at hz hr;rw[List.append_nil]at hz hr;obtain⟨i,hi'⟩:=List.mem_iff_getElem?.1 hr
    have hlt:=(List.getElem?_eq_some_iff.1 hi').1
    rw[←k1]at hlt;have hr':=List.getElem?_eq_getElem hlt
    rw[←(k2 i _ r hr' hi').1];exact hz _ (List.mem_of_getElem? hr')
  ·cases hb
 ·cases hb
theorem afX [b:Bk] [e:Ev] {ids:oU} {h:AH} (hs:∀i,mK (h i)) {o:Option Nat} {B:bY} (hb:aif ids h o B=true):Hr b e b e ids h o B:=by
 unfold aif at hb;rw[Bool.or_eq_true]at hb;rcases hb with hb|hb
 ·exact afW hs hb
 split at hb
 ·exact⟨trivial,_,_,rfl⟩
 ·rename_i i T sz aN
  split at hb
  ·rename_i T' sz' els' hi
   rw[Bool.and_eq_true,Bool.and_eq_true,decide_eq_true_eq]at hb;obtain⟨⟨rfl,rfl⟩,h2,h3⟩:=hb
   obtain⟨l1,l2⟩:=Xp h2;refine⟨trivial,T',sz',els',aN,by rw[hi];rfl,rfl,l1,?_,Xo h2⟩
   intro i j y hy;obtain⟨x,q1,q2⟩:=l2 i j y hy;obtain⟨r,hr,hyr⟩:=oG hy;have hy1:y.one=true:=List.all_eq_true.1 (List.all_eq_true.1 h3 r hr) y hyr
   exact⟨x,q1,by rw[hy1];exact Hy q2 hy1,EY q2⟩
  ·cases hb
 ·exact afY hs hb
theorem Gs [b:Bk] [e:Ev] {ids:oU} {h:AH} (hs:∀i,mK (h i)):∀{l:oU} {bs:List bY},Ph ids h l bs=true→PN b e b e ids h l bs
 |[],[],_=>.nil
 |[],_::_,h=>by cases h
 |_::_,[],h=>by cases h
 |o::l,B::bs,h=>by
  unfold Ph at h;rw[Bool.and_eq_true]at h;exact .cons (afX hs h.1) (Gs hs h.2)
def ndC (ids:oU):Bool:=decide (ids.filterMap id).Nodup
theorem ade:∀{ids:oU},ndC ids=true→∀(i j k:Nat),ids[i]?=some (some k)→ids[j]?=some (some k)→i=j:=by
 intro ids h;have hn:(ids.filterMap id).Nodup:=of_decide_eq_true h
 clear h;induction ids with
 |nil=>intro i j k hi;simp at hi
 |cons o l ih =>
  have mem:∀k i,l[i]?=some (some k)→k∈l.filterMap id:=fun k i h=>List.mem_filterMap.2 ⟨_,List.mem_of_getElem? h,rfl⟩
  cases o with
  |none =>
   intro i j k hi hj;cases i with
   |zero=>cases hi
   |succ i=>cases j with
    |zero=>cases hj
    |succ j=>exact congrArg Nat.succ (ih hn i j k hi hj)
  |some o =>
   have hn:(o::l.filterMap id).Nodup:=hn
   rw[List.nodup_cons]at hn;intro i j k hi hj;cases i with
   |zero=>cases j with
    |zero=>rfl
    |succ j=>cases hi;exact absurd (mem _ j hj) hn.1
   |succ i=>cases j with
    |zero=>cases hj;exact absurd (mem _ i hi) hn.1
    |succ j=>exact congrArg Nat.succ (ih hn.2 i j k hi hj)
abbrev lC (ids:oU) (o:Option (RT Out)) (f:List AV) (t:List Mc.bY):Bool:=Ez (zU ids) (Hf o) f&&Ph ids (oT o).get ids t&&ndC ids&&(f.all (sO t.length)&&t.all (bO t.length))
theorem I4 (b:Bk) (ev:@Ev b) {ids:oU} {A:Nat→Prop} {w0:World} {a0:Act} {m:Nat→St} {w:World} {a:Act} {o:Option (RT Out)} {f2:List AV} {bs:List bY} (pr:@eU b ev A w0 a0 m w a (Hf o) (oT o).get) (hK:lC ids o f2 bs=true) (hg:b.kI=[]) :
  ∃m',@eU dI dN A w0 a0 m' w a (f2.map (@jP b ev)) (eZ (bs.map (@uH b ev))):=by
 simp only[lC,Bool.and_eq_true]at hK;refine Ny b ev (pr.to (Cr hK.1.1.1) (Gs pr.rel.PR hK.1.1.2) (ade hK.1.2) hg) ?_
 rw[Bool.and_eq_true];exact hK.2
def fr (N:Nat) (l:List (Nat×AV)):List AV:=(List.range N).map fun i=>((l.find? fun t=>t.1==i).map (·.2)).getD .nV
end Mc
section
open Mc
def AK (b:Bk) (c:Code) (fi:List AV) (bi:List Mc.bY) (ids:oU) (fo:List AV) (bo:List Mc.bY) (o:Option (RT Out)):Prop:=Nm b c fi.length fi bi bi.length=o∧(fi.all (sI b bi.length)&&bi.all (bI b bi.length))=true∧(Hv o&&lC ids o fo bo)=true
def fL (b:Bk) (c:Code) (fi:List AV) (bi:List Mc.bY) (x:Nat) (ids:oU) (fo:List AV) (bo:List Mc.bY):Prop:=∃o,Nm b c fi.length fi bi bi.length=o∧(fi.all (sI b bi.length)&&bi.all (bI b bi.length))=true∧(yA o x&&lC ids o fo bo)=true
def yE (b:Bk) (c:Option (RT Out)) (k:Nat) (fi:List AV) (bi:List Mc.bY) (ids:oU) (fo:List AV) (bo:List Mc.bY) (o:Option (RT Out)):Prop:=rsA b c k fi.length fi bi bi.length=o∧(fi.all (sI b bi.length)&&bi.all (bI b bi.length))=true∧(Hv o&&lC ids o fo bo)=true
def PH (b:Bk) (c:Option (RT Out)) (k:Nat) (fi:List AV) (bi:List Mc.bY) (x:Nat) (ids:oU) (fo:List AV) (bo:List Mc.bY):Prop:=∃o,rsA b c k fi.length fi bi bi.length=o∧(fi.all (sI b bi.length)&&bi.all (bI b bi.length))=true∧(yA o x&&lC ids o fo bo)=true
def aiv (b:Bk) (fn:Func) (c:Code) (fi:List AV) (bi:List Mc.bY) (r:AV):Prop:=∃o,Nm b c fi.length fi bi bi.length=o∧(fi.all (sI b bi.length)&&bi.all (bI b bi.length))=true∧(yA o 1||yA o 0)=true∧((eF Tryz.prog fn (Hf o) (oT o).get).bind fun x=>(wD (oT o).get 16 x).map (·.1))=some r
def rT (b:Bk) (fn:Func) (c:Option (RT Out)) (k:Nat) (fi:List AV) (bi:List Mc.bY) (r:AV):Prop:=∃o,rsA b c k fi.length fi bi bi.length=o∧(fi.all (sI b bi.length)&&bi.all (bI b bi.length))=true∧(yA o 1||yA o 0)=true∧((eF Tryz.prog fn (Hf o) (oT o).get).bind fun x=>(wD (oT o).get 16 x).map (·.1))=some r
def agn (b:Bk) (fn:Func) (c:Code) (fi:List AV) (bi:List Mc.bY) (r:AV):Prop:=∃o,Nm b c fi.length fi bi bi.length=o∧(fi.all (sI b bi.length)&&bi.all (bI b bi.length))=true∧yA o 1=true∧((eF Tryz.prog fn (Hf o) (oT o).get).bind fun x=>(wD (oT o).get 16 x).map (·.1))=some r
theorem Dl {Φ:jA} {a:Act} {w:World} (h:Φ .ret a w):∀k:List KI,KS Tryz.prog k Φ .ret a w
 |[]=>h
 | .seq y::k=>Dl h k
 | .blk id::k=>Dl h k
 | .scope::k=>⟨fun l h=>(by cases h),Dl h k⟩
section
variable {b:Bk} {ev:@Ev b} {A:Nat→Prop} {w0:World} {a0:Act} {mm:Nat→St} {w:World} {a:Act} {Φ:jA} {c:Code} {oA:Option (RT Out)} {fi fo fc fd:List AV} {bi bo bc bd:List Mc.bY} {ids:oU} {k x:Nat}
theorem AK.go {o:Option (RT Out)} (s:AK b c fi bi ids fo bo o) (ev:@Ev b) (hX:@jH b ev Tryz.prog) (pr:@eU dI dN A w0 a0 mm w a fc (eZ bc)) (kk:∀mm w a,@eU dI dN A w0 a0 mm w a fd (eZ bd)→(Code.loop (aF o)).wpIn (fw none) 9 Tryz.prog (KS Tryz.prog (oK o) Φ) a w)
  (ef:fi.map (@jP b ev)=fc:=by rfl) (eb:bi.map (@uH b ev)=bc:=by rfl) (eg:fo.map (@jP b ev)=fd:=by rfl) (eh:bo.map (@uH b ev)=bd:=by rfl) (hg:b.kI=[]:=by rfl):c.wpIn (fw none) 9 Tryz.prog Φ a w:=by
 obtain⟨h1,h2,h3⟩:=s;rw[Bool.and_eq_true]at h3;obtain⟨m1,pr⟩:=sS b ev pr ef eb h2 hg;refine abZ b ev hX (L:=100000) (d:=60) (k:=100) o h1 h3.1 (Nat.le_refl _) pr ?_
 intro mm w a pr;obtain⟨m2,pr⟩:=I4 b ev pr h3.2 hg;rw[eg,eh]at pr;exact kk _ _ _ pr
theorem fL.go (s:fL b c fi bi x ids fo bo) (ev:@Ev b) (hX:@jH b ev Tryz.prog) (pr:@eU dI dN A w0 a0 mm w a fc (eZ bc)) (kk:∀mm w a,@eU dI dN A w0 a0 mm w a fd (eZ bd)→Φ (xOf x).to a w)
  (ef:fi.map (@jP b ev)=fc:=by rfl) (eb:bi.map (@uH b ev)=bc:=by rfl) (eg:fo.map (@jP b ev)=fd:=by rfl) (eh:bo.map (@uH b ev)=bd:=by rfl) (hg:b.kI=[]:=by rfl):c.wpIn (fw none) 9 Tryz.prog Φ a w:=by
 obtain⟨o,h1,h2,h3⟩:=s;rw[Bool.and_eq_true]at h3;obtain⟨m1,pr⟩:=sS b ev pr ef eb h2 hg;refine Bb b ev hX (L:=100000) (d:=60) (k:=100) o h1 h3.1 (Nat.le_refl _) pr ?_
 intro mm w a pr;obtain⟨m2,pr⟩:=I4 b ev pr h3.2 hg;rw[eg,eh]at pr;exact kk _ _ _ pr
theorem yE.go {o:Option (RT Out)} (s:yE b oA k fi bi ids fo bo o) (ev:@Ev b) (hX:@jH b ev Tryz.prog) (pr:@eU dI dN A w0 a0 mm w a fc (eZ bc)) (kk:∀mm w a,@eU dI dN A w0 a0 mm w a fd (eZ bd)→(Code.loop (aF o)).wpIn (fw none) 9 Tryz.prog (KS Tryz.prog (oK o) Φ) a w)
  (ef:fi.map (@jP b ev)=fc:=by rfl) (eb:bi.map (@uH b ev)=bc:=by rfl) (eg:fo.map (@jP b ev)=fd:=by rfl) (eh:bo.map (@uH b ev)=bd:=by rfl) (hg:b.kI=[]:=by rfl):KS Tryz.prog (oK oA) Φ (AX.exit k).to a w:=by
 obtain⟨h1,h2,h3⟩:=s;rw[Bool.and_eq_true]at h3;obtain⟨m1,pr⟩:=sS b ev pr ef eb h2 hg;refine ab1 b ev hX (L:=100000) (d:=60) o h1 h3.1 (Nat.le_refl _) pr ?_
 intro mm w a pr;obtain⟨m2,pr⟩:=I4 b ev pr h3.2 hg;rw[eg,eh]at pr;exact kk _ _ _ pr
theorem PH.go (s:PH b oA k fi bi x ids fo bo) (ev:@Ev b) (hX:@jH b ev Tryz.prog) (pr:@eU dI dN A w0 a0 mm w a fc (eZ bc)) (kk:∀mm w a,@eU dI dN A w0 a0 mm w a fd (eZ bd)→Φ (xOf x).to a w)
  (ef:fi.map (@jP b ev)=fc:=by rfl) (eb:bi.map (@uH b ev)=bc:=by rfl) (eg:fo.map (@jP b ev)=fd:=by rfl) (eh:bo.map (@uH b ev)=bd:=by rfl) (hg:b.kI=[]:=by rfl):KS Tryz.prog (oK oA) Φ (AX.exit k).to a w:=by
 obtain⟨o,h1,h2,h3⟩:=s;rw[Bool.and_eq_true]at h3;obtain⟨m1,pr⟩:=sS b ev pr ef eb h2 hg;refine Fg b ev hX (L:=100000) (d:=60) o h1 h3.1 (Nat.le_refl _) pr ?_
 intro mm w a pr;obtain⟨m2,pr⟩:=I4 b ev pr h3.2 hg;rw[eg,eh]at pr;exact kk _ _ _ pr
theorem F9 {fn:Func} {r r':AV} {o:Option (RT Out)} (ev:@Ev b) (hr:((eF Tryz.prog fn (Hf o) (oT o).get).bind fun x=>(wD (oT o).get 16 x).map (·.1))=some r) (er:@den b ev 12 r=r') (pr:@eU b ev A w0 a0 mm w a (Hf o) (oT o).get) {e:Exit} (he:e=.normal∨e=.ret):Fin Tryz.prog fn A w0 a0 r' e a w:=by
 cases h1:eF Tryz.prog fn (Hf o) (oT o).get with
 |none=>rw[h1]at hr;cases hr
 |some x =>
  rw[h1]at hr;cases h2:wD (oT o).get 16 x with
  |none=>simp[h2]at hr
  |some y =>
   obtain⟨y,js⟩:=y;simp only[Option.bind_some,h2,Option.map_some,Option.some.injEq]at hr;subst hr;exact⟨he,b,ev,mm,Hf o,(oT o).get,x,y,js,pr,h1,h2,er⟩
theorem aiv.go {fn:Func} {r r':AV} (s:aiv b fn c fi bi r) (ev:@Ev b) (hX:@jH b ev Tryz.prog) (pr:@eU dI dN A w0 a0 mm w a fc (eZ bc))
  (ef:fi.map (@jP b ev)=fc:=by rfl) (eb:bi.map (@uH b ev)=bc:=by rfl) (er:@den b ev 12 r=r':=by rfl) (hg:b.kI=[]:=by rfl):c.wpIn (fw none) 9 Tryz.prog (Fin Tryz.prog fn A w0 a0 r') a w:=by
 obtain⟨o,h1,h2,h3,h4⟩:=s;obtain⟨m1,pr⟩:=sS b ev pr ef eb h2 hg;rw[Bool.or_eq_true]at h3;rcases h3 with h3|h3
 ·exact Bb b ev hX (L:=100000) (d:=60) (k:=100) o h1 h3 (Nat.le_refl _) pr fun mm w a pr=>F9 ev h4 er pr (.inr rfl)
 ·exact Bb b ev hX (L:=100000) (d:=60) (k:=100) o h1 h3 (Nat.le_refl _) pr fun mm w a pr=>F9 ev h4 er pr (.inl rfl)
theorem rT.go {fn:Func} {r r':AV} (s:rT b fn oA k fi bi r) (ev:@Ev b) (hX:@jH b ev Tryz.prog) (pr:@eU dI dN A w0 a0 mm w a fc (eZ bc))
  (ef:fi.map (@jP b ev)=fc:=by rfl) (eb:bi.map (@uH b ev)=bc:=by rfl) (er:@den b ev 12 r=r':=by rfl) (hg:b.kI=[]:=by rfl):KS Tryz.prog (oK oA) (Fin Tryz.prog fn A w0 a0 r') (AX.exit k).to a w:=by
 obtain⟨o,h1,h2,h3,h4⟩:=s;obtain⟨m1,pr⟩:=sS b ev pr ef eb h2 hg;rw[Bool.or_eq_true]at h3;rcases h3 with h3|h3
 ·exact Fg b ev hX (L:=100000) (d:=60) o h1 h3 (Nat.le_refl _) pr fun mm w a pr=>F9 ev h4 er pr (.inr rfl)
 ·exact Fg b ev hX (L:=100000) (d:=60) o h1 h3 (Nat.le_refl _) pr fun mm w a pr=>F9 ev h4 er pr (.inl rfl)
theorem agn.go {fn:Func} {r r':AV} (s:agn b fn c fi bi r) (ev:@Ev b) (hX:@jH b ev Tryz.prog) (pr:@eU dI dN A w0 a0 mm w a fc (eZ bc)) (kk:∀a w,Fin Tryz.prog fn A w0 a0 r' .ret a w→Φ .ret a w)
  (ef:fi.map (@jP b ev)=fc:=by rfl) (eb:bi.map (@uH b ev)=bc:=by rfl) (er:@den b ev 12 r=r':=by rfl) (hg:b.kI=[]:=by rfl):c.wpIn (fw none) 9 Tryz.prog Φ a w:=by
 obtain⟨o,h1,h2,h3,h4⟩:=s;obtain⟨m1,pr⟩:=sS b ev pr ef eb h2 hg;exact Bb b ev hX (L:=100000) (d:=60) (k:=100) o h1 h3 (Nat.le_refl _) pr fun mm w a pr=>kk _ _ (F9 ev h4 er pr (.inr rfl))
theorem xK {b:Bk} {ev:@Ev b} (hk:@MO b ev Tryz.prog b.bT) (h1:b.ext=[]:=by rfl) (h2:b.yes=[]:=by rfl):@jH b ev Tryz.prog:=xKn b ev hk h1 h2
end
theorem aQ {ρ:Nat→Int} {p:Poly} {z:List dA} {x:dA} {k:Int} (h:z[k.toNat]?=some x) (hk:bJ ρ p=k:=by simp[bJ,lG]):(bL z)[(bJ ρ p).toNat]?=some [.lit 3 (aO x.bK),.i x.p0,.i x.p1,.i x.p2]:=tT hk (TL h)
theorem aL {xs:List Int} {i:Nat} {z:List cD} {x:cD} (h:z[(xs.getD i 0).toNat]?=some x):(bR z)[(bJ (fun k=>xs.getD k 0) [([i],1)]).toNat]?=some [.i x.a,.i x.n]:=tT (mA _ _) (by rw[bR,List.getElem?_map,h];rfl)
end
section
def wV (r:Int):Bool:=decide (0≤r)&&decide (r≤1073741824)
def H9 (r q:Int):Int:=Ob (max q 0) r 1
def ofE (r q:Int):Int:=T4 (max q 0) r 1
theorem C0 {r:Int}:wV r=true↔0≤r∧r≤1073741824:=by simp[wV]
theorem ac8 {r q:Int} (hr:wV r=true):0≤H9 r q∧H9 r q≤288230376151711744∧(ofE r q=0∨ofE r q=2):=by
 have hr:=C0.1 hr;have:=Int.mul_nonneg (show 0≤max q 0 by omega) hr.1
 simp only[H9,ofE,Ob,T4,Int.ediv_one];have hneg:¬ (max q 0<0∨r<0∨(1:Int)<1):=by omega
 simp only[if_neg hneg];by_cases h:max q 0*r > 288230376151711744
 ·simp only[if_pos h];exact⟨by omega,by omega,.inr trivial⟩
 ·simp only[if_neg h];exact⟨this,by omega,.inl trivial⟩
def inC (l:List bB) (x:bB) (c:Int):List bB×Int×Int :=
 if wV c=false∨x.q<1∨x.v<0 then(l,0,1)else if ofE c x.q≠0∨288230376151711744<x.v then(l,0,2)else
  if(Az l ⟨x.q,H9 c x.q,x.p⟩).2=0 then((Az l ⟨x.q,H9 c x.q,x.p⟩).1,x.v-H9 c x.q,0)else(l,0,(Az l ⟨x.q,H9 c x.q,x.p⟩).2)
def Bn (l:List bB) (q c:Int):List bB×bB×Int :=
 if wV c=false then(l,.zero,1)else match dZ l q with
  |([],y,e)=>([],y,e)
  |(z::t,y,e)=>if e≠0 then(z::t,y,e)else
   let v:=if ofE c q≠0∨z.v+y.v<H9 c q then z.v+y.v else H9 c q
   (⟨z.q,z.v+(y.v-v),z.p⟩::t,⟨y.q,v,y.p⟩,0)
theorem NP {l m:List bB} {y:bB} {q:Int} (h:LR l) (hO:dZ l q=(m,y,0)):0≤y.v∧y.v≤288230376151711744∧y.v+vs m=vs l:=by
 by_cases h1:q<1
 ·rw[dZ,if_pos h1]at hO;cases hO
 by_cases h2:q≤qs l
 ·rw[Ej h (by omega) h2]at hO
  have s:=(Bm l .zero q h (by omega) h2).2.2.1
  have t:=TS l .zero q h;generalize kG l .zero q=r at *;cases hO;have a:=qO t.1.ok;have b:=h.v;simp[bB.zero]at s
  have:=t.2.2.1;omega
 ·rw[Aq h (by omega) (by omega)]at hO;cases hO
structure vG where
 a:Int
 b:Int
 c:Int
structure aeq (d:vG):Prop where
 a0:0≤d.a
 b0:0≤d.b
 c0:0≤d.c
 a1:d.a≤288230376151711744
 b1:d.b≤288230376151711744
 c1:d.c≤288230376151711744
def OH (l:List bB) (d:vG):Int:=qs l-d.a-d.b-d.c
def vG.get (d:vG) (k:Int):Int:=if k=0 then d.a else if k=1 then d.b else d.c
def vG.add (d:vG) (k q:Int):vG:=if k=0 then⟨d.a+q,d.b,d.c⟩else if k=1 then⟨d.a,d.b+q,d.c⟩else⟨d.a,d.b,d.c+q⟩
def pH (l:List bB) (d:vG) (k q:Int):vG×Int:=if k<0∨3≤k∨q<1 then(d,1)else if OH l d<q then(d,5)else(d.add k q,0)
def Ar (l:List bB) (d:vG) (q:Int):List bB×bB×Int:=if q<1 then(l,.zero,1)else if OH l d<q then(l,.zero,5)else dZ l q
theorem ah3 {l:List bB} {x:bB} {c:Int} (h:LR l):LR (inC l x c).1:=by
 unfold inC;split
 ·exact h
 ·split
  ·exact h
  ·split
   ·exact Md h
   ·exact h
theorem afi {l:List bB} {q c:Int} (h:LR l):LR (Bn l q c).1:=by
 unfold Bn;split
 ·exact h
 ·have hm:=pN (q:=q) h
  split
  ·exact LR.nil
  ·rename_i z t y e hO
   rw[hO]at hm;split
   ·exact hm
   ·rename_i he
    have he0:e=0:=by simpa using he
    subst he0;obtain⟨s1,s2,s3⟩:=NP h hO;have hz:=hm.at_ (x:=z) (by simp)
    have hvs:=h.v;have hqv:=(qO hm.tail.ok).2.1
    rw[lQ]at s3;have key:∀v:Int,(0≤v∧v≤z.v+y.v)→LR (⟨z.q,z.v+(y.v-v),z.p⟩::t):=by
     intro v hv;obtain⟨a,b,cq,dv,ep⟩:=hm;refine⟨by simpa using a,fun x hx=>?_,?_,?_,?_⟩
     ·rcases List.mem_cons.1 hx with rfl|hx
      ·exact dK.2 ⟨by simp only;omega,by simp only;omega,by simp only;omega,by simp only;omega,by simp only;omega,by simp only;omega⟩
      ·exact b x (by simp[hx])
     ·rw[lT]at cq ⊢;exact cq
     ·rw[lQ];simp only;omega
     ·rw[uY]at ep ⊢;exact ep
    simp only
    apply key
    split
    ·omega
    ·rename_i hq
     have hfit:wV c=true:=by cases hf:wV c<;>simp_all
     have:=(ac8 (q:=q) hfit).1
     omega
theorem aff {l:List bB} {d:vG} {q:Int} (h:LR l):LR (Ar l d q).1:=by
 unfold Ar;split
 ·exact h
 ·split
  ·exact h
  ·exact pN h
def dR (m c:Int) (l:List bB) (x:bB):List bB×Int×Int :=
 if m=1 then((Ay l x).1,0,(Ay l x).2)else if m=2 then((Az l x).1,0,(Az l x).2)else if m=3 then((Az l x).1,0,(Az l x).2)else if m=4 then inC l x c else(l,0,12)
theorem Sr {l:List bB} {x:bB} (h:(Az l x).2≠0):(Az l x).1=l:=by
 unfold Az at h ⊢;split
 ·rw[if_pos ‹_›]at h;exact absurd rfl h
 ·rfl
theorem ah2 {l:List bB} {x:bB} {c:Int} (h:(inC l x c).2.2≠0):(inC l x c).1=l∧(inC l x c).2.1=0:=by
 unfold inC at h ⊢;split
 ·exact⟨rfl,rfl⟩
 ·rw[if_neg ‹_›]at h
  split
  ·exact⟨rfl,rfl⟩
  ·rw[if_neg ‹_›]at h
   split
   ·rw[if_pos ‹_›]at h;exact absurd rfl h
   ·exact⟨rfl,rfl⟩
theorem Fz {m c:Int} {l:List bB} {x:bB} (h:(dR m c l x).2.2≠0):(dR m c l x).1=l∧(dR m c l x).2.1=0:=by
 unfold dR at h ⊢;split
 ·rw[if_pos ‹_›]at h;exact⟨adu h,rfl⟩
 ·rw[if_neg ‹_›]at h
  split
  ·rw[if_pos ‹_›]at h;exact⟨Sr h,rfl⟩
  ·rw[if_neg ‹_›]at h
   split
   ·rw[if_pos ‹_›]at h;exact⟨Sr h,rfl⟩
   ·rw[if_neg ‹_›]at h
    split
    ·rw[if_pos ‹_›]at h;exact ah2 h
    ·exact⟨rfl,rfl⟩
theorem Rw {m c:Int} {l:List bB} {x:bB} (h:LR l):LR (dR m c l x).1:=by
 unfold dR;split
 ·exact adv h
 ·split
  ·exact Md h
  ·split
   ·exact Md h
   ·split
    ·exact ah3 h
    ·exact h
theorem yT {l:List bB} {q:Int} (h:(dZ l q).2.2≠0):(dZ l q).1=l∧(dZ l q).2.1=.zero:=by
 unfold dZ at h ⊢;split
 ·exact⟨rfl,rfl⟩
 ·rw[if_neg ‹_›]at h
  split
  ·exact⟨rfl,rfl⟩
  ·rw[if_neg ‹_›]at h;exact absurd rfl h
theorem afe {l:List bB} {d:vG} {q:Int} (h:(Ar l d q).2.2≠0):(Ar l d q).1=l∧(Ar l d q).2.1=.zero:=by
 unfold Ar at h ⊢;split
 ·exact⟨rfl,rfl⟩
 ·rw[if_neg ‹_›]at h
  split
  ·exact⟨rfl,rfl⟩
  ·rw[if_neg ‹_›]at h;exact yT h
theorem afh {l:List bB} {q c:Int} (h:(Bn l q c).2.2≠0):(Bn l q c).1=l∧(Bn l q c).2.1=.zero:=by
 unfold Bn at h ⊢;split
 ·exact⟨rfl,rfl⟩
 ·rename_i hf
  rw[if_neg hf]at h;split
  ·rename_i y e hO
   rw[hO]at h;have:=yT (l:=l) (q:=q) (by rw[hO];exact h)
   rw[hO]at this;exact this
  ·rename_i z t y e hO
   rw[hO]at h;simp only at h ⊢
   split
   ·rename_i he
    have:=yT (l:=l) (q:=q) (by rw[hO];exact he)
    rw[hO]at this;exact this
   ·rw[if_neg ‹_›]at h
    exact absurd rfl h
def fG (m c:Int) (l:List bB) (d:vG) (q:Int):List bB×bB×Int:=if m=3 then Ar l d q else if m=4 then Bn l q c else dZ l q
def bZ (m c:Int) (l:List bB) (d:vG) (kind q:Int):List bB×vG×bB×Bool×Int :=
 if m<1∨4<m then(l,d,.zero,false,12)else if kind<0∨3<kind then(l,d,.zero,false,1)
 else if m=3∧kind≠3 then(l,(pH l d kind q).1,.zero,decide ((pH l d kind q).2=0),(pH l d kind q).2)
 else((fG m c l d q).1,d,(fG m c l d q).2.1,false,(fG m c l d q).2.2)
theorem Sj {m c:Int} {l:List bB} {d:vG} {q:Int} (h:LR l):LR (fG m c l d q).1:=by
 unfold fG;split
 ·exact aff h
 ·split
  ·exact afi h
  ·exact pN h
theorem Si {m c:Int} {l:List bB} {d:vG} {q:Int} (h:(fG m c l d q).2.2≠0):(fG m c l d q).1=l∧(fG m c l d q).2.1=.zero:=by
 unfold fG at h ⊢;split
 ·rw[if_pos ‹_›]at h;exact afe h
 ·rw[if_neg ‹_›]at h
  split
  ·rw[if_pos ‹_›]at h;exact afh h
  ·rw[if_neg ‹_›]at h;exact yT h
theorem NC {m c:Int} {l:List bB} {d:vG} {kind q:Int} (h:LR l):LR (bZ m c l d kind q).1:=by
 unfold bZ;split
 ·exact h
 ·split
  ·exact h
  ·split
   ·exact h
   ·exact Sj h
end
section
open Mc
set_option maxRecDepth 1000000
namespace Fr
set_option maxRecDepth 1000000
end Fr
namespace Fr
set_option maxHeartbeats 1000000
set_option maxRecDepth 1000000
end Fr
end
section
set_option linter.unnecessarySimpa false
theorem World.cell?_put_far (w:World) {g b:Nat} (h:b≠g) (i j:Nat) (u:Value):(w.setCell ⟨g,i,none⟩ u).cell? ⟨b,j,none⟩=w.cell? ⟨b,j,none⟩:=World.cell?_of_block (w:=w) (Below.heap_setCell _ _ _ _ h)
def xE (w:World) (b off:Nat) (x:bB):World:=((w.setCell ⟨b,off,none⟩ (.int .i64 x.q)).setCell ⟨b,off+1,none⟩ (.int .i64 x.v)).setCell ⟨b,off+2,none⟩ (.int .i64 x.p)
theorem qC (w:World) {g b:Nat} (h:b≠g) (off j:Nat) (x:bB):(xE w g off x).cell? ⟨b,j,none⟩=w.cell? ⟨b,j,none⟩:=by
 unfold xE;rw[World.cell?_put_far _ h,World.cell?_put_far _ h,World.cell?_put_far _ h]
theorem mO (w:World) (g off:Nat) (x:bB) (p:Addr):(xE w g off x).frozen? p=w.frozen? p:=by
 unfold xE;simp
theorem aae (w:World) (g off:Nat) (x:bB):(xE w g off x).heap.size=w.heap.size:=by
 unfold xE;simp[World.setCell]
theorem Rf {w W:World} {B g:Nat} (h:Below B w W) (hg:B≤g) (off:Nat) (x:bB):Below B w (xE W g off x):=((h.setCell (p:=⟨g,off,none⟩) hg _).setCell (p:=⟨g,off+1,none⟩) hg _).setCell (p:=⟨g,off+2,none⟩) hg _
theorem ae2 {w:World} {b off:Nat} {u0 u1 u2:Value} (x:bB) (c0:w.cell? ⟨b,off,none⟩=some u0) (c1:w.cell? ⟨b,off+1,none⟩=some u1) (c2:w.cell? ⟨b,off+2,none⟩=some u2) :
  (xE w b off x).cell? ⟨b,off,none⟩=some (.int .i64 x.q)∧(xE w b off x).cell? ⟨b,off+1,none⟩=some (.int .i64 x.v)∧(xE w b off x).cell? ⟨b,off+2,none⟩=some (.int .i64 x.p):=by
 unfold xE;simp[go_sem,c0,c1,c2]
theorem iE.ajt {w:World} {b g off:Nat} {x y z:Int} (h:iE w b x y z) (hne:b≠g) (u:bB):iE (xE w g off u) b x y z :=
 ⟨(qC w hne _ _ _).trans h.c0,(qC w hne _ _ _).trans h.c1,(qC w hne _ _ _).trans h.c2,(mO _ _ _ _ _).trans h.f0,(mO _ _ _ _ _).trans h.f1,(mO _ _ _ _ _).trans h.f2⟩
theorem iE.put {w:World} {b:Nat} {x y z:Int} (h:iE w b x y z) (u:bB):iE (xE w b 0 u) b u.q u.v u.p:=by
 obtain⟨a,b,c⟩:=ae2 u h.c0 (show w.cell? ⟨b,0+1,none⟩=_ from h.c1) (show w.cell? ⟨b,0+2,none⟩=_ from h.c2)
 exact⟨a,b,c,(mO _ _ _ _ _).trans h.f0,(mO _ _ _ _ _).trans h.f1,(mO _ _ _ _ _).trans h.f2⟩
theorem iE.drew {w:World} {b:Nat} {x y z:Int} (h:iE w b x y z):iE w.drew b x y z:=⟨h.c0,h.c1,h.c2,h.f0,h.f1,h.f2⟩
end
section
open Mc
def dA.pn (p:dA):vG:=⟨p.p0,p.p1,p.p2⟩
theorem Oz {l:List bB} {x:bB}:0≤(Ay l x).2∧(Ay l x).2≤20:=by
 unfold Ay;split
 ·exact⟨by simp,by simp⟩
 ·split
  ·exact⟨by simp,by simp⟩
  ·split<;>exact⟨by simp,by simp⟩
end
section
theorem afb (d:vG) (k q:Int):(d.add k q).a+(d.add k q).b+(d.add k q).c=d.a+d.b+d.c+q:=by
 unfold vG.add;split
 ·simp only;omega
 ·split<;>(simp only;omega)
theorem Ry {d:vG} (h:aeq d) (k:Int):0≤d.get k∧d.get k≤d.a+d.b+d.c:=by
 have h0:=h.a0;have h1:=h.b0;have h2:=h.c0
 unfold vG.get;split
 ·omega
 ·split<;>omega
structure nZ (m:Int) (l:List bB) (d:vG):Prop where
 lr:LR l
 one:m=1∨l.length≤1
 a0:0≤d.a
 b0:0≤d.b
 c0:0≤d.c
 sum:d.a+d.b+d.c≤qs l
 zero:m=3∨(d.a=0∧d.b=0∧d.c=0)
theorem nZ.pnd {m:Int} {l:List bB} {d:vG} (h:nZ m l d):aeq d:=by
 have:=h.lr.q;have:=h.sum;have:=h.a0;have:=h.b0;have:=h.c0
 exact⟨by omega,by omega,by omega,by omega,by omega,by omega⟩
theorem Oy {l m:List bB} {x:bB} (h:Ay l x=(m,0)):m=l++[x]∧qs m=qs l+x.q∧vs m=vs l+x.v∧LR m∧1≤x.q:=by
 unfold Ay at h;split at h
 ·cases h
 ·rename_i hx
  split at h
  ·cases h
  ·split at h
   ·rename_i hr
    cases h;exact⟨rfl,by rw[aal];simp[qs],by rw[XS];simp[vs],LR.of hr,by omega⟩
   ·cases h
theorem FZ {l m:List bB} {x:bB} (h:Az l x=(m,0)):m.length=1∧qs m=qs l+x.q∧vs m=vs l+x.v∧1≤x.q:=by
 unfold Az at h;split at h
 ·rename_i he
  cases h;obtain⟨k,e,hk⟩:∃k e,Ay l x=(k,e):=⟨_,_,rfl⟩
  rw[hk]at he ⊢;simp only at he ⊢
  subst he;obtain⟨-,h1,h2,h3,h4⟩:=Oy hk;refine⟨rfl,?_,?_,h4⟩
  ·rw[h3.xA.1];simp[qs]at h1 ⊢;exact h1
  ·rw[h3.xA.1];simp[vs]at h2 ⊢;exact h2
 ·rename_i he
  exact absurd (congrArg Prod.snd h) he
theorem nZ.in_ {m c:Int} {l l':List bB} {d:vG} {x:bB} {up e':Int} (h:nZ m l d) (hm:1≤m∧m≤4) (hI:dR m c l x=(l',up,e')) :
  nZ m l' d∧(e'=0→vs l'=vs l+x.v-up)∧(e'≠0→l'=l):=by
 have hlr:LR (dR m c l x).1:=Rw h.lr
 have hno:=@Fz m c l x
 rw[hI]at hlr hno;simp only at hlr hno
 by_cases he:e'=0
 ·subst he
  have key:qs l'=qs l+x.q∧vs l'=vs l+x.v-up∧1≤x.q∧(m=1∨l'.length≤1):=by
   unfold dR at hI;split at hI
   ·have hS:Ay l x=(l',0):=Prod.ext (congrArg (fun r=>r.1) hI) (congrArg (fun r=>r.2.2) hI)
    have hu:up=0:=(congrArg (fun r=>r.2.1) hI).symm
    obtain⟨-,h1,h2,-,h4⟩:=Oy hS;exact⟨h1,by omega,h4,.inl ‹_›⟩
   ·split at hI
    ·have hS:Az l x=(l',0):=Prod.ext (congrArg (fun r=>r.1) hI) (congrArg (fun r=>r.2.2) hI)
     have hu:up=0:=(congrArg (fun r=>r.2.1) hI).symm
     obtain⟨h0,h1,h2,h4⟩:=FZ hS;exact⟨h1,by omega,h4,.inr (by omega)⟩
    ·split at hI
     ·have hS:Az l x=(l',0):=Prod.ext (congrArg (fun r=>r.1) hI) (congrArg (fun r=>r.2.2) hI)
      have hu:up=0:=(congrArg (fun r=>r.2.1) hI).symm
      obtain⟨h0,h1,h2,h4⟩:=FZ hS;exact⟨h1,by omega,h4,.inr (by omega)⟩
     ·split at hI
      ·unfold inC at hI
       split at hI
       ·cases hI
       ·split at hI
        ·cases hI
        ·split at hI
         ·rename_i hz
          have hS:Az l ⟨x.q,H9 c x.q,x.p⟩=(l',0):=Prod.ext (congrArg (fun r=>r.1) hI) hz
          have hu:up=x.v-H9 c x.q:=(congrArg (fun r=>r.2.1) hI).symm
          obtain⟨h0,h1,h2,h4⟩:=FZ hS;simp only at h1 h2 h4
          exact⟨h1,by omega,h4,.inr (by omega)⟩
         ·rename_i hz
          exact absurd (congrArg (fun r=>r.2.2) hI) hz
      ·cases hI
  obtain⟨k1,k2,k3,k4⟩:=key;have:=h.sum;exact⟨⟨hlr,k4,h.a0,h.b0,h.c0,by omega,h.zero⟩,fun _=>k2,fun hx=>absurd rfl hx⟩
 ·obtain⟨rfl,-⟩:=hno he
  exact⟨h,fun hx=>absurd hx he,fun _=>rfl⟩
theorem uR {l m:List bB} {y:bB} {q:Int} (h:LR l) (hO:dZ l q=(m,y,0)):1≤q∧q≤qs l∧qs m=qs l-q∧y.v+vs m=vs l∧m.length≤l.length∧0≤y.v:=by
 have h1:¬ q<1:=fun h=>by rw[dZ,if_pos h]at hO;cases hO
 have h2:q≤qs l:=by
  rcases(by omega:qs l<q∨q≤qs l)with h'|h'
  ·rw[Aq h (by omega) h']at hO;cases hO
  ·exact h'
 have hs:=NP h hO;have hlen:=FH (l:=l) (q:=q)
 rw[hO]at hlen;have hq:=Bm l .zero q h (by omega) h2
 rw[Ej h (by omega) h2]at hO
 have hm:m=(kG l .zero q).1:=(congrArg (fun r=>r.1) hO).symm
 rw[←hm]at hq;exact⟨by omega,h2,hq.2.1,by omega,hlen,hs.1⟩
theorem acV {l m:List bB} {y:bB} {q c:Int} (h:LR l) (hO:Bn l q c=(m,y,0)):1≤q∧q≤qs l∧qs m=qs l-q∧y.v+vs m=vs l∧m.length≤l.length:=by
 unfold Bn at hO;split at hO
 ·exact absurd (congrArg (fun r=>r.2.2) hO) (by simp)
 ·split at hO
  ·rename_i y0 e0 hS
   have he:e0=0:=congrArg (fun r=>r.2.2) hO
   have hm:[]=m:=congrArg (fun r=>r.1) hO
   have hy:y0=y:=congrArg (fun r=>r.2.1) hO
   subst he hm hy;obtain⟨a,b,c,d,e,-⟩:=uR h hS;exact⟨a,b,c,d,e⟩
  ·rename_i z t y0 e0 hS
   split at hO
   ·rename_i hne
    exact absurd (congrArg (fun r=>r.2.2) hO) hne
   ·rename_i hne
    have he:e0=0:=by simpa using hne
    subst he;obtain⟨a,b,cc,d,e,-⟩:=uR h hS;simp only at hO
    generalize (if ofE c q≠0∨z.v+y0.v<H9 c q then z.v+y0.v else H9 c q)=V at hO
    have hm:(⟨z.q,z.v+(y0.v-V),z.p⟩:bB)::t=m:=congrArg (fun r=>r.1) hO
    have hy:(⟨y0.q,V,y0.p⟩:bB)=y:=congrArg (fun r=>r.2.1) hO
    subst hm hy;rw[lT]at cc;rw[lQ]at d;refine⟨a,b,?_,?_,by simpa using e⟩
    ·rw[lT];exact cc
    ·rw[lQ];simp only;omega
theorem nZ.ajx {m c:Int} {l l':List bB} {d d':vG} {y:bB} {wt:Bool} {kind q e':Int} (h:nZ m l d) (hm:1≤m∧m≤4) (hk:0≤kind∧kind≤3) (hO:bZ m c l d kind q=(l',d',y,wt,e')) :
  nZ m l' d'∧y.v+vs l'=vs l:=by
 have hlr:LR (bZ m c l d kind q).1:=NC h.lr
 rw[hO]at hlr;simp only at hlr
 unfold bZ at hO;rw[if_neg (by omega),if_neg (by omega)]at hO
 by_cases hw:m=3∧kind≠3
 ·rw[if_pos hw]at hO
  obtain⟨rfl,hk3⟩:=hw;have e1:l=l':=congrArg (fun r=>r.1) hO
  have e2:(pH l d kind q).1=d':=congrArg (fun r=>r.2.1) hO
  have e3:bB.zero=y:=congrArg (fun r=>r.2.2.1) hO
  subst e1 e3;refine⟨?_,by simp[bB.zero]⟩
  unfold pH at e2;split at e2
  ·subst e2;exact h
  ·split at e2
   ·subst e2;exact h
   ·rename_i hb hf
    subst e2;have hfr:OH l d=qs l-d.a-d.b-d.c:=rfl
    rw[hfr]at hf;have hs:=afb d kind q;have hg:=Ry h.pnd kind;have ha:=h.a0;have hb0:=h.b0;have hc0:=h.c0
    have hbnd:0≤(d.add kind q).a∧0≤(d.add kind q).b∧0≤(d.add kind q).c:=by
     unfold vG.add;split
     ·exact⟨by simp only;omega,hb0,hc0⟩
     ·split
      ·exact⟨ha,by simp only;omega,hc0⟩
      ·exact⟨ha,hb0,by simp only;omega⟩
    have hsum:(d.add kind q).a+(d.add kind q).b+(d.add kind q).c≤qs l:=by omega
    exact⟨h.lr,h.one,hbnd.1,hbnd.2.1,hbnd.2.2,hsum,.inl rfl⟩
 ·rw[if_neg hw]at hO
  have e1:(fG m c l d q).1=l':=congrArg (fun r=>r.1) hO
  have e2:d=d':=congrArg (fun r=>r.2.1) hO
  have e3:(fG m c l d q).2.1=y:=congrArg (fun r=>r.2.2.1) hO
  subst e2;by_cases he:(fG m c l d q).2.2=0
  ·have hM:fG m c l d q=(l',y,0):=Prod.ext e1 (Prod.ext e3 he)
   have key:qs l'=qs l-q∧y.v+vs l'=vs l∧l'.length≤l.length∧d.a+d.b+d.c≤qs l-q:=by
    unfold fG at hM;split at hM
    ·unfold Ar at hM
     split at hM
     ·exact absurd (congrArg (fun r=>r.2.2) hM) (by simp)
     ·split at hM
      ·exact absurd (congrArg (fun r=>r.2.2) hM) (by simp)
      ·rename_i hf
       obtain⟨-,-,a,b,cc,-⟩:=uR h.lr hM;have hfr:OH l d=qs l-d.a-d.b-d.c:=rfl
       rw[hfr]at hf;exact⟨a,b,cc,by omega⟩
    ·rename_i h3
     have hz:d.a=0∧d.b=0∧d.c=0:=by
      rcases h.zero with h'|h'
      ·exact absurd h' h3
      ·exact h'
     split at hM
     ·obtain⟨-,k2,a,b,cc⟩:=acV h.lr hM
      exact⟨a,b,cc,by omega⟩
     ·obtain⟨-,k2,a,b,cc,-⟩:=uR h.lr hM
      exact⟨a,b,cc,by omega⟩
   obtain⟨k1,k2,k3,k4⟩:=key;refine⟨⟨hlr,?_,h.a0,h.b0,h.c0,by omega,h.zero⟩,k2⟩
   rcases h.one with h'|h'
   ·exact .inl h'
   ·exact .inr (by omega)
  ·obtain⟨f1,f2⟩:=Si he
   rw[f1]at e1;rw[f2]at e3;subst e1 e3;exact⟨h,by simp[bB.zero]⟩
theorem NO {l:List bB} (hl:LR l) {q:Int}:0≤(dZ l q).2.1.v∧(dZ l q).2.1.v≤288230376151711744:=by
 by_cases h:(dZ l q).2.2=0
 ·have hv:=hl.v
  have:=uR hl (m:=(dZ l q).1) (y:=(dZ l q).2.1) (by rw[←h])
  have:=(qO (pN (q:=q) hl).ok).2.1
  omega
 ·rw[(yT h).2];simp[bB.zero]
theorem acS {l:List bB} (hl:LR l) {q:Int}:(0≤(dZ l q).2.1.q∧(dZ l q).2.1.q≤288230376151711744)∧-576460752303423488≤(dZ l q).2.1.p∧(dZ l q).2.1.p≤576460752303423488:=by
 by_cases h:(dZ l q).2.2=0
 ·have hq:=hl.q
  obtain⟨h1,h2,-⟩:=uR hl (m:=(dZ l q).1) (y:=(dZ l q).2.1) (by rw[←h])
  have hR:=pN (q:=q) hl
  have a1:=HO l;have a2:=hl.p;have a3:=HO (dZ l q).1
  have a4:=hR.p;rw[Ej hl h1 h2]at a3 a4 ⊢;have s:=Bm l .zero q hl (by omega) h2
  simp only[bB.zero]at s a3 a4 ⊢;omega
 ·rw[(yT h).2];simp[bB.zero]
theorem RX {l:List bB} (h:LR l) {q:Int}:((dZ l q).2.2=0∧1≤q∧q≤qs l∧(dZ l q).2.1.q=q∧qs (dZ l q).1=qs l-q∧(dZ l q).2.1.v+vs (dZ l q).1=vs l∧(dZ l q).2.1.p+ps (dZ l q).1=ps l)∨(((dZ l q).2.2=1∧q<1∨(dZ l q).2.2=5∧qs l<q)∧(dZ l q).1=l∧(dZ l q).2.1=.zero):=by
 by_cases h1:q<1
 ·right;unfold dZ;rw[if_pos h1];exact⟨.inl ⟨rfl,h1⟩,rfl,rfl⟩
 by_cases h2:q≤qs l
 ·left
  rw[Ej h (by omega) h2]
  have s:=Bm l .zero q h (by omega) h2
  simp only[bB.zero]at s ⊢;exact⟨trivial,by omega,h2,by omega,s.2.1,by omega,by omega⟩
 ·right;rw[Aq h (by omega) (by omega)];exact⟨.inr ⟨rfl,by omega⟩,rfl,rfl⟩
theorem LR.bds {l:List bB} (h:LR l):iM (qs l)∧iM (vs l)∧iM (ps l):=by
 have h1:=qO h.ok;have h2:=h.q;have h3:=h.v;have h4:=h.p;have h5:=HO l;exact⟨⟨by omega,by omega⟩,⟨by omega,by omega⟩,⟨by omega,by omega⟩⟩
set_option linter.unnecessarySimpa false
def Cc (l:List bB) (q:Int) (j:Nat) (b:bB) (mm:List bB):Prop :=
 (b.q<q∧mm=[]∧kG l .zero q=kG (l.drop j) b (q-b.q)∧bS 0 ((l.map (·.q)).take j)=some b.q∧bS 0 ((l.map (·.v)).take j)=some b.v∧bS 0 ((l.map (·.p)).take j)=some b.p) ∨
 (b.q=q∧kG l .zero q=(mm++l.drop j,b))
theorem Cc.bd {l:List bB} {q:Int} {j:Nat} {b:bB} {mm:List bB} (h:Cc l q j b mm):b.q≤q:=by
 rcases h with h|h
 ·omega
 ·omega
theorem Cc.start {l:List bB} {q:Int} (h:1≤q):Cc l q 0 .zero []:=by
 refine .inl ⟨by simp[bB.zero];omega,rfl,by simp[bB.zero],rfl,rfl,rfl⟩
def B9 (w:World) (a:Option Addr) (v:Value):Prop:=∀ad n c,v=.slice (some ad) n c→some ad=a∨w.heap.size≤ad.block
theorem B9.same (w:World) (a:Option Addr) (n c:Nat):B9 w a (.slice a n c):=fun ad n' c' h=>by cases h;exact .inl rfl
theorem B9.own {w w':World} {a:Option Addr} {base:Nat} {e:TypeId} {k:Nat} {v:Value} {n:Nat} {zs:List Int} (h:dJ w' base e k v n zs) (hb:w.heap.size≤base):B9 w a v:=fun ad n' c hv=>by
 subst hv;exact .inr (Nat.le_trans hb (World.ownsRow.lt h ad.block rfl).1)
theorem HL (v q n:Int) (w:World) (hv:iM v) (hq:iM q) (hn:iM n):Calls Tryz.prog 149 #[.int .i64 v,.int .i64 q,.int .i64 n] w fun e w'=>e=.returned (.int .i64 (cV v q n))∧w'=w :=
 (Ns v q n w hv hq hn).mono fun _ _ h=>⟨h.1,h.2.symm⟩
theorem Gc {l:List bB} {j:Nat} {x:bB} (hx:l[j]?=some x):l.drop j=x::l.drop (j+1):=by
 have hj:j<l.length:=by
  rcases Nat.lt_or_ge j l.length with h|h
  ·exact h
  ·rw[List.getElem?_eq_none h]at hx;cases hx
 rw[List.drop_eq_getElem_cons hj];rw[List.getElem?_eq_getElem hj]at hx;rw[Option.some.inj hx]
theorem afy {l mm:List bB} {j:Nat} {x:bB} (hm:eN (flat mm)) (hl:eN (flat l)) (hx:l[j]?=some x):eN (flat mm++[x.q,x.v,x.p]):=by
 intro z hz;rcases List.mem_append.1 hz with h|h
 ·exact hm z h
 ·exact hl z (List.mem_flatMap.2 ⟨x,List.mem_of_getElem? hx,h⟩)
set_option maxHeartbeats 1000000 in
set_option maxRecDepth 20000 in
theorem ab5 (a:Option Addr) (cap:Nat) (l:List bB) (w:World) (h:Row w 3 a l.length cap (flat l)) (hok:kP l=true) (q:Int) (hq:iM q) :
  Calls Tryz.prog 215 #[.slice a l.length cap,.int .i64 q] w fun e w'=>∃v,e=.returned (.tuple #[v,(dZ l q).2.1.val,.int .i64 (dZ l q).2.2])∧aix w' v (dZ l q).1∧Below w.heap.size w w'∧B9 w a v:=by
 have h0:=h;obtain⟨hl,hcap,hmax,hall,hat⟩:=h;obtain⟨hq0,hq1⟩:=hq;unfold maxLen at hmax;go_enter Tryz.func215,Tryz.ntmps215
 try simp only[List.append_eq,List.cons_append,List.nil_append]
 by_cases q1:q<1
 ·go_wp2_with (first|(go_at_call 198;refine(qL a cap l _ (h0.below blw)).mono ?_;rintro e w' ⟨rfl,hw1⟩;obtain⟨⟨r0,r1,r2,z0,z1,z2⟩,hlw,hlw1,hlw2,hlw3⟩:=ahM hw1))
  have e:dZ l q=(l,.zero,1):=by simp[dZ,q1]
  rw[e];refine bodyPost_ret (v:=.tuple #[.slice a l.length cap,bB.zero.val,.int .i64 1]) (by simp[results,Tryz.results215,go_sem,hlw,hlw1,r0,r1,r2,z0,z1,z2]) rfl ⟨_,rfl,⟨a,cap,rfl,h0.below blw⟩,blw,B9.same _ _ _ _⟩
 by_cases q2:(xA l).q<q
 ·go_wp2_with (first|(go_at_call 198;refine(qL a cap l _ (h0.below blw)).mono ?_;rintro e w' ⟨rfl,hw1⟩;obtain⟨⟨r0,r1,r2,z0,z1,z2⟩,hlw,hlw1,hlw2,hlw3⟩:=ahM hw1))
  have e:dZ l q=(l,.zero,5):=by simp[dZ,q1,q2]
  rw[e];refine bodyPost_ret (v:=.tuple #[.slice a l.length cap,bB.zero.val,.int .i64 5]) (by simp[results,Tryz.results215,go_sem,hlw,hlw1,r0,r1,r2,z0,z1,z2]) rfl ⟨_,rfl,⟨a,cap,rfl,h0.below blw⟩,blw,B9.same _ _ _ _⟩
 go_wp2_with (first|(go_at_call 198;refine(qL a cap l _ (h0.below blw)).mono ?_;rintro e w1 ⟨rfl,hw1⟩;obtain⟨⟨r0,r1,r2,z0,z1,z2⟩,hlw,hlw1,hlw2,hlw3⟩:=ahM hw1))
 go_loopw [10,11] (fun m i wr=>∃(j:Nat) (b:bB) (mm:List bB),j≤l.length∧i=.int .i64 j∧dJ wr (w1.heap.size+2) 101 3 m mm.length (flat mm)∧eN (flat mm)∧mm.length≤j ∧
  iE wr w.heap.size 0 0 0∧iE wr (w1.heap.size+1) b.q b.v b.p∧w1.heap.size+2≤wr.heap.size∧Below w.heap.size w wr∧0≤b.q∧Cc l q j b mm∧(mm=[]→m=.slice none 0 0)) (fun _ i _=>l.length-(intOf i).toNat)
 case atStart=>exact⟨0,.zero,[],by omega,rfl,dJ.nil _ _ _ _,(fun z hz=>by simp[flat]at hz),by simp,⟨by go_simp,by go_simp,by go_simp,by go_simp,by go_simp,by go_simp⟩,⟨by go_simp,by go_simp,by go_simp,by simp,by simp,by simp⟩,by simp,blw,by simp[bB.zero],Cc.start (by omega),fun _=>rfl⟩
 case round =>
  obtain⟨j,g,mm,hj,rfl,hown,GR,AO,⟨r0,r1,r2,z0,z1,z2⟩,⟨y0,y1,y2,x0,x1,x2⟩,hs2,hbel,hg0,hst,hnil⟩:=hrel
  have hsz:=hbel.size;by_cases hlt:j<l.length
  ·obtain⟨b,off,rfl,hb,hc⟩:∃b off,a=some ⟨b,off,none⟩∧b<w.heap.size∧bD w b off (flat l):=by
    rcases hat with h0|h0
    ·omega
    ·exact h0
   obtain⟨x,hx⟩:∃x,l[j]?=some x:=⟨l[j],by simp[hlt]⟩
   obtain⟨c0,c1,c2⟩:=qE hc hx hb hbel;have hlt':(j:Int)<(l.length:Int):=by omega
   have hj0:(0:Int)≤(j:Int):=by omega
   have hx:=Lib.hid hx;clear hc hat;have n0:=World.new_ne wr _ c0;have n1:=World.new_ne wr _ c1;have n2:=World.new_ne wr _ c2;have n3:=World.new_ne wr _ y0;have hgq:IntKind.i64.wrap (q-g.q)=q-g.q:=IntWalk.i64_in _ (by have:=hst.bd;omega)
   go_wp2_with fail
   go_region_held3 (fun w'=>w'.cell? ⟨b,off+j*3,none⟩=some (.int .i64 x.q)∧w'.cell? ⟨b,off+j*3+1,none⟩=some (.int .i64 x.v)∧w'.cell? ⟨b,off+j*3+2,none⟩=some (.int .i64 x.p)∧w'.cell? ⟨w1.heap.size+1,0,none⟩=some (.int .i64 g.q)) (go_keep) (fail)
   clear n0 n1 n2 n3 hgq c0 c1 c2;have hs0:w.heap.size<wr.heap.size:=by omega
   have hs1:w1.heap.size+1<wr.heap.size:=by omega
   have hs1b:w1.heap.size<wr.heap.size:=by omega
   have hs0b:w.heap.size<wr.heap.size+1:=by omega
   obtain⟨W,hW⟩:∃W,W=(wr.alloc (.cells #[.int .i64 x.q,.int .i64 x.v,.int .i64 x.p] 101)).drew:=⟨_,rfl⟩
   have hWs:W.heap.size=wr.heap.size+1:=by rw[hW];simp
   have c0:W.cell? ⟨wr.heap.size,0,none⟩=some (.int .i64 x.q):=by rw[hW];simp
   have c1:W.cell? ⟨wr.heap.size,1,none⟩=some (.int .i64 x.v):=by rw[hW];simp
   have c2:W.cell? ⟨wr.heap.size,2,none⟩=some (.int .i64 x.p):=by rw[hW];simp
   have hB:Below wr.heap.size wr W:=by rw[hW];exact((Below.refl _ wr).alloc (Nat.le_refl _) _).drew
   replace r0:=(hB.cell hs0).trans r0
   replace r1:=(hB.cell hs0).trans r1
   replace r2:=(hB.cell hs0).trans r2
   replace z0:=(hB.frozen hs0).trans z0
   replace z1:=(hB.frozen hs0).trans z1
   replace z2:=(hB.frozen hs0).trans z2
   replace y0:=(hB.cell hs1).trans y0
   replace y1:=(hB.cell hs1).trans y1
   replace y2:=(hB.cell hs1).trans y2
   replace x0:=(hB.frozen hs1).trans x0
   replace x1:=(hB.frozen hs1).trans x1
   replace x2:=(hB.frozen hs1).trans x2
   have hown:=dJ.below hown hB;have hbel:Below w.heap.size w W:=hbel.trans (hB.mono hsz)
   rw[←hW];clear hB hW;rcases hst with⟨a1,rfl,a3,a4,a5,a6⟩|⟨b1,b2⟩
   ·have hz:¬ (q-g.q≤0):=by omega
    obtain rfl:=hnil rfl
    clear hnil;obtain⟨g1,g2,g3,g4,g5,g6,g7,g8,g9,g10,g11,g12⟩:=agO hok hx.out a4 a5 a6;obtain⟨k1,k2,k3,k4,k5,k6⟩:=dK.1 (Gx (kO.1 hok).2.1 hx.out)
    have a3:=Lib.hid a3;have a4:=Lib.hid a4;have a5:=Lib.hid a5;have a6:=Lib.hid a6;by_cases hcut:q-g.q<x.q
    ·have cb:=SJ (Gx (kO.1 hok).2.1 hx.out) (q:=q-g.q) (by omega) (by omega)
     have i1:iM x.v:=⟨by omega,by omega⟩
     have i2:iM (q-g.q):=⟨by omega,by omega⟩
     have i3:iM x.q:=⟨by omega,by omega⟩
     have i4:iM x.p:=⟨by omega,by omega⟩
     have a3:=Lib.hid a3;go_wp2_with fail
     obtain⟨V,hV⟩:∃V,V=W.alloc (.cells #[.int .i64 x.q,.int .i64 x.v,.int .i64 x.p] 101):=⟨_,rfl⟩
     have hB:Below W.heap.size W V:=by rw[hV];exact(Below.refl _ W).alloc (Nat.le_refl _) _
     have hVs:V.heap.size=wr.heap.size+2:=by rw[hV];simp[hWs]
     have f0:V.frozen? ⟨wr.heap.size+1,0,none⟩=false:=by rw[hV,←hWs];simp
     have f1:V.frozen? ⟨wr.heap.size+1,1,none⟩=false:=by rw[hV,←hWs];simp
     have f2:V.frozen? ⟨wr.heap.size+1,2,none⟩=false:=by rw[hV,←hWs];simp
     have d0:V.cell? ⟨wr.heap.size+1,0,none⟩=some (.int .i64 x.q):=by rw[hV,←hWs];simp
     have d1:V.cell? ⟨wr.heap.size+1,1,none⟩=some (.int .i64 x.v):=by rw[hV,←hWs];simp
     have d2:V.cell? ⟨wr.heap.size+1,2,none⟩=some (.int .i64 x.p):=by rw[hV,←hWs];simp
     have hlt0:w.heap.size<W.heap.size:=by omega
     have hlt1:w1.heap.size+1<W.heap.size:=by omega
     have hltx:wr.heap.size<W.heap.size:=by omega
     replace c0:=(hB.cell hltx).trans c0
     replace c1:=(hB.cell hltx).trans c1
     replace c2:=(hB.cell hltx).trans c2
     replace r0:=(hB.cell hlt0).trans r0
     replace r1:=(hB.cell hlt0).trans r1
     replace r2:=(hB.cell hlt0).trans r2
     replace z0:=(hB.frozen hlt0).trans z0
     replace z1:=(hB.frozen hlt0).trans z1
     replace z2:=(hB.frozen hlt0).trans z2
     replace y0:=(hB.cell hlt1).trans y0
     replace y1:=(hB.cell hlt1).trans y1
     replace y2:=(hB.cell hlt1).trans y2
     replace x0:=(hB.frozen hlt1).trans x0
     replace x1:=(hB.frozen hlt1).trans x1
     replace x2:=(hB.frozen hlt1).trans x2
     replace hown:=dJ.below hown hB
     replace hbel:Below w.heap.size w V:=hbel.trans (hB.mono (by omega))
     rw[←hV];clear hB hV;refine EF 2 [some 57,some 58,some 59,some 60,some 61,some 62,some 63,some 64,some 65,some 66,some 67,some 68,some 69,some 70,none] [14] [(0,0),(0,0),(0,0),(0,0),(0,0),(0,0),(0,0),(0,0),(0,0),(0,0),(0,0),(0,0),(0,0),(0,0),(0,0)] (pick [fun w'=>w'=V.drew,fun w'=>w'=(((V.drew.setCell ⟨(wr.heap.size+1),0,none⟩ (.int .i64 (q-g.q))).setCell ⟨(wr.heap.size+1),1,none⟩ (.int .i64 (cV x.v (q-g.q) x.q))).setCell ⟨(wr.heap.size+1),2,none⟩ (.int .i64 (cV x.p (q-g.q) x.q)))]) [.int .i64 (q-g.q),.pointer (some ⟨wr.heap.size,1,none⟩),.int .i64 (x.v),.int .i64 (q-g.q),.pointer (some ⟨wr.heap.size,0,none⟩),.int .i64 (x.q),.int .i64 (cV x.v (q-g.q) x.q),.pointer (some ⟨wr.heap.size,2,none⟩),.int .i64 (x.p),.int .i64 (q-g.q),.pointer (some ⟨wr.heap.size,0,none⟩),.int .i64 (x.q),.int .i64 (cV x.p (q-g.q) x.q),.agg #[.int .i64 (q-g.q),.int .i64 (cV x.v (q-g.q) x.q),.int .i64 (cV x.p (q-g.q) x.q)],undef] (by kernel_rfl) (by kernel_rfl) (by kernel_rfl) rfl (by kernel_rfl) (by kernel_rfl) (by kernel_rfl) (by rfl) rfl ?steps ?fin
     case steps =>
      intro ρ hin hout hconst hfun;have r13:ρ (.tmp 13)=.int .i64 (q-g.q):=hout 13 rfl
      have r12:ρ (.tmp 12)=.pointer (some ⟨wr.heap.size,0,none⟩):=hout 12 rfl
      have r58:ρ (.tmp 58)=.pointer (some ⟨wr.heap.size,1,none⟩):=hin 1 58 rfl
      have r61:ρ (.tmp 61)=.pointer (some ⟨wr.heap.size,0,none⟩):=hin 4 61 rfl
      have r59:ρ (.tmp 59)=.int .i64 (x.v):=hin 2 59 rfl
      have r60:ρ (.tmp 60)=.int .i64 (q-g.q):=hin 3 60 rfl
      have r62:ρ (.tmp 62)=.int .i64 (x.q):=hin 5 62 rfl
      have r64:ρ (.tmp 64)=.pointer (some ⟨wr.heap.size,2,none⟩):=hin 7 64 rfl
      have r67:ρ (.tmp 67)=.pointer (some ⟨wr.heap.size,0,none⟩):=hin 10 67 rfl
      have r65:ρ (.tmp 65)=.int .i64 (x.p):=hin 8 65 rfl
      have r66:ρ (.tmp 66)=.int .i64 (q-g.q):=hin 9 66 rfl
      have r68:ρ (.tmp 68)=.int .i64 (x.q):=hin 11 68 rfl
      have r57:ρ (.tmp 57)=.int .i64 (q-g.q):=hin 0 57 rfl
      have r63:ρ (.tmp 63)=.int .i64 (cV x.v (q-g.q) x.q):=hin 6 63 rfl
      have r69:ρ (.tmp 69)=.int .i64 (cV x.p (q-g.q) x.q):=hin 12 69 rfl
      have r14:ρ (.tmp 14)=.pointer (some ⟨(wr.heap.size+1),0,none⟩):=hout 14 rfl
      have r70:ρ (.tmp 70)=.agg #[.int .i64 (q-g.q),.int .i64 (cV x.v (q-g.q) x.q),.int .i64 (cV x.p (q-g.q) x.q)]:=hin 13 70 rfl
      clear hin hout;refine dD.pure (by decide) (fun ww=>Step.value (by simp[execOp,r13])) ?_
      refine dD.pure (by decide) (fun ww=>Step.value (by simp[execOp,go_sem,r12])) ?_
      refine dD.load (by decide) (fun s ww h1 h2 hw=>by rcases(by omega:s=0)with rfl<;>(simp only[pick,List.getD_cons_zero,List.getD_cons_succ]at hw;subst hw;exact Step.value (by simp[execOp,go_sem,r58,c0,c1,c2,d0,d1,d2,f0,f1,f2]))) ?_
      refine dD.pure (by decide) (fun ww=>Step.value (by simp[execOp,r13])) ?_
      refine dD.pure (by decide) (fun ww=>Step.value (by simp[execOp,go_sem,r12])) ?_
      refine dD.load (by decide) (fun s ww h1 h2 hw=>by rcases(by omega:s=0)with rfl<;>(simp only[pick,List.getD_cons_zero,List.getD_cons_succ]at hw;subst hw;exact Step.value (by simp[execOp,go_sem,r61,c0,c1,c2,d0,d1,d2,f0,f1,f2]))) ?_
      refine dD.call (by decide) (fun s ww h1 h2 hw=>by rcases(by omega:s=0)with rfl<;>(simp only[pick,List.getD_cons_zero,List.getD_cons_succ]at hw ⊢;exact Ca.call (w1:=ww) (by simp[execOp,go_sem,r59,r60,r62,hfun]) ((HL x.v (q-g.q) x.q ww i1 i2 i3).mono fun e w3 h3=>⟨h3.1,h3.2.trans hw⟩))) ?_
      refine dD.pure (by decide) (fun ww=>Step.value (by simp[execOp,go_sem,r12])) ?_
      refine dD.load (by decide) (fun s ww h1 h2 hw=>by rcases(by omega:s=0)with rfl<;>(simp only[pick,List.getD_cons_zero,List.getD_cons_succ]at hw;subst hw;exact Step.value (by simp[execOp,go_sem,r64,c0,c1,c2,d0,d1,d2,f0,f1,f2]))) ?_
      refine dD.pure (by decide) (fun ww=>Step.value (by simp[execOp,r13])) ?_
      refine dD.pure (by decide) (fun ww=>Step.value (by simp[execOp,go_sem,r12])) ?_
      refine dD.load (by decide) (fun s ww h1 h2 hw=>by rcases(by omega:s=0)with rfl<;>(simp only[pick,List.getD_cons_zero,List.getD_cons_succ]at hw;subst hw;exact Step.value (by simp[execOp,go_sem,r67,c0,c1,c2,d0,d1,d2,f0,f1,f2]))) ?_
      refine dD.call (by decide) (fun s ww h1 h2 hw=>by rcases(by omega:s=0)with rfl<;>(simp only[pick,List.getD_cons_zero,List.getD_cons_succ]at hw ⊢;exact Ca.call (w1:=ww) (by simp[execOp,go_sem,r65,r66,r68,hfun]) ((HL x.p (q-g.q) x.q ww i4 i2 i3).mono fun e w3 h3=>⟨h3.1,h3.2.trans hw⟩))) ?_
      refine dD.pure (by decide) (fun ww=>Step.value (by simp[execOp,go_sem,r57,r63,r69])) ?_
      refine dD.store (by decide) (fun ww hw=>by simp only[pick,List.getD_cons_zero,List.getD_cons_succ]at hw ⊢;subst hw;exact Step.pred (Step.skip rfl (by simp[execOp,go_sem,r14,r70,c0,c1,c2,d0,d1,d2,f0,f1,f2]<;>rfl)) rfl) ?_
      exact True.intro
     case fin =>
      intro wf hw;simp only[pick,List.getD_cons_zero,List.getD_cons_succ,List.length_cons,List.length_nil]at hw;subst hw;simp only[eH,Act.put,List.getD_cons_zero,List.getD_cons_succ,List.setIfInBounds_toArray,List.set_cons_succ,List.set_cons_zero,List.length_cons,List.length_nil];change Exit.then _ _ .normal _ (xE V.drew (wr.heap.size+1) 0 (lJ x (q-g.q)))
      have hne1:wr.heap.size≠wr.heap.size+1:=by omega
      have hC:=iE.ajt (iE.drew ⟨y0,y1,y2,x0,x1,x2⟩) (g:=wr.heap.size+1) (off:=0) (by omega) (lJ x (q-g.q))
      have hR:=iE.ajt (iE.drew ⟨r0,r1,r2,z0,z1,z2⟩) (g:=wr.heap.size+1) (off:=0) (by omega) (lJ x (q-g.q))
      have hY:=iE.put (iE.drew ⟨d0,d1,d2,f0,f1,f2⟩) (lJ x (q-g.q))
      have hX0:=(qC V.drew hne1 0 0 (lJ x (q-g.q))).trans c0
      have hX1:=(qC V.drew hne1 0 1 (lJ x (q-g.q))).trans c1
      have hX2:=(qC V.drew hne1 0 2 (lJ x (q-g.q))).trans c2
      have hbelU:Below w.heap.size w (xE V.drew (wr.heap.size+1) 0 (lJ x (q-g.q))):=Rf hbel.drew (by omega) _ _
      have hUs:(xE V.drew (wr.heap.size+1) 0 (lJ x (q-g.q))).heap.size=wr.heap.size+2:=by rw[aae];exact hVs
      generalize xE V.drew (wr.heap.size+1) 0 (lJ x (q-g.q))=U at *
      clear c0 c1 c2 d0 d1 d2 f0 f1 f2 y0 y1 y2 x0 x1 x2 r0 r1 r2 z0 z1 z2 hown hbel hVs;obtain⟨d0,d1,d2,-,-,-⟩:=id hY;simp only[lJ]at d0 d1 d2;obtain⟨y0,y1,y2,x0,x1,x2⟩:=id hC;have cv0:=cb.v0;have cv1:=cb.v1;have cp0:=cb.p0;have cp1:=cb.p1;have cd0:=cb.d0;have cd1:=cb.d1
      go_wp2_with (at_builtin;refine kM _ rfl _ _ 158 rfl (wr.heap.size+2) 101 3 Gb _ 0 [] rfl (dJ.nil _ _ _ _) _ 0 1 [x.q-(q-g.q),x.v-cV x.v (q-g.q) x.q,x.p-cV x.p (q-g.q) x.q] rfl rfl (ajF (by simp[hUs])) (by omega) (by simp[hUs]) ?_)
      intro m' w2 hown' hb1;have hU2:Below U.heap.size U w2:=((Below.refl _ U).alloc (Nat.le_refl _) _).trans (hb1.mono (by omega))
      have hw2s:wr.heap.size+2<w2.heap.size+1:=by have:=hU2.size;omega
      obtain⟨r0,r1,r2,z0,z1,z2⟩:=(iE.next hR (by omega) hU2).1
      obtain⟨d0,d1,d2,-,-,-⟩:=(iE.next hY (by omega) hU2).1
      simp only[lJ]at d0 d1 d2;have hC2:=(iE.next hC (by omega) hU2).1
      have hbel2:Below w.heap.size w w2:=Xx hbelU hU2
      have hcq:0≤q-g.q:=by omega
      have hcq2:q-g.q≤x.q:=by omega
      have hxo:=hx.out;have hall':eN (flat [mD x (lJ x (q-g.q))]):=Mk fun y hy=>by
       rw[List.mem_singleton.1 hy];exact(adT (Gx (kO.1 hok).2.1 hxo) (by omega) hcut).1
      have hst':Cc l q (j+1) (jS g (lJ x (q-g.q))) [mD x (lJ x (q-g.q))]:=by
       have a3:=a3.out.out;rw[Gc hxo,kG,if_neg (by omega),if_pos hcut]at a3
       exact .inr ⟨by simp only[jS,lJ];omega,by rw[a3];rfl⟩
      have hst':=Lib.hid hst';have hown3:dJ w2 (w1.heap.size+2) 101 3 m' [mD x (lJ x (q-g.q))].length (flat [mD x (lJ x (q-g.q))]):=dJ.mono hown' (by omega)
      have hlt1:w1.heap.size+1<w2.heap.size:=by omega
      clear hown' hb1 hC hR hY hU2 hbelU hUs y0 y1 y2 x0 x1 x2 hX0 hX1 hX2 hxo;obtain⟨y0,y1,y2,x0,x1,x2⟩:=hC2;simp only[lJ]at hall' hst' hown3;generalize cV x.v (q-g.q) x.q=pv at *
      generalize cV x.p (q-g.q) x.q=pp at *
      go_wp2_with fail
      case' roundEnd =>
       refine⟨⟨j+1,⟨g.q+(q-g.q),g.v+pv,g.p+pp⟩,[mD x ⟨q-g.q,pv,pp⟩],hlt,by simp,?_,hall',by simp,⟨by go_simp,by go_simp,by go_simp,by go_simp,by go_simp,by go_simp⟩,⟨by go_simp,by go_simp,by go_simp,by go_simp,by go_simp,by go_simp⟩,by simp;omega,blw,by simp only;omega,hst'.out,fun h=>by simp at h⟩,?_⟩
       ·exact((hown3.set (b:=w1.heap.size+1) (by omega) _ _).set (b:=w1.heap.size+1) (by omega) _ _).set (b:=w1.heap.size+1) (by omega) _ _
       ·simp[intOf]
        omega
    ·go_wp2_with fail
     case' roundEnd =>
      have hxo:=hx.out;obtain⟨sq,sv,sp,e1,e2,e3,-⟩:=vU hok;have hst':Cc l q (j+1) (jS g x) []:=by
       have a3:=a3.out;rw[Gc hxo,kG,if_neg (by omega),if_neg hcut,show q-g.q-x.q=q-(jS g x).q from by simp[jS];omega]at a3
       rcases Int.lt_or_le (jS g x).q q with h|h
       ·exact .inl ⟨h,rfl,a3,qD e1 hxo a4.out,qD e2 hxo a5.out,qD e3 hxo a6.out⟩
       ·have hqq:(jS g x).q=q:=by simp only[jS]at h ⊢;omega
        rw[aap (r:=l.drop (j+1)) (a:=jS g x) (q:=q-(jS g x).q) (by omega)]at a3
        exact .inr ⟨hqq,by rw[a3];rfl⟩
      refine⟨⟨j+1,jS g x,[],hlt,by simp,?_,GR,by simp,⟨by go_simp,by go_simp,by go_simp,by go_simp,by go_simp,by go_simp⟩,⟨by simp only[jS];go_simp,by simp only[jS];go_simp,by simp only[jS];go_simp,by go_simp,by go_simp,by go_simp⟩,by simp;omega,blw,by simp only[jS];omega,hst',fun _=>rfl⟩,?_⟩
      ·exact(((hown.set (by omega) _ _).set (by omega) _ _).set (by omega) _ _).alloc _
      ·simp[intOf]
       omega
   ·have hz:q-g.q≤0:=by omega
    have b2:=Lib.hid b2;go_wp2_with (at_builtin;refine kM _ rfl _ _ 158 rfl (w1.heap.size+2) 101 3 Gb u10 mm.length (flat mm) rfl (hown.alloc _) _ 0 1 [x.q,x.v,x.p] rfl rfl (ajF (by simp[hWs])) ?c1 ?c2 ?_)
    case c1=>have:=(kO.1 hok).1;omega
    case c2=>simp[hWs];omega
    ·intro m' w2 hown' hb1
     have b2:=b2.out;have hx:=hx.out;have e1:flat mm++[x.q,x.v,x.p]=flat (mm++[x]):=by simp[flat]
     have e2:mm.length+1=(mm++[x]).length:=by simp
     rw[e1,e2]at hown';have hall':eN (flat (mm++[x])):=by rw[←e1];exact afy GR hall hx
     have hst':Cc l q (j+1) g (mm++[x]):=.inr ⟨b1,by rw[b2,Gc hx];simp⟩
     have hC0:iE w2 w.heap.size 0 0 0:=iE.behind ⟨r0,r1,r2,z0,z1,z2⟩ (by omega) (by omega) hb1
     have hC1:iE w2 (w1.heap.size+1) g.q g.v g.p:=iE.behind ⟨y0,y1,y2,x0,x1,x2⟩ (by omega) (by omega) hb1
     have hsz2:=hb1.size;have hbel':Below w.heap.size w w2:=(hbel.alloc (by omega) _).trans (hb1.mono (by omega))
     simp only[World.size_alloc]at hsz2;clear b2 hx hown hb1 e1 e2 r0 r1 r2 z0 z1 z2 y0 y1 y2 x0 x1 x2 c0 c1 c2 hbel;have hst':=Lib.hid hst';go_wp2
     go_roundw
     case rel=>exact⟨j+1,g,mm++[x],hlt,by go_num,hown',hall',by simp;omega,hC0,hC1,by omega,hbel',hg0,hst'.out,fun h=>by simp at h⟩
     case measure=>simp[intOf];omega
  ·have ej:j=l.length:=by omega
   subst ej;have hge:¬ ((l.length:Int)<(l.length:Int)):=by omega
   have hB:kG l .zero q=(mm,g):=by
    rcases hst with⟨a1,rfl,a3,a4,a5,a6⟩|⟨b1,b2⟩
    ·exfalso
     obtain⟨sq,sv,sp,e1,e2,e3,e4⟩:=vU hok;rw[List.take_of_length_le (by simp),e1]at a4
     rw[e4]at q2;have:=Option.some.inj a4
     simp only at q2
     omega
    ·rw[b2,List.drop_length,List.append_nil]
   obtain⟨m0,mc,rfl,hrow⟩:=hown.row GR;have hwh:B9 w a (.slice m0 mm.length mc):=B9.own hown (by omega)
   have ho:dZ l q=(mm,g,0):=by
    simp only[dZ,if_neg (show ¬ q<1 by omega),if_neg (show ¬ (xA l).q<q by omega),hB]
   clear hst hB hat;have hs0:w.heap.size<wr.heap.size:=by omega
   have hs1:w1.heap.size+1<wr.heap.size:=by omega
   have hne:w.heap.size≠w1.heap.size+1:=by omega
   go_wp2_with fail
   go_region_held3 (fun w'=>w'.cell? ⟨w1.heap.size+1,0,none⟩=some (.int .i64 g.q)∧w'.cell? ⟨w1.heap.size+1,1,none⟩=some (.int .i64 g.v)∧w'.cell? ⟨w1.heap.size+1,2,none⟩=some (.int .i64 g.p)) (go_keep) (fail)
   go_wp2
   have hres:=((((hown.set (b:=w.heap.size) (by omega) 0 (.int .i64 g.q)).set (b:=w.heap.size) (by omega) 1 (.int .i64 g.v)).set (b:=w.heap.size) (by omega) 2 (.int .i64 g.p)).drew).row GR
   have hbelF:Below w.heap.size w (((wr.setCell ⟨w.heap.size,0,none⟩ (.int .i64 g.q)).setCell ⟨w.heap.size,1,none⟩ (.int .i64 g.v)).setCell ⟨w.heap.size,2,none⟩ (.int .i64 g.p)).drew:=agY (cJ (cJ (cJ hbel 0 _) 1 _) 2 _)
   exact bodyPost_ret (v:=.tuple #[.slice m0 mm.length mc,g.val,.int .i64 0]) (by simp[results,Tryz.results215,go_sem,hs0,r0,r1,r2,z0,z1,z2]) rfl ⟨_,by rw[ho],by rw[ho];exact hres,hbelF,hwh⟩
end
section
open Mc
set_option maxRecDepth 1000000
theorem ahN {A:Nat→Prop} {w:World} {k:Nat} {aN:List (List AV)} {v:Value} (h:@dG dI dN A w (.lit k aN) v):aN=[]∨∃b off cap,v=.slice (some ⟨b,off,none⟩) aN.length cap∧¬ A b∧b<w.heap.size:=by
 cases h with
 |lit s es b off cap vs hA hb hc hsz h1 hv hr=>exact .inr ⟨b,off,cap,rfl,hA,hb⟩
 |nG s a cap hm=>exact .inl rfl
theorem aaF {A:Nat→Prop} {w':World} {l:List bB} {a:Option Addr} {cap:Nat} (R:Row w' 3 a l.length cap (flat l)) (hb:∀b off,a=some ⟨b,off,none⟩→l≠[]→¬ A b):@dG dI dN A w' (.lit 3 (aO l)) (.slice a l.length cap):=by
 rw[Ot];have hl:(l.map bB.r).length=l.length:=by simp
 obtain⟨-,hc,hm,-,hat⟩:=R;rw[←hl]at hc ⊢;refine vW (by intro r hr;obtain⟨x,-,rfl⟩:=List.mem_map.1 hr;rfl) hc hm ?_
 rw[hl,Sz];rcases hat with h|⟨b,off,h1,h2,h3⟩
 ·exact .inl h
 ·by_cases hn:l=[]
  ·exact .inl (by rw[hn];rfl)
  ·exact .inr ⟨b,off,h1,hb b off h1 hn,h2,h3⟩
theorem yC {l:List bB} (hI:eN (flat l)):Ck 198 [.lit 3 (aO l)] (.aZ [(xA l).av,.i (EO l)]):=by
 refine⟨aX (tQ _).lit eM,.aZ _ (aX (Mv _) (aX (.c _) eM)),?_⟩
 intro A w vs hA hG hl hv;have hvs:=pO hl;generalize vs.getD 0 Go.undef=v0 at hvs
 subst hvs;obtain⟨a,cap,rfl,R⟩:=BB (hv 0 _ rfl) hI
 refine(qL a cap l w R).mono ?_
 rintro e w' ⟨rfl,hb⟩
 exact⟨_,rfl,kC (Lh _) mZ,hb⟩
theorem DK {l:List bB} (hI:eN (flat l)) (hn:l.length≤1000):Ck 199 [.lit 3 (aO l)] (.c (.bool (kP l))):=by
 refine⟨aX (tQ _).lit eM,.c _,?_⟩
 intro A w vs hA hG hl hv;have hvs:=pO hl;generalize vs.getD 0 Go.undef=v0 at hvs
 subst hvs;obtain⟨a,cap,rfl,R⟩:=BB (hv 0 _ rfl) hI
 refine(Rp a cap l w R hn).mono ?_
 rintro e w' ⟨rfl,hb⟩
 exact⟨_,rfl,@dG.c dI dN A w' _,hb⟩
theorem Pa {l:List bB} (hI:eN (flat l)) (hok:l.all iA=true):Ck 197 [.lit 3 (aO l)] (.aZ [.i (cU (l.map fP)),.i (cY (l.map fP))]):=by
 refine⟨aX (tQ _).lit eM,.aZ _ (aX (.c _) (aX (.c _) eM)),?_⟩
 intro A w vs hA hG hl hv;have hvs:=pO hl;generalize vs.getD 0 Go.undef=v0 at hvs
 subst hvs;obtain⟨a,cap,rfl,R⟩:=BB (hv 0 _ rfl) hI
 refine(HJ a cap l w R hok).mono ?_
 rintro e w' ⟨rfl,hb⟩
 exact⟨_,rfl,kC mZ mZ,hb⟩
theorem acR {q:Int}:(dZ [] q).1=[]:=by
 unfold dZ;split
 ·rfl
 ·split
  ·rfl
  ·rename_i h1 h2
   exact absurd (by simp[xA,kZ,cU,cY,bS];omega) h2
theorem Iv {l:List bB} (h:LR l) {q:Int} (hq:iM q):Ck 215 [.lit 3 (aO l),.i q] (.aZ [.lit 3 (aO (dZ l q).1),(dZ l q).2.1.av,.i (dZ l q).2.2]):=by
 refine⟨aX (tQ _).lit (aX (.c _) eM),.aZ _ (aX (tQ _).lit (aX (Mv _) (aX (.c _) eM))),?_⟩
 intro A w vs hA hG hl hv;have hvs:=EM hl;generalize vs.getD 0 Go.undef=v0 at hvs
 generalize vs.getD 1 Go.undef=v1 at hvs
 subst hvs;have hat:=ahN (hv 0 _ rfl)
 obtain⟨a,cap,e0,R⟩:=BB (hv 0 _ rfl) (Mk h.ok)
 have e0':v0=.slice a l.length cap:=e0
 subst e0';obtain rfl:v1=_:=aaj (hv 1 _ rfl)
 refine(ab5 a cap l w R h.right q hq).mono ?_
 rintro e w' ⟨v,rfl,⟨a',cap',rfl,R'⟩,hb,hw⟩
 refine⟨_,rfl,ab6 (aaF R' ?_) (Lh _) mZ,hb⟩
 intro b off h1 h2;subst h1;rcases hw _ _ _ rfl with h3|h3
 ·rcases hat with h4|⟨b',off',cap2,h4,h5,h6⟩
  ·have:l=[]:=by simpa[aO]using h4
   subst this;exact absurd acR h2
  ·have h4:Value.slice a l.length cap=.slice (some ⟨b',off',none⟩) (aO l).length cap2:=h4
   simp only[Value.slice.injEq]at h4;have:=h3.trans h4.1
   cases this;exact h5
 ·intro hAb
  have:=hA b hAb
  simp only at h3
  omega
theorem CV (l:List bB) (x:bB):aO (l++[x])=aO l++[lY x.r]:=by simp[aO]
theorem Ml {l:List bB} (h:∀x∈l,eN [x.q,x.v,x.p]):eN (flat l):=by
 intro z hz;obtain⟨x,hx,hz⟩:=List.mem_flatMap.1 hz;exact h x hx z hz
theorem T8 {x:bB} (h:iA x=true):eN [x.q,x.v,x.p]:=by
 have:=dK.1 h
 intro z hz;simp only[List.mem_cons,List.not_mem_nil,or_false]at hz;rcases hz with rfl|rfl|rfl<;>exact⟨by omega,by omega⟩
section
variable {L:List bB} {q v z:Int}
theorem abL (h:LR L) (hx:eN [q,v,z]):eN (flat (L++[⟨q,v,z⟩])):=Ml fun x hx'=>by
 rcases List.mem_append.1 hx' with h'|h'
 ·exact T8 (h.ok x h')
 ·rw[List.mem_singleton]at h';subst h';exact hx
theorem ad4 (h:LR L) (hx:eN [q,v,z]):Ck 225 [.lit 3 (aO L),bB.av ⟨q,v,z⟩] (.aZ [.lit 3 (aO (Ay L ⟨q,v,z⟩).1),.i (Ay L ⟨q,v,z⟩).2]):=by
 have hl:=h.len;have hq:=hx q (by simp);have hv:=hx v (by simp)
 have:=hq.lo;have:=hq.hi;have:=hv.lo;have:=hv.hi
 have hr:=DK (abL h hx) (by simp;omega)
 unfold Ay;rcases(by omega:q≤0∨(1≤q∧v≤-1)∨(1≤q∧0≤v))with h1|h1|h1
 ·rw[if_pos (.inl (by simp only;omega))];exact cw _ (ev1 { vars:=YR,lens:=W2 } [(L.length:Int),q,v] [.I z] [aO L] .nil) UA Wr kn
 ·rw[if_pos (.inr (by simp only;omega))];exact cw _ (ev1 { vars:=Zg,lens:=W2 } [(L.length:Int),q,v] [.I z] [aO L] .nil) UA Wr kn
 rw[if_neg (by simp only;omega)]
 by_cases h2:30≤L.length
 ·rw[if_pos h2];exact cw _ (ev1 { vars:=[(30,30),(1,9223372036854775807),(0,9223372036854775807)],lens:=W2 } [(L.length:Int),q,v] [.I z] [aO L] .nil) UA (.aZ [.q 3 0,.i 6]) kn
 rw[if_neg h2];generalize kP (L++[⟨q,v,z⟩])=b at *
 rw[CV]at hr;cases b with
 |false=>rw[if_neg (by simp)];exact cw _ (ev1 { vars:=Zn,lens:=W2,bT:=Q5 } [(L.length:Int),q,v] [.I z] [aO L] .nil) UA (.aZ [.q 3 0,.i 2]) (kc hr kn)
 |true=>rw[if_pos rfl];simp only[CV];exact cw _ (ev1 { vars:=Zn,lens:=W2,bT:=[Zh] } [(L.length:Int),q,v] [.I z] [aO L] .nil) UA (.aZ [(.seq 3 0 [] [[.v 1,.v 2,.o 0]]),.i 0]) (kc hr kn)
theorem Gk (h:LR L) (h1:L.length≤1) (hx:eN [q,v,z]):Ck 226 [.lit 3 (aO L),bB.av ⟨q,v,z⟩] (.aZ [.lit 3 (aO (Az L ⟨q,v,z⟩).1),.i (Az L ⟨q,v,z⟩).2]):=by
 have hl:=h.len;have hq:=hx q (by simp);have hv:=hx v (by simp)
 have:=hq.lo;have:=hq.hi;have:=hv.lo;have:=hv.hi
 have hr:=DK (abL h hx) (by simp;omega)
 have ht:=yC (abL h hx)
 unfold Az Ay;rcases(by omega:q≤0∨(1≤q∧v≤-1)∨(1≤q∧0≤v))with h1|h1|h1
 ·simp only[if_pos (show q<1∨v<0 from .inl (by omega))];exact cw _ (ev1 { vars:=YR,lens:=W2 } [(L.length:Int),q,v] [.I z] [aO L] .nil) UA Wr kn
 ·simp only[if_pos (show q<1∨v<0 from .inr (by omega))];exact cw _ (ev1 { vars:=Zg,lens:=W2 } [(L.length:Int),q,v] [.I z] [aO L] .nil) UA Wr kn
 simp only[if_neg (show ¬(q<1∨v<0)by omega),if_neg (show ¬ 30≤L.length by omega)]
 rw[CV]at hr ht;by_cases hb:kP (L++[⟨q,v,z⟩])=true
 ·rw[(LR.of hb).xA.2]at ht
  rw[hb]at hr;simp only[hb,if_true];generalize xA (L++[⟨q,v,z⟩])=t at *
  obtain⟨t0,t1,t2⟩:=t;exact cw _ (ev1 { vars:=Zo,lens:=W2,bT:=[Zh,(198,Ud,(.aZ [(.agg [.o 1,.o 2,.o 3]),.i 0]))] } [(L.length:Int),q,v] [.I z,.I t0,.I t1,.I t2] [aO L] .nil) UA (.aZ [(.lit 3 [[.o 1,.o 2,.o 3]]),.i 0]) (kc hr (kc ht kn))
 ·have hb:kP (L++[⟨q,v,z⟩])=false:=by simpa using hb
  rw[hb]at hr;simp only[hb,Bool.false_eq_true,if_false];exact cw _ (ev1 { vars:=Zo,lens:=W2,bT:=Q5 } [(L.length:Int),q,v] [.I z] [aO L] .nil) UA (.aZ [.q 3 0,.i 2]) (kc hr kn)
theorem BT {a b c:Int} (ha:iM a) (hb:iM b) (hc:iM c):Ck 148 [.i a,.i b,.i c] (.aZ [.i (Ob a b c),.i (T0 a b c),.i (T4 a b c)]) :=
 ⟨aX (.c _) (aX (.c _) (aX (.c _) eM)),.aZ _ (aX (.c _) (aX (.c _) (aX (.c _) eM))),@agM dI dN _ [.int .i64 a,.int .i64 b,.int .i64 c] [.int .i64 (Ob a b c),.int .i64 (T0 a b c),.int .i64 (T4 a b c)] (fun w=>(vV a b c w ha hb hc).mono fun e w' h=>⟨h.1,h.2▸Below.refl _ _⟩) (by simp)⟩
theorem AF {v q n:Int} (hv:iM v) (hq:iM q) (hn:iM n):Ck 149 [.i v,.i q,.i n] (.i (cV v q n)) :=
 ⟨aX (.c _) (aX (.c _) (aX (.c _) eM)),.c _,@ahZ dI dN _ [.int .i64 v,.int .i64 q,.int .i64 n] _ fun w=>(Ns v q n w hv hq hn).mono fun e w' h=>⟨h.1,h.2▸Below.refl _ _⟩⟩
variable {p0 p1 p2 c:Int}
theorem ad3 {m:Int} (hm:1≤m∧m≤4) (h:LR L) (h1:m=1∨L.length≤1) (hx:eN [q,v,z]) (hc:0≤c∧c≤1073741824) :
  Ck 196 [.i m,.i c,dA.av ⟨L,p0,p1,p2⟩,bB.av ⟨q,v,z⟩] (.aZ [dA.av ⟨(dR m c L ⟨q,v,z⟩).1,p0,p1,p2⟩,.i (dR m c L ⟨q,v,z⟩).2.1,.i (dR m c L ⟨q,v,z⟩).2.2]):=by
 have hl:=h.len;have hq:=hx q (by simp);have hv:=hx v (by simp)
 have:=hq.lo;have:=hq.hi;have:=hv.lo;have:=hv.hi
 have er {x:bB}:=@Oz L x
 have no {x:bB}:=@adu L x
 have nm {x:bB}:=@Sr L x
 have em {x:bB}:0≤(Az L x).2∧(Az L x).2≤20:=by unfold Az;split;exact⟨by simp,by simp⟩;exact Oz
 have ln {x:bB}:=(adv (x:=x) h).len
 have lm {x:bB}:=(Md (x:=x) h).len
 have hm4:m=1∨m=2∨m=3∨m=4:=by omega
 unfold dR;rcases hm4 with rfl|rfl|rfl|rfl
 ·have hi:=ad4 h hx
  simp only[if_true];have er:=er (x:=⟨q,v,z⟩);have no:=no (x:=⟨q,v,z⟩);have ln:=ln (x:=⟨q,v,z⟩)
  generalize Ay L ⟨q,v,z⟩=r at *
  obtain⟨L2,f⟩:=r;simp only at *
  by_cases h0:f=0
  ·subst h0;exact cw _ (ev1 { vars:=[(0,30),(0,30)],lens:=UR,bT:=[(225,UB,Ws)] } [(L.length:Int),(L2.length:Int)] [.I p0,.I p1,.I p2,.I q,.I v,.I c,.I z] [aO L,aO L2] .nil) QM Ya (kc hi kn)
  ·rw[no h0];exact cw _ (ev1 { vars:=V8,lens:=UR,bT:=[(225,UB,(.aZ [.q 3 1,.v 2]))] } [(L.length:Int),(L2.length:Int),f] [.I p0,.I p1,.I p2,.I q,.I v,.I c,.I z] [aO L,aO L2] .nil) QM Yb (kc hi kn)
 all_goals (have h1:L.length≤1:=by omega)
 ·have hi:=Gk h h1 hx
  simp only[show ¬((2:Int)=1)by decide,if_false,if_true]
  have er:=em (x:=⟨q,v,z⟩);have no:=nm (x:=⟨q,v,z⟩);have ln:=lm (x:=⟨q,v,z⟩)
  generalize Az L ⟨q,v,z⟩=r at *
  obtain⟨L2,f⟩:=r;simp only at *
  by_cases h0:f=0
  ·subst h0;exact cw _ (ev1 { vars:=[(0,30),(0,30)],lens:=UR,bT:=Q6 } [(L.length:Int),(L2.length:Int)] [.I p0,.I p1,.I p2,.I q,.I v,.I c,.I z] [aO L,aO L2] .nil) QN Ya (kc hi kn)
  ·rw[no h0];exact cw _ (ev1 { vars:=V8,lens:=UR,bT:=Q7 } [(L.length:Int),(L2.length:Int),f] [.I p0,.I p1,.I p2,.I q,.I v,.I c,.I z] [aO L,aO L2] .nil) QN Yb (kc hi kn)
 ·have hi:=Gk h h1 hx
  simp only[show ¬((3:Int)=1)by decide,show ¬((3:Int)=2)by decide,if_false,if_true]
  have er:=em (x:=⟨q,v,z⟩);have no:=nm (x:=⟨q,v,z⟩);have ln:=lm (x:=⟨q,v,z⟩)
  generalize Az L ⟨q,v,z⟩=r at *
  obtain⟨L2,f⟩:=r;simp only at *
  by_cases h0:f=0
  ·subst h0;exact cw _ (ev1 { vars:=[(0,30),(0,30)],lens:=UR,bT:=Q6 } [(L.length:Int),(L2.length:Int)] [.I p0,.I p1,.I p2,.I q,.I v,.I c,.I z] [aO L,aO L2] .nil) QO Ya (kc hi kn)
  ·rw[no h0];exact cw _ (ev1 { vars:=V8,lens:=UR,bT:=Q7 } [(L.length:Int),(L2.length:Int),f] [.I p0,.I p1,.I p2,.I q,.I v,.I c,.I z] [aO L,aO L2] .nil) QO Yb (kc hi kn)
 ·simp only[show ¬((4:Int)=1)by decide,show ¬((4:Int)=2)by decide,show ¬((4:Int)=3)by decide,if_false,if_true]
  have hf:wV c=true:=C0.2 hc
  unfold inC;rcases(by omega:q≤0∨(1≤q∧v≤-1)∨(1≤q∧0≤v))with g1|g1|g1
  ·simp only[if_pos (show wV c=false∨q<1∨v<0 from .inr (.inl (by omega)))];exact cw _ (ev1 { vars:=[(0,30),(-9223372036854775808,0),zK,(0,1073741824)],lens:=W2 } [(L.length:Int),q,v,c] [.I p0,.I p1,.I p2,.I z] [aO L] .nil) QP Yc kn
  ·simp only[if_pos (show wV c=false∨q<1∨v<0 from .inr (.inr (by omega)))];exact cw _ (ev1 { vars:=[(0,30),(1,9223372036854775807),(-9223372036854775808,-1),(0,1073741824)],lens:=W2 } [(L.length:Int),q,v,c] [.I p0,.I p1,.I p2,.I z] [aO L] .nil) QP Yc kn
  simp only[if_neg (show ¬(wV c=false∨q<1∨v<0)by rw[hf];rintro(h|h|h)<;>first|cases h|omega)]
  have hm:=BT (a:=q) (b:=c) (c:=1) hq ⟨by omega,by omega⟩ ⟨by omega,by omega⟩
  obtain⟨o0,o1,o2⟩:=ac8 (q:=q) hf
  rw[show Ob q c 1=H9 c q by unfold H9;rw[show max q 0=q by omega],show T4 q c 1=ofE c q by unfold ofE;rw[show max q 0=q by omega]]at hm
  generalize T0 q c 1=r at hm
  generalize H9 c q=o at *;generalize ofE c q=f at *;rcases o2 with rfl|rfl;rotate_left
  ·simp only[if_pos (show(2:Int)≠0∨288230376151711744<v from .inl (by decide))]
   obtain⟨f,hf⟩:∃f:Int,f=2:=⟨_,rfl⟩
   rw[←hf]at hm;exact cw _ (ev1 { vars:=[(0,30),(1,9223372036854775807),(0,9223372036854775807),(0,1073741824),(0,288230376151711744),(1,20)],lens:=W2,bT:=[(148,[.v 1,.v 3,.i 1],(.aZ [.v 4,.o 4,.v 5]))] } [(L.length:Int),q,v,c,o,f] [.I p0,.I p1,.I p2,.I z,.I r] [aO L] .nil) QP Yd (kc hm kn)
  by_cases g2:288230376151711744<v
  ·simp only[if_pos (show(0:Int)≠0∨288230376151711744<v from .inr g2)];exact cw _ (ev1 { vars:=[(0,30),(1,9223372036854775807),(288230376151711745,9223372036854775807),(0,1073741824),(0,288230376151711744)],lens:=W2,bT:=[Yl] } [(L.length:Int),q,v,c,o] [.I p0,.I p1,.I p2,.I z,.I r] [aO L] .nil) QP Yd (kc hm kn)
  simp only[if_neg (show ¬((0:Int)≠0∨288230376151711744<v)by omega)]
  have hi:=Gk (q:=q) (v:=o) (z:=z) h h1 (by
   intro y hy;simp only[List.mem_cons,List.not_mem_nil,or_false]at hy;rcases hy with rfl|rfl|rfl
   ·exact hq
   ·exact⟨by omega,by omega⟩
   ·exact hx y (by simp))
  have er:=em (x:=⟨q,o,z⟩);have no:=nm (x:=⟨q,o,z⟩);have ln:=lm (x:=⟨q,o,z⟩)
  generalize Az L ⟨q,o,z⟩=r at *
  obtain⟨L2,f⟩:=r;simp only at *
  by_cases h0:f=0
  ·subst h0;simp only[if_true];exact cw _ (ev1 { vars:=[(0,30),(1,9223372036854775807),(0,288230376151711744),(0,1073741824),(0,288230376151711744),(0,30)],lens:=[(0,[([0],1)]),(1,[([5],1)])],bT:=[Yl,(226,[.q 3 0,(.agg [.v 1,.v 4,.o 3])],Ws)] } [(L.length:Int),q,v,c,o,(L2.length:Int)] [.I p0,.I p1,.I p2,.I z,.I r] [aO L,aO L2] .nil) QP (.aZ [UK,(.e [([2],1),([4],(-1))]),.i 0]) (kc hm (kc hi kn))
  ·simp only[if_neg h0];exact cw _ (ev1 { vars:=[(0,30),(1,9223372036854775807),(0,288230376151711744),(0,1073741824),(0,288230376151711744),(0,30),(1,20)],lens:=[(0,[([0],1)]),(1,[([5],1)])],bT:=[Yl,(226,[.q 3 0,(.agg [.v 1,.v 4,.o 3])],(.aZ [.q 3 1,.v 6]))] } [(L.length:Int),q,v,c,o,(L2.length:Int),f] [.I p0,.I p1,.I p2,.I z,.I r] [aO L,aO L2] .nil) QP (.aZ [UJ,.i 0,.v 6]) (kc hm (kc hi kn))
theorem aa0 {m kind:Int} (hm:1≤m∧m≤4) (h:LR L) (h1:m=1∨L.length≤1) (hd:aeq ⟨p0,p1,p2⟩) (hq:iM q) (hk:0≤kind∧kind≤3) (hc:0≤c∧c≤1073741824) :
  Ck 238 [.i m,.i c,dA.av ⟨L,p0,p1,p2⟩,.i kind,.i q] (.aZ [dA.av ⟨(bZ m c L ⟨p0,p1,p2⟩ kind q).1,(bZ m c L ⟨p0,p1,p2⟩ kind q).2.1.a,(bZ m c L ⟨p0,p1,p2⟩ kind q).2.1.b,(bZ m c L ⟨p0,p1,p2⟩ kind q).2.1.c⟩,(bZ m c L ⟨p0,p1,p2⟩ kind q).2.2.1.av,.c (.bool (bZ m c L ⟨p0,p1,p2⟩ kind q).2.2.2.1),.i (bZ m c L ⟨p0,p1,p2⟩ kind q).2.2.2.2]):=by
 have hl:=h.len;have:=hq.lo;have:=hq.hi
 obtain⟨a0,b0,c0,a1,b1,c1⟩:=hd;simp only at a0 b0 c0 a1 b1 c1
 have ho:=Iv h hq;have F:=RX h (q:=q)
 have Fv:=NO h (q:=q)
 have Fi:=acS h (q:=q)
 have Fl:=(pN (q:=q) h).len
 have Fn:=FH (l:=L) (q:=q)
 have Fp:(-288230376151711744≤ps (dZ L q).1∧ps (dZ L q).1≤288230376151711744)∧0≤vs (dZ L q).1:=by
  have k:=pN (q:=q) h
  have:=HO (dZ L q).1;have:=k.p;have:=(qO k.ok).2
  omega
 have hT:=yC (Ml fun x hx=>T8 (h.ok x hx))
 rw[h.xA.1,h.xA.2]at hT;obtain⟨tb0,tb1,tb2⟩:=h.bds;have:=qO h.ok;have:=h.q;have:=h.v;have:=h.p;have:=HO L
 have hf:OH L ⟨p0,p1,p2⟩=qs L-p0-p1-p2:=rfl
 have hm4:m=1∨m=2∨m=3∨m=4:=by omega
 unfold bZ;rw[if_neg (by omega),if_neg (by omega)]
 rcases hm4 with rfl|rfl|rfl|rfl
 ·rw[if_neg (by omega)]
  simp only[fG,show ¬((1:Int)=3)by decide,show ¬((1:Int)=4)by decide,if_false]
  generalize dZ L q=r at *;obtain⟨L2,⟨xq,xv,xp⟩,f⟩:=r
  simp only at *
  rcases F with⟨rfl,-⟩|⟨hf,hL,hz⟩
  ·exact cw _ (ev1 { vars:=Ji,lens:=US,bT:=QQ } [(L.length:Int),q,kind,(L2.length:Int),xq,xv,xp] [.I p0,.I p1,.I p2,.I c] [aO L,aO L2] .nil) ZE JC (kc ho kn)
  ·simp only[bB.zero,bB.mk.injEq]at hz;obtain⟨z1,z2,z3⟩:=hz;rw[hL,z1,z2,z3];exact cw _ (ev1 { vars:=K8,lens:=US,bT:=QR } [(L.length:Int),q,kind,(L2.length:Int),xq,xv,xp,f] [.I p0,.I p1,.I p2,.I c] [aO L,aO L2] .nil) ZE JD (kc ho kn)
 ·rw[if_neg (by omega)]
  simp only[fG,show ¬((2:Int)=3)by decide,show ¬((2:Int)=4)by decide,if_false]
  generalize dZ L q=r at *;obtain⟨L2,⟨xq,xv,xp⟩,f⟩:=r
  simp only at *
  rcases F with⟨rfl,-⟩|⟨hf,hL,hz⟩
  ·exact cw _ (ev1 { vars:=Ji,lens:=US,bT:=QQ } [(L.length:Int),q,kind,(L2.length:Int),xq,xv,xp] [.I p0,.I p1,.I p2,.I c] [aO L,aO L2] .nil) ZF JC (kc ho kn)
  ·simp only[bB.zero,bB.mk.injEq]at hz;obtain⟨z1,z2,z3⟩:=hz;rw[hL,z1,z2,z3];exact cw _ (ev1 { vars:=K8,lens:=US,bT:=QR } [(L.length:Int),q,kind,(L2.length:Int),xq,xv,xp,f] [.I p0,.I p1,.I p2,.I c] [aO L,aO L2] .nil) ZF JD (kc ho kn)
 ·have h3:L.length≤1:=by omega
  obtain⟨tq,htq⟩:∃t,t=qs L:=⟨_,rfl⟩
  obtain⟨tv,htv⟩:∃t,t=vs L:=⟨_,rfl⟩
  obtain⟨tp,htp⟩:∃t,t=ps L:=⟨_,rfl⟩
  have ht:=hT;rw[←htq,←htv,←htp]at ht;have hk4:kind=0∨kind=1∨kind=2∨kind=3:=by omega
  by_cases hq1:q<1
  ·rcases hk4 with rfl|rfl|rfl|rfl
   ·simp only[pH,if_pos (show(3:Int)=3∧(0:Int)≠3 by decide),if_pos (show(0:Int)<0∨3≤(0:Int)∨q<1 by omega)];exact cw _ (ev1 { vars:=Us,lens:=W2 } [(L.length:Int),q] [.I p0,.I p1,.I p2,.I c] [aO L] .nil) [.i 3,.o 3,UJ,.i 0,.v 1] JE kn
   ·simp only[pH,if_pos (show(3:Int)=3∧(1:Int)≠3 by decide),if_pos (show(1:Int)<0∨3≤(1:Int)∨q<1 by omega)];exact cw _ (ev1 { vars:=Us,lens:=W2 } [(L.length:Int),q] [.I p0,.I p1,.I p2,.I c] [aO L] .nil) [.i 3,.o 3,UJ,.i 1,.v 1] JE kn
   ·simp only[pH,if_pos (show(3:Int)=3∧(2:Int)≠3 by decide),if_pos (show(2:Int)<0∨3≤(2:Int)∨q<1 by omega)];exact cw _ (ev1 { vars:=Us,lens:=W2 } [(L.length:Int),q] [.I p0,.I p1,.I p2,.I c] [aO L] .nil) [.i 3,.o 3,UJ,.i 2,.v 1] JE kn
   ·simp only[fG,Ar,if_neg (show ¬((3:Int)=3∧(3:Int)≠3)by decide),if_true,if_pos hq1];exact cw _ (ev1 { vars:=Us,lens:=W2 } [(L.length:Int),q] [.I p0,.I p1,.I p2,.I c] [aO L] .nil) [.i 3,.o 3,UJ,.i 3,.v 1] JE kn
  by_cases hq2:qs L-p0-p1-p2<q
  ·rcases hk4 with rfl|rfl|rfl|rfl
   ·simp only[pH,hf,if_pos (show(3:Int)=3∧(0:Int)≠3 by decide),if_neg (show ¬((0:Int)<0∨3≤(0:Int)∨q<1)by omega),if_pos hq2];exact cw _ (ev1 { vars:=KN,facts:=Qc,lens:=W2,bT:=Zt } [(L.length:Int),p0,p1,p2,tq,tv,tp,q] [.I c] [aO L] .nil) ZH JF (kc ht kn)
   ·simp only[pH,hf,if_pos (show(3:Int)=3∧(1:Int)≠3 by decide),if_neg (show ¬((1:Int)<0∨3≤(1:Int)∨q<1)by omega),if_pos hq2];exact cw _ (ev1 { vars:=KN,facts:=Qc,lens:=W2,bT:=Zt } [(L.length:Int),p0,p1,p2,tq,tv,tp,q] [.I c] [aO L] .nil) ZI JF (kc ht kn)
   ·simp only[pH,hf,if_pos (show(3:Int)=3∧(2:Int)≠3 by decide),if_neg (show ¬((2:Int)<0∨3≤(2:Int)∨q<1)by omega),if_pos hq2];exact cw _ (ev1 { vars:=KN,facts:=Qc,lens:=W2,bT:=Zt } [(L.length:Int),p0,p1,p2,tq,tv,tp,q] [.I c] [aO L] .nil) ZJ JF (kc ht kn)
   ·simp only[fG,Ar,hf,if_neg (show ¬((3:Int)=3∧(3:Int)≠3)by decide),if_true,if_neg hq1,if_pos hq2];exact cw _ (ev1 { vars:=KN,facts:=Qc,lens:=W2,bT:=Zt } [(L.length:Int),p0,p1,p2,tq,tv,tp,q] [.I c] [aO L] .nil) ZK JF (kc ht kn)
  ·rcases hk4 with rfl|rfl|rfl|rfl
   ·simp only[pH,vG.add,hf,if_pos (show(3:Int)=3∧(0:Int)≠3 by decide),if_neg (show ¬((0:Int)<0∨3≤(0:Int)∨q<1)by omega),if_neg hq2,if_true];exact cw _ (ev1 { vars:=KP,facts:=Qv,lens:=W2,bT:=Zt } [(L.length:Int),p0,p1,p2,tq,tv,tp,q] [.I c] [aO L] .nil) ZH (.aZ [(.agg [.q 3 0,(.e [([1],1),([7],1)]),.v 2,.v 3]),VJ,WP,.i 0]) (kc ht kn)
   ·simp only[pH,vG.add,hf,if_pos (show(3:Int)=3∧(1:Int)≠3 by decide),if_neg (show ¬((1:Int)<0∨3≤(1:Int)∨q<1)by omega),if_neg hq2,if_neg (show ¬((1:Int)=0)by decide),if_true];exact cw _ (ev1 { vars:=KP,facts:=Qv,lens:=W2,bT:=Zt } [(L.length:Int),p0,p1,p2,tq,tv,tp,q] [.I c] [aO L] .nil) ZI (.aZ [(.agg [.q 3 0,.v 1,(.e [([2],1),([7],1)]),.v 3]),VJ,WP,.i 0]) (kc ht kn)
   ·simp only[pH,vG.add,hf,if_pos (show(3:Int)=3∧(2:Int)≠3 by decide),if_neg (show ¬((2:Int)<0∨3≤(2:Int)∨q<1)by omega),if_neg hq2,if_neg (show ¬((2:Int)=0)by decide),if_neg (show ¬((2:Int)=1)by decide),if_true];exact cw _ (ev1 { vars:=KP,facts:=Qv,lens:=W2,bT:=Zt } [(L.length:Int),p0,p1,p2,tq,tv,tp,q] [.I c] [aO L] .nil) ZJ (.aZ [(.agg [.q 3 0,.v 1,.v 2,(.e [([3],1),([7],1)])]),VJ,WP,.i 0]) (kc ht kn)
   ·simp only[fG,Ar,hf,if_neg (show ¬((3:Int)=3∧(3:Int)≠3)by decide),if_true,if_neg hq1,if_neg hq2]
    generalize dZ L q=r at *;obtain⟨L2,⟨xq,xv,xp⟩,f⟩:=r
    simp only at *
    rcases F with⟨rfl,-⟩|⟨hf,-⟩
    ·exact cw _ (ev1 { vars:=[(0,30),(0,288230376151711744),(0,288230376151711744),(0,288230376151711744),(0,288230376151711744),(0,288230376151711744),wZ,(1,288230376151711744),(0,30),(0,288230376151711744),(0,288230376151711744),(-576460752303423488,576460752303423488)],facts:=Qv,lens:=[(0,[([0],1)]),(1,[([8],1)])],bT:=[ZG,(215,[.q 3 0,.v 7],(.aZ [.q 3 1,(.agg [.v 9,.v 10,.v 11]),.i 0]))] } [(L.length:Int),p0,p1,p2,tq,tv,tp,q,(L2.length:Int),xq,xv,xp] [.I c] [aO L,aO L2] .nil) ZK (.aZ [(.agg [.q 3 1,.v 1,.v 2,.v 3]),(.agg [.v 9,.v 10,.v 11]),WH,.i 0]) (kc ht (kc ho kn))
    ·omega
 ·have h3:L.length≤1:=by omega
  have hfit:wV c=true:=C0.2 hc
  rw[if_neg (by omega)]
  simp only[fG,show ¬((4:Int)=3)by decide,if_false,if_true]
  unfold Bn;rw[if_neg (by rw[hfit];simp)]
  have hm:=BT (a:=q) (b:=c) (c:=1) hq ⟨by omega,by omega⟩ ⟨by omega,by omega⟩
  obtain⟨o0,o1,o2⟩:=ac8 (q:=q) hfit
  obtain⟨tq,htq⟩:∃t,t=qs L:=⟨_,rfl⟩
  obtain⟨tv,htv⟩:∃t,t=vs L:=⟨_,rfl⟩
  obtain⟨tp,htp⟩:∃t,t=ps L:=⟨_,rfl⟩
  have ht:=hT;rw[←htq,←htv,←htp]at ht;generalize dZ L q=r at *;obtain⟨L2,⟨xq,xv,xp⟩,f⟩:=r
  simp only at *
  rcases F with⟨rfl,g1,g2,g3,g4,g5,g6⟩|⟨hf,hL,hz⟩
  rotate_left
  ·simp only[bB.zero,bB.mk.injEq]at hz
   obtain⟨z1,z2,z3⟩:=hz;have W:Ck 238 [.i 4,.i c,dA.av ⟨L,p0,p1,p2⟩,.i kind,.i q] (.aZ [dA.av ⟨L,p0,p1,p2⟩,bB.av ⟨0,0,0⟩,.c (.bool false),.i f]):=cw _ (ev1 { vars:=[(0,30),(0,1073741824),zK,(0,3),(0,30),(0,288230376151711744),(0,288230376151711744),(-576460752303423488,576460752303423488),(1,20)],lens:=UT,bT:=[(215,[.q 3 0,.v 2],(.aZ [.q 3 1,VK,.v 8]))] } [(L.length:Int),c,q,kind,(L2.length:Int),xq,xv,xp,f] [.I p0,.I p1,.I p2] [aO L,aO L2] .nil) ZL (.aZ [UJ,VJ,WH,.v 8]) (kc ho kn)
   rw[z1,z2,z3];cases L2 with
   |nil=>subst hL;exact W
   |cons z t=>simp only[if_pos (show f≠0 by omega)];subst hL;exact W
  rw[show Ob q c 1=H9 c q by unfold H9;rw[show max q 0=q by omega],show T4 q c 1=ofE c q by unfold ofE;rw[show max q 0=q by omega]]at hm
  generalize T0 q c 1=r at hm
  generalize H9 c q=o at *;generalize ofE c q=f at *;match L2,Fn with
  |[],Fn =>
   show Ck 238 [.i 4,.i c,dA.av ⟨L,p0,p1,p2⟩,.i kind,.i q] (.aZ [dA.av ⟨[],p0,p1,p2⟩,bB.av ⟨xq,xv,xp⟩,.c (.bool false),.i 0])
   obtain⟨L2,hL2⟩:∃L2:List bB,L2=[]:=⟨_,rfl⟩
   rw[←hL2]at ho ⊢;have hL2:L2.length=0:=by rw[hL2];rfl
   exact cw _ (ev1 { vars:=[(0,30),(0,1073741824),(1,288230376151711744),(0,3),(0,0),(0,288230376151711744),(0,288230376151711744),(-576460752303423488,576460752303423488)],lens:=UT,bT:=[Q0] } [(L.length:Int),c,q,kind,(L2.length:Int),xq,xv,xp] [.I p0,.I p1,.I p2] [aO L,aO L2] .nil) ZL (.aZ [UK,VK,WH,.i 0]) (kc ho kn)
  |[⟨zq,zv,zp⟩],Fn =>
   obtain⟨L2,hL2⟩:∃L2:List bB,L2=[⟨zq,zv,zp⟩]:=⟨_,rfl⟩
   rw[←hL2]at ho;have hL2:L2.length=1:=by rw[hL2];rfl
   rw[←htq]at g2 g4;rw[←htv]at g5;rw[←htp]at g6
   simp only[qs,vs,ps,List.map_cons,List.map_nil,List.sum_cons,List.sum_nil,Int.add_zero]at g4 g5 g6 Fp;simp only[show ¬((0:Int)≠0)by simp,if_false]
   rcases o2 with rfl|rfl
   ·by_cases hv:zv+xv<o
    ·simp only[if_pos (show(0:Int)≠0∨zv+xv<o from .inr hv)]
     rw[show zq=-q+tq by omega,show zv+(xv-(zv+xv))=0 by omega,show zv+xv=tv by omega,show zp=-xp+tp by omega]
     exact cw _ (ev1 { vars:=Kx,facts:=[([([9],-1),([11],1)],1,288230376151711744),Zd,YH],lens:=UT,bT:=KH } [(L.length:Int),c,q,kind,(L2.length:Int),xq,xv,xp,tq,tv,tp,o] [.I p0,.I p1,.I p2,.I r] [aO L,aO L2] .nil) ZL KO (kc ho (kc ht (kc hm kn)))
    ·simp only[if_neg (show ¬((0:Int)≠0∨zv+xv<o)by omega)]
     rw[show zq=-q+tq by omega,show zv+(xv-o)=tv-o by omega,show zp=-xp+tp by omega]
     exact cw _ (ev1 { vars:=Kx,facts:=[([([9],-1),([11],1)],-288230376151711744,0),Zd,YH],lens:=UT,bT:=KH } [(L.length:Int),c,q,kind,(L2.length:Int),xq,xv,xp,tq,tv,tp,o] [.I p0,.I p1,.I p2,.I r] [aO L,aO L2] .nil) ZL (.aZ [(.agg [(.lit 3 [[(.e [([2],(-1)),([8],1)]),(.e [([9],1),([11],(-1))]),(.e [([7],(-1)),([10],1)])]]),.o 0,.o 1,.o 2]),(.agg [.v 5,.v 11,.v 7]),WH,.i 0]) (kc ho (kc ht (kc hm kn)))
   ·simp only[if_pos (show(2:Int)≠0∨zv+xv<o from .inl (by decide))]
    obtain⟨f,hf⟩:∃f:Int,f=2:=⟨_,rfl⟩
    rw[←hf]at hm;rw[show zq=-q+tq by omega,show zv+(xv-(zv+xv))=0 by omega,show zv+xv=tv by omega,show zp=-xp+tp by omega]
    exact cw _ (ev1 { vars:=[(0,30),(0,1073741824),(1,288230376151711744),(0,3),(1,1),(0,288230376151711744),(0,288230376151711744),(-576460752303423488,576460752303423488),(0,288230376151711744),(0,288230376151711744),wZ,(0,288230376151711744),(1,20)],facts:=[Zd,YH],lens:=UT,bT:=[Q0,Zx,(148,[.v 2,.v 1,.i 1],(.aZ [.v 11,.o 3,.v 12]))] } [(L.length:Int),c,q,kind,(L2.length:Int),xq,xv,xp,tq,tv,tp,o,f] [.I p0,.I p1,.I p2,.I r] [aO L,aO L2] .nil) ZL KO (kc ho (kc ht (kc hm kn)))
  |z::z'::t,Fn=>simp at Fn;omega
theorem DJ (h:LR L):Ck 146 [dA.av ⟨L,p0,p1,p2⟩] (bB.av ⟨qs L,vs L,ps L⟩):=by
 have hl:=h.len;have ht:=yC (Ml fun x hx=>T8 (h.ok x hx))
 rw[h.xA.1,h.xA.2]at ht;generalize qs L=t0 at *;generalize vs L=t1 at *;generalize ps L=t2 at *
 exact cw _ (ev1 { vars:=[(0,30)],lens:=W2,bT:=[(198,[.q 3 0],YS)] } [(L.length:Int)] [.I p0,.I p1,.I p2,.I t0,.I t1,.I t2] [aO L] .nil) [UJ] VL (kc ht kn)
end
end
section
set_option maxHeartbeats 1000000 in
theorem Bc (x:cD) (w:World):Calls Tryz.prog 82 #[x.val] w fun e w'=>e=.returned (.bool (!nO x))∧Below w.heap.size w w':=by
 obtain⟨a,n⟩:=x;unfold cD.val;generalize hr:(!nO ⟨a,n⟩)=r
 have hrh:=Lib.hid hr;clear hr;go_enter Tryz.func82,Tryz.ntmps82
 by_cases h0:0≤a
 ·by_cases h1:a<17
  ·have e:r=kE n:=by rw[←hrh.out];simp[nO,xT,h0,h1]
   clear hrh;subst e;go_wp2_with (go_at_call 144;refine(qM _ _).mono ?_;rintro e w' ⟨rfl,rfl⟩)
   go_ret
   exact⟨rfl,blw⟩
  ·have e:r=false:=by rw[←hrh.out];simp[nO,xT,h1]
   clear hrh;subst e;go_wp2_with (go_at_call 144;refine(qM _ _).mono ?_;rintro e w' ⟨rfl,rfl⟩)
   go_ret
   exact⟨rfl,blw⟩
 ·have e:r=false:=by rw[←hrh.out];simp[nO,xT,h0]
  clear hrh;subst e;go_wp2_with (go_at_call 144;refine(qM _ _).mono ?_;rintro e w' ⟨rfl,rfl⟩)
  go_ret
  exact⟨rfl,blw⟩
theorem Ih {l:List cD} {j:Nat} {x:cD} (p:cD→Bool) (hx:l[j]?=some x):(l.take (j+1)).any p=((l.take j).any p||p x):=by
 rw[List.take_add_one,hx];simp
theorem T9 {l:List cD} {j:Nat} {x:cD} {p:cD→Bool} (hx:l[j]?=some x) (h:p x=true):l.any p=true:=List.any_eq_true.2 ⟨x,List.mem_of_getElem? hx,h⟩
theorem abj {l:List cD} {j:Nat} {x:cD} (hx:l[j]?=some x):gH (l.take (j+1))=gH (l.take j)++[x.n]:=by
 rw[List.take_add_one,hx];simp[gH]
theorem air {l:List cD} (h:eN (cZ l)):eN (gH l):=fun z hz=>by
 obtain⟨x,hx,rfl⟩:=List.mem_map.1 hz;exact(aaM h hx).2
theorem aii (x:cD):Hl x=(nO x||decide (x.n=0)):=by
 unfold Hl nO;cases xT x.a<;>cases kE x.n<;>cases decide (x.n=0)<;>rfl
set_option maxRecDepth 20000 in
set_option maxHeartbeats 2000000 in
theorem Ro (a:Option Addr) (cap:Nat) (l:List cD) (w:World) (h:Row w 2 a l.length cap (cZ l)) (hn:l.length≤1000000) :
  Calls Tryz.prog 200 #[.slice a l.length cap] w fun e w'=>e=.returned (.bool (nL l))∧Below w.heap.size w w':=by
 obtain⟨n,hN⟩:∃n,l.length=n:=⟨_,rfl⟩
 have hall:=h.all;have hat:=h.at_;have hmax:=h.max;have hle:=h.le;unfold maxLen at hmax;clear h;rw[hN]at hn hat hle ⊢;have uF:nL l=(decide (1≤n)&&decide (n≤12)&&!(l.any Hl)&&decide (cU (gH l)=0)&&decide (cY (gH l)=0)):=by unfold nL;rw[hN]
 have hf:l.any Hl=true→nL l=false:=fun h=>by rw[uF,h];simp
 obtain⟨r,hr⟩:∃r,nL l=r:=⟨_,rfl⟩
 rw[hr]at uF hf ⊢;have hclh:=Lib.hid uF;have hfh:=Lib.hid hf;have hNh:=Lib.hid hN;clear uF hf hN hr;go_enter Tryz.func200,Tryz.ntmps200
 go_wp2_with fail
 go_loopw [3,4] (fun v i wr=>∃j:Nat,j≤n∧i=.int .i64 j∧Hid ((l.take j).any Hl=false)∧dJ wr w.heap.size 3 1 v j (gH (l.take j))∧Below w.heap.size w wr) (fun _ i _=>n-(intOf i).toNat)
 case atStart=>exact⟨0,by omega,rfl,rfl,dJ.nil _ _ _ _,Below.refl _ _⟩
 case round =>
  obtain⟨j,hj,rfl,hnb,T,hbel⟩:=hrel;have hsz:=hbel.size;by_cases hlt:j<n
  ·obtain⟨b,off,rfl,hb,hc⟩:∃b off,a=some ⟨b,off,none⟩∧b<w.heap.size∧bD w b off (cZ l):=by
    rcases hat with h0|h0
    ·omega
    ·exact h0
   obtain⟨x,hx⟩:∃x,l[j]?=some x:=⟨l[j]'(by rw[hNh.out];exact hlt),List.getElem?_eq_getElem _⟩
   have hcw:=hc.below hb hbel;have hltI:(j:Int)<(n:Int):=by omega
   have hj0:(0:Int)≤(j:Int):=by omega
   have s2:=Ih Hl hx;rw[hnb.out,Bool.false_or]at s2;have hbad:Hl x=true→r=false:=fun h=>hfh.out (T9 hx h)
   have eh:=Lib.hid (abj hx)
   obtain⟨c0,c1⟩:=hcw.line hx;have hxh:=Lib.hid hx;have hbr:b<wr.heap.size:=Nat.lt_of_lt_of_le hb hsz
   have hcb:=aii x;clear hc hx hat hcw;obtain⟨xa,xn⟩:=x;simp only at c0 c1 eh
   cases hbp:nO ⟨xa,xn⟩with
   |true =>
    have hr:=hbad (by rw[hcb,hbp];rfl)
    subst hr;clear hbad s2 hcb;go_wp2_with fail
    refine(Bc ⟨xa,xn⟩ _).mono ?_
    rw[hbp];rintro e w1 ⟨rfl,hw1⟩
    clear hbp;go_wp2_with fail
    go_ret
    exact⟨rfl,blw⟩
   |false =>
    by_cases hz:xn=0
    ·have hr:=hbad (by rw[hcb,hbp];simp[hz])
     subst hr;subst hz;clear hbad s2 hcb;go_wp2_with fail
     refine(Bc ⟨xa,0⟩ _).mono ?_
     rw[hbp];rintro e w1 ⟨rfl,hw1⟩
     have c1':=(hw1.cell (p:=⟨b,off+j*2+1,none⟩) hbr).trans c1
     clear hbp;go_wp2_with fail
     go_ret
     exact⟨rfl,blw⟩
    ·rw[hcb,hbp,show(decide (xn=0))=false from decide_eq_false hz]at s2
     have s2h:=Lib.hid s2;have hz2:(xn==0)=false:=by rw[beq_eq_false_iff_ne];exact hz
     clear hbad s2 hcb;go_wp2_with fail
     refine(Bc ⟨xa,xn⟩ _).mono ?_
     rw[hbp];rintro e w1 ⟨rfl,hw1⟩
     have c1':=(hw1.cell (p:=⟨b,off+j*2+1,none⟩) hbr).trans c1
     have T1:=T.below hw1;have hb1:Below w.heap.size w w1:=blw
     have hs1:=hb1.size;clear hbp hw1 T hbel;go_wp2_with (at_builtin;refine kM _ rfl _ _ 22 rfl w.heap.size 3 1 qY _ j (gH (l.take j)) rfl (T1.alloc _) w1.heap.size 0 1 [xn] rfl rfl (ajG rfl) ?c1 ?c2 ?_)
     case c1=>omega
     case c2=>simp;omega
     intro l' w2 hown' hb2;rw[←eh.out]at hown';have hbel':Below w.heap.size w w2:=Below.trans blw hb2
     clear T1 hb2;go_wp2_with fail
     go_roundw
     case rel=>exact⟨j+1,by omega,by go_num,s2h,hown',hbel'⟩
     case measure=>simp[intOf];omega
  ·have ej:j=n:=by omega
   subst ej;have hge:¬ (j:Int)<(j:Int):=by omega
   have htk:l.take j=l:=List.take_of_length_le (by rw[hNh.out];omega)
   rw[htk]at hnb T;obtain⟨a1,c1,rfl,R1⟩:=T.row (air hall)
   have hc:=hclh.out;rw[hnb.out]at hc;obtain⟨V,hV⟩:∃V,cU (gH l)=V:=⟨_,rfl⟩
   obtain⟨E,hE⟩:∃E,cY (gH l)=E:=⟨_,rfl⟩
   have hsum:=Lf a1 j c1 (gH l) wr R1
   rw[hV,hE]at hc hsum;have hsumh:=Lib.hid hsum;clear htk hnb T hV hE hsum R1;by_cases h1:1≤j
   ·by_cases h2:j≤12
    ·have h1I:(1:Int)≤(j:Int):=by omega
     have h2I:(j:Int)≤12:=by omega
     have hc2:r=(decide (E=0)&&decide (V=0)):=by rw[hc];simp[h1,h2,Bool.and_comm]
     by_cases h3:E=0
     ·subst h3
      have hc3:r=decide (V=0):=by rw[hc2];simp
      subst hc3;clear hc hc2;go_wp2_with fail
      refine hsumh.out.mono ?_
      rintro e w1 ⟨rfl,rfl⟩
      go_wp2_with fail
      go_ret
      exact⟨iX (by rw[Bool.eq_iff_iff];simp),hbel⟩
     ·have hc3:r=false:=by rw[hc2];simp[h3]
      subst hc3;have h3B:(E==0)=false:=by rw[beq_eq_false_iff_ne];exact h3
      clear hc hc2;go_wp2_with fail
      refine hsumh.out.mono ?_
      rintro e w1 ⟨rfl,rfl⟩
      go_wp2_with fail
      go_ret
      exact⟨rfl,hbel⟩
    ·have h1I:(1:Int)≤(j:Int):=by omega
     have h2I:¬ (j:Int)≤12:=by omega
     have hc3:r=false:=by rw[hc];simp[h2]
     subst hc3;clear hc;go_wp2_with fail
     refine hsumh.out.mono ?_
     rintro e w1 ⟨rfl,rfl⟩
     go_wp2_with fail
     go_ret
     exact⟨by first|rfl|exact iX (by simp;omega),hbel⟩
   ·have h1I:¬ (1:Int)≤(j:Int):=by omega
    have hc3:r=false:=by rw[hc];simp[h1]
    subst hc3;clear hc;go_wp2_with fail
    refine hsumh.out.mono ?_
    rintro e w1 ⟨rfl,rfl⟩
    go_wp2_with fail
    go_ret
    exact⟨by first|rfl|exact iX (by simp;omega),hbel⟩
theorem TC {a b:Int} (h:eY a b=true) (w:World):Calls Tryz.prog 83 #[.int .i64 a,.int .i64 b] w fun e w'=>e=.returned (.tuple #[.int .i64 (a+b),.int .i64 0])∧w=w':=by
 have:=yP a b w
 unfold mI lL at this;rw[h]at this;exact this
theorem TD {a b:Int} (h:eY a b=false) (w:World):Calls Tryz.prog 83 #[.int .i64 a,.int .i64 b] w fun e w'=>e=.returned (.tuple #[.int .i64 0,.int .i64 2])∧w=w':=by
 have:=yP a b w
 unfold mI lL at this;rw[h]at this;exact this
theorem Hg {l:List Int} {i:Nat} {v:Int} (h:i<l.length):(l.set i v).getD i 0=v:=by
 rw[List.getD_eq_getElem?_getD,List.getElem?_set_self h];rfl
theorem F5 {l:List Int} {i j:Nat} {v:Int} (h:i≠j):(l.set i v).getD j 0=l.getD j 0:=by
 rw[List.getD_eq_getElem?_getD,List.getElem?_set_ne h,←List.getD_eq_getElem?_getD]
def kJ (P:List cD):List Int:=(List.range 17).map fun(a:Nat)=>cU (gR P (a:Int))
theorem nW (P:List cD):(kJ P).length=17:=by simp[kJ]
theorem CX (P:List cD) {a:Nat} (h:a<17):(kJ P).getD a 0=cU (gR P (a:Int)):=by simp[kJ,List.getD_eq_getElem?_getD,h]
def Sound (P:List cD):Prop:=∀a:Nat,a<17→bS 0 (gR P (a:Int))=some ((kJ P).getD a 0)
theorem Sound.nil:Sound []:=fun a h=>by rw[CX _ h];rfl
theorem Sound.more {P:List cD} {x:cD} (h:Sound P) (h0:0≤x.a) (h1:x.a<17) (ho:eY ((kJ P).getD x.a.toNat 0) x.n=true) :
  Sound (P++[x])∧kJ (P++[x])=(kJ P).set x.a.toNat ((kJ P).getD x.a.toNat 0+x.n):=by
 have hN:(x.a.toNat:Int)=x.a:=Int.toNat_of_nonneg h0
 have hg:bS 0 (gR (P++[x]) x.a)=some ((kJ P).getD x.a.toNat 0+x.n):=by
  have:=h x.a.toNat (by omega)
  rw[hN]at this;rw[qI,if_pos rfl,sE _ _ _ this,ho];rfl
 have key:∀a:Nat,a<17→bS 0 (gR (P++[x]) (a:Int))=some (((kJ P).set x.a.toNat ((kJ P).getD x.a.toNat 0+x.n)).getD a 0):=by
  intro a ha;by_cases e:x.a.toNat=a
  ·subst e
   rw[hN,hg,Hg (by rw[nW];omega)]
  ·rw[qI,if_neg (by omega),h a ha,F5 e]
 have e:kJ (P++[x])=(kJ P).set x.a.toNat ((kJ P).getD x.a.toNat 0+x.n):=by
  apply List.ext_getElem
  ·rw[nW,List.length_set,nW]
  ·intro i h2 h3
   have hi:i<17:=by rw[nW]at h2;exact h2
   have k:=key i hi;have g:=CX (P++[x]) hi
   rw[(kF k).1]at g;rw[List.getD_eq_getElem?_getD,List.getElem?_eq_getElem h2,List.getD_eq_getElem?_getD,List.getElem?_eq_getElem h3]at g;exact g
 exact⟨fun a ha=>by rw[e];exact key a ha,e⟩
theorem Sound.stop {l:List cD} {j:Nat} {x:cD} (h:Sound (l.take j)) (hx:l[j]?=some x) (hb:l.any nO=false) (ho:eY ((kJ (l.take j)).getD x.a.toNat 0) x.n=false):cM l=([],2):=by
 obtain⟨h0,h1,-⟩:=Er hb (List.mem_of_getElem? hx)
 refine HS (a:=x.a) hb (jI.refl l) ⟨h0,h1⟩ ?_
 have hN:(x.a.toNat:Int)=x.a:=Int.toNat_of_nonneg h0
 have hs:=h x.a.toNat (by omega)
 rw[hN]at hs;have e2:l.take (j+1)=l.take j++[x]:=by rw[List.take_add_one,hx];rfl
 have h3:bS 0 (gR (l.take (j+1)) x.a)=none:=by
  rw[e2,qI,if_pos rfl,sE _ _ _ hs,ho];rfl
 have h4:gR l x.a=gR (l.take (j+1)) x.a++gR (l.drop (j+1)) x.a:=by
  conv=>lhs;rw[←List.take_append_drop (j+1) l]
  unfold gR gH;rw[List.filter_append,List.map_append]
 rw[h4,vL,h3];rfl
def nH (l:List cD) (k:Nat):List cD:=((List.range k).map fun(a:Nat)=>(⟨(a:Int),(kJ l).getD a 0⟩:cD)).filter fun x=>!jL x
theorem Sn (l:List cD) (k:Nat):nH l (k+1)=nH l k++[(⟨(k:Int),(kJ l).getD k 0⟩:cD)].filter (fun x=>!jL x):=by
 unfold nH;rw[List.range_succ,List.map_append,List.filter_append];rfl
theorem aaC (l:List cD) (k:Nat):(nH l k).length≤k:=by
 unfold nH;refine Nat.le_trans (List.length_filter_le _ _) ?_
 simp
theorem Sound.plain {l:List cD} (h:Sound l) (hb:l.any nO=false):cM l=(nH l 17,0):=by
 have hE:(List.range 17).any (fun(a:Nat)=>decide (cY (gR l (a:Int))≠0))=false:=by
  rw[List.any_eq_false];intro a ha;have:=(kF (h a (List.mem_range.1 ha))).2
  simp[this]
 unfold cM;rw[hb,hE];simp only[Bool.false_eq_true,if_false,Prod.mk.injEq,and_true];unfold nH;have e:((List.range 17).map fun(a:Nat)=>(⟨(a:Int),cU (gR l (a:Int))⟩:cD))=(List.range 17).map fun(a:Nat)=>(⟨(a:Int),(kJ l).getD a 0⟩:cD):=List.map_congr_left fun a ha=>by
  rw[CX _ (List.mem_range.1 ha)]
 rw[e]
theorem dJ.ajz {w:World} {base base':Nat} {e:TypeId} {k:Nat} {v:Value} {n:Nat} {zs:List Int} (h:dJ w base e k v n zs) (g:base'≤base):dJ w base' e k v n zs:=by
 obtain⟨h1,h2⟩:=h;refine⟨h1,?_⟩
 rcases h2 with h2|⟨b,cap,cur,rfl,hb,h3⟩
 ·exact .inl h2
 ·exact .inr ⟨b,cap,cur,rfl,Nat.le_trans g hb,h3⟩
def ajZ (w:World) (r:List cD×Int) (e:Ending) (w':World):Prop :=
 ∃v,e=.returned (.tuple #[v,.int .i64 r.2])∧dJ w' w.heap.size 44 2 v r.1.length (cZ r.1)∧Below w.heap.size w w'
set_option maxRecDepth 20000 in
set_option maxHeartbeats 4000000 in
theorem Rn (a:Option Addr) (cap:Nat) (l:List cD) (w:World) (h:Row w 2 a l.length cap (cZ l)) (hn:l.length≤1000000) :
  Calls Tryz.prog 45 #[.slice a l.length cap] w (ajZ w (cM l)):=by
 obtain⟨n,hN⟩:∃n,l.length=n:=⟨_,rfl⟩
 have hall:=h.all;have hat:=h.at_;have hmax:=h.max;have hle:=h.le;unfold maxLen at hmax;clear h;rw[hN]at hn hat hle ⊢;have hcells:∀j,j<n→∃b off x,l[j]?=some x∧a=some ⟨b,off,none⟩∧b<w.heap.size∧∀w',Below w.heap.size w w'→w'.cell? ⟨b,off+j*2,none⟩=some (.int .i64 x.a)∧w'.cell? ⟨b,off+j*2+1,none⟩=some (.int .i64 x.n):=by
  intro j hj;obtain⟨b,off,e,hb,hc⟩:∃b off,a=some ⟨b,off,none⟩∧b<w.heap.size∧bD w b off (cZ l):=by
   rcases hat with h0|h0
   ·omega
   ·exact h0
  exact⟨b,off,l[j]'(by omega),List.getElem?_eq_getElem _,e,hb,fun w' hw=>(hc.below hb hw).line (List.getElem?_eq_getElem _)⟩
 have hch:=Lib.hid hcells;have hNh:=Lib.hid hN;obtain⟨r,hr⟩:∃r,cM l=r:=⟨_,rfl⟩
 rw[hr];have hrh:=Lib.hid hr;clear hcells hat hN hr;go_enter Tryz.func45,Tryz.ntmps45
 go_wp2_with fail
 go_loopw [4] (fun i wr=>∃j:Nat,j≤n∧i=.int .i64 j∧Hid ((l.take j).any nO=false)∧Below w.heap.size w wr) (fun i _=>n-(intOf i).toNat)
 case atStart=>exact⟨0,by omega,rfl,rfl,Below.refl _ _⟩
 case round =>
  obtain⟨j,hj,rfl,hnb,hbel⟩:=hrel;have hsz:=hbel.size;by_cases hlt:j<n
  ·obtain⟨b,off,x,hx,rfl,hb,hc⟩:=hch.out j hlt
   obtain⟨c0,c1⟩:=hc wr hbel;have hltI:(j:Int)<(n:Int):=by omega
   have hj0:(0:Int)≤(j:Int):=by omega
   have s2:=Ih nO hx;rw[hnb.out,Bool.false_or]at s2;have hbad:nO x=true→r=([],1):=fun h=>by rw[←hrh.out];exact HU (T9 hx h)
   clear hc hx;obtain⟨xa,xn⟩:=x;simp only at c0 c1
   cases hbp:nO ⟨xa,xn⟩with
   |true =>
    have hr:=hbad hbp;subst hr;clear hbad s2;go_wp2_with fail
    refine(Bc ⟨xa,xn⟩ _).mono ?_
    rw[hbp];rintro e w1 ⟨rfl,hw1⟩
    clear hbp;go_wp2_with fail
    go_ret2
    exact⟨_,rfl,dJ.nil _ _ _ _,blw⟩
   |false =>
    have s3:Hid ((l.take (j+1)).any nO=false):=by rw[Hid,s2];exact hbp
    clear hbad s2;go_wp2_with fail
    refine(Bc ⟨xa,xn⟩ _).mono ?_
    rw[hbp];rintro e w1 ⟨rfl,hw1⟩
    clear hbp;go_wp2_with fail
    go_roundw
    case rel=>exact⟨j+1,by omega,by go_num,s3,blw⟩
    case measure=>simp[intOf];omega
  ·have ej:j=n:=by omega
   subst ej;have hge:¬ (j:Int)<(j:Int):=by omega
   have htk:l.take j=l:=List.take_of_length_le (by rw[hNh.out];omega)
   rw[htk]at hnb;clear htk;go_wp2_with fail
   have hsz:=hbel.size;have hW0:Below w.heap.size w (wr.alloc (.cells #[.int .i64 0,.int .i64 0,.int .i64 0,.int .i64 0,.int .i64 0,.int .i64 0,.int .i64 0,.int .i64 0,.int .i64 0,.int .i64 0,.int .i64 0,.int .i64 0,.int .i64 0,.int .i64 0,.int .i64 0,.int .i64 0,.int .i64 0] 142)):=blw
   have hC0:bD (wr.alloc (.cells #[.int .i64 0,.int .i64 0,.int .i64 0,.int .i64 0,.int .i64 0,.int .i64 0,.int .i64 0,.int .i64 0,.int .i64 0,.int .i64 0,.int .i64 0,.int .i64 0,.int .i64 0,.int .i64 0,.int .i64 0,.int .i64 0,.int .i64 0] 142)) wr.heap.size 0 (kJ []):=bD.new wr [0,0,0,0,0,0,0,0,0,0,0,0,0,0,0,0,0] 142
   have hF0:∀i,(wr.alloc (.cells #[.int .i64 0,.int .i64 0,.int .i64 0,.int .i64 0,.int .i64 0,.int .i64 0,.int .i64 0,.int .i64 0,.int .i64 0,.int .i64 0,.int .i64 0,.int .i64 0,.int .i64 0,.int .i64 0,.int .i64 0,.int .i64 0,.int .i64 0] 142)).frozen? ⟨wr.heap.size,i,none⟩=false:=World.frozen?_alloc_new wr _ 142
   have hS0:wr.heap.size<(wr.alloc (.cells #[.int .i64 0,.int .i64 0,.int .i64 0,.int .i64 0,.int .i64 0,.int .i64 0,.int .i64 0,.int .i64 0,.int .i64 0,.int .i64 0,.int .i64 0,.int .i64 0,.int .i64 0,.int .i64 0,.int .i64 0,.int .i64 0,.int .i64 0] 142)).heap.size:=by simp
   generalize wr.alloc (.cells #[.int .i64 0,.int .i64 0,.int .i64 0,.int .i64 0,.int .i64 0,.int .i64 0,.int .i64 0,.int .i64 0,.int .i64 0,.int .i64 0,.int .i64 0,.int .i64 0,.int .i64 0,.int .i64 0,.int .i64 0,.int .i64 0,.int .i64 0] 142)=W0 at *
   obtain⟨B,hB⟩:∃B,wr.heap.size=B:=⟨_,rfl⟩
   rw[hB]at hC0 hF0 hS0 hsz ⊢;clear hbel hB;go_loopw [6] (fun i wr=>∃q:Nat,q≤j∧i=.int .i64 q∧Hid (Sound (l.take q))∧bD wr B 0 (kJ (l.take q))∧(∀i,wr.frozen? ⟨B,i,none⟩=false)∧B<wr.heap.size∧Below w.heap.size w wr) (fun i _=>j-(intOf i).toNat)
   case atStart=>exact⟨0,by omega,rfl,Sound.nil,hC0,hF0,hS0,hW0⟩
   case round =>
    obtain⟨q,hq,rfl,hSo,hC,hF,hS,hbel⟩:=hrel;by_cases hlt2:q<j
    ·obtain⟨b,off,x,hx,rfl,hb,hc⟩:=hch.out q hlt2
     obtain⟨c0,c1⟩:=hc wr hbel;have hqI:(q:Int)<(j:Int):=by omega
     have hq0:(0:Int)≤(q:Int):=by omega
     obtain⟨g0,g1,g2⟩:=Er hnb.out (List.mem_of_getElem? hx)
     have hN2:(x.a.toNat:Int)=x.a:=Int.toNat_of_nonneg g0
     have hcell:=hC x.a.toNat (by rw[nW];omega)
     rw[Nat.zero_add]at hcell;have hstop:=hSo.out.stop hx hnb.out;have hmore:=hSo.out.more (x:=x) g0 g1
     have htk:l.take (q+1)=l.take q++[x]:=by rw[List.take_add_one,hx];rfl
     rw[←htk]at hmore;rw[hrh.out]at hstop;have hput:=bD.put hC (j:=x.a.toNat) (by rw[nW];omega) ((kJ (l.take q)).getD x.a.toNat 0+x.n)
     rw[Nat.zero_add]at hput;obtain⟨v,hv⟩:∃v,(kJ (l.take q)).getD x.a.toNat 0=v:=⟨_,rfl⟩
     rw[hv]at hcell hstop hmore hput;have hfr:=hF x.a.toNat;have hstoph:=Lib.hid hstop;have hmoreh:=Lib.hid hmore;have hputh:=Lib.hid hput;have hbb:b<wr.heap.size:=Nat.lt_of_lt_of_le hb hbel.size
     clear hstop hmore hput hv hx htk hc hN2;obtain⟨xa,xn⟩:=x;simp only at c0 c1 g0 g1 hcell hfr
     obtain⟨k,rfl⟩:∃k:Nat,xa=(k:Int):=⟨xa.toNat,by omega⟩
     rw[Int.toNat_natCast]at hcell hfr;have hkI:(k:Int)<17:=g1
     cases hok:eY v xn with
     |true =>
      obtain⟨m1,m2⟩:=hmoreh.out hok;have hp:=hputh.out;rw[Int.toNat_natCast]at hp;simp only[Int.toNat_natCast]at m2;have m1h:=Lib.hid m1;have m2h:=Lib.hid m2;have hph:=Lib.hid hp;clear m1 m2 hp;go_wp2_with fail
      go_quiet ((go_at_call 83;first|exact nA (TC hok _)|exact vX (TC hok _)))
      go_wp2_with fail
      go_roundw
      case rel=>exact⟨q+1,by omega,by go_num,m1h.out,by rw[m2h.out];exact hph.out,(fun i=>by simpa using hF i),by simpa[World.setCell]using hS,(below_drewN hbel _).setCell (p:=⟨B,k,none⟩) (by simp only;omega) _⟩
      case measure=>simp[intOf];omega
     |false =>
      have hr:=hstoph.out hok;subst hr;go_wp2_with fail
      go_quiet ((go_at_call 83;first|exact nA (TD hok _)|exact vX (TD hok _)))
      go_wp2_with fail
      go_ret2
      exact⟨_,rfl,dJ.nil _ _ _ _,blw⟩
    ·have eq:q=j:=by omega
     subst eq;have hgeq:¬ (q:Int)<(q:Int):=by omega
     have htk:l.take q=l:=List.take_of_length_le (by rw[hNh.out];omega)
     rw[htk]at hSo hC;have hr:=hSo.out.plain hnb.out;rw[hrh.out]at hr;subst hr;obtain⟨wq,hwq⟩:∃wq:World,wr=wq:=⟨_,rfl⟩
     rw[hwq]at hC hF hS hbel ⊢;have hwqs:=hbel.size;clear hwq htk hSo hrh;go_wp2_with fail
     go_loopw [9,10] (fun v a wr=>∃k:Nat,k≤17∧a=.int .i64 k∧dJ wr wq.heap.size 44 2 v (nH l k).length (cZ (nH l k))∧Below wq.heap.size wq wr) (fun _ a _=>17-(intOf a).toNat)
     case atStart=>exact⟨0,by omega,rfl,dJ.nil _ _ _ _,Below.refl _ _⟩
     case round =>
      obtain⟨k,hk,rfl,T,hb3⟩:=hrel;have hs3:=hb3.size;by_cases hk2:k<17
      ·have hkI:(k:Int)<17:=by omega
       have hk0:(0:Int)≤(k:Int):=by omega
       have c0:=(hb3.cell (p:=⟨B,0+k,none⟩) hS).trans (hC k (by rw[nW];exact hk2))
       rw[Nat.zero_add]at c0;have hsu:=Sn l k;have hln:=aaC l k;obtain⟨z,hz⟩:∃z,(kJ l).getD k 0=z:=⟨_,rfl⟩
       rw[hz]at c0 hsu;have hBr:B<wr.heap.size:=Nat.lt_of_lt_of_le hS hs3
       clear hz;by_cases hz0:z=0
       ·have e:nH l (k+1)=nH l k:=by
         rw[hsu];have:jL ⟨(k:Int),z⟩=true:=by simp[jL,hz0]
         simp[this]
        have eh:=Lib.hid e;subst hz0;clear hsu e;go_wp2_with fail
        go_roundw
        case rel=>exact⟨k+1,by omega,by go_num,by rw[eh.out];exact T,hb3⟩
        case measure=>simp[intOf];omega
       ·have e:nH l (k+1)=nH l k++[⟨(k:Int),z⟩]:=by
         rw[hsu];have:jL ⟨(k:Int),z⟩=false:=by simp[jL,hz0]
         simp[this]
        have e1:cZ (nH l k)++[(k:Int),z]=cZ (nH l (k+1)):=by rw[e,qX]
        have e2:(nH l k).length+1=(nH l (k+1)).length:=by rw[e];simp
        obtain⟨m,hm⟩:∃m,(nH l k).length=m:=⟨_,rfl⟩
        rw[hm]at T hln e2;have e1h:=Lib.hid e1;have e2h:=Lib.hid e2;have hzB:(z==0)=false:=by rw[beq_eq_false_iff_ne];exact hz0
        clear hsu e e1 e2 hm;go_wp2_with (at_builtin;refine kM _ rfl _ _ 36 rfl wq.heap.size 44 2 zC _ m (cZ (nH l k)) rfl (T.alloc _) wr.heap.size 0 1 [(k:Int),z] rfl rfl (ahX (x:=⟨(k:Int),z⟩) rfl) ?c1 ?c2 ?_)
        case c1=>omega
        case c2=>simp;omega
        intro l' w2 hown' hb4;rw[e1h.out,e2h.out]at hown';have hb5:Below wq.heap.size wq w2:=Below.trans blw hb4
        clear T hb4 hb3;go_wp2_with fail
        go_roundw
        case rel=>exact⟨k+1,by omega,by go_num,hown',hb5⟩
        case measure=>simp[intOf];omega
      ·have ek:k=17:=by omega
       subst ek;go_wp2_with fail
       go_ret2
       exact⟨_,rfl,T.ajz hwqs,hbel.trans (hb3.mono hwqs)⟩
end
section
open Mc
set_option maxRecDepth 1000000
theorem iU (a b:Int):Ck 83 [.i a,.i b] (.aZ [.i (mI a b),.i (lL a b)]) :=
 ⟨aX (.c _) (aX (.c _) eM),.aZ _ (aX (.c _) (aX (.c _) eM)),@agM dI dN _ [.int .i64 a,.int .i64 b] [.int .i64 (mI a b),.int .i64 (lL a b)] (fun w=>(yP a b w).mono fun e w' h=>⟨h.1,h.2▸Below.refl _ _⟩) (by simp)⟩
theorem Da (zs:List Int) (hI:eN zs):Ck 81 [.lit 1 (aA zs)] (.aZ [.i (cU zs),.i (cY zs)]):=by
 refine⟨aX (kK _).lit eM,.aZ _ (aX (.c _) (aX (.c _) eM)),?_⟩
 intro A w vs hA hG hl hv;have hvs:=pO hl;generalize vs.getD 0 Go.undef=v0 at hvs
 subst hvs;obtain⟨a,cap,rfl,R⟩:=Eo (hv 0 _ rfl) hI
 refine(Lf a _ cap zs w R).mono ?_
 rintro e w' ⟨rfl,rfl⟩
 exact⟨_,rfl,kC mZ mZ,Below.refl _ _⟩
theorem DL (l:List cD) (hI:eN (cZ l)) (hn:l.length≤1000000):Ck 45 [.lit 2 (bR l)] (.aZ [.lit 2 (bR (cM l).1),.i (cM l).2]):=by
 refine⟨aX (zE _).lit eM,.aZ _ (aX (zE _).lit (aX (.c _) eM)),?_⟩
 intro A w vs hA hG hl hv;have hvs:=pO hl;generalize vs.getD 0 Go.undef=v0 at hvs
 subst hvs;obtain⟨a,cap,rfl,R⟩:=L9 (hv 0 _ rfl) hI
 refine(Rn a cap l w R hn).mono ?_
 rintro e w' ⟨v,rfl,ho,hb⟩
 rcases Nat.eq_zero_or_pos (cM l).1.length with hz|h0
 ·obtain⟨a',cap',rfl,R'⟩:=ho.row (Ll l)
  exact⟨_,rfl,kC (FU hA R'.le R'.max (.inl hz)) mZ,hb⟩
 ·obtain⟨g,cap',rfl,g1,g2,k1,k2,k3,-⟩:=ho.full h0
  exact⟨_,rfl,kC (FU hA k1 k2 (.inr ⟨g,0,rfl,g1,g2,k3⟩)) mZ,hb⟩
theorem Pb (l:List cD) (hI:eN (cZ l)) (hn:l.length≤1000000):Ck 200 [.lit 2 (bR l)] (.c (.bool (nL l))):=by
 refine⟨aX (zE _).lit eM,.c _,?_⟩
 intro A w vs hA hG hl hv;have hvs:=pO hl;generalize vs.getD 0 Go.undef=v0 at hvs
 subst hvs;obtain⟨a,cap,rfl,R⟩:=L9 (hv 0 _ rfl) hI
 refine(Ro a cap l w R hn).mono ?_
 rintro e w' ⟨rfl,hb⟩
 exact⟨_,rfl,@dG.c dI dN A w' _,hb⟩
namespace P8
abbrev hF (m b c i:AV):List AV:=fr 74 [(6,b),(7,m),(9,c),(10,i)]
noncomputable def body:Code:=(Tryz.f152).body.getD .skip
abbrev agv (c:Code) (r:Option (RT Out)):Prop:=AK { vars:=[(1,20)],lens:=UU,bT:=QE } c (W3++List.replicate 72 .undef) [] [some 0,some 1] (hF (.q 2 2) VM VN (.i 0)) [U2,U2] r
noncomputable def HD:Option (RT Out):=Nm { vars:=[(1,20)],lens:=UU,bT:=QE } body (W3++List.replicate 72 .undef:List AV).length (W3++List.replicate 72 .undef) [] 0
theorem aiD:agv body HD:=⟨rfl,by decide +kernel,by decide +kernel⟩
abbrev TN (c:Code):Prop:=fL { vars:=[(1,20),(0,19),(0,16)],facts:=[(WI,1,20)],lens:=YB,kT:=Ye,bT:=[(83,[.o 1,.o 0],(.aZ [.o 2,.i 0]))] } c (hF (.q 2 1) VM VN (.v 1)) Zi 0 [some 0,some 1] (hF (.q 2 1) VM VN Wd) [U2,(.sc 3 1 2 [([([2],1)],[.o 2])] [] [([],17)])]
theorem aeA:TN (aF HD):=⟨_,rfl,by decide +kernel,by decide +kernel⟩
abbrev NF (c:Code):Prop:=agn { vars:=[(1,20),(0,19),(0,16)],facts:=[(WI,1,20)],lens:=YB,kT:=Ye,bT:=[(83,[.o 1,.o 0],(.aZ [.o 2,.i 2]))] } Tryz.f152 c (hF (.q 2 1) VM VN (.v 1)) Zi ((.aZ [.q 1 0,.i 2]))
theorem abz:NF (aF HD):=⟨_,rfl,by decide +kernel,by decide +kernel,by kernel_rfl⟩
abbrev agu (c:Code):Prop:=fL { vars:=[(1,20)],lens:=YB } c (hF (.q 2 1) VM VN (.v 0)) Zi 2 [some 0,some 1] (hF (.q 2 1) VM VN (.v 0)) Zi
theorem aiC:agu (aF HD):=⟨_,rfl,by decide +kernel,by decide +kernel⟩
abbrev acj (o:Option (RT Out)):Prop:=rT { vars:=[(1,20)],lens:=YB } Tryz.f152 o 0 (hF (.q 2 1) VM VN (.v 0)) Zi ((.aZ [.q 1 2,.i 0]))
theorem ag7:acj HD:=⟨_,rfl,by decide +kernel,by decide +kernel,by kernel_rfl⟩
theorem walk (oA:Option (RT Out)) (rA:agv body oA) (rO:TN (aF oA)) (rE:NF (aF oA)) (rX:agu (aF oA)) (rR:acj oA) {b:List Int} {l m:List cD} (hb:b.length=17) (h1:1≤m.length) (h20:m.length≤20) (hm:∀x∈m,0≤x.a∧x.a≤16)
  (hp:Ck 45 [.lit 2 (bR l)] (.aZ [.lit 2 (bR m),.i 0])) (hk:Ck 200 [.lit 2 (bR m)] WP) :
  Ck 152 [.lit 1 (aA b),.lit 2 (bR l)] (.aZ [.lit 1 (aA ((gP b m).getD b)),.i (match gP b m with|some _=>0|none=>2)]):=by
 refine CK.jJ Tryz.func152 (c:=body) (by kernel_rfl) (EE.out) (GQ.out) fun A w0 a0=>?_
 intro mm w a pr;rw[Tryz.ntmps152]at pr;refine rA.go (ev1 _ [(m.length:Int)] [] [aA b,bR l,bR m] .nil) (xK (kc hp (kc hk kn))) pr (fd:=hF (.lit 2 (bR m)) (.own 3 1 0 0 17) (.own 3 1 1 0 17) (.i 0)) (bd:=[.cells 3 1 (aA b),.cells 3 1 (aA b)]) ?_
 intro mm w a pr;refine eA (fun n a w=>∃(j:Nat) (c:List Int),n=m.length-j∧j≤m.length∧c.length=17∧gP b m=gP c (m.drop j)∧∃mm,@eU dI dN A w0 a0 mm w a (hF (.lit 2 (bR m)) (.own 3 1 0 0 17) (.own 3 1 1 0 17) (.i (j:Int))) (eZ [.cells 3 1 (aA b),.cells 3 1 (aA c)])) ?_ (n:=m.length) ⟨0,b,rfl,Nat.zero_le _,hb,rfl,_,pr⟩
 rintro n a w ⟨j,c,rfl,hj,hc,hA,mm,pr⟩
 rcases(by omega:j=m.length∨j<m.length)with rfl|hlt
 ·rw[List.drop_length]at hA
  have hA:gP b m=some c:=hA
  rw[hA];refine rX.go (ev1 _ [(m.length:Int)] [] [aA b,bR m,aA c] .nil) (xK kn) pr ?_
  intro mm w a pr;exact rR.go (ev1 _ [(m.length:Int)] [] [aA b,bR m,aA c] .nil) (xK kn) pr
 ·obtain⟨x,hx0⟩:∃x,m[j]?=some x:=⟨_,List.getElem?_eq_getElem hlt⟩
  have hx:m[(j:Int).toNat]?=some x:=by simpa using hx0
  have hxa:=hm x (List.mem_of_getElem? hx0)
  have hd:m.drop j=x::m.drop (j+1):=by rw[←List.getElem_cons_drop hlt];congr 1;exact Option.some.inj (by rw[←List.getElem?_eq_getElem hlt,hx0])
  rw[hd]at hA;simp only[gP]at hA;obtain⟨ca,hca⟩:∃v,v=c.getD x.a.toNat 0:=⟨_,rfl⟩
  have hc':c[x.a.toNat]?=some ca:=by rw[hca,List.getD,List.getElem?_eq_getElem (by omega)];rfl
  have ha:=iU ca x.n;rw[←hca]at hA;unfold mI lL at ha;by_cases ho:eY ca x.n=true
  ·rw[if_pos ho]at hA
   rw[if_pos ho,if_pos ho]at ha;obtain⟨z,hz⟩:∃z,z=ca+x.n:=⟨_,rfl⟩
   rw[←hz]at ha hA;refine rO.go (ev1 _ [(m.length:Int),(j:Int),x.a] [.I x.n,.I ca,.I z] [aA b,bR m,aA c] (.d (aL hx) (.d (aI hc') .nil))) (xK (kc ha kn)) pr (fd:=hF (.lit 2 (bR m)) (.own 3 1 0 0 17) (.own 3 1 1 0 17) (.i (1+(j:Int)))) (bd:=[.cells 3 1 (aA b),.cells 3 1 ((aA c).set x.a.toNat [.i z])]) ?_
   intro mm w a pr;refine⟨m.length-(j+1),by omega,j+1,c.set x.a.toNat z,rfl,by omega,by simpa using hc,hA,mm,?_⟩
   rw[show(1+(j:Int))=((j+1:Nat):Int)by omega]at pr
   rw[show aA (c.set x.a.toNat z)=(aA c).set x.a.toNat [.i z]by simp[aA,List.map_set]]
   exact pr
  ·rw[if_neg ho]at hA
   rw[if_neg ho,if_neg ho]at ha;rw[hA];obtain⟨z,hz⟩:∃z:Int,z=0:=⟨_,rfl⟩
   rw[←hz]at ha;exact rE.go (ev1 _ [(m.length:Int),(j:Int),x.a] [.I x.n,.I ca,.I z] [aA b,bR m,aA c] (.d (aL hx) (.d (aI hc') .nil))) (xK (kc ha kn)) pr fun a w h=>Dl h _
end P8
theorem acf (b:List Int) (l:List cD):qP b l=if(cM l).2≠0∨(0<(cM l).1.length∧nL (cM l).1=false)then(b,(10:Int))else match gP b (cM l).1 with|some c=>(c,(0:Int))|none=>(b,(2:Int)):=by
 unfold qP HQ TK;by_cases h:(cM l).2≠0∨(0<(cM l).1.length∧nL (cM l).1=false)
 ·simp only[if_pos h,show ¬((10:Int)=0)by decide,if_false]
 ·simp only[if_neg h]
  cases gP b (cM l).1 with
  |none=>rfl
  |some c=>rfl
theorem SR (b:List Int) (l:List cD) (hb:b.length=17) (hI:eN (cZ l)) (hn:l.length≤1000000):Ck 152 [.lit 1 (aA b),.lit 2 (bR l)] (.aZ [.lit 1 (aA (qP b l).1),.i (qP b l).2]):=by
 have hp:=DL l hI hn;have hPI:=Ll l;have hpe:=Ap l;have hln:=HR l;have hall:=HV l;rw[acf];generalize hr:cM l=r at *
 obtain⟨m,f⟩:=r;simp only at *
 by_cases hf:f=0
 rotate_left
 ·rw[if_pos (Or.inl hf)]
  exact cw _ (ev1 { vars:=[(0,20),(1,20)],lens:=UU,bT:=[(45,[.q 2 1],(.aZ [.q 2 2,.v 1]))] } [(m.length:Int),f] [] [aA b,bR l,bR m] .nil) W3 (.aZ [.q 1 0,.i 10]) (kc hp kn)
 subst hf;have hk:=Pb m hPI (by omega)
 by_cases h0:0<m.length
 rotate_left
 ·have hm:m=[]:=List.length_eq_zero_iff.1 (by omega)
  subst hm;rw[if_neg (by simp)]
  show Ck 152 [.lit 1 (aA b),.lit 2 (bR l)] (.aZ [.lit 1 (aA b),.i 0])
  exact cw _ (ev1 { lens:=[(0,[([],17)])],bT:=[(45,[.q 2 1],(.aZ [(.lit 2 []),.i 0]))] } [] [] [aA b,bR l] .nil) W3 (.aZ [.q 1 0,.i 0]) (kc hp kn)
 by_cases hc:nL m=true
 ·rw[if_neg (by simp[hc])]
  rw[hc]at hk;have W:=P8.walk P8.HD P8.aiD P8.aeA P8.abz P8.aiC P8.ag7 hb (by omega) (by omega) (fun x hx=>by have:=hall x hx;omega) hp hk
  generalize gP b m=o at W ⊢
  cases o with
  |none=>exact W
  |some c=>exact W
 ·have hc:nL m=false:=by simpa using hc
  rw[if_pos (Or.inr ⟨h0,hc⟩)]
  rw[hc]at hk;exact cw _ (ev1 { vars:=[(1,20)],lens:=UU,bT:=[Ue,(200,[.q 2 2],WH)] } [(m.length:Int)] [] [aA b,bR l,bR m] .nil) W3 (.aZ [.q 1 0,.i 10]) (kc hp (kc hk kn))
abbrev ρl (l:List Int):Nat→Int:=fun i=>l.getD i 0
abbrev νl (l:List Value):Nat→Value:=fun i=>l.getD i (.bool false)
abbrev gX (S:bH) (e item m c:Int) (X:List Int):List Int:=e::(S.aH.length:Int)::item::(S.weights.length:Int)::m::c::X
abbrev gVs (S:bH) (now:Int) (closed:Bool) (vs:List Value):List Value:=.int .i64 S.aB::.int .i64 S.aD::.int .i64 S.done::.int .i64 now::.bool closed::vs
abbrev CY (cl:AV) (V:List (Int×Int)) (F:List (Poly×Int×Int)) (L:List (Nat×Poly)) (A:List (Nat×Poly×List AV)) (D:List (Nat×Poly×Poly×Poly)) (C:List (Nat×Nat×Nat)) (x:List (Nat×List AV×AV)):Bk:={ vars:=gV++V,facts:=gF++F,lens:=gL++L,kT:=gAw cl++A,defs:=D,aa3:=C,bT:=x }
section
variable {S:bH} {e item now m c:Int} {closed:Bool} {bE:List dA} {dC:List Int} {bF:List (List Int)} {aW down:List Int} {ahead:List EntC} {ms cs:List Int}
theorem gBo (H:Wx S e item now closed bE dC bF aW down ahead ms cs m c) {V:List (Int×Int)} {X:List Int} (h:jO V X):jO (gV++V) (gX S e item m c X):=by
 have:=H.bd;exact h.c.c.c.c.c.c
theorem gFo (H:Wx S e item now closed bE dC bF aW down ahead ms cs m c) {X:List Int} {F:List (Poly×Int×Int)} (h:jQ (ρl (gX S e item m c X)) F):jQ (ρl (gX S e item m c X)) (gF++F):=by
 have:=H.bd;exact h.c.c
theorem gLo (H:Wx S e item now closed bE dC bF aW down ahead ms cs m c) {X:List Int} {ss:List (List (List AV))} {L:List (Nat×Poly)} (h:kL (ρl (gX S e item m c X)) (gS S bE dC bF aW down ahead ms cs ss) L):kL (ρl (gX S e item m c X)) (gS S bE dC bF aW down ahead ms cs ss) (gL++L):=by
 have:=H.bd;exact h.c.c.c.c.c.c.c.c
theorem gAo (H:Wx S e item now closed bE dC bF aW down ahead ms cs m c) {cl:AV} {X:List Int} {vs:List Value} {ss:List (List (List AV))} {A:List (Nat×Poly×List AV)} (h:yH (ρl (gX S e item m c X)) (νl (gVs S now closed vs)) (gS S bE dC bF aW down ahead ms cs ss) A)
  (hc:cl=.o 4∨cl=.c (.bool closed)):yH (ρl (gX S e item m c X)) (νl (gVs S now closed vs)) (gS S bE dC bF aW down ahead ms cs ss) (gAw cl++A):=by
 have:=H.bd;rcases hc with rfl|rfl
 ·exact .d (aE H.hx) (.d (aS H.hms) (.d (aS H.Ep) (.d (aI H.hm) (.d (aI H.hc) h))))
 ·exact .d (aE H.hx) (.d (aS H.hms) (.d (aS H.Ep) (.d (aI H.hm) (.d (aI H.hc) h))))
abbrev gEv (H:Wx S e item now closed bE dC bF aW down ahead ms cs m c) {V:List (Int×Int)} (X:List Int) (vs:List Value) (ss:List (List (List AV))) [ClS ss] {F:List (Poly×Int×Int)} {L:List (Nat×Poly)} {A:List (Nat×Poly×List AV)} {D:List (Nat×Poly×Poly×Poly)} {C:List (Nat×Nat×Nat)} {x:List (Nat×List AV×AV)} {cl:AV}
  (hV:jO V X) (hF:jQ (ρl (gX S e item m c X)) F) (hL:kL (ρl (gX S e item m c X)) (gS S bE dC bF aW down ahead ms cs ss) L) (hA:yH (ρl (gX S e item m c X)) (νl (gVs S now closed vs)) (gS S bE dC bF aW down ahead ms cs ss) A)
  (hD:vD (ρl (gX S e item m c X)) D:=by exact .nil) (ho:((gVs S now closed vs).all Value.oneCell')=true:=by rfl) (hc:cl=.o 4∨cl=.c (.bool closed):=by first|exact .inl rfl|exact .inr rfl) (hC:∀t∈C,(gS S bE dC bF aW down ahead ms cs ss).getD t.2.2 []=(gS S bE dC bF aW down ahead ms cs ss).getD t.1 []++(gS S bE dC bF aW down ahead ms cs ss).getD t.2.1 []:=by exact fun t h=>nomatch h):@Ev (CY cl V F L A D C x) :=
 Xn _ (gX S e item m c X) (gVs S now closed vs) (gS S bE dC bF aW down ahead ms cs ss) (gBo H hV) (gFo H hF) (gLo H hL) (gAo H hA hc) hD ho rfl hC
abbrev ev2 (H:Wx S e item now closed bE dC bF aW down ahead ms cs m c) {V:List (Int×Int)} (X:List Int) (vs:List Value) (ss:List (List (List AV))) [ClS ss] {F:List (Poly×Int×Int)} {L:List (Nat×Poly)} {A:List (Nat×Poly×List AV)} {D:List (Nat×Poly×Poly×Poly)} {C:List (Nat×Nat×Nat)} {x:List (Nat×List AV×AV)} {cl:AV} (hA:yH (ρl (gX S e item m c X)) (νl (gVs S now closed vs)) (gS S bE dC bF aW down ahead ms cs ss) A) (hD:vD (ρl (gX S e item m c X)) D:=by exact .nil) (ho:((gVs S now closed vs).all Value.oneCell')=true:=by rfl) (hc:cl=.o 4∨cl=.c (.bool closed):=by first|exact .inl rfl|exact .inr rfl) (hC:∀t∈C,(gS S bE dC bF aW down ahead ms cs ss).getD t.2.2 []=(gS S bE dC bF aW down ahead ms cs ss).getD t.1 []++(gS S bE dC bF aW down ahead ms cs ss).getD t.2.1 []:=by exact fun t h=>nomatch h) (hV:jO V X:=by repeat (first|exact jO.nil|refine jO.c ?_ (by omega) (by omega))) (hF:jQ (ρl (gX S e item m c X)) F:=by repeat (first|exact jQ.nil|refine jQ.e ?_)) (hL:kL (ρl (gX S e item m c X)) (gS S bE dC bF aW down ahead ms cs ss) L:=by repeat (first|exact kL.nil|refine kL.c ?_)):@Ev (CY cl V F L A D C x) :=gEv H X vs ss hV hF hL hA hD ho hc hC
end
abbrev oV:List (Int×Int):=[(0,3),(0,4),(0,1),(0,3),(0,1073741824),(0,1125899906842624),(0,39),(0,1000000),(0,40),(0,40),(0,40),(0,4),(0,5),(1,20)]
abbrev oL:List (Nat×Poly):=[(0,[([11],1)]),(1,[([12],1)]),(2,[([11],1)]),(3,[([11],1)]),(4,[([8],1)]),(5,[([9],1)]),(6,[([10],1)])]
abbrev AM (V:List (Int×Int)) (F:List (Poly×Int×Int)) (L:List (Nat×Poly)) (A:List (Nat×Poly×List AV)) (x:List (Nat×List AV×AV)):Bk:={ vars:=oV++V,facts:=F,lens:=oL++L,kT:=A,bT:=x }
abbrev oX (S:bH) (e item loc dst q a ref f:Int) (X:List Int):List Int:=e::item::loc::dst::q::a::ref::S.done::(S.bX.length:Int)::(S.aU.length:Int)::(S.aM.length:Int)::(S.aH.length:Int)::(S.weights.length:Int)::f::X
abbrev oVs (S:bH) (vs:List Value):List Value:=.int .i64 S.aB::.int .i64 S.aD::vs
structure OpI (S:bH) (e item loc dst q a ref f:Int):Prop where
 he:0≤e∧e≤3
 hi:0≤item∧item≤4
 hl:0≤loc∧loc≤1
 hd:0≤dst∧dst≤3
 hq:0≤q∧q≤1073741824
 ha:0≤a∧a≤1125899906842624
 hr:0≤ref∧ref≤39
 hf:1≤f∧f≤20
 od:Od S
 hn:S.aH.length≤4
 hw:S.weights.length≤5
 hm:S.methods.length=S.aH.length
 hc:S.iC.length=S.aH.length
section
variable {S:bH} {e item loc dst q a ref f:Int}
theorem OpI.bd (H:OpI S e item loc dst q a ref f):(0≤e∧e≤3)∧(0≤item∧item≤4)∧(0≤loc∧loc≤1)∧(0≤dst∧dst≤3)∧(0≤q∧q≤1073741824)∧(0≤a∧a≤1125899906842624)∧(0≤ref∧ref≤39)∧(1≤f∧f≤20)∧((0≤S.done∧S.done≤1000000)∧S.bX.length≤40∧S.aU.length≤40∧S.aM.length≤40)∧S.aH.length≤4∧S.weights.length≤5∧S.methods.length=S.aH.length∧S.iC.length=S.aH.length :=
 ⟨H.he,H.hi,H.hl,H.hd,H.hq,H.ha,H.hr,H.hf,H.od,H.hn,H.hw,H.hm,H.hc⟩
theorem oBo (H:OpI S e item loc dst q a ref f) {V:List (Int×Int)} {X:List Int} (h:jO V X):jO (oV++V) (oX S e item loc dst q a ref f X):=by
 have:=H.bd;exact h.c.c.c.c.c.c.c.c.c.c.c.c.c.c
theorem oLo (H:OpI S e item loc dst q a ref f) {X:List Int} {ss:List (List (List AV))} {L:List (Nat×Poly)} (h:kL (ρl (oX S e item loc dst q a ref f X)) (oS S ss) L):kL (ρl (oX S e item loc dst q a ref f X)) (oS S ss) (oL++L):=by
 have:=H.bd;exact h.c.c.c.c.c.c.c
abbrev oEv (H:OpI S e item loc dst q a ref f) {V:List (Int×Int)} (X:List Int) (vs:List Value) (ss:List (List (List AV))) [ClS ss] {F:List (Poly×Int×Int)} {L:List (Nat×Poly)} {A:List (Nat×Poly×List AV)} {x:List (Nat×List AV×AV)}
  (hV:jO V X) (hF:jQ (ρl (oX S e item loc dst q a ref f X)) F) (hL:kL (ρl (oX S e item loc dst q a ref f X)) (oS S ss) L) (hA:yH (ρl (oX S e item loc dst q a ref f X)) (νl (oVs S vs)) (oS S ss) A) (ho:((oVs S vs).all Value.oneCell')=true:=by rfl):@Ev (AM V F L A x) :=
 Xn _ (oX S e item loc dst q a ref f X) (oVs S vs) (oS S ss) (oBo H hV) hF (oLo H hL) hA .nil ho
abbrev ev3 (H:OpI S e item loc dst q a ref f) {V:List (Int×Int)} (X:List Int) (vs:List Value) (ss:List (List (List AV))) [ClS ss] {F:List (Poly×Int×Int)} {L:List (Nat×Poly)} {A:List (Nat×Poly×List AV)} {x:List (Nat×List AV×AV)} (hA:yH (ρl (oX S e item loc dst q a ref f X)) (νl (oVs S vs)) (oS S ss) A) (ho:((oVs S vs).all Value.oneCell')=true:=by rfl) (hV:jO V X:=by repeat (first|exact jO.nil|refine jO.c ?_ (by omega) (by omega))) (hF:jQ (ρl (oX S e item loc dst q a ref f X)) F:=by repeat (first|exact jQ.nil|refine jQ.e ?_)) (hL:kL (ρl (oX S e item loc dst q a ref f X)) (oS S ss) L:=by repeat (first|exact kL.nil|refine kL.c ?_)):@Ev (AM V F L A x) :=oEv H X vs ss hV hF hL hA ho
end
end
section
open Mc
set_option maxRecDepth 1000000
abbrev af2:Bk:={ vars:=gV++[(0,1),(0,30)],facts:=gF++Y4,lens:=gL++[(15,[([7],1)])],kT:=gA++Yf }
theorem aj4 {S:bH} {e item now m c:Int} {closed:Bool} {bE:List dA} {dC:List Int} {bF:List (List Int)} {aW down:List Int} {ahead:List EntC} {ms cs:List Int} (H:Wx S e item now closed bE dC bF aW down ahead ms cs m c) {L:List bB} {p0 p1 p2 loc k:Int} (l0:0≤loc) (l1:loc≤1) (h_k:k=2*item+loc) (hp:bE[k.toNat]?=some ⟨L,p0,p1,p2⟩) (hl:L.length≤30)  :
 Ck 112 [S.av,.i e,.i item,.i loc] (dA.av ⟨L,p0,p1,p2⟩):=by
 have:=H.bd;obtain⟨ρ,hρ⟩:=rh [e,(S.aH.length:Int),item,(S.weights.length:Int),m,c,loc,(L.length:Int)]
 obtain rfl:=eqv hρ h_k WQ
 subst hρ;let ev:=Xn af2 [e,(S.aH.length:Int),item,(S.weights.length:Int),m,c,loc,(L.length:Int)] (vT S [.int .i64 now,.bool closed,.int .i64 p0,.int .i64 p1,.int .i64 p2]) (gS S bE dC bF aW down ahead ms cs [aO L]) jO.nil.c.c.c.c.c.c.c.c jQ.nil.c.c.c kL.nil.c.c.c.c.c.c.c.c.c (.d (aE H.hx) (.d (aS H.hms) (.d (aS H.Ep) (.d (aI H.hm) (.d (aI H.hc) (.d (aP hp) .nil))))))
 exact cw _ ev YT UG kn
abbrev abe:Bk:={ vars:=[zK,zK],bT:=[JY,
 ZM,
 JZ,
 ZN,
 Z3,
 ZS,
 ZT] }
theorem agm {S:bH} {e item q0 v0 p0 q1 v1 p1 q v p a0 a1 a2 b0 b1 b2:Int} {L0 L1:List bB} (he:iM e) (hi:iM item) (h0:Ck 112 [S.av,.i e,.i item,.i 0] (dA.av ⟨L0,a0,a1,a2⟩)) (h1:Ck 112 [S.av,.i e,.i item,.i 1] (dA.av ⟨L1,b0,b1,b2⟩)) (t0:Ck 169 [.lit 3 (aO L0)] (.aZ [(⟨q0,v0,p0⟩:bB).av,.i 0])) (t1:Ck 169 [.lit 3 (aO L1)] (.aZ [(⟨q1,v1,p1⟩:bB).av,.i 0])) (sq:Ck 72 [.lit 1 (aA [q0,q1])] (.aZ [.i q,.i 0])) (sv:Ck 72 [.lit 1 (aA [v0,v1])] (.aZ [.i v,.i 0])) (sp:Ck 72 [.lit 1 (aA [p0,p1])] (.aZ [.i p,.i 0]))  :
 Ck 129 [S.av,.i e,.i item] (.aZ [(⟨q,v,p⟩:bB).av,.c (.bool true)]):=by
 have:=he.lo;have:=he.hi;have:=hi.lo;have:=hi.hi
 let ev:=Xn abe [e,item] (vT S [.int .i64 q0,.int .i64 v0,.int .i64 p0,.int .i64 q1,.int .i64 v1,.int .i64 p1,.int .i64 q,.int .i64 v,.int .i64 p,.int .i64 a0,.int .i64 a1,.int .i64 a2,.int .i64 b0,.int .i64 b1,.int .i64 b2]) (sT S [aO L0,aO L1]) jO.nil.c.c jQ.nil kL.nil (.nil)
 exact cw _ ev UC (.aZ [Vl,WP]) (kc h0 (kc t0 (kc h1 (kc t1 (kc sq (kc sv (kc sp kn)))))))
abbrev abd:Bk:={ vars:=[zK,zK],bT:=[JY,
 ZM,
 JZ,
 ZN,
 Z4,
 ZS,
 ZT] }
theorem agl {S:bH} {e item q0 v0 p0 q1 v1 p1 q v p a0 a1 a2 b0 b1 b2:Int} {L0 L1:List bB} (he:iM e) (hi:iM item) (h0:Ck 112 [S.av,.i e,.i item,.i 0] (dA.av ⟨L0,a0,a1,a2⟩)) (h1:Ck 112 [S.av,.i e,.i item,.i 1] (dA.av ⟨L1,b0,b1,b2⟩)) (t0:Ck 169 [.lit 3 (aO L0)] (.aZ [(⟨q0,v0,p0⟩:bB).av,.i 0])) (t1:Ck 169 [.lit 3 (aO L1)] (.aZ [(⟨q1,v1,p1⟩:bB).av,.i 0])) (sq:Ck 72 [.lit 1 (aA [q0,q1])] (.aZ [.i q,.i 2])) (sv:Ck 72 [.lit 1 (aA [v0,v1])] (.aZ [.i v,.i 0])) (sp:Ck 72 [.lit 1 (aA [p0,p1])] (.aZ [.i p,.i 0]))  :
 Ck 129 [S.av,.i e,.i item] (.aZ [(⟨q,v,p⟩:bB).av,.c (.bool false)]):=by
 have:=he.lo;have:=he.hi;have:=hi.lo;have:=hi.hi
 let ev:=Xn abd [e,item] (vT S [.int .i64 q0,.int .i64 v0,.int .i64 p0,.int .i64 q1,.int .i64 v1,.int .i64 p1,.int .i64 q,.int .i64 v,.int .i64 p,.int .i64 a0,.int .i64 a1,.int .i64 a2,.int .i64 b0,.int .i64 b1,.int .i64 b2]) (sT S [aO L0,aO L1]) jO.nil.c.c jQ.nil kL.nil (.nil)
 exact cw _ ev UC Zy (kc h0 (kc t0 (kc h1 (kc t1 (kc sq (kc sv (kc sp kn)))))))
abbrev abc:Bk:={ vars:=[zK,zK],bT:=[JY,
 ZM,
 JZ,
 ZN,
 Z3,
 ZU,
 ZT] }
theorem agk {S:bH} {e item q0 v0 p0 q1 v1 p1 q v p a0 a1 a2 b0 b1 b2:Int} {L0 L1:List bB} (he:iM e) (hi:iM item) (h0:Ck 112 [S.av,.i e,.i item,.i 0] (dA.av ⟨L0,a0,a1,a2⟩)) (h1:Ck 112 [S.av,.i e,.i item,.i 1] (dA.av ⟨L1,b0,b1,b2⟩)) (t0:Ck 169 [.lit 3 (aO L0)] (.aZ [(⟨q0,v0,p0⟩:bB).av,.i 0])) (t1:Ck 169 [.lit 3 (aO L1)] (.aZ [(⟨q1,v1,p1⟩:bB).av,.i 0])) (sq:Ck 72 [.lit 1 (aA [q0,q1])] (.aZ [.i q,.i 0])) (sv:Ck 72 [.lit 1 (aA [v0,v1])] (.aZ [.i v,.i 2])) (sp:Ck 72 [.lit 1 (aA [p0,p1])] (.aZ [.i p,.i 0]))  :
 Ck 129 [S.av,.i e,.i item] (.aZ [(⟨q,v,p⟩:bB).av,.c (.bool false)]):=by
 have:=he.lo;have:=he.hi;have:=hi.lo;have:=hi.hi
 let ev:=Xn abc [e,item] (vT S [.int .i64 q0,.int .i64 v0,.int .i64 p0,.int .i64 q1,.int .i64 v1,.int .i64 p1,.int .i64 q,.int .i64 v,.int .i64 p,.int .i64 a0,.int .i64 a1,.int .i64 a2,.int .i64 b0,.int .i64 b1,.int .i64 b2]) (sT S [aO L0,aO L1]) jO.nil.c.c jQ.nil kL.nil (.nil)
 exact cw _ ev UC Zy (kc h0 (kc t0 (kc h1 (kc t1 (kc sq (kc sv (kc sp kn)))))))
abbrev abb:Bk:={ vars:=[zK,zK],bT:=[JY,
 ZM,
 JZ,
 ZN,
 Z4,
 ZU,
 ZT] }
theorem agj {S:bH} {e item q0 v0 p0 q1 v1 p1 q v p a0 a1 a2 b0 b1 b2:Int} {L0 L1:List bB} (he:iM e) (hi:iM item) (h0:Ck 112 [S.av,.i e,.i item,.i 0] (dA.av ⟨L0,a0,a1,a2⟩)) (h1:Ck 112 [S.av,.i e,.i item,.i 1] (dA.av ⟨L1,b0,b1,b2⟩)) (t0:Ck 169 [.lit 3 (aO L0)] (.aZ [(⟨q0,v0,p0⟩:bB).av,.i 0])) (t1:Ck 169 [.lit 3 (aO L1)] (.aZ [(⟨q1,v1,p1⟩:bB).av,.i 0])) (sq:Ck 72 [.lit 1 (aA [q0,q1])] (.aZ [.i q,.i 2])) (sv:Ck 72 [.lit 1 (aA [v0,v1])] (.aZ [.i v,.i 2])) (sp:Ck 72 [.lit 1 (aA [p0,p1])] (.aZ [.i p,.i 0]))  :
 Ck 129 [S.av,.i e,.i item] (.aZ [(⟨q,v,p⟩:bB).av,.c (.bool false)]):=by
 have:=he.lo;have:=he.hi;have:=hi.lo;have:=hi.hi
 let ev:=Xn abb [e,item] (vT S [.int .i64 q0,.int .i64 v0,.int .i64 p0,.int .i64 q1,.int .i64 v1,.int .i64 p1,.int .i64 q,.int .i64 v,.int .i64 p,.int .i64 a0,.int .i64 a1,.int .i64 a2,.int .i64 b0,.int .i64 b1,.int .i64 b2]) (sT S [aO L0,aO L1]) jO.nil.c.c jQ.nil kL.nil (.nil)
 exact cw _ ev UC Zy (kc h0 (kc t0 (kc h1 (kc t1 (kc sq (kc sv (kc sp kn)))))))
abbrev aba:Bk:={ vars:=[zK,zK],bT:=[JY,
 ZM,
 JZ,
 ZN,
 Z3,
 ZS,
 ZV] }
theorem agi {S:bH} {e item q0 v0 p0 q1 v1 p1 q v p a0 a1 a2 b0 b1 b2:Int} {L0 L1:List bB} (he:iM e) (hi:iM item) (h0:Ck 112 [S.av,.i e,.i item,.i 0] (dA.av ⟨L0,a0,a1,a2⟩)) (h1:Ck 112 [S.av,.i e,.i item,.i 1] (dA.av ⟨L1,b0,b1,b2⟩)) (t0:Ck 169 [.lit 3 (aO L0)] (.aZ [(⟨q0,v0,p0⟩:bB).av,.i 0])) (t1:Ck 169 [.lit 3 (aO L1)] (.aZ [(⟨q1,v1,p1⟩:bB).av,.i 0])) (sq:Ck 72 [.lit 1 (aA [q0,q1])] (.aZ [.i q,.i 0])) (sv:Ck 72 [.lit 1 (aA [v0,v1])] (.aZ [.i v,.i 0])) (sp:Ck 72 [.lit 1 (aA [p0,p1])] (.aZ [.i p,.i 2]))  :
 Ck 129 [S.av,.i e,.i item] (.aZ [(⟨q,v,p⟩:bB).av,.c (.bool false)]):=by
 have:=he.lo;have:=he.hi;have:=hi.lo;have:=hi.hi
 let ev:=Xn aba [e,item] (vT S [.int .i64 q0,.int .i64 v0,.int .i64 p0,.int .i64 q1,.int .i64 v1,.int .i64 p1,.int .i64 q,.int .i64 v,.int .i64 p,.int .i64 a0,.int .i64 a1,.int .i64 a2,.int .i64 b0,.int .i64 b1,.int .i64 b2]) (sT S [aO L0,aO L1]) jO.nil.c.c jQ.nil kL.nil (.nil)
 exact cw _ ev UC Zy (kc h0 (kc t0 (kc h1 (kc t1 (kc sq (kc sv (kc sp kn)))))))
abbrev aa9:Bk:={ vars:=[zK,zK],bT:=[JY,
 ZM,
 JZ,
 ZN,
 Z4,
 ZS,
 ZV] }
theorem agh {S:bH} {e item q0 v0 p0 q1 v1 p1 q v p a0 a1 a2 b0 b1 b2:Int} {L0 L1:List bB} (he:iM e) (hi:iM item) (h0:Ck 112 [S.av,.i e,.i item,.i 0] (dA.av ⟨L0,a0,a1,a2⟩)) (h1:Ck 112 [S.av,.i e,.i item,.i 1] (dA.av ⟨L1,b0,b1,b2⟩)) (t0:Ck 169 [.lit 3 (aO L0)] (.aZ [(⟨q0,v0,p0⟩:bB).av,.i 0])) (t1:Ck 169 [.lit 3 (aO L1)] (.aZ [(⟨q1,v1,p1⟩:bB).av,.i 0])) (sq:Ck 72 [.lit 1 (aA [q0,q1])] (.aZ [.i q,.i 2])) (sv:Ck 72 [.lit 1 (aA [v0,v1])] (.aZ [.i v,.i 0])) (sp:Ck 72 [.lit 1 (aA [p0,p1])] (.aZ [.i p,.i 2]))  :
 Ck 129 [S.av,.i e,.i item] (.aZ [(⟨q,v,p⟩:bB).av,.c (.bool false)]):=by
 have:=he.lo;have:=he.hi;have:=hi.lo;have:=hi.hi
 let ev:=Xn aa9 [e,item] (vT S [.int .i64 q0,.int .i64 v0,.int .i64 p0,.int .i64 q1,.int .i64 v1,.int .i64 p1,.int .i64 q,.int .i64 v,.int .i64 p,.int .i64 a0,.int .i64 a1,.int .i64 a2,.int .i64 b0,.int .i64 b1,.int .i64 b2]) (sT S [aO L0,aO L1]) jO.nil.c.c jQ.nil kL.nil (.nil)
 exact cw _ ev UC Zy (kc h0 (kc t0 (kc h1 (kc t1 (kc sq (kc sv (kc sp kn)))))))
abbrev aa8:Bk:={ vars:=[zK,zK],bT:=[JY,
 ZM,
 JZ,
 ZN,
 Z3,
 ZU,
 ZV] }
theorem agf {S:bH} {e item q0 v0 p0 q1 v1 p1 q v p a0 a1 a2 b0 b1 b2:Int} {L0 L1:List bB} (he:iM e) (hi:iM item) (h0:Ck 112 [S.av,.i e,.i item,.i 0] (dA.av ⟨L0,a0,a1,a2⟩)) (h1:Ck 112 [S.av,.i e,.i item,.i 1] (dA.av ⟨L1,b0,b1,b2⟩)) (t0:Ck 169 [.lit 3 (aO L0)] (.aZ [(⟨q0,v0,p0⟩:bB).av,.i 0])) (t1:Ck 169 [.lit 3 (aO L1)] (.aZ [(⟨q1,v1,p1⟩:bB).av,.i 0])) (sq:Ck 72 [.lit 1 (aA [q0,q1])] (.aZ [.i q,.i 0])) (sv:Ck 72 [.lit 1 (aA [v0,v1])] (.aZ [.i v,.i 2])) (sp:Ck 72 [.lit 1 (aA [p0,p1])] (.aZ [.i p,.i 2]))  :
 Ck 129 [S.av,.i e,.i item] (.aZ [(⟨q,v,p⟩:bB).av,.c (.bool false)]):=by
 have:=he.lo;have:=he.hi;have:=hi.lo;have:=hi.hi
 let ev:=Xn aa8 [e,item] (vT S [.int .i64 q0,.int .i64 v0,.int .i64 p0,.int .i64 q1,.int .i64 v1,.int .i64 p1,.int .i64 q,.int .i64 v,.int .i64 p,.int .i64 a0,.int .i64 a1,.int .i64 a2,.int .i64 b0,.int .i64 b1,.int .i64 b2]) (sT S [aO L0,aO L1]) jO.nil.c.c jQ.nil kL.nil (.nil)
 exact cw _ ev UC Zy (kc h0 (kc t0 (kc h1 (kc t1 (kc sq (kc sv (kc sp kn)))))))
abbrev aa7:Bk:={ vars:=[zK,zK],bT:=[JY,
 ZM,
 JZ,
 ZN,
 Z4,
 ZU,
 ZV] }
theorem age {S:bH} {e item q0 v0 p0 q1 v1 p1 q v p a0 a1 a2 b0 b1 b2:Int} {L0 L1:List bB} (he:iM e) (hi:iM item) (h0:Ck 112 [S.av,.i e,.i item,.i 0] (dA.av ⟨L0,a0,a1,a2⟩)) (h1:Ck 112 [S.av,.i e,.i item,.i 1] (dA.av ⟨L1,b0,b1,b2⟩)) (t0:Ck 169 [.lit 3 (aO L0)] (.aZ [(⟨q0,v0,p0⟩:bB).av,.i 0])) (t1:Ck 169 [.lit 3 (aO L1)] (.aZ [(⟨q1,v1,p1⟩:bB).av,.i 0])) (sq:Ck 72 [.lit 1 (aA [q0,q1])] (.aZ [.i q,.i 2])) (sv:Ck 72 [.lit 1 (aA [v0,v1])] (.aZ [.i v,.i 2])) (sp:Ck 72 [.lit 1 (aA [p0,p1])] (.aZ [.i p,.i 2]))  :
 Ck 129 [S.av,.i e,.i item] (.aZ [(⟨q,v,p⟩:bB).av,.c (.bool false)]):=by
 have:=he.lo;have:=he.hi;have:=hi.lo;have:=hi.hi
 let ev:=Xn aa7 [e,item] (vT S [.int .i64 q0,.int .i64 v0,.int .i64 p0,.int .i64 q1,.int .i64 v1,.int .i64 p1,.int .i64 q,.int .i64 v,.int .i64 p,.int .i64 a0,.int .i64 a1,.int .i64 a2,.int .i64 b0,.int .i64 b1,.int .i64 b2]) (sT S [aO L0,aO L1]) jO.nil.c.c jQ.nil kL.nil (.nil)
 exact cw _ ev UC Zy (kc h0 (kc t0 (kc h1 (kc t1 (kc sq (kc sv (kc sp kn)))))))
abbrev D9:Bk:={ vars:=[zK,zK],bT:=[(129,UC,(.aZ [VL,WP]))] }
theorem Hq {S:bH} {e item q v p:Int} (he:iM e) (hi:iM item) (hw:Ck 129 [S.av,.i e,.i item] (.aZ [(⟨q,v,p⟩:bB).av,.c (.bool true)]))  :
 Ck 69 [S.av,.i e,.i item] (bB.av ⟨q,v,p⟩):=by
 have:=he.lo;have:=he.hi;have:=hi.lo;have:=hi.hi
 let ev:=Xn D9 [e,item] (vT S [.int .i64 q,.int .i64 v,.int .i64 p]) (sT S []) jO.nil.c.c jQ.nil kL.nil (.nil)
 exact cw _ ev UC VL (kc hw kn)
abbrev Dc:Bk:={ vars:=[zK,zK],bT:=[(129,UC,(.aZ [VL,WH]))] }
theorem GI {S:bH} {e item q v p:Int} (he:iM e) (hi:iM item) (hw:Ck 129 [S.av,.i e,.i item] (.aZ [(⟨q,v,p⟩:bB).av,.c (.bool false)]))  :
 Ck 69 [S.av,.i e,.i item] (bB.av ⟨q,v,p⟩):=by
 have:=he.lo;have:=he.hi;have:=hi.lo;have:=hi.hi
 let ev:=Xn Dc [e,item] (vT S [.int .i64 q,.int .i64 v,.int .i64 p]) (sT S []) jO.nil.c.c jQ.nil kL.nil (.nil)
 exact cw _ ev UC VL (kc hw kn)
def sw (l:List bB):List Int:=l.map fun x=>max x.p (-x.p)
namespace aiu
set_option maxRecDepth 1000000
section
variable {S:bH} {e item:Int}
end
set_option maxHeartbeats 2000000
end aiu
end
section
open Mc
def eO (l:List cD) (a:Int):Int:=((l.filter fun x=>x.a==a).map (·.n)).sum
theorem fF (x:cD) (l:List cD) (a:Int):eO (x::l) a=(if x.a=a then x.n else 0)+eO l a:=by
 unfold eO;by_cases h:x.a=a
 ·simp[List.filter_cons,h]
 ·simp[List.filter_cons,h]
def Gz (dC:List Int) (l:List cD):List Int:=(List.range 17).map fun(a:Nat)=>dC.getD a 0+eO l a
def dS (l:List cD):List cD:=((List.range 17).map fun(a:Nat)=>(⟨(a:Int),eO l a⟩:cD)).filter (fun x=>!jL x)
structure Small (l:List cD):Prop where
 ok:∀x∈l,0≤x.a∧x.a<17∧-1125899906842624≤x.n∧x.n≤1125899906842624
 len:l.length≤12
theorem AS:∀(l:List cD),(∀x∈l,0≤x.a∧x.a<17∧-1125899906842624≤x.n∧x.n≤1125899906842624)→∀a,-(1125899906842624*(l.length:Int))≤eO l a∧eO l a≤1125899906842624*(l.length:Int)
 |[],_,a=>by simp[eO]
 |x::l,h,a=>by
  have ih:=AS l (fun y hy=>h y (List.mem_cons_of_mem _ hy)) a
  have hx:=h x List.mem_cons_self;rw[fF,List.length_cons];split<;>omega
theorem ael:∀(l:List cD),(∀x∈l,0≤x.a∧x.a<17∧-1125899906842624≤x.n∧x.n≤1125899906842624)→eB (gH l)≤1125899906842624*(l.length:Int)
 |[],_=>by simp[eB,gH]
 |x::l,h=>by
  have ih:=ael l (fun y hy=>h y (List.mem_cons_of_mem _ hy))
  have hx:=h x List.mem_cons_self;have:gH (x::l)=x.n::gH l:=rfl
  rw[this,fV,List.length_cons];omega
theorem MN:∀(l:List cD) (a:Int),eB (gR l a)≤eB (gH l)
 |[],a=>by simp[gR,gH,eB]
 |x::l,a=>by
  have ih:=MN l a;have e:gH (x::l)=x.n::gH l:=rfl
  by_cases h:x.a=a
  ·have e2:gR (x::l) a=x.n::gR l a:=by simp[gR,gH,List.filter_cons,h]
   rw[e,e2,fV,fV];omega
  ·have e2:gR (x::l) a=gR l a:=by simp[gR,gH,List.filter_cons,h]
   rw[e,e2,fV];omega
theorem xL {l:List cD} (h:Small l):cM l=(dS l,0):=by
 have hb:l.any nO=false:=by
  rw[List.any_eq_false];intro x hx;have:=h.ok x hx
  simp only[nO,Bool.or_eq_true,Bool.not_eq_true',not_or,Bool.not_eq_false];exact⟨uT.2 ⟨this.1,this.2.1⟩,dW.2 ⟨by omega,by omega⟩⟩
 have hs:∀a:Int,bS 0 (gR l a)=some (eO l a):=by
  intro a;have h1:=MN l a;have h2:=ael l h.ok;have h3:=h.len;rw[jN _ 0 (by omega),Int.zero_add]
  rfl
 unfold cM dS;simp only[hb,Bool.false_eq_true,if_false];have:(List.range 17).any (fun(a:Nat)=>decide (cY (gR l (a:Int))≠0))=false:=by
  rw[List.any_eq_false];intro a _;simp[(kF (hs a)).2]
 simp only[this,Bool.false_eq_true,if_false];have e:(fun(a:Nat)=>(⟨(a:Int),cU (gR l (a:Int))⟩:cD))=fun(a:Nat)=>⟨(a:Int),eO l a⟩:=by
  funext a;rw[(kF (hs a)).1]
 rw[e]
theorem adW (f g:Nat→Bool) (c:Nat) (h:∀a,f a=true→g a=true∨a=c):∀k,((List.range k).filter f).length≤((List.range k).filter g).length+(if c<k then 1 else 0)
 |0=>by simp
 |k+1=>by
  have ih:=adW f g c h k;rw[List.range_succ,List.filter_append,List.filter_append,List.length_append,List.length_append];have e:((List.filter f [k]).length:Nat)≤(List.filter g [k]).length+(if k=c then 1 else 0):=by
   cases hf:f k with
   |false=>simp[List.filter_cons,hf]
   |true =>
    rcases h k hf with hg|rfl
    ·simp[List.filter_cons,hf,hg]
    ·simp[List.filter_cons,hf]
  by_cases hk:k=c
  ·subst hk
   simp at ih e ⊢
   omega
  ·simp only[hk,if_false]at e
   by_cases h2:c<k
   ·simp only[h2,if_true]at ih
    have:c<k+1:=by omega
    simp only[this,if_true];omega
   ·have:¬ c<k+1:=by omega
    simp only[h2,if_false]at ih;simp only[this,if_false];omega
theorem Gh:∀(l:List cD),((List.range 17).filter fun(a:Nat)=>decide (eO l a≠0)).length≤l.length
 |[]=>by simp[eO]
 |x::l=>by
  have ih:=Gh l;have:=adW (fun(a:Nat)=>decide (eO (x::l) a≠0)) (fun(a:Nat)=>decide (eO l a≠0)) x.a.toNat (by
   intro a ha;by_cases h:x.a=a
   ·right;rw[h];simp
   ·left
    rw[fF,if_neg h]at ha;simpa using ha) 17
  rw[List.length_cons];split at this<;>omega
theorem FA {l:List cD}:(dS l).length≤l.length:=by
 have:=Gh l
 unfold dS;rw[List.filter_map,List.length_map];refine Nat.le_trans (Nat.le_of_eq ?_) this
 congr 2
 funext a
 simp[jL]
theorem abD (c n:Int):∀k:Nat,((List.range k).map fun(a:Nat)=>if c=(a:Int)then n else 0).sum=if 0≤c∧c<k then n else 0
 |0=>by simp;intro h h2;omega
 |k+1=>by
  rw[List.range_succ,List.map_append,List.sum_append,abD c n k];simp only[List.map_cons,List.map_nil,List.sum_cons,List.sum_nil,Int.add_zero];by_cases h1:c=(k:Int)
  ·rw[if_neg (by omega),if_pos h1,if_pos (by omega)];omega
  ·by_cases h2:0≤c∧c<k
   ·rw[if_pos h2,if_neg h1,if_pos (by omega)];omega
   ·rw[if_neg h2,if_neg h1,if_neg (by omega)];rfl
theorem Dp (f g:Nat→Int):∀l:List Nat,(l.map fun a=>f a+g a).sum=(l.map f).sum+(l.map g).sum
 |[]=>rfl
 |a::l=>by simp only[List.map_cons,List.sum_cons,Dp f g l];omega
theorem MZ:∀(l:List cD),(∀x∈l,0≤x.a∧x.a<17)→((List.range 17).map fun(a:Nat)=>eO l a).sum=(gH l).sum
 |[],_=>by simp[eO,gH];decide
 |x::l,h=>by
  have ih:=MZ l (fun y hy=>h y (List.mem_cons_of_mem _ hy))
  have hx:=h x List.mem_cons_self;have e:(fun(a:Nat)=>eO (x::l) a)=fun(a:Nat)=>(if x.a=(a:Int)then x.n else 0)+eO l a:=by funext a;rw[fF]
  rw[e,Dp,ih,abD,if_pos (show 0≤x.a∧x.a<((17:Nat):Int)from hx)]
  rfl
theorem abC:∀(l:List cD),(gH (l.filter fun x=>!jL x)).sum=(gH l).sum
 |[]=>rfl
 |x::l=>by
  have ih:=abC l;have e:gH (x::l)=x.n::gH l:=rfl
  rw[e,List.sum_cons,←ih];cases hz:jL x with
  |true =>
   have:x.n=0:=by simpa[jL]using hz
   rw[List.filter_cons_of_neg (by simp[hz]),this,Int.zero_add]
  |false =>
   rw[List.filter_cons_of_pos (by simp[hz])]
   rfl
theorem qQ {l:List cD} (h:Small l):∀x∈dS l,0≤x.a∧x.a<17∧x.n≠0∧x.n=eO l x.a:=by
 intro x hx;obtain⟨h1,h2⟩:=List.mem_filter.1 hx;obtain⟨a,ha,rfl⟩:=List.mem_map.1 h1;have:=List.mem_range.1 ha
 refine⟨by simp only;omega,by simp only;omega,?_,rfl⟩
 simpa[jL]using h2
theorem MV (f:Nat→Int) (c:Nat):∀k:Nat,eO ((List.range k).map fun(a:Nat)=>(⟨(a:Int),f a⟩:cD)) c=if c<k then f c else 0
 |0=>by simp[eO]
 |k+1=>by
  have ih:=MV f c k;rw[List.range_succ,List.map_append];unfold eO at ih ⊢;rw[List.filter_append,List.map_append,List.sum_append,ih];by_cases h:k=c
  ·subst h
   simp
  ·have h2:¬ ((k:Int)=(c:Int)):=by omega
   simp[List.filter_cons,h2]
   by_cases h3:c<k
   ·have:c<k+1:=by omega
    simp[h3,this]
   ·have:¬ c<k+1:=by omega
    simp[h3,this]
theorem aex (l:List cD) (c:Int):eO (l.filter fun x=>!jL x) c=eO l c:=by
 induction l with
 |nil=>rfl
 |cons x l ih =>
  cases hz:jL x with
  |true =>
   have:x.n=0:=by simpa[jL]using hz
   rw[List.filter_cons_of_neg (by simp[hz]),ih,fF,this]
   simp
  |false=>rw[List.filter_cons_of_pos (by simp[hz]),fF,fF,ih]
theorem EJ (l:List cD) {a:Nat} (ha:a<17):eO (dS l) a=eO l a:=by
 unfold dS;rw[aex,MV,if_pos ha]
theorem Lm {l:List cD} (h:Small l):cM (dS l)=(dS l,0):=by
 have hb:(dS l).any nO=false:=by
  rw[List.any_eq_false];intro x hx;have:=qQ h x hx
  have h2:=AS l h.ok x.a;have h3:=h.len;simp only[nO,Bool.or_eq_true,Bool.not_eq_true',not_or,Bool.not_eq_false];exact⟨uT.2 ⟨this.1,this.2.1⟩,dW.2 ⟨by omega,by omega⟩⟩
 have hs:∀a:Nat,a<17→bS 0 (gR (dS l) a)=some (eO l a):=by
  intro a ha;have h2:=AS l h.ok;have h3:=h.len;have h4:eB (gH (dS l))≤17*(12*1125899906842624):=by
   have:∀m:List cD,(∀x∈m,-(12*1125899906842624)≤x.n∧x.n≤12*1125899906842624)→eB (gH m)≤12*1125899906842624*(m.length:Int):=by
    intro m;induction m with
    |nil=>intro _;simp[gH,eB]
    |cons x m ih =>
     intro hm;have e:gH (x::m)=x.n::gH m:=rfl
     have:=ih fun y hy=>hm y (List.mem_cons_of_mem _ hy)
     have hx:=hm x List.mem_cons_self;rw[e,fV,List.length_cons];omega
   have h5:=this (dS l) (fun x hx=>by have:=qQ h x hx;have:=h2 x.a;omega)
   have h6:=FA (l:=l)
   omega
  have h1:=MN (dS l) a
  rw[jN _ 0 (by omega),Int.zero_add]
  exact congrArg some (EJ l ha)
 have:(List.range 17).any (fun(a:Nat)=>decide (cY (gR (dS l) (a:Int))≠0))=false:=by
  rw[List.any_eq_false];intro a ha;simp[(kF (hs a (List.mem_range.1 ha))).2]
 have e:(List.range 17).map (fun(a:Nat)=>(⟨(a:Int),cU (gR (dS l) (a:Int))⟩:cD))=(List.range 17).map fun(a:Nat)=>⟨(a:Int),eO l a⟩ :=
  List.map_congr_left fun a ha=>by rw[(kF (hs a (List.mem_range.1 ha))).1]
 generalize hm:dS l=m at hb this e ⊢
 unfold cM;simp only[hb,Bool.false_eq_true,if_false,this,e];rw[←hm];rfl
theorem IF (dC:List Int) (f:Nat→Int) (hb:dC.length=17) (hB:∀a:Nat,a<17→-144115188075855872≤dC.getD a 0∧dC.getD a 0≤144115188075855872) (hf:∀a,-(12*1125899906842624)≤f a∧f a≤12*1125899906842624) :
  ∀k,k≤17→gP dC (((List.range k).map fun(a:Nat)=>(⟨(a:Int),f a⟩:cD)).filter fun x=>!jL x)=some ((List.range 17).map fun(a:Nat)=>dC.getD a 0+if a<k then f a else 0)
 |0,_=>by
  simp only[List.range_zero,List.map_nil,List.filter_nil,gP,Option.some.injEq];apply List.ext_getElem
  ·simp[hb]
  ·intro i h1 h2
   simp[List.getElem?_eq_getElem h1]
 |k+1,hk=>by
  have ih:=IF dC f hb hB hf k (by omega)
  rw[List.range_succ,List.map_append,List.filter_append];have hset:(List.range 17).map (fun(a:Nat)=>dC.getD a 0+if a<k+1 then f a else 0)=((List.range 17).map fun(a:Nat)=>dC.getD a 0+if a<k then f a else 0).set k (dC.getD k 0+f k):=by
   apply List.ext_getElem
   ·simp
   ·intro i h1 h2
    rw[List.getElem_set];by_cases e:k=i
    ·subst e;simp
    ·simp only[e,if_false,List.getElem_map,List.getElem_range]
     have:(i<k+1)=(i<k):=by simp;omega
     simp only[this]
  have hget:((List.range 17).map fun(a:Nat)=>dC.getD a 0+if a<k then f a else 0).getD k 0=dC.getD k 0:=by
   rw[List.getD,List.getElem?_map,List.getElem?_range (by omega)]
   simp
  by_cases hz:f k=0
  ·have e:List.filter (fun x=>!jL x) (List.map (fun(a:Nat)=>(⟨(a:Int),f a⟩:cD)) [k])=[]:=by simp[jL,hz]
   rw[e,List.append_nil,ih,hset];congr 1
   rw[hz,Int.add_zero];apply List.ext_getElem
   ·simp
   ·intro i h1 h2
    rw[List.getElem_set];by_cases e:k=i
    ·subst e;simp
    ·simp[e]
  ·have e:List.filter (fun x=>!jL x) (List.map (fun(a:Nat)=>(⟨(a:Int),f a⟩:cD)) [k])=[⟨(k:Int),f k⟩]:=by simp[jL,hz]
   rw[e,DQ,ih];simp only[Option.bind_some,Int.toNat_natCast,hget];have h1:=hB k (by omega)
   have h2:=hf k;rw[if_pos (nY.2 ⟨dW.2 ⟨by omega,by omega⟩,dW.2 ⟨by omega,by omega⟩,dW.2 ⟨by omega,by omega⟩⟩),hset]
theorem Fx {dC:List Int} {l:List cD} (hb:dC.length=17) (hB:∀a:Nat,a<17→-144115188075855872≤dC.getD a 0∧dC.getD a 0≤144115188075855872) (h:Small l) (hs:(gH l).sum=0):qP dC (dS l)=(Gz dC l,0):=by
 have h2:=AS l h.ok;have h3:=h.len;have hP:=Lm h;have hA:gP dC (dS l)=some (Gz dC l):=by
  have:=IF dC (fun a=>eO l a) hb hB (fun a=>by have:=h2 a;omega) 17 (Nat.le_refl _)
  unfold dS Gz;rw[this];congr 1
 have hc:(dS l).length=0∨nL (dS l)=true:=by
  rcases Nat.eq_zero_or_pos (dS l).length with h0|h0
  ·exact .inl h0
  ·right
   have h6:=FA (l:=l)
   have hbad:(dS l).any Hl=false:=by
    rw[List.any_eq_false];intro x hx;have:=qQ h x hx
    have h2:=h2 x.a;simp only[Hl,Bool.or_eq_true,Bool.not_eq_true',not_or,Bool.not_eq_false,decide_eq_true_eq];exact⟨⟨uT.2 ⟨this.1,this.2.1⟩,this.2.2.1⟩,dW.2 ⟨by omega,by omega⟩⟩
   have h4:eB (gH (dS l))≤17*(12*1125899906842624):=by
    have:∀m:List cD,(∀x∈m,-(12*1125899906842624)≤x.n∧x.n≤12*1125899906842624)→eB (gH m)≤12*1125899906842624*(m.length:Int):=by
     intro m;induction m with
     |nil=>intro _;simp[gH,eB]
     |cons x m ih =>
      intro hm;have e:gH (x::m)=x.n::gH m:=rfl
      have:=ih fun y hy=>hm y (List.mem_cons_of_mem _ hy)
      have hx:=hm x List.mem_cons_self;rw[e,fV,List.length_cons];omega
    have h5:=this (dS l) (fun x hx=>by have:=qQ h x hx;have:=h2 x.a;omega)
    omega
   have hz:bS 0 (gH (dS l))=some 0:=by
    rw[jN _ 0 (by omega),Int.zero_add]
    congr 1
    unfold dS;rw[abC];have e:gH ((List.range 17).map fun(a:Nat)=>(⟨(a:Int),eO l a⟩:cD))=(List.range 17).map fun(a:Nat)=>eO l a:=by
     unfold gH;rw[List.map_map];rfl
    rw[e,MZ l (fun x hx=>⟨(h.ok x hx).1,(h.ok x hx).2.1⟩),hs]
   unfold nL;rw[hbad,(kF hz).1,(kF hz).2];simp
   omega
 have hn:¬ ((0:Int)≠0∨(0<(dS l).length∧nL (dS l)=false)):=by
  rintro(h|⟨h1,h2⟩)
  ·exact h rfl
  ·rcases hc with h3|h3
   ·omega
   ·rw[h3]at h2;cases h2
 have e1:HQ dC (dS l)=0:=by rw[HQ,hP,if_neg hn,hA]
 rw[qP,if_pos e1,TK,hP,hA];rfl
abbrev M58:Int:=288230376151711744
abbrev rV (v:Int):Prop:=-288230376151711744≤v∧v≤288230376151711744
def eC.nil:eC:=⟨⟨0,false,[],[],[],[],[]⟩,[]⟩
def bH.bU (S:bH) (e:Int):eC:=S.aH.getD e.toNat eC.nil
def bH.fJ (S:bH) (e item:Int):Int:=(S.methods.getD e.toNat []).getD item.toNat 0
def bH.cost (S:bH) (e item:Int):Int:=(S.iC.getD e.toNat []).getD item.toNat 0
def eC.cQ (x:eC) (k:Int):dA:=x.bE.getD k.toNat ⟨[],0,0,0⟩
def eC.aah (x:eC) (item:Int):List Int:=x.bF.getD item.toNat []
def eC.eK (x:eC) (k:Int) (p:dA):eC:={ x with bE:=x.bE.set k.toNat p }
def eC.sL (x:eC) (item:Int) (r:List Int):eC:={ x with bF:=x.bF.set item.toNat r }
structure GP (n:Nat) (ms:List Int) (x:EntC):Prop where
 pl:x.bE.length=2*n
 ok:∀(k:Nat) (p:dA),x.bE[k]?=some p→nZ (ms.getD (k/2) 0) p.bK p.pn
 bl:x.dC.length=17
 bb:∀v∈x.dC,rV v
 rl:x.bF.length=n
 rr:∀r∈x.bF,r.length=11∧∀v∈r,rV v
 pr:x.aW.length=n
 prb:∀v∈x.aW,-1≤v∧v≤M58
 dl:x.down.length=n
 db:∀v∈x.down,0≤v∧v≤M58
 now:1≤x.now∧x.now≤12
structure StOk (S:bH):Prop where
 hn:S.aH.length≤4
 hw:S.weights.length≤5
 GR:S.methods.length=S.aH.length
 DB:S.iC.length=S.aH.length
 AO:∀r∈S.methods,r.length=S.weights.length
 uF:∀r∈S.iC,r.length=S.weights.length
 mb:∀r∈S.methods,∀v∈r,1≤v∧v≤4
 cb:∀r∈S.iC,∀v∈r,0≤v∧v≤1073741824
 bU:∀(e:Nat) (x:eC),S.aH[e]?=some x→GP S.weights.length (S.methods.getD e []) x.toEntC
 ahead:∀x∈S.aH,∀(e:Nat),S.aH[e]?=some x→∀y∈x.ahead,GP S.weights.length (S.methods.getD e []) y
structure Ix (S:bH) (e item:Int):Prop where
 e0:0≤e
 e1:e<S.aH.length
 i0:0≤item
 i1:item<S.weights.length
section
variable {S:bH} {e item:Int}
theorem StOk.at_ (h:StOk S) (x:Ix S e item):S.aH[e.toNat]?=some (S.bU e):=getD_some (by have:=x.e0;have:=x.e1;omega)
theorem StOk.Hh (h:StOk S) (x:Ix S e item):GP S.weights.length (S.methods.getD e.toNat []) (S.bU e).toEntC:=h.bU _ _ (h.at_ x)
theorem StOk.wx (h:StOk S) (x:Ix S e item):Wx S e item (S.bU e).now (S.bU e).closed (S.bU e).bE (S.bU e).dC (S.bU e).bF (S.bU e).aW (S.bU e).down (S.bU e).ahead (S.methods.getD e.toNat []) (S.iC.getD e.toNat []) (S.fJ e item) (S.cost e item):=by
 have E:=h.Hh x;have he:e.toNat<S.aH.length:=by have:=x.e0;have:=x.e1;omega
 have hm:e.toNat<S.methods.length:=by rw[h.GR];exact he
 have hc:e.toNat<S.iC.length:=by rw[h.DB];exact he
 have m1:=fR (d:=[]) hm
 have c1:=fR (d:=[]) hc
 have AO:=h.AO _ m1;have uF:=h.uF _ c1;have hi:item.toNat<S.weights.length:=by have:=x.i0;have:=x.i1;omega
 have m2:=h.mb _ m1 _ (fR (d:=0) (k:=item.toNat) (by omega))
 have c2:=h.cb _ c1 _ (fR (d:=0) (k:=item.toNat) (by omega))
 exact⟨h.hn,x.e0,x.e1,h.at_ x,h.hw,x.i0,x.i1,h.GR,h.DB,getD_some hm,getD_some hc,AO,uF,E.pl,E.rl,getD_some (by omega),getD_some (by omega),⟨by unfold bH.fJ;omega,by unfold bH.fJ;omega⟩,⟨by unfold bH.cost;omega,by unfold bH.cost;omega⟩⟩
theorem StOk.mb' (h:StOk S) (x:Ix S e item):1≤S.fJ e item∧S.fJ e item≤4:=by
 have he:e.toNat<S.aH.length:=by have:=x.e0;have:=x.e1;omega
 have hm:e.toNat<S.methods.length:=by rw[h.GR];exact he
 have m1:=fR (d:=[]) hm
 have AO:=h.AO _ m1;have hi:item.toNat<S.weights.length:=by have:=x.i0;have:=x.i1;omega
 exact h.mb _ m1 _ (fR (d:=0) (k:=item.toNat) (by omega))
theorem StOk.cb' (h:StOk S) (x:Ix S e item):0≤S.cost e item∧S.cost e item≤1073741824:=by
 have he:e.toNat<S.aH.length:=by have:=x.e0;have:=x.e1;omega
 have hc:e.toNat<S.iC.length:=by rw[h.DB];exact he
 have c1:=fR (d:=[]) hc
 have uF:=h.uF _ c1;have hi:item.toNat<S.weights.length:=by have:=x.i0;have:=x.i1;omega
 exact h.cb _ c1 _ (fR (d:=0) (k:=item.toNat) (by omega))
theorem StOk.plt (h:StOk S) (x:Ix S e item) {loc:Int} (l0:0≤loc) (l1:loc≤1):(2*item+loc).toNat<(S.bU e).bE.length:=by
 have:=(h.Hh x).pl;have:=x.i0;have:=x.i1
 omega
theorem StOk.pat (h:StOk S) (x:Ix S e item) {loc:Int} (l0:0≤loc) (l1:loc≤1):(S.bU e).bE[(2*item+loc).toNat]?=some ((S.bU e).cQ (2*item+loc)):=getD_some (h.plt x l0 l1)
theorem StOk.Rx (h:StOk S) (x:Ix S e item) {loc:Int} (l0:0≤loc) (l1:loc≤1):nZ (S.fJ e item) ((S.bU e).cQ (2*item+loc)).bK ((S.bU e).cQ (2*item+loc)).pn:=by
 have k:=(h.Hh x).ok _ _ (h.pat x l0 l1)
 have e1:(2*item+loc).toNat/2=item.toNat:=by have:=x.i0;omega
 rw[e1]at k;exact k
theorem Ix.ie (x:Ix S e item) (h:StOk S):iM e:=by have:=x.e0;have:=x.e1;have:=h.hn;exact⟨by omega,by omega⟩
theorem Ix.ii (x:Ix S e item) (h:StOk S):iM item:=by have:=x.i0;have:=x.i1;have:=h.hw;exact⟨by omega,by omega⟩
theorem agW (h:StOk S) (x:Ix S e item) {loc:Int} (l0:0≤loc) (l1:loc≤1):CK Tryz.prog 112 [S.av,.i e,.i item,.i loc] ((S.bU e).cQ (2*item+loc)).av :=
 aj4 (h.wx x) l0 l1 rfl (h.pat x l0 l1) (h.Rx x l0 l1).lr.len
def dQ (S:bH) (e item:Int):bB×Bool :=
 let a:=((S.bU e).cQ (2*item)).bK
 let b:=((S.bU e).cQ (2*item+1)).bK
 (⟨cU [qs a,qs b],cU [vs a,vs b],cU [ps a,ps b]⟩,decide (cY [qs a,qs b]=0∧cY [vs a,vs b]=0∧cY [ps a,ps b]=0))
theorem vM (l:List Int):cY l=0∨cY l=2:=by unfold cY;split<;>simp
theorem IE {a b:Int} (h1:iM a) (h2:iM b):eN [a,b]:=by
 intro v hv;simp only[List.mem_cons,List.not_mem_nil,or_false]at hv;rcases hv with rfl|rfl
 ·exact h1
 ·exact h2
theorem ad2 (h:StOk S) (x:Ix S e item):CK Tryz.prog 129 [S.av,.i e,.i item] (.aZ [(dQ S e item).1.av,.c (.bool (dQ S e item).2)]):=by
 have a0:=agW h x (loc:=0) (by omega) (by omega)
 have a1:=agW h x (loc:=1) (by omega) (by omega)
 have r0:=(h.Rx x (loc:=0) (by omega) (by omega)).lr
 have r1:=(h.Rx x (loc:=1) (by omega) (by omega)).lr
 rw[Int.add_zero]at a0 r0;have t0:=BR r0;have t1:=BR r1;unfold dQ;generalize (S.bU e).cQ (2*item)=P0 at *
 generalize (S.bU e).cQ (2*item+1)=P1 at *
 obtain⟨b1,b2,b3⟩:=r0.bds;obtain⟨c1,c2,c3⟩:=r1.bds;have sq:=rJ [qs P0.bK,qs P1.bK] (IE b1 c1)
 have sv:=rJ [vs P0.bK,vs P1.bK] (IE b2 c2)
 have sp:=rJ [ps P0.bK,ps P1.bK] (IE b3 c3)
 have hq:=vM [qs P0.bK,qs P1.bK]
 have hv:=vM [vs P0.bK,vs P1.bK]
 have hp:=vM [ps P0.bK,ps P1.bK]
 simp only
 generalize cY [qs P0.bK,qs P1.bK]=eq at *
 generalize cY [vs P0.bK,vs P1.bK]=ev at *
 generalize cY [ps P0.bK,ps P1.bK]=ep at *
 rcases hq with rfl|rfl<;>rcases hv with rfl|rfl<;>rcases hp with rfl|rfl
 ·exact agm (x.ie h) (x.ii h) a0 a1 t0 t1 sq sv sp
 ·exact agi (x.ie h) (x.ii h) a0 a1 t0 t1 sq sv sp
 ·exact agk (x.ie h) (x.ii h) a0 a1 t0 t1 sq sv sp
 ·exact agf (x.ie h) (x.ii h) a0 a1 t0 t1 sq sv sp
 ·exact agl (x.ie h) (x.ii h) a0 a1 t0 t1 sq sv sp
 ·exact agh (x.ie h) (x.ii h) a0 a1 t0 t1 sq sv sp
 ·exact agj (x.ie h) (x.ii h) a0 a1 t0 t1 sq sv sp
 ·exact age (x.ie h) (x.ii h) a0 a1 t0 t1 sq sv sp
theorem Pd (h:StOk S) (x:Ix S e item):CK Tryz.prog 69 [S.av,.i e,.i item] (dQ S e item).1.av:=by
 have k:=ad2 h x;generalize dQ S e item=r at *;obtain⟨y,b⟩:=r;cases b with
 |true=>exact Hq (x.ie h) (x.ii h) k
 |false=>exact GI (x.ie h) (x.ii h) k
def A0 (S:bH) (e item:Int):Bool:=decide (cY (sw ((S.bU e).cQ (2*item)).bK++sw ((S.bU e).cQ (2*item+1)).bK)=0)
end
end
section
open Mc
theorem Xb {l:List bB} {x:bB}:kY (Ay l x).2:=by
 unfold Ay;split
 ·exact⟨by simp,by simp⟩
 ·split
  ·exact⟨by simp,by simp⟩
  ·split<;>exact⟨by simp,by simp⟩
theorem Mb {l:List bB} {x:bB}:kY (Az l x).2:=by
 unfold Az;split
 ·exact⟨by simp,by simp⟩
 ·exact Xb
theorem afB {l:List bB} {x:bB} {c:Int}:kY (inC l x c).2.2:=by
 unfold inC;split
 ·exact⟨by simp,by simp⟩
 ·split
  ·exact⟨by simp,by simp⟩
  ·split
   ·exact⟨by simp,by simp⟩
   ·exact Mb
theorem Dy {m c:Int} {l:List bB} {x:bB}:kY (dR m c l x).2.2:=by
 unfold dR;split
 ·exact Xb
 ·split
  ·exact Mb
  ·split
   ·exact Mb
   ·split
    ·exact afB
    ·exact⟨by simp,by simp⟩
theorem FI {l:List bB} {q:Int}:kY (dZ l q).2.2:=by
 unfold dZ;split
 ·exact⟨by simp,by simp⟩
 ·split<;>exact⟨by simp,by simp⟩
theorem acT {l:List bB} {d:vG} {q:Int}:kY (Ar l d q).2.2:=by
 unfold Ar;split
 ·exact⟨by simp,by simp⟩
 ·split
  ·exact⟨by simp,by simp⟩
  ·exact FI
theorem acU {l:List bB} {q c:Int}:kY (Bn l q c).2.2:=by
 have h:=@FI l q
 unfold Bn;split
 ·exact⟨by simp,by simp⟩
 ·split
  ·rename_i y e hS;rw[hS]at h;exact h
  ·rename_i z t y e hS
   rw[hS]at h;split
   ·exact h
   ·exact⟨by simp,by simp⟩
theorem XQ {l:List bB} {d:vG} {k q:Int}:kY (pH l d k q).2:=by
 unfold pH;split
 ·exact⟨by simp,by simp⟩
 ·split<;>exact⟨by simp,by simp⟩
theorem Bg {m c:Int} {l:List bB} {d:vG} {kind q:Int}:kY (bZ m c l d kind q).2.2.2.2:=by
 unfold bZ;split
 ·exact⟨by simp,by simp⟩
 ·split
  ·exact⟨by simp,by simp⟩
  ·split
   ·exact XQ
   ·simp only[fG]
    split
    ·exact acT
    ·split
     ·exact acU
     ·exact FI
theorem Xa {l:List bB} {x:bB} (h:(Ay l x).2=0):1≤x.q∧x.q≤288230376151711744∧0≤x.v∧x.v≤288230376151711744∧-288230376151711744≤x.p∧x.p≤288230376151711744:=by
 unfold Ay at h;split at h
 ·cases h
 ·split at h
  ·cases h
  ·split at h
   ·rename_i hr
    exact(LR.of hr).at_ (x:=x) (by simp)
   ·cases h
theorem Ma {l:List bB} {x:bB} (h:(Az l x).2=0):1≤x.q∧x.q≤288230376151711744∧0≤x.v∧x.v≤288230376151711744∧-288230376151711744≤x.p∧x.p≤288230376151711744:=by
 unfold Az at h;split at h
 ·exact Xa ‹_›
 ·exact absurd h ‹_›
theorem Ao {m c:Int} {l l':List bB} {x:bB} {up:Int} (h:dR m c l x=(l',up,0)):0≤x.v∧x.v≤288230376151711744∧-288230376151711744≤up∧up≤288230376151711744∧0≤x.v-up∧x.v-up≤288230376151711744∧1≤x.q:=by
 unfold dR at h;split at h
 ·have:=Xa (l:=l) (x:=x) (congrArg (fun r=>r.2.2) h)
  have hu:up=0:=(congrArg (fun r=>r.2.1) h).symm
  omega
 ·split at h
  ·have:=Ma (l:=l) (x:=x) (congrArg (fun r=>r.2.2) h)
   have hu:up=0:=(congrArg (fun r=>r.2.1) h).symm
   omega
  ·split at h
   ·have:=Ma (l:=l) (x:=x) (congrArg (fun r=>r.2.2) h)
    have hu:up=0:=(congrArg (fun r=>r.2.1) h).symm
    omega
   ·split at h
    ·unfold inC at h
     split at h
     ·exact absurd (congrArg (fun r=>r.2.2) h) (by simp)
     ·split at h
      ·exact absurd (congrArg (fun r=>r.2.2) h) (by simp)
      ·split at h
       ·rename_i h1 h2 h3
        have:=Ma h3
        simp only at this
        have hu:up=x.v-H9 c x.q:=(congrArg (fun r=>r.2.1) h).symm
        omega
       ·rename_i h3
        exact absurd (congrArg (fun r=>r.2.2) h) h3
    ·exact absurd (congrArg (fun r=>r.2.2) h) (by simp)
theorem StOk.bP {S:bH} (h:StOk S) {e:Int} {x:eC} (e0:0≤e) (hx:GP S.weights.length (S.methods.getD e.toNat []) x.toEntC) (ha:∀y∈x.ahead,GP S.weights.length (S.methods.getD e.toNat []) y):StOk (S.bP e x):=by
 refine⟨by simp only[bH.bP,List.length_set];exact h.hn,h.hw,by simp only[bH.bP,List.length_set];exact h.GR,by simp only[bH.bP,List.length_set];exact h.DB,h.AO,h.uF,h.mb,h.cb,?_,?_⟩
 ·intro k y hy
  simp only[bH.bP]at hy ⊢;rw[List.getElem?_set]at hy;split at hy
  ·rename_i hk
   subst hk;split at hy
   ·cases hy;exact hx
   ·cases hy
  ·exact h.bU k y hy
 ·intro y hym k hy z hz
  simp only[bH.bP]at hy ⊢;rw[List.getElem?_set]at hy;split at hy
  ·rename_i hk
   subst hk;split at hy
   ·cases hy;exact ha z hz
   ·cases hy
  ·exact h.ahead y (List.mem_of_getElem? hy) k hy z hz
section
variable {S:bH} {e item:Int}
theorem StOk.eK (h:StOk S) (x:Ix S e item) {loc:Int} (l0:0≤loc) (l1:loc≤1) {p:dA} (hp:nZ (S.fJ e item) p.bK p.pn):StOk (S.bP e ((S.bU e).eK (2*item+loc) p)):=by
 have E:=h.Hh x;refine h.bP x.e0 ?_ (h.ahead _ (List.mem_of_getElem? (h.at_ x)) _ (h.at_ x))
 refine⟨by simp only[eC.eK,List.length_set];exact E.pl,?_,E.bl,E.bb,E.rl,E.rr,E.pr,E.prb,E.dl,E.db,E.now⟩
 intro k q hq;simp only[eC.eK]at hq;rw[List.getElem?_set]at hq;split at hq
 ·rename_i hk
  subst hk;split at hq
  ·cases hq
   have e1:(2*item+loc).toNat/2=item.toNat:=by have:=x.i0;omega
   rw[e1];exact hp
  ·cases hq
 ·exact E.ok k q hq
theorem Ix.bP (x:Ix S e item) {e':Int} {y:eC}:Ix (S.bP e' y) e item:=⟨x.e0,by simp only[bH.bP,List.length_set];exact x.e1,x.i0,x.i1⟩
def fK (S:bH) (e item loc:Int) (y:bB):bH×Int×Int×Int :=
 if(dR (S.fJ e item) (S.cost e item) ((S.bU e).cQ (2*item+loc)).bK y).2.2≠0 then(S,0,0,(dR (S.fJ e item) (S.cost e item) ((S.bU e).cQ (2*item+loc)).bK y).2.2)
 else if(dQ (S.bP e ((S.bU e).eK (2*item+loc) { (S.bU e).cQ (2*item+loc)with bK:=(dR (S.fJ e item) (S.cost e item) ((S.bU e).cQ (2*item+loc)).bK y).1 })) e item).2=false then(S,0,0,2)
 else if A0 (S.bP e ((S.bU e).eK (2*item+loc) { (S.bU e).cQ (2*item+loc)with bK:=(dR (S.fJ e item) (S.cost e item) ((S.bU e).cQ (2*item+loc)).bK y).1 })) e item=false then(S,0,0,2)
 else(S.bP e ((S.bU e).eK (2*item+loc) { (S.bU e).cQ (2*item+loc)with bK:=(dR (S.fJ e item) (S.cost e item) ((S.bU e).cQ (2*item+loc)).bK y).1 }),y.v-(dR (S.fJ e item) (S.cost e item) ((S.bU e).cQ (2*item+loc)).bK y).2.1,(dR (S.fJ e item) (S.cost e item) ((S.bU e).cQ (2*item+loc)).bK y).2.1,0)
def eL (S:bH) (e item loc kind q:Int):bH×bB×Bool×Int :=
 if(bZ (S.fJ e item) (S.cost e item) ((S.bU e).cQ (2*item+loc)).bK ((S.bU e).cQ (2*item+loc)).pn kind q).2.2.2.2≠0 then(S,⟨0,0,0⟩,false,(bZ (S.fJ e item) (S.cost e item) ((S.bU e).cQ (2*item+loc)).bK ((S.bU e).cQ (2*item+loc)).pn kind q).2.2.2.2)
 else(S.bP e ((S.bU e).eK (2*item+loc) ⟨(bZ (S.fJ e item) (S.cost e item) ((S.bU e).cQ (2*item+loc)).bK ((S.bU e).cQ (2*item+loc)).pn kind q).1,(bZ (S.fJ e item) (S.cost e item) ((S.bU e).cQ (2*item+loc)).bK ((S.bU e).cQ (2*item+loc)).pn kind q).2.1.a,(bZ (S.fJ e item) (S.cost e item) ((S.bU e).cQ (2*item+loc)).bK ((S.bU e).cQ (2*item+loc)).pn kind q).2.1.b,(bZ (S.fJ e item) (S.cost e item) ((S.bU e).cQ (2*item+loc)).bK ((S.bU e).cQ (2*item+loc)).pn kind q).2.1.c⟩),(bZ (S.fJ e item) (S.cost e item) ((S.bU e).cQ (2*item+loc)).bK ((S.bU e).cQ (2*item+loc)).pn kind q).2.2.1,(bZ (S.fJ e item) (S.cost e item) ((S.bU e).cQ (2*item+loc)).bK ((S.bU e).cQ (2*item+loc)).pn kind q).2.2.2.1,0)
def BY:List Int→List Int→Option (List Int)
 |a::l,b::r=>if lL a b=0 then(BY l r).map (mI a b::·)else none
 |_,_=>some []
def jR (S:bH) (e item:Int) (r:List Int):bH×Int :=
 match BY ((S.bU e).aah item) r with
 |none=>(S,2)
 |some s=>(S.bP e ((S.bU e).sL item s),0)
theorem nM (a b:Int):lL a b=0∨lL a b=2:=by unfold lL;split<;>simp
theorem agb (a b:Int):rV (mI a b):=by
 unfold mI;split
 ·rename_i h
  have:=rQ h
  exact⟨by omega,by omega⟩
 ·exact⟨by omega,by omega⟩
theorem T6 {l:List Int} (h:l.length=11):∃r0 r1 r2 r3 r4 r5 r6 r7 r8 r9 r10,l=[r0,r1,r2,r3,r4,r5,r6,r7,r8,r9,r10]:=by
 match l,h with
 |[r0,r1,r2,r3,r4,r5,r6,r7,r8,r9,r10],_=>exact⟨_,_,_,_,_,_,_,_,_,_,_,rfl⟩
theorem Tz (h:StOk S) (x:Ix S e item):(S.bU e).bF[item.toNat]?=some ((S.bU e).aah item):=getD_some (by have:=(h.Hh x).rl;have:=x.i0;have:=x.i1;omega)
theorem Ty (h:StOk S) (x:Ix S e item):((S.bU e).aah item).length=11∧∀v∈(S.bU e).aah item,rV v:=(h.Hh x).rr _ (List.mem_of_getElem? (Tz h x))
def gK (S:bH) (e:Int) (l:List cD):bH×Int :=
 if(cM l).2≠0 then(S,(cM l).2)else if(qP (S.bU e).dC (cM l).1).2≠0 then(S,(qP (S.bU e).dC (cM l).1).2)else(S.bP e ((S.bU e).xD (qP (S.bU e).dC (cM l).1).1),0)
theorem HP (b:List Int) (l:List cD):kY (qP b l).2:=by
 unfold qP;split
 ·exact⟨by simp,by simp⟩
 ·unfold HQ
  split
  ·exact⟨by simp,by simp⟩
  ·split<;>exact⟨by simp,by simp⟩
end
end
section
open Mc
structure Kin (S S1:bH):Prop where
 eq:S1=S.gI S1.aH
 len:S1.aH.length=S.aH.length
 ok:StOk S1
theorem Kin.refl {S:bH} (h:StOk S):Kin S S:=⟨rfl,rfl,h⟩
theorem Kin.trans {S S1 S2:bH} (h:Kin S S1) (g:Kin S1 S2):Kin S S2:=⟨by rw[g.eq,h.eq];rfl,g.len.trans h.len,g.ok⟩
theorem Kin.ix {S S1:bH} (h:Kin S S1) {e item:Int} (x:Ix S e item):Ix S1 e item:=⟨x.e0,by rw[h.len];exact x.e1,x.i0,by rw[h.eq];exact x.i1⟩
theorem Kin.bP {S:bH} {e:Int} {y:eC} (h:StOk (S.bP e y)):Kin S (S.bP e y):=⟨rfl,by simp[bH.bP],h⟩
section
variable {S:bH} {e item:Int}
theorem MB (h:StOk S) (x:Ix S e item) {loc:Int} (l0:0≤loc) (l1:loc≤1) (y:bB) :
  Kin S (fK S e item loc y).1∧kY (fK S e item loc y).2.2.2∧rV (fK S e item loc y).2.1∧rV (fK S e item loc y).2.2.1∧((fK S e item loc y).2.2.2≠0→(fK S e item loc y).1=S∧(fK S e item loc y).2.1=0∧(fK S e item loc y).2.2.1=0):=by
 have hpo:=h.Rx x l0 l1;have hm:=h.mb' x;have her:=@Dy (S.fJ e item) (S.cost e item) ((S.bU e).cQ (2*item+loc)).bK y
 have hset:=fun p hp=>h.eK x (p:=p) l0 l1 hp
 unfold fK;obtain⟨l',up,e',hI⟩:∃l' up e',dR (S.fJ e item) (S.cost e item) ((S.bU e).cQ (2*item+loc)).bK y=(l',up,e'):=⟨_,_,_,rfl⟩
 have k1:=hpo.in_ hm hI;have k3:e'=0→_:=fun(h0:e'=0)=>Ao (by rw[hI,h0])
 simp only[hI]at her ⊢;clear hI;have k:=Kin.bP (hset { (S.bU e).cQ (2*item+loc)with bK:=l' } k1.1)
 split
 ·exact⟨Kin.refl h,her,⟨by simp,by simp⟩,⟨by simp,by simp⟩,fun _=>⟨rfl,rfl,rfl⟩⟩
 ·rename_i he
  have he:e'=0:=by simpa using he
  have k3:=k3 he;split
  ·exact⟨Kin.refl h,⟨by simp,by simp⟩,⟨by simp,by simp⟩,⟨by simp,by simp⟩,fun _=>⟨rfl,rfl,rfl⟩⟩
  ·split
   ·exact⟨Kin.refl h,⟨by simp,by simp⟩,⟨by simp,by simp⟩,⟨by simp,by simp⟩,fun _=>⟨rfl,rfl,rfl⟩⟩
   ·exact⟨k,⟨by simp,by simp⟩,⟨by simp only;omega,by simp only;omega⟩,⟨by simp only;omega,by simp only;omega⟩,fun h=>absurd rfl h⟩
theorem Lk {m c:Int} {l:List bB} {d:vG} {kind q:Int} (hp:nZ m l d) (hm:1≤m∧m≤4) (hk:0≤kind∧kind≤3):-288230376151711744≤(bZ m c l d kind q).2.2.1.v∧(bZ m c l d kind q).2.2.1.v≤288230376151711744:=by
 obtain⟨k1,k2⟩:=hp.ajx (c:=c) (kind:=kind) (q:=q) hm hk (l':=(bZ m c l d kind q).1) (d':=(bZ m c l d kind q).2.1) (y:=(bZ m c l d kind q).2.2.1) (wt:=(bZ m c l d kind q).2.2.2.1) (e':=(bZ m c l d kind q).2.2.2.2) rfl
 have h1:=hp.lr.v;have h2:=(qO hp.lr.ok).2.1
 have h3:=k1.lr.v;have h4:=(qO k1.lr.ok).2.1
 omega
theorem Ru {m c:Int} {l:List bB} {d:vG} {kind q:Int} (hl:LR l):(0≤(bZ m c l d kind q).2.2.1.q∧(bZ m c l d kind q).2.2.1.q≤288230376151711744)∧-576460752303423488≤(bZ m c l d kind q).2.2.1.p∧(bZ m c l d kind q).2.2.1.p≤576460752303423488:=by
 have k:=acS hl (q:=q)
 unfold bZ;split
 ·simp[bB.zero]
 ·split
  ·simp[bB.zero]
  ·split
   ·simp[bB.zero]
   ·simp only[fG]
    split
    ·unfold Ar
     split
     ·simp[bB.zero]
     ·split
      ·simp[bB.zero]
      ·exact k
    ·split
     ·unfold Bn
      split
      ·simp[bB.zero]
      ·split
       ·rename_i y e hS;rw[hS]at k;exact k
       ·rename_i z t y e hS
        rw[hS]at k;split
        ·exact k
        ·exact k
     ·exact k
theorem Mn (h:StOk S) (x:Ix S e item) {loc kind:Int} (l0:0≤loc) (l1:loc≤1) (k0:0≤kind) (k1:kind≤3) (q:Int) :
  Kin S (eL S e item loc kind q).1∧kY (eL S e item loc kind q).2.2.2∧rV (eL S e item loc kind q).2.1.v∧((0≤(eL S e item loc kind q).2.1.q∧(eL S e item loc kind q).2.1.q≤288230376151711744)∧-576460752303423488≤(eL S e item loc kind q).2.1.p∧(eL S e item loc kind q).2.1.p≤576460752303423488)∧((eL S e item loc kind q).2.2.2≠0→(eL S e item loc kind q).1=S∧(eL S e item loc kind q).2.1=⟨0,0,0⟩∧(eL S e item loc kind q).2.2.1=false):=by
 have hpo:=h.Rx x l0 l1;have hm:=h.mb' x;have her:=@Bg (S.fJ e item) (S.cost e item) ((S.bU e).cQ (2*item+loc)).bK ((S.bU e).cQ (2*item+loc)).pn kind q
 have hv:=Lk (c:=S.cost e item) (kind:=kind) (q:=q) hpo hm ⟨k0,k1⟩
 have hi:=Ru (m:=S.fJ e item) (c:=S.cost e item) (d:=((S.bU e).cQ (2*item+loc)).pn) (kind:=kind) (q:=q) hpo.lr
 unfold eL;obtain⟨l',d',y,wt,e',hO⟩:∃l' d' y wt e',bZ (S.fJ e item) (S.cost e item) ((S.bU e).cQ (2*item+loc)).bK ((S.bU e).cQ (2*item+loc)).pn kind q=(l',d',y,wt,e'):=⟨_,_,_,_,_,rfl⟩
 have k:=hpo.ajx hm ⟨k0,k1⟩ hO
 simp only[hO]at her hv hi ⊢;clear hO;have kk:=Kin.bP (h.eK x l0 l1 (p:=⟨l',d'.a,d'.b,d'.c⟩) k.1)
 split
 ·exact⟨Kin.refl h,her,⟨by simp,by simp⟩,by simp,fun _=>⟨rfl,rfl,rfl⟩⟩
 ·exact⟨kk,⟨by simp,by simp⟩,⟨by simp only;omega,by simp only;omega⟩,hi,fun h=>absurd rfl h⟩
theorem Ps:∀(a b s:List Int),a.length=b.length→BY a b=some s→s.length=a.length∧∀v∈s,rV v
 |[],[],s,_,h=>by simp[BY]at h;subst h;simp
 |[],_::_,s,hl,h=>by simp at hl
 |_::_,[],s,hl,h=>by simp at hl
 |a::l,b::r,s,hl,h=>by
  simp only[BY]at h;split at h
  ·cases hx:BY l r with
   |none=>rw[hx]at h;cases h
   |some t =>
    rw[hx]at h;cases h;obtain⟨h1,h2⟩:=Ps l r t (by simpa using hl) hx
    refine⟨by simp[h1],?_⟩
    intro v hv;rcases List.mem_cons.1 hv with rfl|hv
    ·exact agb _ _
    ·exact h2 v hv
  ·cases h
theorem StOk.sL (h:StOk S) (x:Ix S e item) {r:List Int} (hr:r.length=11∧∀v∈r,rV v):StOk (S.bP e ((S.bU e).sL item r)):=by
 have E:=h.Hh x;refine h.bP x.e0 ?_ (h.ahead _ (List.mem_of_getElem? (h.at_ x)) _ (h.at_ x))
 refine⟨E.pl,E.ok,E.bl,E.bb,by simp only[eC.sL,List.length_set];exact E.rl,?_,E.pr,E.prb,E.dl,E.db,E.now⟩
 intro q hq;simp only[eC.sL]at hq;rcases List.mem_or_eq_of_mem_set hq with hq|rfl
 ·exact E.rr q hq
 ·exact hr
theorem MY (h:StOk S) (x:Ix S e item) {r:List Int} (hr:r.length=11):Kin S (jR S e item r).1∧kY (jR S e item r).2∧((jR S e item r).2≠0→(jR S e item r).1=S):=by
 have hro:=Ty h x;unfold jR;split
 ·exact⟨Kin.refl h,⟨by simp,by simp⟩,fun _=>rfl⟩
 ·rename_i s hs
  obtain⟨k1,k2⟩:=Ps _ _ _ (by rw[hro.1,hr]) hs
  exact⟨Kin.bP (h.sL x ⟨by rw[k1,hro.1],k2⟩),⟨by simp,by simp⟩,fun h=>absurd rfl h⟩
theorem Pu:∀(m:List cD) (dC next:List Int),(∀v∈dC,rV v)→gP dC m=some next→∀v∈next,rV v
 |[],dC,next,hI,h=>by simp[gP]at h;rw[←h];exact hI
 |x::m,dC,next,hI,h=>by
  simp only[gP]at h;split at h
  ·rename_i ho
   have hb:=rQ ho;refine Pu m _ _ (fun z hz=>?_) h
   rcases List.mem_or_eq_of_mem_set hz with h|rfl
   ·exact hI z h
   ·exact⟨by omega,by omega⟩
  ·cases h
theorem ace {b:List Int} {l:List cD} (hb:b.length=17) (hB:∀v∈b,rV v):(qP b l).1.length=17∧∀v∈(qP b l).1,rV v:=by
 unfold qP;split
 ·simp only[TK]
  cases h:gP b (cM l).1 with
  |none=>simp only[Option.getD_none];exact⟨hb,hB⟩
  |some n=>simp only[Option.getD_some];exact⟨by rw[GA _ _ _ h,hb],Pu _ _ _ hB h⟩
 ·exact⟨hb,hB⟩
theorem StOk.xD (h:StOk S) (x:Ix S e item) {b:List Int} (hb:b.length=17∧∀v∈b,rV v):StOk (S.bP e ((S.bU e).xD b)):=by
 have E:=h.Hh x;refine h.bP x.e0 ?_ (h.ahead _ (List.mem_of_getElem? (h.at_ x)) _ (h.at_ x))
 exact⟨E.pl,E.ok,hb.1,hb.2,E.rl,E.rr,E.pr,E.prb,E.dl,E.db,E.now⟩
theorem NA (h:StOk S) (x:Ix S e item) (l:List cD):Kin S (gK S e l).1∧kY (gK S e l).2∧((gK S e l).2≠0→(gK S e l).1=S):=by
 have E:=h.Hh x;have e1:=Ap l;have e2:=HP (S.bU e).dC (cM l).1
 have e3:=ace (l:=(cM l).1) E.bl E.bb
 unfold gK;split
 ·exact⟨Kin.refl h,e1.1,fun _=>rfl⟩
 ·split
  ·exact⟨Kin.refl h,e2,fun _=>rfl⟩
  ·exact⟨Kin.bP (h.xD x e3),⟨by simp,by simp⟩,fun h=>absurd rfl h⟩
end
end
section
open Mc
set_option maxRecDepth 1000000
section
variable {S:bH} {e item:Int}
theorem oP (h:StOk S) (x:Ix S e item):Ck 89 [S.av,.i e,.i item] (.i (if(S.bU e).closed then 7 else 0)):=by
 have H:=h.wx x;have:=H.bd;generalize (S.bU e).closed=cl at *
 cases cl with
 |true=>exact cw (CY WP [] [] [] [] [] [] []) (ev2 H [] [] [] .nil) [Wu,.v 0,.v 2] (.i 7) kn
 |false=>exact cw (CY WH [] [] [] [] [] [] []) (ev2 H [] [] [] .nil) [Wu,.v 0,.v 2] (.i 0) kn
theorem rH (h:StOk S) (x:Ix S e item) {loc:Int} (l0:0≤loc) (l1:loc≤1):Ck 121 [S.av,.i e,.i item,.i loc] ((S.bU e).cQ (2*item+loc)).av:=by
 have H:=h.wx x;have:=H.bd;have hp:=h.pat x l0 l1;have hl:=(h.Rx x l0 l1).lr.len
 generalize (S.bU e).cQ (2*item+loc)=P at *
 obtain⟨L,p0,p1,p2⟩:=P;simp only at hl
 exact cw (CY (.o 4) [(0,1),(0,30)] Y4 [(15,[([7],1)])] Yf [] [] []) (ev2 H [loc,(L.length:Int)] [.I p0,.I p1,.I p2] [aO L] (.d (aQ hp) .nil)) YT UG kn
theorem DH (h:StOk S) (x:Ix S e item):Ck 88 [S.av,.i e,.i item] (.aZ [(dQ S e item).1.av,.i (if(dQ S e item).2 then 0 else 2)]):=by
 have:=x.e0;have:=x.e1;have:=h.hn;have:=x.i0;have:=x.i1;have:=h.hw
 have h0:=rH h x (loc:=0) (by omega) (by omega)
 have h1:=rH h x (loc:=1) (by omega) (by omega)
 have r0:=(h.Rx x (loc:=0) (by omega) (by omega)).lr
 have r1:=(h.Rx x (loc:=1) (by omega) (by omega)).lr
 rw[Int.add_zero]at h0 r0;have c0:=r0.bds;have c1:=r1.bds
 unfold dQ;generalize (S.bU e).cQ (2*item)=P0 at *
 generalize (S.bU e).cQ (2*item+1)=P1 at *
 obtain⟨L0,a0,a1,a2⟩:=P0;obtain⟨L1,b0,b1,b2⟩:=P1;dsimp only at *
 have t0:=DJ (p0:=a0) (p1:=a1) (p2:=a2) r0
 have t1:=DJ (p0:=b0) (p1:=b1) (p2:=b2) r1
 have sq:=Da [qs L0,qs L1] (IE c0.1 c1.1)
 have sv:=Da [vs L0,vs L1] (IE c0.2.1 c1.2.1)
 have sw:=Da [ps L0,ps L1] (IE c0.2.2 c1.2.2)
 have e1:=vM [qs L0,qs L1];have e2:=vM [vs L0,vs L1];have e3:=vM [ps L0,ps L1]
 simp only[decide_eq_true_eq];generalize cU [qs L0,qs L1]=q at *;generalize cU [vs L0,vs L1]=v at *;generalize cU [ps L0,ps L1]=w at *
 generalize cY [qs L0,qs L1]=f1 at *;generalize cY [vs L0,vs L1]=f2 at *;generalize cY [ps L0,ps L1]=f3 at *
 generalize qs L0=q0 at *;generalize vs L0=v0 at *;generalize ps L0=w0 at *
 generalize qs L1=q1 at *;generalize vs L1=v1 at *;generalize ps L1=w1 at *
 rcases e1 with rfl|rfl<;>rcases e2 with rfl|rfl<;>rcases e3 with rfl|rfl
 ·exact cw _ (ev1 { vars:=Ha,bT:=[J0,QT,J1,QU,Z5,ZW,ZX] } [e,item] [.I S.aB,.I S.aD,.I S.done,.I q0,.I v0,.I w0,.I q1,.I v1,.I w1,.I q,.I v,.I w,.I a0,.I a1,.I a2,.I b0,.I b1,.I b2] (sT S [aO L0,aO L1]) .nil) UC (.aZ [Vl,.i 0]) (kc h0 (kc t0 (kc h1 (kc t1 (kc sq (kc sv (kc sw kn)))))))
 ·exact cw _ (ev1 { vars:=Ha,bT:=[J0,QT,J1,QU,Z5,ZW,ZY] } [e,item] [.I S.aB,.I S.aD,.I S.done,.I q0,.I v0,.I w0,.I q1,.I v1,.I w1,.I q,.I v,.I w,.I a0,.I a1,.I a2,.I b0,.I b1,.I b2] (sT S [aO L0,aO L1]) .nil) UC YL (kc h0 (kc t0 (kc h1 (kc t1 (kc sq (kc sv (kc sw kn)))))))
 ·exact cw _ (ev1 { vars:=Ha,bT:=[J0,QT,J1,QU,Z5,ZZ,ZX] } [e,item] [.I S.aB,.I S.aD,.I S.done,.I q0,.I v0,.I w0,.I q1,.I v1,.I w1,.I q,.I v,.I w,.I a0,.I a1,.I a2,.I b0,.I b1,.I b2] (sT S [aO L0,aO L1]) .nil) UC YL (kc h0 (kc t0 (kc h1 (kc t1 (kc sq (kc sv (kc sw kn)))))))
 ·exact cw _ (ev1 { vars:=Ha,bT:=[J0,QT,J1,QU,Z5,ZZ,ZY] } [e,item] [.I S.aB,.I S.aD,.I S.done,.I q0,.I v0,.I w0,.I q1,.I v1,.I w1,.I q,.I v,.I w,.I a0,.I a1,.I a2,.I b0,.I b1,.I b2] (sT S [aO L0,aO L1]) .nil) UC YL (kc h0 (kc t0 (kc h1 (kc t1 (kc sq (kc sv (kc sw kn)))))))
 ·exact cw _ (ev1 { vars:=Ha,bT:=[J0,QT,J1,QU,Z6,ZW,ZX] } [e,item] [.I S.aB,.I S.aD,.I S.done,.I q0,.I v0,.I w0,.I q1,.I v1,.I w1,.I q,.I v,.I w,.I a0,.I a1,.I a2,.I b0,.I b1,.I b2] (sT S [aO L0,aO L1]) .nil) UC YL (kc h0 (kc t0 (kc h1 (kc t1 (kc sq (kc sv (kc sw kn)))))))
 ·exact cw _ (ev1 { vars:=Ha,bT:=[J0,QT,J1,QU,Z6,ZW,ZY] } [e,item] [.I S.aB,.I S.aD,.I S.done,.I q0,.I v0,.I w0,.I q1,.I v1,.I w1,.I q,.I v,.I w,.I a0,.I a1,.I a2,.I b0,.I b1,.I b2] (sT S [aO L0,aO L1]) .nil) UC YL (kc h0 (kc t0 (kc h1 (kc t1 (kc sq (kc sv (kc sw kn)))))))
 ·exact cw _ (ev1 { vars:=Ha,bT:=[J0,QT,J1,QU,Z6,ZZ,ZX] } [e,item] [.I S.aB,.I S.aD,.I S.done,.I q0,.I v0,.I w0,.I q1,.I v1,.I w1,.I q,.I v,.I w,.I a0,.I a1,.I a2,.I b0,.I b1,.I b2] (sT S [aO L0,aO L1]) .nil) UC YL (kc h0 (kc t0 (kc h1 (kc t1 (kc sq (kc sv (kc sw kn)))))))
 ·exact cw _ (ev1 { vars:=Ha,bT:=[J0,QT,J1,QU,Z6,ZZ,ZY] } [e,item] [.I S.aB,.I S.aD,.I S.done,.I q0,.I v0,.I w0,.I q1,.I v1,.I w1,.I q,.I v,.I w,.I a0,.I a1,.I a2,.I b0,.I b1,.I b2] (sT S [aO L0,aO L1]) .nil) UC YL (kc h0 (kc t0 (kc h1 (kc t1 (kc sq (kc sv (kc sw kn)))))))
theorem O8 (h:StOk S) (x:Ix S e item):Ck 52 [S.av,.i e,.i item] (dQ S e item).1.av:=by
 have:=x.e0;have:=x.e1;have:=h.hn;have:=x.i0;have:=x.i1;have:=h.hw
 have hw:=DH h x;obtain⟨f,hf⟩:∃f:Int,f=if(dQ S e item).2 then 0 else 2:=⟨_,rfl⟩
 rw[←hf]at hw;have:0≤f∧f≤2:=by rw[hf];split<;>omega
 clear hf;generalize (dQ S e item).1=t at *
 obtain⟨q,v,w⟩:=t;exact cw _ (ev1 { vars:=[(0,3),(0,4),(0,2)],bT:=[(88,UC,(.aZ [VL,.v 2]))] } [e,item,f] [.I S.aB,.I S.aD,.I S.done,.I q,.I v,.I w] (sT S []) .nil) UC VL (kc hw kn)
theorem Iu (h:StOk S) (x:Ix S e item) {loc:Int} (l0:0≤loc) (l1:loc≤1) (P:dA):Ck 123 [S.av,.i e,.i item,.i loc,P.av] (S.bP e ((S.bU e).eK (2*item+loc) P)).av:=by
 have H:=h.wx x;have:=H.bd;have hp:=h.pat x l0 l1;have E:=h.Hh x;have hbl:=E.bl;have hpr:=E.pr;have hdl:=E.dl
 have hav:(S.bP e ((S.bU e).eK (2*item+loc) P)).av=S.setRow e (DD (S.bU e).now (S.bU e).closed ((bL (S.bU e).bE).set (2*item+loc).toNat P.row) (aA (S.bU e).dC) (bM (S.bU e).bF) (aA (S.bU e).aW) (aA (S.bU e).down) (bV (S.bU e).ahead)):=by
  rw[bH.qB,←Fy];rfl
 rw[hav];clear hav E;generalize (S.bU e).cQ (2*item+loc)=Q at *
 obtain⟨L,p0,p1,p2⟩:=Q;obtain⟨L2,d0,d1,d2⟩:=P;exact cw (CY (.o 4) [(0,1)] Y4 Ys Yf [] [] []) (ev2 H [loc] [.I p0,.I p1,.I p2,.I d0,.I d1,.I d2] [aO L,aO L2] (.d (aQ hp) .nil)) [Wu,.v 0,.v 2,.v 6,(.agg [.q 3 16,.o 8,.o 9,.o 10])] (sN (.seq 8 0 [([([0],1)],[.o 3,.o 4,(.seq 4 7 [(WQ,[.q 3 16,.o 8,.o 9,.o 10])] []),.q 1 8,.q 11 9,.q 1 10,.q 1 11,.q 8 12])] []) (.o 2)) kn
theorem mE (h:StOk S) (x:Ix S e item) {l:List cD} (hI:eN (cZ l)) (hl:l.length≤1000000):Ck 92 [S.av,.i e,.lit 2 (bR l)] (.aZ [(gK S e l).1.av,.i (gK S e l).2]):=by
 have H:=h.wx x;have:=H.bd;have E:=h.Hh x;have hbl:=E.bl;have hpr:=E.pr;have hdl:=E.dl
 have hp:=DL l hI hl;have hpI:=Ll l;have hpe:=Ap l;have hln:=HR l;unfold gK;generalize cM l=r at *;obtain⟨m,f⟩:=r;simp only at *
 by_cases hf:f=0
 rotate_left
 ·rw[if_pos hf];exact cw (CY (.o 4) [(1,20)] [] [] [] [] [] [(45,[.q 2 15],(.aZ [.q 2 16,.v 6]))]) (ev2 H [f] [] [bR l,bR m] .nil) Y7 Uf (kc hp kn)
 subst hf;rw[if_neg (by simp)]
 have hb:=SR (S.bU e).dC m E.bl hpI (by omega)
 have hbe:=HP (S.bU e).dC m
 generalize qP (S.bU e).dC m=r at *
 obtain⟨b,f⟩:=r;simp only at *
 by_cases hf:f=0
 rotate_left
 ·rw[if_pos hf];exact cw (CY (.o 4) [(1,20)] [] [] [] [] [] [Y5,(152,[.q 1 8,.q 2 16],(.aZ [.q 1 17,.v 6]))]) (ev2 H [f] [] [bR l,bR m,aA b] .nil) Y7 Uf (kc hp (kc hb kn))
 subst hf;rw[if_neg (by simp)]
 have hav:(S.bP e ((S.bU e).xD b)).av=S.setRow e (DD (S.bU e).now (S.bU e).closed (bL (S.bU e).bE) (aA b) (bM (S.bU e).bF) (aA (S.bU e).aW) (aA (S.bU e).down) (bV (S.bU e).ahead)):=by rw[bH.qB];rfl
 rw[hav];exact cw (CY (.o 4) [] [] Ys [] [] [] [Y5,(152,[.q 1 8,.q 2 16],(.aZ [.q 1 17,.i 0]))]) (ev2 H [] [] [bR l,bR m,aA b] .nil) Y7 (.aZ [(sN (.seq 8 0 [([([0],1)],[.o 3,.o 4,.q 4 7,.q 1 17,.q 11 9,.q 1 10,.q 1 11,.q 8 12])] []) (.o 2)),.i 0]) (kc hp (kc hb kn))
theorem Rv {m c:Int} {l l':List bB} {x:bB} {up f:Int} (hI:dR m c l x=(l',up,f)):-288230376151711744≤up∧up≤288230376151711744:=by
 by_cases he:f=0
 ·subst he;have:=Ao hI;omega
 ·have:=(Fz (m:=m) (c:=c) (l:=l) (x:=x) (by rw[hI];exact he)).2
  rw[hI]at this;simp only at this
  omega
theorem DI (h:StOk S) (x:Ix S e item) {loc:Int} (l0:0≤loc) (l1:loc≤1) {y:bB} (hy:eN [y.q,y.v,y.p]):Ck 145 [S.av,.i e,.i item,.i loc,y.av] (.aZ [(fK S e item loc y).1.av,.i (fK S e item loc y).2.1,.i (fK S e item loc y).2.2.1,.i (fK S e item loc y).2.2.2]):=by
 have H:=h.wx x;have:=H.bd;have hp:=h.pat x l0 l1;have hpo:=h.Rx x l0 l1;have hm:=h.mb' x;have hc:=h.cb' x;have ha:=rH h x l0 l1;have her:=@Dy (S.fJ e item) (S.cost e item) ((S.bU e).cQ (2*item+loc)).bK y
 have hin:∀{L2:List bB} {up f:Int},dR (S.fJ e item) (S.cost e item) ((S.bU e).cQ (2*item+loc)).bK y=(L2,up,f)→_:=fun hI=>hpo.in_ hm hI
 have hbd:∀{L2:List bB} {up:Int},dR (S.fJ e item) (S.cost e item) ((S.bU e).cQ (2*item+loc)).bK y=(L2,up,0)→_:=fun hI=>Ao hI
 have hset:=fun p hp=>h.eK x (p:=p) l0 l1 hp
 have hput:=fun P=>Iu h x l0 l1 P
 obtain⟨yq,yv,yp⟩:=y;have hi:=fun p0 p1 p2=>ad3 (p0:=p0) (p1:=p1) (p2:=p2) (q:=yq) (v:=yv) (z:=yp) (c:=S.cost e item) hm hpo.lr hpo.one hy hc
 have hyv:=hy yv (by simp)
 have:=hyv.lo;have:=hyv.hi
 unfold fK;obtain⟨L2,up,f,hI⟩:∃L2 up f,dR (S.fJ e item) (S.cost e item) ((S.bU e).cQ (2*item+loc)).bK ⟨yq,yv,yp⟩=(L2,up,f):=⟨_,_,_,rfl⟩
 have k1:=hin hI;have hui:=Rv hI;have k3:=fun(h0:f=0)=>hbd (by rw[hI,h0])
 simp only[hI]at her hi ⊢;clear hin hbd hI;have hok:=hset { (S.bU e).cQ (2*item+loc)with bK:=L2 } k1.1
 have xx:=x.bP (e':=e) (y:=(S.bU e).eK (2*item+loc) { (S.bU e).cQ (2*item+loc)with bK:=L2 })
 have hu:=hput { (S.bU e).cQ (2*item+loc)with bK:=L2 }
 have hw:=DH hok xx;have h0:=rH hok xx (loc:=0) (by omega) (by omega)
 have h1:=rH hok xx (loc:=1) (by omega) (by omega)
 have g0:=(hok.Rx xx (loc:=0) (by omega) (by omega)).lr
 have g1:=(hok.Rx xx (loc:=1) (by omega) (by omega)).lr
 rw[Int.add_zero]at h0 g0;have hst:A0 (S.bP e ((S.bU e).eK (2*item+loc) { (S.bU e).cQ (2*item+loc)with bK:=L2 })) e item=decide (cY (((((S.bP e ((S.bU e).eK (2*item+loc) { (S.bU e).cQ (2*item+loc)with bK:=L2 })).bU e).cQ (2*item)).bK++(((S.bP e ((S.bU e).eK (2*item+loc) { (S.bU e).cQ (2*item+loc)with bK:=L2 })).bU e).cQ (2*item+1)).bK).map fP)=0):=by unfold A0 sw fP;rw[List.map_append]
 have hi:=hi ((S.bU e).cQ (2*item+loc)).p0 ((S.bU e).cQ (2*item+loc)).p1 ((S.bU e).cQ (2*item+loc)).p2
 clear hset hput;generalize hT:S.bP e ((S.bU e).eK (2*item+loc) { (S.bU e).cQ (2*item+loc)with bK:=L2 })=T at *
 have av1:T.av=(S.gI T.aH).av:=by rw[←hT];rfl
 clear hok xx;generalize (S.bU e).cQ (2*item+loc)=Q at *
 obtain⟨L,p0,p1,p2⟩:=Q;simp only at *
 by_cases he:f=0
 rotate_left
 ·rw[if_pos he]
  exact cw (CY (.o 4) [(0,1),zK,zK,(1,20)] Y4 [] Yf [] [] [Qa,(196,QK,(.aZ [UH,.v 8,.v 9]))]) (ev2 H [loc,yv,up,f] [.I p0,.I p1,.I p2,.I yq,.I yp] [aO L,aO L2] (.d (aQ hp) .nil)) Q8 (.aZ [Wu,.i 0,.i 0,.v 9]) (kc ha (kc hi kn))
 subst he;have k3:=k3 rfl;rw[if_neg (by simp)]
 rw[av1]at hu hw h0 h1;generalize (dQ T e item).2=wb at *
 generalize (dQ T e item).1=wt at *
 obtain⟨wq,wv,wp⟩:=wt;cases wb with
 |false =>
  rw[if_pos rfl];simp only[Bool.false_eq_true,if_false]at hw;exact cw (CY (.o 4) [(0,1),zK,zK] Y4 [] Yf [] [] [Qa,K6,Jq,(88,Uv,(.aZ [(.agg [.o 10,.o 11,.o 12]),.i 2]))]) (ev2 H [loc,yv,up] [.I p0,.I p1,.I p2,.I yq,.I yp,.I wq,.I wv,.I wp] [aO L,aO L2,bN T.aH] (.d (aQ hp) .nil)) Q8 Yx (kc ha (kc hi (kc hu (kc hw kn))))
 |true =>
  rw[if_neg (by simp)]
  simp only[if_true]at hw;rw[hst];generalize ((T.bU e).cQ (2*item))=A at *
  generalize ((T.bU e).cQ (2*item+1))=B at *
  obtain⟨La,a0,a1,a2⟩:=A;obtain⟨Lb,b0,b1,b2⟩:=B;simp only at *
  obtain⟨Lc,hc'⟩:∃Lc,Lc=La++Lb:=⟨_,rfl⟩
  have hok:∀z∈Lc,iA z=true:=fun z hz=>by
   rw[hc']at hz;exact(List.mem_append.1 hz).elim (g0.ok z) (g1.ok z)
  have hs:=Pa (Ml fun z hz=>T8 (hok z hz)) (List.all_eq_true.2 hok)
  have se:=vM (Lc.map fP)
  have hla:=g0.len;have hlb:=g1.len
  rw[←hc'];have hc:aO Lc=aO La++aO Lb:=by rw[hc'];simp[aO]
  have hlc:Lc.length=La.length+Lb.length:=by rw[hc',List.length_append]
  generalize cU (Lc.map fP)=n at *
  generalize cY (Lc.map fP)=f at *
  rcases se with rfl|rfl
  ·rw[if_neg (by simp)]
   simp only[av1];exact cw (CY (.o 4) [(0,1),w60,w60,(0,30),(0,30)] Y4 Zp Yf [] [(18,19,20)] [Qa,K6,Jq,JP,JQ,JR,(197,[.q 3 20],(.aZ [.o 19,.i 0]))]) (ev2 H [loc,yv,up,(La.length:Int),(Lb.length:Int)] [.I p0,.I p1,.I p2,.I yq,.I yp,.I wq,.I wv,.I wp,.I a0,.I a1,.I a2,.I b0,.I b1,.I b2,.I n] [aO L,aO L2,bN T.aH,aO La,aO Lb,aO Lc] (.d (aQ hp) .nil) (hC:=by simp[hc])) Q8 (.aZ [We,(.e [([7],1),([8],(-1))]),.v 8,.i 0]) (kc ha (kc hi (kc hu (kc hw (kc h0 (kc h1 (kc hs kn)))))))
  ·rw[if_pos (by simp)]
   exact cw (CY (.o 4) [(0,1),zK,zK,(0,30),(0,30)] Y4 Zp Yf [] [(18,19,20)] [Qa,K6,Jq,JP,JQ,JR,(197,[.q 3 20],(.aZ [.o 19,.i 2]))]) (ev2 H [loc,yv,up,(La.length:Int),(Lb.length:Int)] [.I p0,.I p1,.I p2,.I yq,.I yp,.I wq,.I wv,.I wp,.I a0,.I a1,.I a2,.I b0,.I b1,.I b2,.I n] [aO L,aO L2,bN T.aH,aO La,aO Lb,aO Lc] (.d (aQ hp) .nil) (hC:=by simp[hc])) Q8 Yx (kc ha (kc hi (kc hu (kc hw (kc h0 (kc h1 (kc hs kn)))))))
theorem O9 (h:StOk S) (x:Ix S e item) {loc kind q:Int} (l0:0≤loc) (l1:loc≤1) (hk:0≤kind∧kind≤3) (hq:iM q):Ck 217 [S.av,.i e,.i item,.i loc,.i kind,.i q] (.aZ [(eL S e item loc kind q).1.av,(eL S e item loc kind q).2.1.av,.c (.bool (eL S e item loc kind q).2.2.1),.i (eL S e item loc kind q).2.2.2]):=by
 have H:=h.wx x;have:=H.bd;have:=hq.lo;have:=hq.hi
 have hp:=h.pat x l0 l1;have hpo:=h.Rx x l0 l1;have hm:=h.mb' x;have hc:=h.cb' x;have ha:=rH h x l0 l1;have E:=h.Hh x;have hbl:=E.bl;have hpr:=E.pr;have hdl:=E.dl
 have her:=@Bg (S.fJ e item) (S.cost e item) ((S.bU e).cQ (2*item+loc)).bK ((S.bU e).cQ (2*item+loc)).pn kind q
 have hav:∀p,(S.bP e ((S.bU e).eK (2*item+loc) p)).av=S.setRow e (DD (S.bU e).now (S.bU e).closed ((bL (S.bU e).bE).set (2*item+loc).toNat p.row) (aA (S.bU e).dC) (bM (S.bU e).bF) (aA (S.bU e).aW) (aA (S.bU e).down) (bV (S.bU e).ahead)):=by
  intro p;rw[bH.qB,←Fy];rfl
 have ho:=aa0 (p0:=((S.bU e).cQ (2*item+loc)).p0) (p1:=((S.bU e).cQ (2*item+loc)).p1) (p2:=((S.bU e).cQ (2*item+loc)).p2) (c:=S.cost e item) hm hpo.lr hpo.one hpo.pnd hq hk hc
 unfold eL;rw[show(⟨((S.bU e).cQ (2*item+loc)).p0,((S.bU e).cQ (2*item+loc)).p1,((S.bU e).cQ (2*item+loc)).p2⟩:vG)=((S.bU e).cQ (2*item+loc)).pn from rfl]at ho
 generalize bZ (S.fJ e item) (S.cost e item) ((S.bU e).cQ (2*item+loc)).bK ((S.bU e).cQ (2*item+loc)).pn kind q=r at *
 obtain⟨L2,⟨d0,d1,d2⟩,⟨xq,xv,xp⟩,wt,f⟩:=r
 clear hpo;generalize (S.bU e).cQ (2*item+loc)=Q at *
 obtain⟨L,p0,p1,p2⟩:=Q;simp only at *
 by_cases hf:f=0
 rotate_left
 ·rw[if_pos hf];exact cw (CY (.o 4) [(0,1),(0,3),zK,(1,20)] Y4 [] Yf [] [] [Qa,(238,Zz,(.aZ [Ug,Vw,.o 14,.v 9]))]) (ev2 H [loc,kind,q,f] [.I p0,.I p1,.I p2,.I xq,.I xv,.I xp,.I d0,.I d1,.I d2,.bool wt] [aO L,aO L2] (.d (aQ hp) .nil)) Yg (.aZ [Wu,VJ,WH,.v 9]) (kc ha (kc ho kn))
 subst hf;rw[if_neg (by simp)]
 simp only[hav];exact cw (CY (.o 4) [(0,1),(0,3),zK] Y4 Ys Yf [] [] [Qa,(238,Zz,(.aZ [Ug,Vw,.o 14,.i 0]))]) (ev2 H [loc,kind,q] [.I p0,.I p1,.I p2,.I xq,.I xv,.I xp,.I d0,.I d1,.I d2,.bool wt] [aO L,aO L2] (.d (aQ hp) .nil)) Yg (.aZ [(sN (.seq 8 0 [([([0],1)],[.o 3,.o 4,(.seq 4 7 [(WQ,[.q 3 16,.o 11,.o 12,.o 13])] []),.q 1 8,.q 11 9,.q 1 10,.q 1 11,.q 8 12])] []) (.o 2)),Vw,.o 14,.i 0]) (kc ha (kc ho kn))
theorem wK (h:StOk S) (x:Ix S e item) {r:List Int} (hr:r.length=11):Ck 124 [S.av,.i e,.i item,.agg (lY r)] (.aZ [(jR S e item r).1.av,.i (jR S e item r).2]):=by
 have H:=h.wx x;have:=H.bd;have E:=h.Hh x;have hbl:=E.bl;have hpr:=E.pr;have hdl:=E.dl
 have hat:=Tz h x;have hl:=(Ty h x).1
 have hav:∀s,(S.bP e ((S.bU e).sL item s)).av=S.setRow e (DD (S.bU e).now (S.bU e).closed (bL (S.bU e).bE) (aA (S.bU e).dC) ((bM (S.bU e).bF).set item.toNat (lY s)) (aA (S.bU e).aW) (aA (S.bU e).down) (bV (S.bU e).ahead)):=by
  intro s;rw[bH.qB,←Rj];rfl
 unfold jR;generalize (S.bU e).aah item=A at *
 obtain⟨a0,a1,a2,a3,a4,a5,a6,a7,a8,a9,a10,rfl⟩:=T6 hl;obtain⟨b0,b1,b2,b3,b4,b5,b6,b7,b8,b9,b10,rfl⟩:=T6 hr;have hr:=hat;have k0:=iU a0 b0;have f0:=nM a0 b0;have k1:=iU a1 b1;have f1:=nM a1 b1;have k2:=iU a2 b2;have f2:=nM a2 b2;have k3:=iU a3 b3;have f3:=nM a3 b3;have k4:=iU a4 b4;have f4:=nM a4 b4;have k5:=iU a5 b5;have f5:=nM a5 b5;have k6:=iU a6 b6;have f6:=nM a6 b6;have k7:=iU a7 b7;have f7:=nM a7 b7;have k8:=iU a8 b8;have f8:=nM a8 b8;have k9:=iU a9 b9;have f9:=nM a9 b9;have k10:=iU a10 b10;have f10:=nM a10 b10;simp only[BY];generalize mI a0 b0=s0 at *;generalize lL a0 b0=g0 at *;generalize mI a1 b1=s1 at *;generalize lL a1 b1=g1 at *;generalize mI a2 b2=s2 at *;generalize lL a2 b2=g2 at *;generalize mI a3 b3=s3 at *;generalize lL a3 b3=g3 at *;generalize mI a4 b4=s4 at *;generalize lL a4 b4=g4 at *;generalize mI a5 b5=s5 at *;generalize lL a5 b5=g5 at *;generalize mI a6 b6=s6 at *;generalize lL a6 b6=g6 at *;generalize mI a7 b7=s7 at *;generalize lL a7 b7=g7 at *;generalize mI a8 b8=s8 at *;generalize lL a8 b8=g8 at *;generalize mI a9 b9=s9 at *;generalize lL a9 b9=g9 at *;generalize mI a10 b10=s10 at *;generalize lL a10 b10=g10 at *;rcases f0 with rfl|rfl;rotate_left
 ·obtain⟨z,hz⟩:∃z,z=s0:=⟨_,rfl⟩
  rw[←hz]at k0;simp only[show ¬((2:Int)=0)by decide,if_false,if_true,Option.map_none,ite_self]
  exact cw (CY (.o 4) [] [] [] JV [] [] [(83,[.o 5,.o 16],(.aZ [.o 27,.i 2]))]) (ev2 H [] [.I a0,.I a1,.I a2,.I a3,.I a4,.I a5,.I a6,.I a7,.I a8,.I a9,.I a10,.I b0,.I b1,.I b2,.I b3,.I b4,.I b5,.I b6,.I b7,.I b8,.I b9,.I b10,.I z] [] (.d (aR hr) .nil)) Jm Uh (kc k0 kn)
 rcases f1 with rfl|rfl;rotate_left
 ·obtain⟨z,hz⟩:∃z,z=s1:=⟨_,rfl⟩
  rw[←hz]at k1;simp only[show ¬((2:Int)=0)by decide,if_false,if_true,Option.map_none,ite_self]
  exact cw (CY (.o 4) [] [] [] JV [] [] [YW,(83,[.o 6,.o 17],(.aZ [.o 28,.i 2]))]) (ev2 H [] [.I a0,.I a1,.I a2,.I a3,.I a4,.I a5,.I a6,.I a7,.I a8,.I a9,.I a10,.I b0,.I b1,.I b2,.I b3,.I b4,.I b5,.I b6,.I b7,.I b8,.I b9,.I b10,.I s0,.I z] [] (.d (aR hr) .nil)) Jm Uh (kc k0 (kc k1 kn))
 rcases f2 with rfl|rfl;rotate_left
 ·obtain⟨z,hz⟩:∃z,z=s2:=⟨_,rfl⟩
  rw[←hz]at k2;simp only[show ¬((2:Int)=0)by decide,if_false,if_true,Option.map_none,ite_self]
  exact cw (CY (.o 4) [] [] [] JV [] [] [YW,YX,(83,[.o 7,.o 18],(.aZ [.o 29,.i 2]))]) (ev2 H [] [.I a0,.I a1,.I a2,.I a3,.I a4,.I a5,.I a6,.I a7,.I a8,.I a9,.I a10,.I b0,.I b1,.I b2,.I b3,.I b4,.I b5,.I b6,.I b7,.I b8,.I b9,.I b10,.I s0,.I s1,.I z] [] (.d (aR hr) .nil)) Jm Uh (kc k0 (kc k1 (kc k2 kn)))
 rcases f3 with rfl|rfl;rotate_left
 ·obtain⟨z,hz⟩:∃z,z=s3:=⟨_,rfl⟩
  rw[←hz]at k3;simp only[show ¬((2:Int)=0)by decide,if_false,if_true,Option.map_none,ite_self]
  exact cw (CY (.o 4) [] [] [] JV [] [] [YW,YX,YY,(83,[.o 8,.o 19],(.aZ [.o 30,.i 2]))]) (ev2 H [] [.I a0,.I a1,.I a2,.I a3,.I a4,.I a5,.I a6,.I a7,.I a8,.I a9,.I a10,.I b0,.I b1,.I b2,.I b3,.I b4,.I b5,.I b6,.I b7,.I b8,.I b9,.I b10,.I s0,.I s1,.I s2,.I z] [] (.d (aR hr) .nil)) Jm Uh (kc k0 (kc k1 (kc k2 (kc k3 kn))))
 rcases f4 with rfl|rfl;rotate_left
 ·obtain⟨z,hz⟩:∃z,z=s4:=⟨_,rfl⟩
  rw[←hz]at k4;simp only[show ¬((2:Int)=0)by decide,if_false,if_true,Option.map_none,ite_self]
  exact cw (CY (.o 4) [] [] [] JV [] [] [YW,YX,YY,YZ,(83,[.o 9,.o 20],(.aZ [.o 31,.i 2]))]) (ev2 H [] [.I a0,.I a1,.I a2,.I a3,.I a4,.I a5,.I a6,.I a7,.I a8,.I a9,.I a10,.I b0,.I b1,.I b2,.I b3,.I b4,.I b5,.I b6,.I b7,.I b8,.I b9,.I b10,.I s0,.I s1,.I s2,.I s3,.I z] [] (.d (aR hr) .nil)) Jm Uh (kc k0 (kc k1 (kc k2 (kc k3 (kc k4 kn)))))
 rcases f5 with rfl|rfl;rotate_left
 ·obtain⟨z,hz⟩:∃z,z=s5:=⟨_,rfl⟩
  rw[←hz]at k5;simp only[show ¬((2:Int)=0)by decide,if_false,if_true,Option.map_none,ite_self]
  exact cw (CY (.o 4) [] [] [] JV [] [] [YW,YX,YY,YZ,Y0,(83,[.o 10,.o 21],(.aZ [.o 32,.i 2]))]) (ev2 H [] [.I a0,.I a1,.I a2,.I a3,.I a4,.I a5,.I a6,.I a7,.I a8,.I a9,.I a10,.I b0,.I b1,.I b2,.I b3,.I b4,.I b5,.I b6,.I b7,.I b8,.I b9,.I b10,.I s0,.I s1,.I s2,.I s3,.I s4,.I z] [] (.d (aR hr) .nil)) Jm Uh (kc k0 (kc k1 (kc k2 (kc k3 (kc k4 (kc k5 kn))))))
 rcases f6 with rfl|rfl;rotate_left
 ·obtain⟨z,hz⟩:∃z,z=s6:=⟨_,rfl⟩
  rw[←hz]at k6;simp only[show ¬((2:Int)=0)by decide,if_false,if_true,Option.map_none,ite_self]
  exact cw (CY (.o 4) [] [] [] JV [] [] [YW,YX,YY,YZ,Y0,YM,(83,[.o 11,.o 22],(.aZ [.o 33,.i 2]))]) (ev2 H [] [.I a0,.I a1,.I a2,.I a3,.I a4,.I a5,.I a6,.I a7,.I a8,.I a9,.I a10,.I b0,.I b1,.I b2,.I b3,.I b4,.I b5,.I b6,.I b7,.I b8,.I b9,.I b10,.I s0,.I s1,.I s2,.I s3,.I s4,.I s5,.I z] [] (.d (aR hr) .nil)) Jm Uh (kc k0 (kc k1 (kc k2 (kc k3 (kc k4 (kc k5 (kc k6 kn)))))))
 rcases f7 with rfl|rfl;rotate_left
 ·obtain⟨z,hz⟩:∃z,z=s7:=⟨_,rfl⟩
  rw[←hz]at k7;simp only[show ¬((2:Int)=0)by decide,if_false,if_true,Option.map_none,ite_self]
  exact cw (CY (.o 4) [] [] [] JV [] [] [YW,YX,YY,YZ,Y0,YM,YN,(83,[.o 12,.o 23],(.aZ [.o 34,.i 2]))]) (ev2 H [] [.I a0,.I a1,.I a2,.I a3,.I a4,.I a5,.I a6,.I a7,.I a8,.I a9,.I a10,.I b0,.I b1,.I b2,.I b3,.I b4,.I b5,.I b6,.I b7,.I b8,.I b9,.I b10,.I s0,.I s1,.I s2,.I s3,.I s4,.I s5,.I s6,.I z] [] (.d (aR hr) .nil)) Jm Uh (kc k0 (kc k1 (kc k2 (kc k3 (kc k4 (kc k5 (kc k6 (kc k7 kn))))))))
 rcases f8 with rfl|rfl;rotate_left
 ·obtain⟨z,hz⟩:∃z,z=s8:=⟨_,rfl⟩
  rw[←hz]at k8;simp only[show ¬((2:Int)=0)by decide,if_false,if_true,Option.map_none,ite_self]
  exact cw (CY (.o 4) [] [] [] JV [] [] [YW,YX,YY,YZ,Y0,YM,YN,YO,(83,[.o 13,.o 24],(.aZ [.o 35,.i 2]))]) (ev2 H [] [.I a0,.I a1,.I a2,.I a3,.I a4,.I a5,.I a6,.I a7,.I a8,.I a9,.I a10,.I b0,.I b1,.I b2,.I b3,.I b4,.I b5,.I b6,.I b7,.I b8,.I b9,.I b10,.I s0,.I s1,.I s2,.I s3,.I s4,.I s5,.I s6,.I s7,.I z] [] (.d (aR hr) .nil)) Jm Uh (kc k0 (kc k1 (kc k2 (kc k3 (kc k4 (kc k5 (kc k6 (kc k7 (kc k8 kn)))))))))
 rcases f9 with rfl|rfl;rotate_left
 ·obtain⟨z,hz⟩:∃z,z=s9:=⟨_,rfl⟩
  rw[←hz]at k9;simp only[show ¬((2:Int)=0)by decide,if_false,if_true,Option.map_none,ite_self]
  exact cw (CY (.o 4) [] [] [] JV [] [] [YW,YX,YY,YZ,Y0,YM,YN,YO,YP,(83,[.o 14,.o 25],(.aZ [.o 36,.i 2]))]) (ev2 H [] [.I a0,.I a1,.I a2,.I a3,.I a4,.I a5,.I a6,.I a7,.I a8,.I a9,.I a10,.I b0,.I b1,.I b2,.I b3,.I b4,.I b5,.I b6,.I b7,.I b8,.I b9,.I b10,.I s0,.I s1,.I s2,.I s3,.I s4,.I s5,.I s6,.I s7,.I s8,.I z] [] (.d (aR hr) .nil)) Jm Uh (kc k0 (kc k1 (kc k2 (kc k3 (kc k4 (kc k5 (kc k6 (kc k7 (kc k8 (kc k9 kn))))))))))
 rcases f10 with rfl|rfl;rotate_left
 ·obtain⟨z,hz⟩:∃z,z=s10:=⟨_,rfl⟩
  rw[←hz]at k10;simp only[show ¬((2:Int)=0)by decide,if_false,if_true,Option.map_none,ite_self]
  exact cw (CY (.o 4) [] [] [] JV [] [] [YW,YX,YY,YZ,Y0,YM,YN,YO,YP,YQ,(83,[.o 15,.o 26],(.aZ [.o 37,.i 2]))]) (ev2 H [] [.I a0,.I a1,.I a2,.I a3,.I a4,.I a5,.I a6,.I a7,.I a8,.I a9,.I a10,.I b0,.I b1,.I b2,.I b3,.I b4,.I b5,.I b6,.I b7,.I b8,.I b9,.I b10,.I s0,.I s1,.I s2,.I s3,.I s4,.I s5,.I s6,.I s7,.I s8,.I s9,.I z] [] (.d (aR hr) .nil)) Jm Uh (kc k0 (kc k1 (kc k2 (kc k3 (kc k4 (kc k5 (kc k6 (kc k7 (kc k8 (kc k9 (kc k10 kn)))))))))))
 simp only[if_true,Option.map_some,hav];exact cw (CY (.o 4) [] [] Ys JV [] [] [YW,YX,YY,YZ,Y0,YM,YN,YO,YP,YQ,(83,[.o 15,.o 26],(.aZ [.o 37,.i 0]))]) (ev2 H [] [.I a0,.I a1,.I a2,.I a3,.I a4,.I a5,.I a6,.I a7,.I a8,.I a9,.I a10,.I b0,.I b1,.I b2,.I b3,.I b4,.I b5,.I b6,.I b7,.I b8,.I b9,.I b10,.I s0,.I s1,.I s2,.I s3,.I s4,.I s5,.I s6,.I s7,.I s8,.I s9,.I s10] [] (.d (aR hr) .nil)) Jm (.aZ [(sN (.seq 8 0 [([([0],1)],[.o 3,.o 4,.q 4 7,.q 1 8,(.seq 11 9 [([([2],1)],[.o 27,.o 28,.o 29,.o 30,.o 31,.o 32,.o 33,.o 34,.o 35,.o 36,.o 37])] []),.q 1 10,.q 1 11,.q 8 12])] []) (.o 2)),.i 0]) (kc k0 (kc k1 (kc k2 (kc k3 (kc k4 (kc k5 (kc k6 (kc k7 (kc k8 (kc k9 (kc k10 kn)))))))))))
end
end
section
open Mc
def aep (n w:Nat) (x:yF):Prop:=(0≤x.eX∧x.eX<n)∧(0≤x.item∧x.item<w)∧(0≤x.loc∧x.loc≤1)∧(1≤x.lS∧x.lS≤1073741824)∧(0≤x.value∧x.value≤1125899906842624)∧(0≤x.RZ∧x.RZ≤x.lS)∧(0≤x.lV∧x.lV≤1125899906842624)∧(0≤x.back∧x.back≤x.lS)
def aiw (n w:Nat) (x:AP):Prop:=(0≤x.eX∧x.eX<n)∧(0≤x.item∧x.item<w)∧(0≤x.loc∧x.loc≤1)∧(1≤x.lS∧x.lS≤1073741824)∧(0≤x.back∧x.back≤x.lS)∧rV x.cost∧rV x.cN∧(1≤x.period∧x.period≤12)
def aen (n w:Nat) (x:wX):Prop:=(0≤x.src∧x.src<n)∧(0≤x.dst∧x.dst<n)∧(0≤x.item∧x.item<w)∧(0≤x.lS∧x.lS≤1073741824)∧(0≤x.value∧x.value≤1125899906842624)∧rV x.cN
def eC.sh (x:eC):Int×Bool×List EntC:=(x.now,x.closed,x.ahead)
def aj5 (s:Int×Bool×List EntC):Prop:=s.2.2.length=(if s.2.1 then 1 else 0)∧∀y∈s.2.2,y.now=s.1∧y.closed=false
structure Gn (S:bH):Prop extends StOk S where
 rcl:S.bX.length≤40
 Tu:S.aU.length≤40
 GY:S.aM.length≤40
 rcb:∀x∈S.bX,aep S.aH.length S.weights.length x
 Tv:∀x∈S.aU,aiw S.aH.length S.weights.length x
 trb:∀x∈S.aM,aen S.aH.length S.weights.length x
 d0:0≤S.done
 al:∀x∈S.aH,aj5 x.sh
 pb:∀x∈S.aU,x.period≤(S.bU x.eX).now
structure Kn (S S1:bH):Prop extends Kin S S1 where
 sh:S1.aH.map eC.sh=S.aH.map eC.sh
theorem Kn.refl {S:bH} (h:StOk S):Kn S S:=⟨.refl h,rfl⟩
theorem Kn.trans {S S1 S2:bH} (h:Kn S S1) (g:Kn S1 S2):Kn S S2:=⟨h.toKin.trans g.toKin,g.sh.trans h.sh⟩
theorem Kn.ex {S S1:bH} (h:Kn S S1):∃E,S1=S.gI E:=⟨_,h.eq⟩
theorem Kn.ix {S S1:bH} (h:Kn S S1) {e item:Int} (x:Ix S e item):Ix S1 e item:=h.toKin.ix x
theorem Eu (l:List eC) (k:Nat) (d:eC):(l.getD k d).sh=(l.map eC.sh).getD k d.sh:=by
 simp only[List.getD_eq_getElem?_getD,List.getElem?_map];cases l[k]?<;>rfl
theorem Kn.shE {S S1:bH} (h:Kn S S1) (e:Int):(S1.bU e).sh=(S.bU e).sh:=by
 unfold bH.bU;rw[Eu,Eu,h.sh]
theorem Kn.now {S S1:bH} (h:Kn S S1) (e:Int):(S1.bU e).now=(S.bU e).now:=congrArg Prod.fst (h.shE e)
theorem Kn.gn {S S1:bH} (h:Kn S S1) (G:Gn S):Gn S1:=by
 have e:=h.eq;have l:=h.len;have k:=h.ok;have s:=h.sh;have n:=h.now
 generalize S1.aH=E at *;subst e;refine⟨k,G.rcl,G.Tu,G.GY,by show ∀x∈_,aep E.length _ x;rw[l];exact G.rcb,by show ∀x∈_,aiw E.length _ x;rw[l];exact G.Tv,by show ∀x∈_,aen E.length _ x;rw[l];exact G.trb,G.d0,?_,fun x hx=>by rw[n];exact G.pb x hx⟩
 intro x hx;have:x.sh∈S.aH.map eC.sh:=by rw[←s];exact List.mem_map_of_mem hx
 obtain⟨y,hy,e⟩:=List.mem_map.1 this;rw[←e];exact G.al y hy
theorem qA {S:bH} {e item:Int} (x:Ix S e item) {y:eC} (h:y.sh=(S.bU e).sh):(S.bP e y).aH.map eC.sh=S.aH.map eC.sh:=by
 show(S.aH.set e.toNat y).map eC.sh=_
 rw[List.map_set];apply List.ext_getElem?
 intro i;rw[List.getElem?_set];split
 ·rename_i hi
  subst hi;have he:e.toNat<S.aH.length:=by have:=x.e0;have:=x.e1;omega
  rw[if_pos (by simpa using he),List.getElem?_map,getD_some (d:=⟨⟨0,false,[],[],[],[],[]⟩,[]⟩) he]
  simp only[Option.map_some,Option.some.injEq,h];rfl
 ·rfl
section
variable {S:bH} {e item:Int}
theorem IA (h:StOk S) (x:Ix S e item) {loc:Int} (l0:0≤loc) (l1:loc≤1) (y:bB) :
  Kn S (fK S e item loc y).1∧kY (fK S e item loc y).2.2.2∧rV (fK S e item loc y).2.1∧rV (fK S e item loc y).2.2.1∧((fK S e item loc y).2.2.2≠0→(fK S e item loc y).1=S∧(fK S e item loc y).2.1=0∧(fK S e item loc y).2.2.1=0):=by
 obtain⟨k,r⟩:=MB h x l0 l1 y;refine⟨⟨k,?_⟩,r⟩
 clear k r;unfold fK;split
 ·rfl
 ·split
  ·rfl
  ·split
   ·rfl
   ·exact qA x rfl
theorem afg (l:List bB):∀(a:bB) (q:Int),LR l→a.p-Gw l≤(kG l a q).2.p∧(kG l a q).2.p≤a.p+Gw l:=by
 induction l with
 |nil=>intro a q h;simp[kG,Gw,eB]
 |cons x r ih =>
  intro a q h;simp only[kG];have hx:=h.ok x (by simp)
  have hr:=S6 r;rw[uY];split
  ·dsimp only;omega
  ·split
   ·have cp:=agV hx (q:=q) (by omega) (by omega)
    dsimp only[jS,lJ];omega
   ·have k:=ih (jS a x) (q-x.q) h.tail
    dsimp only[jS]at k ⊢
    omega
theorem TQ {l:List bB} (hl:LR l) (q:Int):rV (dZ l q).2.1.p:=by
 have k:=afg l .zero q hl;have:=hl.p;unfold dZ;split
 ·exact⟨by simp[bB.zero],by simp[bB.zero]⟩
 ·split
  ·exact⟨by simp[bB.zero],by simp[bB.zero]⟩
  ·dsimp only[bB.zero]at k ⊢;exact⟨by omega,by omega⟩
theorem NB {m c:Int} {l:List bB} {d:vG} {kind q:Int} (hl:LR l):rV (bZ m c l d kind q).2.2.1.p:=by
 have k:=TQ hl q;have z:rV bB.zero.p:=⟨by simp[bB.zero],by simp[bB.zero]⟩
 unfold bZ;split
 ·exact z
 ·split
  ·exact z
  ·split
   ·exact z
   ·simp only[fG]
    split
    ·unfold Ar
     split
     ·exact z
     ·split
      ·exact z
      ·exact k
    ·split
     ·unfold Bn
      split
      ·exact z
      ·split
       ·rename_i y e hS;rw[hS]at k;exact k
       ·rename_i z' t y e hS
        rw[hS]at k;split
        ·exact k
        ·exact k
     ·exact k
theorem aaN (h:StOk S) (x:Ix S e item) {loc kind:Int} (l0:0≤loc) (l1:loc≤1) (k0:0≤kind) (k1:kind≤3) (q:Int) :
  Kn S (eL S e item loc kind q).1∧kY (eL S e item loc kind q).2.2.2∧rV (eL S e item loc kind q).2.1.v∧((0≤(eL S e item loc kind q).2.1.q∧(eL S e item loc kind q).2.1.q≤288230376151711744)∧rV (eL S e item loc kind q).2.1.p)∧((eL S e item loc kind q).2.2.2≠0→(eL S e item loc kind q).1=S∧(eL S e item loc kind q).2.1=⟨0,0,0⟩∧(eL S e item loc kind q).2.2.1=false):=by
 obtain⟨k,r1,r2,r3,r4⟩:=Mn h x l0 l1 k0 k1 q;have pb:=NB (m:=S.fJ e item) (c:=S.cost e item) (d:=((S.bU e).cQ (2*item+loc)).pn) (kind:=kind) (q:=q) (h.Rx x l0 l1).lr
 refine⟨⟨k,?_⟩,r1,r2,⟨r3.1,?_⟩,r4⟩
 ·clear k r1 r2 r3 r4
  unfold eL;split
  ·rfl
  ·exact qA x rfl
 ·clear k r1 r2 r3 r4
  unfold eL;split
  ·exact⟨by simp,by simp⟩
  ·exact pb
theorem xC (h:StOk S) (x:Ix S e item) {r:List Int} (hr:r.length=11):Kn S (jR S e item r).1∧kY (jR S e item r).2∧((jR S e item r).2≠0→(jR S e item r).1=S):=by
 obtain⟨k,r'⟩:=MY h x hr;refine⟨⟨k,?_⟩,r'⟩
 clear k r';unfold jR;split
 ·rfl
 ·exact qA x rfl
theorem nB (h:StOk S) (x:Ix S e item) (l:List cD):Kn S (gK S e l).1∧kY (gK S e l).2∧((gK S e l).2≠0→(gK S e l).1=S):=by
 obtain⟨k,r'⟩:=NA h x l;refine⟨⟨k,?_⟩,r'⟩
 clear k r';unfold gK;split
 ·rfl
 ·split
  ·rfl
  ·exact qA x rfl
theorem Fm (h:StOk S) (x:Ix S e item) {loc:Int} (l0:0≤loc) (l1:loc≤1) {p:dA} (hp:nZ (S.fJ e item) p.bK p.pn):Kn S (S.bP e ((S.bU e).eK (2*item+loc) p)) :=
 ⟨Kin.bP (h.eK x l0 l1 hp),qA x rfl⟩
end
def bH.Fq (S:bH) (x:yF):bH:={ S with bX:=S.bX++[x] }
def bH.ahO (S:bH) (x:AP):bH:={ S with aU:=S.aU++[x] }
def bH.Fo (S:bH) (x:wX):bH:={ S with aM:=S.aM++[x] }
def bH.Ni (S:bH) (k:Int) (x:yF):bH:={ S with bX:=S.bX.set k.toNat x }
def bH.Nh (S:bH) (k:Int) (x:wX):bH:={ S with aM:=S.aM.set k.toNat x }
theorem aao (S:bH) (x:yF):(S.Fq x).av=S.avX (bN S.aH) (kW S.bX++[lY x.r]) (gD S.aU) (gY S.aM) S.done:=by rw[ab8];rfl
theorem aan (S:bH) (x:wX):(S.Fo x).av=S.avX (bN S.aH) (kW S.bX) (gD S.aU) (gY S.aM++[lY x.r]) S.done:=by
 rw[show gY S.aM++[lY x.r]=gY (S.aM++[x])by simp[gY]];rfl
theorem abV (S:bH) (k:Int) (x:yF):(S.Ni k x).av=S.avX (bN S.aH) ((kW S.bX).set k.toNat (lY x.r)) (gD S.aU) (gY S.aM) S.done:=by rw[ae6];rfl
theorem abU (S:bH) (k:Int) (x:wX):(S.Nh k x).av=S.avX (bN S.aH) (kW S.bX) (gD S.aU) ((gY S.aM).set k.toNat (lY x.r)) S.done:=by
 rw[show(gY S.aM).set k.toNat (lY x.r)=gY (S.aM.set k.toNat x)by simp[gY,List.map_set]];rfl
theorem ajC {α:Type} {l:List α} {x:α} {P:α→Prop} (h:∀y∈l,P y) (hx:P x):∀y∈l++[x],P y:=fun y hy=>by
 rcases List.mem_append.1 hy with hy|hy
 ·exact h y hy
 ·rw[List.mem_singleton]at hy;rw[hy];exact hx
theorem ajB {α:Type} {l:List α} {k:Nat} {x:α} {P:α→Prop} (h:∀y∈l,P y) (hx:P x):∀y∈l.set k x,P y:=fun y hy=>by
 rcases List.mem_or_eq_of_mem_set hy with hy|rfl
 ·exact h y hy
 ·exact hx
section
variable {S:bH}
theorem Gn.Fq (G:Gn S) {x:yF} (h:S.bX.length<40) (hx:aep S.aH.length S.weights.length x):Gn (S.Fq x) :=
 ⟨⟨G.hn,G.hw,G.GR,G.DB,G.AO,G.uF,G.mb,G.cb,G.bU,G.ahead⟩,by show(S.bX++[x]).length≤40;simp;omega,G.Tu,G.GY,ajC G.rcb hx,G.Tv,G.trb,G.d0,G.al,G.pb⟩
theorem Gn.Fo (G:Gn S) {x:wX} (h:S.aM.length<40) (hx:aen S.aH.length S.weights.length x):Gn (S.Fo x) :=
 ⟨⟨G.hn,G.hw,G.GR,G.DB,G.AO,G.uF,G.mb,G.cb,G.bU,G.ahead⟩,G.rcl,G.Tu,by show(S.aM++[x]).length≤40;simp;omega,G.rcb,G.Tv,ajC G.trb hx,G.d0,G.al,G.pb⟩
theorem Gn.Ni (G:Gn S) {k:Int} {x:yF} (hx:aep S.aH.length S.weights.length x):Gn (S.Ni k x) :=
 ⟨⟨G.hn,G.hw,G.GR,G.DB,G.AO,G.uF,G.mb,G.cb,G.bU,G.ahead⟩,by show(S.bX.set _ _).length≤40;simp;exact G.rcl,G.Tu,G.GY,ajB G.rcb hx,G.Tv,G.trb,G.d0,G.al,G.pb⟩
theorem Gn.Nh (G:Gn S) {k:Int} {x:wX} (hx:aen S.aH.length S.weights.length x):Gn (S.Nh k x) :=
 ⟨⟨G.hn,G.hw,G.GR,G.DB,G.AO,G.uF,G.mb,G.cb,G.bU,G.ahead⟩,G.rcl,G.Tu,by show(S.aM.set _ _).length≤40;simp;exact G.GY,G.rcb,G.Tv,ajB G.trb hx,G.d0,G.al,G.pb⟩
end
structure yG (S:bH) (r:bH×Int):Prop where
 gn:Gn r.1
 err:kY r.2
 no:r.2≠0→r.1=S
 le:r.1.aH.length=S.aH.length
 wt:r.1.weights=S.weights
 pe:r.1.aD=S.aD
 en:r.1.aB=S.aB
 me:r.1.methods=S.methods
 dn:r.1.done=S.done
theorem yG.bad {S:bH} (G:Gn S) {f:Int} (h:kY f):yG S (S,f):=⟨G,h,fun _=>rfl,rfl,rfl,rfl,rfl,rfl,rfl⟩
theorem yG.ok {S S1 T:bH} (k:Kn S S1) (g:Gn T) (h1:T.aH=S1.aH) (h2:T.weights=S1.weights) (h3:T.aD=S1.aD) (h4:T.aB=S1.aB) (h5:T.methods=S1.methods) (h6:T.done=S1.done):yG S (T,0):=by
 have e:=k.eq;have l:=k.len
 rw[e]at h2 h3 h4 h5 h6;exact⟨g,⟨by simp,by simp⟩,fun h=>absurd rfl h,by show T.aH.length=_;rw[h1,l],h2,h3,h4,h5,h6⟩
theorem _root_.Go.Proofs.YtnepgggkgnckcaaGreat.Mc.jQ.d {ρ:Nat→Int} {p:Poly} {a b:Int} {l:List (Poly×Int×Int)} (h:jQ ρ l) (h1:a≤bJ ρ p:=by simp[bJ,lG]<;>omega) (h2:bJ ρ p≤b:=by simp[bJ,lG]<;>omega):jQ ρ ((p,a,b)::l):=.cons h1 h2 h
theorem So {l:List cD} (h:∀x∈l,(0≤x.a∧x.a≤100)∧(-4611686018427387904≤x.n∧x.n≤4611686018427387904)):eN (cZ l):=F7 fun x hx=>by
 have:=h x hx
 exact⟨⟨by omega,by omega⟩,⟨by omega,by omega⟩⟩
end
section
open Mc
theorem Ix.en {S:bH} {e item:Int} (x:Ix S e item):0≤e∧e<(S.aH.length:Int):=⟨x.e0,x.e1⟩
theorem Ix.iw {S:bH} {e item:Int} (x:Ix S e item):0≤item∧item<(S.weights.length:Int):=⟨x.i0,x.i1⟩
theorem ajw {n w:Nat} {x:yF} (h1:0≤x.eX∧x.eX<n) (h2:0≤x.item∧x.item<w) (h:(0≤x.loc∧x.loc≤1)∧(1≤x.lS∧x.lS≤1073741824)∧(0≤x.value∧x.value≤1125899906842624)∧(0≤x.RZ∧x.RZ≤x.lS)∧(0≤x.lV∧x.lV≤1125899906842624)∧(0≤x.back∧x.back≤x.lS)):aep n w x:=⟨h1,h2,h⟩
theorem aiA {n w:Nat} {x:wX} (h1:0≤x.src∧x.src<n) (h2:0≤x.dst∧x.dst<n) (h3:0≤x.item∧x.item<w) (h:(0≤x.lS∧x.lS≤1073741824)∧(0≤x.value∧x.value≤1125899906842624)∧rV x.cN):aen n w x:=⟨h1,h2,h3,h⟩
def qN (S:bH) (e item loc q a:Int):bH×Int :=
 if(S.bU e).closed=true then(S,7)else
 if S.bX.length=40 then(S,6)else
 match fK S e item loc ⟨q,a,0⟩with
 |(S1,ca,up,f)=>if f≠0 then(S,f)else
 match gK S1 e [⟨0,ca⟩,⟨6,up⟩,⟨1,-a⟩]with
 |(S2,f)=>if f≠0 then(S,f)else
 match jR S2 e item [0,ca,0,0,0,0,0,0,0,0,0]with
 |(S3,f)=>if f≠0 then(S,f)else
 (S3.Fq ⟨e,item,loc,q,a,q,a,0⟩,0)
def akn (S:bH) (e item loc q a:Int):bH×Int :=
 if(S.bU e).closed=true then(S,7)else
 if S.aU.length=40 then(S,6)else
 match eL S e item loc 0 q with
 |(S1,⟨xq,xv,xp⟩,wt,f)=>if f≠0 then(S,f)else
 match gK S1 e [⟨3,a⟩,⟨4,-a⟩,⟨5,xv⟩,⟨0,-xv⟩]with
 |(S2,f)=>if f≠0 then(S,f)else
 match jR S2 e item [0,0,0,0,0,xv,0,0,0,0,0]with
 |(S3,f)=>if f≠0 then(S,f)else
 (S3.ahO ⟨e,item,loc,q,0,xv,xp,(S.bU e).now,wt⟩,0)
def Mq (r:yF) (q:Int):Int:=if q=r.RZ then r.lV else cV r.lV q r.RZ
def afz (S:bH) (ref q a:Int):bH×Int :=
 match S.bX[ref.toNat]? with
 |none=>(S,4)
 |some ⟨e,item,loc,rq,rv,ro,ra,rb⟩ =>
  if(S.bU e).closed=true then(S,7)else if ro<q then(S,5)else
  match gK S e [⟨1,Mq ⟨e,item,loc,rq,rv,ro,ra,rb⟩ q⟩,⟨6,a-Mq ⟨e,item,loc,rq,rv,ro,ra,rb⟩ q⟩,⟨2,-a⟩]with
  |(S1,f)=>if f≠0 then(S,f)else(S1.Ni ref ⟨e,item,loc,rq,rv,-q+ro,ra-Mq ⟨e,item,loc,rq,rv,ro,ra,rb⟩ q,rb⟩,0)
def E6 (S:bH) (e item loc dst q a:Int):bH×Int :=
 if(S.bU e).closed=true then(S,7)else
 if(S.bU dst).closed=true then(S,7)else
 if S.aM.length=40 then(S,6)else
 match eL S e item loc 3 q with
 |(S1,⟨xq,xv,xp⟩,wt,f)=>if f≠0 then(S,f)else
 match gK S1 e [⟨13,a⟩,⟨15,-a⟩,⟨16,xv⟩,⟨0,-xv⟩]with
 |(S2,f)=>if f≠0 then(S,f)else
 match gK S2 dst [⟨12,a⟩,⟨14,-a⟩]with
 |(S3,f)=>if f≠0 then(S,f)else
 match jR S3 e item [0,0,0,0,0,0,xv,0,0,0,0]with
 |(S4,f)=>if f≠0 then(S,f)else
 if -288230376151711744≤a-xv+xp∧a-xv+xp≤288230376151711744 then
 (S4.Fo ⟨e,dst,item,q,a,a-xv+xp⟩,0)else(S,2)
def MH (S:bH) (src e item tq tv tp loc q ref v pf:Int):bH×Int :=
 match fK S e item loc ⟨q,v,pf⟩with
 |(S1,ca,up,f)=>if f≠0 then(S,f)else
 match gK S1 e [⟨0,ca⟩,⟨6,up⟩,⟨12,-v⟩]with
 |(S2,f)=>if f≠0 then(S,f)else
 match jR S2 e item [0,0,0,ca,0,0,0,0,0,0,0]with
 |(S3,f)=>if f≠0 then(S,f)else(S3.Nh ref ⟨src,e,item,-q+tq,tv-v,tp-pf⟩,0)
def wN (S:bH) (loc q ref:Int):bH×Int :=
 match S.aM[ref.toNat]? with
 |none=>(S,4)
 |some ⟨src,e,item,tq,tv,tp⟩ =>
  if(S.bU e).closed=true then(S,7)else if tq<q then(S,5)else
  MH S src e item tq tv tp loc q ref (cV tv q tq) (cV tp q tq)
theorem aci {v q n:Int} (hn:1≤n) (hq:0≤q) (hqn:q≤n) (h0:0≤v) (hv:v≤1125899906842624):0≤cV v q n∧cV v q n≤v :=
 (Bl hn hq hqn (dW.2 ⟨by omega,by omega⟩)).1 h0
theorem afN {r:yF} {q:Int} (h1:1≤q) (h2:q≤r.RZ) (h3:0≤r.lV) (h4:r.lV≤1125899906842624):0≤Mq r q∧Mq r q≤r.lV:=by
 unfold Mq;split
 ·omega
 ·exact aci (by omega) (by omega) h2 h3 h4
set_option maxRecDepth 1000000
theorem agZ {a b c:Int} (h1:-9223372036854775808≤a∧a≤9223372036854775807) (h2:-9223372036854775808≤b∧b≤9223372036854775807) (h3:-9223372036854775808≤c∧c≤9223372036854775807):eN [a,b,c]:=by
 intro v hv;simp only[List.mem_cons,List.not_mem_nil,or_false]at hv;rcases hv with rfl|rfl|rfl
 ·exact⟨h1.1,h1.2⟩
 ·exact⟨h2.1,h2.2⟩
 ·exact⟨h3.1,h3.2⟩
theorem OpI.er {S:bH} {e item loc dst q a ref f g:Int} (H:OpI S e item loc dst q a ref g) (h:1≤f∧f≤20):OpI S e item loc dst q a ref f:=⟨H.he,H.hi,H.hl,H.hd,H.hq,H.ha,H.hr,h,H.od,H.hn,H.hw,H.hm,H.hc⟩
theorem Gn.op {S:bH} {e item loc dst q a ref:Int} (G:Gn S) (hd:S.done≤1000000) (h1:0≤e∧e≤3) (h2:0≤item∧item≤4) (h3:0≤loc∧loc≤1) (h4:0≤dst∧dst≤3) (h5:0≤q∧q≤1073741824) (h6:0≤a∧a≤1125899906842624) (h7:0≤ref∧ref≤39):OpI S e item loc dst q a ref 1 :=
 ⟨h1,h2,h3,h4,h5,h6,h7,⟨by omega,by omega⟩,⟨⟨G.d0,hd⟩,G.rcl,G.Tu,G.GY⟩,G.hn,G.hw,G.GR,G.DB⟩
section
variable {S:bH} {e item loc dst q a ref:Int}
theorem Ix.eb (x:Ix S e item) (h:StOk S):0≤e∧e≤3:=by have:=x.e0;have:=x.e1;have:=h.hn;omega
theorem Ix.ib (x:Ix S e item) (h:StOk S):0≤item∧item≤4:=by have:=x.i0;have:=x.i1;have:=h.hw;omega
theorem afd {v q n:Int} (hn:1≤n) (hq:0≤q) (hqn:q≤n) (hv:rV v):rV (cV v q n)∧rV (v-cV v q n):=by
 have:=Bl hn hq hqn (dW.2 ⟨hv.1,hv.2⟩)
 rcases Int.lt_or_le v 0 with h|h
 ·have:=this.2 h;exact⟨⟨by omega,by omega⟩,⟨by omega,by omega⟩⟩
 ·have:=this.1 h;exact⟨⟨by omega,by omega⟩,⟨by omega,by omega⟩⟩
theorem aaT (G:Gn S) (hd:S.done≤1000000) (x:Ix S e item) (hl:0≤loc∧loc≤1) (hq:1≤q∧q≤1073741824) (ha:0≤a∧a≤1125899906842624) :
  Ck 87 [S.av,uE 1 e item loc 0 q a 0] (.aZ [(qN S e item loc q a).1.av,.i (qN S e item loc q a).2])∧yG S (qN S e item loc q a):=by
 have h:=G.toStOk;have H:=G.op hd (x.eb h) (x.ib h) hl (dst:=0) (by omega) (q:=q) (by omega) ha (ref:=0) (by omega)
 unfold qN;have R1:=oP h x;by_cases hc1:(S.bU e).closed=true
 ·rw[if_pos hc1]at R1 ⊢
  exact⟨cw (AM [] [] [] [] Ym) (ev3 H [] [] [] .nil) J7 Ui (kc R1 kn),.bad G (by decide)⟩
 rw[if_neg hc1]at R1 ⊢;by_cases hf:S.bX.length=40
 ·rw[if_pos hf]
  exact⟨cw (AM [] [([([8],1)],40,40)] [] [] Yn) (ev3 H [] [] [] .nil) J7 Uj (kc R1 kn),.bad G (by decide)⟩
 rw[if_neg hf];have hf:S.bX.length<40:=by have:=G.rcl;omega
 have C1:=DI h x hl.1 hl.2 (y:=⟨q,a,0⟩) (show eN [q,a,0]from agZ (by omega) (by omega) (by omega))
 obtain⟨k1,g1,cb,ub,z1⟩:=IA h x hl.1 hl.2 ⟨q,a,0⟩
 generalize fK S e item loc ⟨q,a,0⟩=b at *
 obtain⟨S1,ca,up,f⟩:=b;dsimp only at *
 have K1:=k1;by_cases h0:f=0
 rotate_left
 ·rw[if_pos h0]
  obtain⟨hz,rfl,rfl⟩:=z1 h0;have hz:=hz.symm;subst hz
  have H:=H.er (f:=f) (by omega)
  exact⟨cw (AM [] WK [] [] [Yy,(145,Q9,Yt)]) (ev3 H [] [] [] .nil) J7 Y8 (kc R1 (kc C1 kn)),.bad G g1⟩
 subst h0;rw[if_neg (by simp)]
 clear z1;obtain⟨E1,rfl⟩:=K1.ex;have C2:=mE K1.ok (K1.ix x) (l:=[⟨0,ca⟩,⟨6,up⟩,⟨1,-a⟩]) (So fmo) (by simp)
 obtain⟨k2,g2,z2⟩:=nB K1.ok (K1.ix x) [⟨0,ca⟩,⟨6,up⟩,⟨1,-a⟩]
 generalize gK (S.gI E1) e [⟨0,ca⟩,⟨6,up⟩,⟨1,-a⟩]=b at *
 obtain⟨S2,f⟩:=b;dsimp only at *
 have K2:=K1.trans k2;by_cases h0:f=0
 rotate_left
 ·rw[if_pos h0]
  obtain hz:=z2 h0
  have hz:=hz.symm;subst hz
  have H:=H.er (f:=f) (by omega)
  exact⟨cw (AM [wZ,wZ] WK [] [] [Yy,Je,(92,JG,Y9)]) (ev3 H [ca,up] [] [bN E1] .nil) J7 Y8 (kc R1 (kc C1 (kc C2 kn))),.bad G g2⟩
 subst h0;rw[if_neg (by simp)]
 clear z2;obtain⟨E2,rfl⟩:=K2.ex;have C3:=wK K2.ok (K2.ix x) (r:=[0,ca,0,0,0,0,0,0,0,0,0]) rfl
 obtain⟨k3,g3,z3⟩:=xC K2.ok (K2.ix x) (r:=[0,ca,0,0,0,0,0,0,0,0,0]) rfl
 generalize jR (S.gI E2) e item [0,ca,0,0,0,0,0,0,0,0,0]=b at *
 obtain⟨S3,f⟩:=b;dsimp only at *
 have K3:=K2.trans k3;by_cases h0:f=0
 rotate_left
 ·rw[if_pos h0]
  obtain hz:=z3 h0
  have hz:=hz.symm;subst hz
  have H:=H.er (f:=f) (by omega)
  exact⟨cw (AM [wZ,wZ] WK [] [] [Yy,Je,K5,(124,Jr,Ua)]) (ev3 H [ca,up] [] [bN E1,bN E2] .nil) J7 Y8 (kc R1 (kc C1 (kc C2 (kc C3 kn)))),.bad G g3⟩
 subst h0;rw[if_neg (by simp)]
 clear z3;obtain⟨E3,rfl⟩:=K3.ex;rw[aao];refine⟨cw (AM [wZ,wZ] WK [] [] [Yy,Je,K5,(124,Jr,Ul)]) (ev3 H [ca,up] [] [bN E1,bN E2,bN E3] .nil) J7 (.aZ [(.agg [.o 0,.o 1,.q 1 1,.q 1 2,.q 1 3,.q 8 9,(.seq 8 4 [] [[.v 0,.v 1,.v 2,.v 4,.v 5,.v 4,.v 5,.i 0]]),.q 9 5,.q 6 6,.v 7]),.i 0]) (kc R1 (kc C1 (kc C2 (kc C3 kn)))),.ok K3 ((K3.gn G).Fq hf (ajw (x:=⟨e,item,loc,q,a,q,a,0⟩) (by rw[K3.len];exact x.en) x.iw (by dsimp only;omega))) rfl rfl rfl rfl rfl rfl⟩
end
end
section
open Mc
set_option maxRecDepth 1000000
theorem aaZ {e item loc rq rv ro ra rb q:Int} (hq:1≤q) (h1:q≤ro) (h2:ro≤1073741824) (h3:0≤ra) (h4:ra≤1125899906842624):Ck 223 [.agg (lY [e,item,loc,rq,rv,ro,ra,rb]),.i q] (.i (Mq ⟨e,item,loc,rq,rv,ro,ra,rb⟩ q)):=by
 have hp:=AF (v:=ra) (q:=q) (n:=ro) ⟨by omega,by omega⟩ ⟨by omega,by omega⟩ ⟨by omega,by omega⟩
 unfold Mq;dsimp only
 generalize cV ra q ro=d at *;by_cases hf:q=ro
 ·rw[if_pos hf];exact cw _ (ev1 { vars:=ZO,facts:=[(WI,0,0)] } [ro,q,ra] [.I e,.I item,.I loc,.I rq,.I rv,.I rb,.I d] [] .nil) Zr (.v 2) kn
 ·rw[if_neg hf];exact cw _ (ev1 { vars:=ZO,facts:=[(WI,1,1099511627776)],bT:=[(149,[.v 2,.v 1,.v 0],(.o 6))] } [ro,q,ra] [.I e,.I item,.I loc,.I rq,.I rv,.I rb,.I d] [] .nil) Zr (.o 6) (kc hp kn)
section
variable {S:bH} {e item loc dst q a ref:Int}
set_option maxHeartbeats 1000000 in
theorem akp (G:Gn S) (hd:S.done≤1000000) (hq:1≤q∧q≤1073741824) (ha:0≤a∧a≤1125899906842624) (hr:0≤ref∧ref≤39) :
  Ck 141 [S.av,uE 2 0 0 0 0 q a ref] (.aZ [(afz S ref q a).1.av,.i (afz S ref q a).2])∧yG S (afz S ref q a):=by
 have h:=G.toStOk;unfold afz;cases hsa:S.bX[ref.toNat]? with
 |none =>
  have H:=G.op hd (e:=0) (by omega) (item:=0) (by omega) (loc:=0) (by omega) (dst:=0) (by omega) (q:=q) (by omega) ha hr
  have:=List.getElem?_eq_none_iff.1 hsa
  exact⟨cw (AM [] [([([6],1),([8],-1)],0,1152921504606846976)] [] [] []) (ev3 H [] [] [] .nil) J8 Um kn,.bad G (by decide)⟩
 |some s =>
  have hm:=List.mem_of_getElem? hsa
  have B:=G.rcb s hm;have:=(List.getElem?_eq_some_iff.1 hsa).1
  have:=G.rcl;obtain⟨e,item,loc,rq,rv,ro,ra,rb⟩:=s;obtain⟨b1,b2,hl,b4,b5,b6,b7,b8⟩:=B;dsimp only at *
  have x:Ix S e item:=⟨b1.1,b1.2,b2.1,b2.2⟩
  have H:=G.op hd (x.eb h) (x.ib h) hl (dst:=0) (by omega) (q:=q) (by omega) ha hr
  have R1:=oP h x;by_cases hc1:(S.bU e).closed=true
  ·rw[if_pos hc1]at R1 ⊢
   exact⟨cw (AM JA [Vm] [] Q4 Ym) (ev3 H [rq,rv,ro,ra,rb] [] [] (.d (aC hsa) .nil)) J8 Ui (kc R1 kn),.bad G (by decide)⟩
  rw[if_neg hc1]at R1 ⊢;by_cases hsh:ro<q
  ·rw[if_pos hsh]
   exact⟨cw (AM JA [Vm,([([4],1),([16],-1)],1,1152921504606846976)] [] Q4 Yn) (ev3 H [rq,rv,ro,ra,rb] [] [] (.d (aC hsa) .nil)) J8 Un (kc R1 kn),.bad G (by decide)⟩
  rw[if_neg hsh];have Cd:=aaZ (e:=e) (item:=item) (loc:=loc) (rq:=rq) (rv:=rv) (rb:=rb) (q:=q) (ro:=ro) (ra:=ra) (by omega) (by omega) (by omega) (by omega) (by omega)
  have db:=afN (r:=⟨e,item,loc,rq,rv,ro,ra,rb⟩) (q:=q) (by omega) (by dsimp only;omega) (by dsimp only;omega) (by dsimp only;omega)
  dsimp only at db
  generalize Mq ⟨e,item,loc,rq,rv,ro,ra,rb⟩ q=d at *
  have C1:=mE h x (l:=[⟨1,d⟩,⟨6,a-d⟩,⟨2,-a⟩]) (So fmo) (by simp)
  obtain⟨k1,g1,z1⟩:=nB h x [⟨1,d⟩,⟨6,a-d⟩,⟨2,-a⟩]
  generalize gK S e [⟨1,d⟩,⟨6,a-d⟩,⟨2,-a⟩]=b at *
  obtain⟨S1,f⟩:=b;dsimp only at *
  have K1:=k1;by_cases h0:f=0
  rotate_left
  ·rw[if_pos h0]
   obtain hz:=z1 h0
   have hz:=hz.symm;subst hz
   have H:=H.er (f:=f) (by omega)
   exact⟨cw (AM Jl Qo [] Q4 [Yy,Qd,(92,Jn,Y8)]) (ev3 H [rq,rv,ro,ra,rb,d] [] [] (.d (aC hsa) .nil)) J8 Y8 (kc R1 (kc Cd (kc C1 kn))),.bad G g1⟩
  subst h0;rw[if_neg (by simp)]
  clear z1;obtain⟨E1,rfl⟩:=K1.ex;rw[abV];refine⟨cw (AM Jl Qo [] Q4 [Yy,Qd,(92,Jn,(.aZ [Ww,.i 0]))]) (ev3 H [rq,rv,ro,ra,rb,d] [] [bN E1] (.d (aC hsa) .nil)) J8 (.aZ [(.agg [.o 0,.o 1,.q 1 1,.q 1 2,.q 1 3,.q 8 7,(.seq 8 4 [([([6],1)],[.v 0,.v 1,.v 2,.v 14,.v 15,(.e [([4],(-1)),([16],1)]),(.e [([17],1),([19],(-1))]),.v 18])] []),.q 9 5,.q 6 6,.v 7]),.i 0]) (kc R1 (kc Cd (kc C1 kn))),.ok K1 ((K1.gn G).Ni (ajw (x:=⟨e,item,loc,rq,rv,-q+ro,ra-d,rb⟩) (by rw[K1.len];exact x.en) x.iw (by dsimp only;omega))) rfl rfl rfl rfl rfl rfl⟩
set_option maxHeartbeats 1000000 in
theorem ah7 (G:Gn S) (hd:S.done≤1000000) (x:Ix S e item) (hl:0≤loc∧loc≤1) (x2:Ix S dst item) (hq:1≤q∧q≤1073741824) (ha:0≤a∧a≤1125899906842624) :
  Ck 142 [S.av,uE 12 e item loc dst q a 0] (.aZ [(E6 S e item loc dst q a).1.av,.i (E6 S e item loc dst q a).2])∧yG S (E6 S e item loc dst q a):=by
 have h:=G.toStOk;have H:=G.op hd (x.eb h) (x.ib h) hl (x2.eb h) (q:=q) (by omega) ha (ref:=0) (by omega)
 unfold E6;have R1:=oP h x;by_cases hc1:(S.bU e).closed=true
 ·rw[if_pos hc1]at R1 ⊢
  exact⟨cw (AM [] [] [] [] Ym) (ev3 H [] [] [] .nil) J2 Ui (kc R1 kn),.bad G (by decide)⟩
 rw[if_neg hc1]at R1 ⊢;have R2:=oP h x2;by_cases hc2:(S.bU dst).closed=true
 ·rw[if_pos hc2]at R2 ⊢
  exact⟨cw (AM [] [] [] [] [Yy,(89,[Wv,.v 3,.v 1],(.i 7))]) (ev3 H [] [] [] .nil) J2 Ui (kc R1 (kc R2 kn)),.bad G (by decide)⟩
 rw[if_neg hc2]at R2 ⊢;by_cases hf:S.aM.length=40
 ·rw[if_pos hf]
  exact⟨cw (AM [] [([([10],1)],40,40)] [] [] [Yy,Yz]) (ev3 H [] [] [] .nil) J2 Uj (kc R1 (kc R2 kn)),.bad G (by decide)⟩
 rw[if_neg hf];have hf:S.aM.length<40:=by have:=G.GY;omega
 have C1:=O9 h x (kind:=3) hl.1 hl.2 (by omega) (q:=q) ⟨by omega,by omega⟩
 obtain⟨k1,g1,vb,ib,z1⟩:=aaN h x (kind:=3) hl.1 hl.2 (by omega) (by omega) q
 generalize eL S e item loc 3 q=b at *;obtain⟨S1,⟨xq,xv,xp⟩,wt,f⟩:=b
 dsimp only at *
 have K1:=k1;by_cases h0:f=0
 rotate_left
 ·rw[if_pos h0]
  obtain⟨hz,hx,rfl⟩:=z1 h0;cases hx;have hz:=hz.symm;subst hz
  have H:=H.er (f:=f) (by omega)
  exact⟨cw (AM [] WD [] [] [Yy,Yz,(217,Yh,(.aZ [Wv,VJ,WH,.v 13]))]) (ev3 H [] [] [] .nil) J2 Y8 (kc R1 (kc R2 (kc C1 kn))),.bad G g1⟩
 subst h0;rw[if_neg (by simp)]
 clear z1;obtain⟨E1,rfl⟩:=K1.ex;have C2:=mE K1.ok (K1.ix x) (l:=[⟨13,a⟩,⟨15,-a⟩,⟨16,xv⟩,⟨0,-xv⟩]) (So fmo) (by simp)
 obtain⟨k2,g2,z2⟩:=nB K1.ok (K1.ix x) [⟨13,a⟩,⟨15,-a⟩,⟨16,xv⟩,⟨0,-xv⟩]
 generalize gK (S.gI E1) e [⟨13,a⟩,⟨15,-a⟩,⟨16,xv⟩,⟨0,-xv⟩]=b at *
 obtain⟨S2,f⟩:=b;dsimp only at *
 have K2:=K1.trans k2;by_cases h0:f=0
 rotate_left
 ·rw[if_pos h0]
  obtain hz:=z2 h0
  have hz:=hz.symm;subst hz
  have H:=H.er (f:=f) (by omega)
  exact⟨cw (AM [wZ,wZ] WD [] [] [Yy,Yz,K9,(92,Jf,Y9)]) (ev3 H [xv,xp] [.I xq,.bool wt] [bN E1] .nil) J2 Y8 (kc R1 (kc R2 (kc C1 (kc C2 kn)))),.bad G g2⟩
 subst h0;rw[if_neg (by simp)]
 clear z2;obtain⟨E2,rfl⟩:=K2.ex;have C3:=mE K2.ok (K2.ix x2) (l:=[⟨12,a⟩,⟨14,-a⟩]) (So fmo) (by simp)
 obtain⟨k3,g3,z3⟩:=nB K2.ok (K2.ix x2) [⟨12,a⟩,⟨14,-a⟩]
 generalize gK (S.gI E2) dst [⟨12,a⟩,⟨14,-a⟩]=b at *
 obtain⟨S3,f⟩:=b;dsimp only at *
 have K3:=K2.trans k3;by_cases h0:f=0
 rotate_left
 ·rw[if_pos h0]
  obtain hz:=z3 h0
  have hz:=hz.symm;subst hz
  have H:=H.er (f:=f) (by omega)
  exact⟨cw (AM [wZ,wZ] WD [] [] [Yy,Yz,K9,KL,(92,Qb,Ua)]) (ev3 H [xv,xp] [.I xq,.bool wt] [bN E1,bN E2] .nil) J2 Y8 (kc R1 (kc R2 (kc C1 (kc C2 (kc C3 kn))))),.bad G g3⟩
 subst h0;rw[if_neg (by simp)]
 clear z3;obtain⟨E3,rfl⟩:=K3.ex;have C4:=wK K3.ok (K3.ix x) (r:=[0,0,0,0,0,0,xv,0,0,0,0]) rfl
 obtain⟨k4,g4,z4⟩:=xC K3.ok (K3.ix x) (r:=[0,0,0,0,0,0,xv,0,0,0,0]) rfl
 generalize jR (S.gI E3) e item [0,0,0,0,0,0,xv,0,0,0,0]=b at *
 obtain⟨S4,f⟩:=b;dsimp only at *
 have K4:=K3.trans k4;by_cases h0:f=0
 rotate_left
 ·rw[if_pos h0]
  obtain hz:=z4 h0
  have hz:=hz.symm;subst hz
  have H:=H.er (f:=f) (by omega)
  exact⟨cw (AM [wZ,wZ] WD [] [] [Yy,Yz,K9,KL,Jc,(124,Js,(.aZ [Wz,.v 13]))]) (ev3 H [xv,xp] [.I xq,.bool wt] [bN E1,bN E2,bN E3] .nil) J2 Y8 (kc R1 (kc R2 (kc C1 (kc C2 (kc C3 (kc C4 kn)))))),.bad G g4⟩
 subst h0;rw[if_neg (by simp)]
 clear z4;obtain⟨E4,rfl⟩:=K4.ex;by_cases hin:-288230376151711744≤a-xv+xp∧a-xv+xp≤288230376151711744
 rotate_left
 ·rw[if_neg hin]
  rcases(by omega:a-xv+xp≤-288230376151711745∨288230376151711745≤a-xv+xp)with hlo|hlo
  ·exact⟨cw (AM [wZ,wZ] [WR,(UY,-4611686018427387904,-288230376151711745)] [] [] Ka) (ev3 H [xv,xp] [.I xq,.bool wt] [bN E1,bN E2,bN E3,bN E4] .nil) J2 Uo (kc R1 (kc R2 (kc C1 (kc C2 (kc C3 (kc C4 kn)))))),.bad G (by decide)⟩
  ·exact⟨cw (AM [wZ,wZ] [WR,(UY,288230376151711745,4611686018427387904)] [] [] Ka) (ev3 H [xv,xp] [.I xq,.bool wt] [bN E1,bN E2,bN E3,bN E4] .nil) J2 Uo (kc R1 (kc R2 (kc C1 (kc C2 (kc C3 (kc C4 kn)))))),.bad G (by decide)⟩
 rw[if_pos hin];rw[aan];refine⟨cw (AM [wZ,wZ] [WR,(UY,-288230376151711744,288230376151711744)] [] [] Ka) (ev3 H [xv,xp] [.I xq,.bool wt] [bN E1,bN E2,bN E3,bN E4] .nil) J2 (.aZ [(.agg [.o 0,.o 1,.q 1 1,.q 1 2,.q 1 3,.q 8 10,.q 8 4,.q 9 5,(.seq 6 6 [] [[.v 0,.v 3,.v 1,.v 4,.v 5,(.e [([5],1),([14],(-1)),([15],1)])]]),.v 7]),.i 0]) (kc R1 (kc R2 (kc C1 (kc C2 (kc C3 (kc C4 kn)))))),.ok K4 ((K4.gn G).Fo hf (aiA (x:=⟨e,dst,item,q,a,a-xv+xp⟩) (by rw[K4.len];exact x.en) (by rw[K4.len];exact x2.en) x.iw (by dsimp only;omega))) rfl rfl rfl rfl rfl rfl⟩
set_option maxHeartbeats 1000000 in
theorem adS (G:Gn S) (hd:S.done≤1000000) (hl:0≤loc∧loc≤1) (hq:1≤q∧q≤1073741824) (hr:0≤ref∧ref≤39) :
  Ck 142 [S.av,uE 13 0 0 loc 0 q 0 ref] (.aZ [(wN S loc q ref).1.av,.i (wN S loc q ref).2])∧yG S (wN S loc q ref):=by
 have h:=G.toStOk;unfold wN;cases hsa:S.aM[ref.toNat]? with
 |none =>
  have H:=G.op hd (e:=0) (by omega) (item:=0) (by omega) hl (dst:=0) (by omega) (q:=q) (by omega) (a:=0) (by omega) hr
  have:=List.getElem?_eq_none_iff.1 hsa
  exact⟨cw (AM [] [([([6],1),([10],-1)],0,1152921504606846976)] [] [] []) (ev3 H [] [] [] .nil) J3 Um kn,.bad G (by decide)⟩
 |some s =>
  have hm:=List.mem_of_getElem? hsa
  have B:=G.trb s hm;have:=(List.getElem?_eq_some_iff.1 hsa).1
  have:=G.GY;obtain⟨dst,e,item,tq,tv,tp⟩:=s;obtain⟨b1,b2,b3,b4,b5,b6⟩:=B;dsimp only at *
  have x:Ix S e item:=⟨b2.1,b2.2,b3.1,b3.2⟩
  have:=h.hn;have H:=G.op hd (x.eb h) (x.ib h) hl (dst:=dst) (by omega) (q:=q) (by omega) (a:=0) (by omega) hr
  have R1:=oP h x;by_cases hc1:(S.bU e).closed=true
  ·rw[if_pos hc1]at R1 ⊢
   exact⟨cw (AM YI [Vg] [] Z7 Ym) (ev3 H [tq,tv,tp] [] [] (.d (aT hsa) .nil)) J3 Ui (kc R1 kn),.bad G (by decide)⟩
  rw[if_neg hc1]at R1 ⊢;by_cases hsh:tq<q
  ·rw[if_pos hsh]
   exact⟨cw (AM YI [Vg,([([4],1),([14],-1)],1,1152921504606846976)] [] Z7 Yn) (ev3 H [tq,tv,tp] [] [] (.d (aT hsa) .nil)) J3 Un (kc R1 kn),.bad G (by decide)⟩
  rw[if_neg hsh];have Cv:=AF (v:=tv) (q:=q) (n:=tq) ⟨by omega,by omega⟩ ⟨by omega,by omega⟩ ⟨by omega,by omega⟩
  have Cp:=AF (v:=tp) (q:=q) (n:=tq) ⟨by omega,by omega⟩ ⟨by omega,by omega⟩ ⟨by omega,by omega⟩
  have vb:=aci (v:=tv) (q:=q) (n:=tq) (by omega) (by omega) (by omega) (by omega) (by omega)
  obtain⟨c3,c4⟩:=afd (v:=tp) (q:=q) (n:=tq) (by omega) (by omega) (by omega) b6
  unfold MH;generalize cV tv q tq=v at *;generalize cV tp q tq=pf at *;have C1:=DI h x hl.1 hl.2 (y:=⟨q,v,pf⟩) (show eN [q,v,pf]from agZ (by omega) (by omega) (by omega))
  obtain⟨k1,g1,cb,ub,z1⟩:=IA h x hl.1 hl.2 ⟨q,v,pf⟩
  generalize fK S e item loc ⟨q,v,pf⟩=b at *
  obtain⟨S1,ca,up,f⟩:=b;dsimp only at *
  have K1:=k1;by_cases h0:f=0
  rotate_left
  ·rw[if_pos h0]
   obtain⟨hz,rfl,rfl⟩:=z1 h0;have hz:=hz.symm;subst hz
   have H:=H.er (f:=f) (by omega)
   exact⟨cw (AM [(0,1073741824),(0,1125899906842624),wZ,(0,1125899906842624),wZ] Qj [] Z7 [Yy,UD,UE,(145,Q3,Yt)]) (ev3 H [tq,tv,tp,v,pf] [] [] (.d (aT hsa) .nil)) J3 Y8 (kc R1 (kc Cv (kc Cp (kc C1 kn)))),.bad G g1⟩
  subst h0;rw[if_neg (by simp)]
  clear z1;obtain⟨E1,rfl⟩:=K1.ex;have C2:=mE K1.ok (K1.ix x) (l:=[⟨0,ca⟩,⟨6,up⟩,⟨12,-v⟩]) (So fmo) (by simp)
  obtain⟨k2,g2,z2⟩:=nB K1.ok (K1.ix x) [⟨0,ca⟩,⟨6,up⟩,⟨12,-v⟩]
  generalize gK (S.gI E1) e [⟨0,ca⟩,⟨6,up⟩,⟨12,-v⟩]=b at *
  obtain⟨S2,f⟩:=b;dsimp only at *
  have K2:=K1.trans k2;by_cases h0:f=0
  rotate_left
  ·rw[if_pos h0]
   obtain hz:=z2 h0
   have hz:=hz.symm;subst hz
   have H:=H.er (f:=f) (by omega)
   exact⟨cw (AM Qe Qj [] Z7 [Yy,UD,UE,Jb,(92,Jy,Y9)]) (ev3 H [tq,tv,tp,v,pf,ca,up] [] [bN E1] (.d (aT hsa) .nil)) J3 Y8 (kc R1 (kc Cv (kc Cp (kc C1 (kc C2 kn))))),.bad G g2⟩
  subst h0;rw[if_neg (by simp)]
  clear z2;obtain⟨E2,rfl⟩:=K2.ex;have C3:=wK K2.ok (K2.ix x) (r:=[0,0,0,ca,0,0,0,0,0,0,0]) rfl
  obtain⟨k3,g3,z3⟩:=xC K2.ok (K2.ix x) (r:=[0,0,0,ca,0,0,0,0,0,0,0]) rfl
  generalize jR (S.gI E2) e item [0,0,0,ca,0,0,0,0,0,0,0]=b at *
  obtain⟨S3,f⟩:=b;dsimp only at *
  have K3:=K2.trans k3;by_cases h0:f=0
  rotate_left
  ·rw[if_pos h0]
   obtain hz:=z3 h0
   have hz:=hz.symm;subst hz
   have H:=H.er (f:=f) (by omega)
   exact⟨cw (AM Qe Qj [] Z7 [Yy,UD,UE,Jb,KZ,(124,Jt,Ua)]) (ev3 H [tq,tv,tp,v,pf,ca,up] [] [bN E1,bN E2] (.d (aT hsa) .nil)) J3 Y8 (kc R1 (kc Cv (kc Cp (kc C1 (kc C2 (kc C3 kn)))))),.bad G g3⟩
  subst h0;rw[if_neg (by simp)]
  clear z3;obtain⟨E3,rfl⟩:=K3.ex;rw[abU];refine⟨cw (AM Qe Qj [] Z7 [Yy,UD,UE,Jb,KZ,(124,Jt,Ul)]) (ev3 H [tq,tv,tp,v,pf,ca,up] [] [bN E1,bN E2,bN E3] (.d (aT hsa) .nil)) J3 (.aZ [(.agg [.o 0,.o 1,.q 1 1,.q 1 2,.q 1 3,.q 8 9,.q 8 4,.q 9 5,(.seq 6 6 [([([6],1)],[.v 3,.v 0,.v 1,(.e [([4],(-1)),([14],1)]),(.e [([15],1),([17],(-1))]),(.e [([16],1),([18],(-1))])])] []),.v 7]),.i 0]) (kc R1 (kc Cv (kc Cp (kc C1 (kc C2 (kc C3 kn)))))),.ok K3 ((K3.gn G).Nh (aiA (x:=⟨dst,e,item,-q+tq,tv-v,tp-pf⟩) (by rw[K3.len];exact b1) (by rw[K3.len];exact x.en) x.iw (by dsimp only;omega))) rfl rfl rfl rfl rfl rfl⟩
end
end
section
open Mc
set_option maxRecDepth 1000000
section
variable {S:bH} {e item a:Int}
end
end
section
open Mc
set_option maxRecDepth 1000000
namespace RS
end RS
set_option maxRecDepth 1000000
section
variable {S:bH} {e item loc rq rv ro ra rb v:Int}
end
end
section
open Mc
set_option maxRecDepth 1000000
namespace WT
end WT
end
end Go.Proofs.YtnepgggkgnckcaaGreat
