/-
 Short forms for runs by names: what is closed, by its shape; evidence, one behind the other.
-/
import Derived.Test.YtjccjmmbebiegaaGst0
import Derived.Test.YtjccjmmbebiegaaPcheck
import Derived.Test.YtjccjmmbebiegaaMX
import Derived.Test.YtjccjmmbebiegaaCalls
set_option linter.unusedVariables false
set_option linter.unusedSimpArgs false
namespace Go.Proofs.Ytjccjmmbebiegaa
open Go.RowKit Mc
abbrev Ck (k:FuncId) (xa:List AV) (r:AV):Prop:=CK Try.prog k xa r
abbrev Mc.AV.v (k:Nat):AV:=.e [([k],1)]
abbrev Mc.AV.q (sz k:Nat):AV:=.seq sz k [] []
class ClR' (l:List (List AV)):Prop where out:ClR l
class ClS (ss:List (List (List AV))):Prop where out:∀l∈ss,∀r∈l,∀x∈r,Cl x
class ClL (l:List AV):Prop where out:∀x∈l,Cl x
class ClA (x:AV):Prop where out:Cl x
instance:ClS []:=⟨spl_nil⟩
instance {l:List (List AV)} {ss:List (List (List AV))} [h:ClR' l] [g:ClS ss]:ClS (l::ss):=⟨spl_cons h.out g.out⟩
instance:ClL []:=⟨cl_nil⟩
instance {x:AV} {l:List AV} [h:ClA x] [g:ClL l]:ClL (x::l):=⟨cl_cons h.out g.out⟩
instance (v:Value):ClA (.c v):=⟨.c v⟩
instance:ClA .emp:=⟨.emp⟩
instance (l:List AV) [h:ClL l]:ClA (.agg l):=⟨.agg _ h.out⟩
instance (l:List AV) [h:ClL l]:ClA (.tup l):=⟨.tup _ h.out⟩
instance (k:Nat) (l:List (List AV)) [h:ClR' l]:ClA (.lit k l):=⟨h.out.lit⟩
instance:ClR' []:=⟨ClR.nil⟩
instance {r:List AV} {l:List (List AV)} [h:ClL r] [g:ClR' l]:ClR' (r::l):=⟨clR_cons h.out g.out⟩
instance {a b:List (List AV)} [h:ClR' a] [g:ClR' b]:ClR' (a++b):=⟨clR_append h.out g.out⟩
instance {a:List (List AV)} {k:Nat} {r:List AV} [h:ClR' a] [g:ClL r]:ClR' (a.set k r):=⟨clR_set h.out g.out⟩
instance (l:List Int):ClR' (intsR l):=⟨cl_ints l⟩
instance (l:List Lay):ClR' (laysR l):=⟨cl_lays l⟩
instance (l:List Lin):ClR' (linsR l):=⟨cl_lins l⟩
instance (l:List RcD):ClR' (rcsR l):=⟨cl_rcs l⟩
instance (l:List SaD):ClR' (sasR l):=⟨cl_sas l⟩
instance (l:List TrD):ClR' (trsR l):=⟨cl_trs l⟩
instance (l:List (List Int)):ClR' (rollsR l):=⟨cl_rolls l⟩
instance (l:List (List Int)):ClR' (intssR l):=⟨cl_intss l⟩
instance (l:List PoolD):ClR' (poolsR l):=⟨cl_pools l⟩
instance (l:List EntC):ClR' (aheadR l):=⟨cl_ahead l⟩
instance (l:List EntD):ClR' (entsR l):=⟨cl_ents l⟩
instance (l:List Int):ClL (rowI l):=⟨cl_rowI l⟩
instance (p:PoolD):ClL p.row:=⟨cl_poolRow p⟩
instance (p:SaD):ClL p.row:=⟨cl_saRow p⟩
instance (p:PoolD):ClA p.av:=⟨.agg _ (cl_poolRow p)⟩
instance (x:Lay):ClA x.av:=⟨cl_lay x⟩
instance (S:StD):ClA S.av:=⟨cl_st S⟩
instance (o:OpD):ClA o.av:=⟨cl_op o⟩
instance (a b c d e f g h:Int):ClA (opAv a b c d e f g h):=⟨cl_op _⟩
instance {now:Int} {closed:Bool} {P B R Pr D A:List (List AV)} [h1:ClR' P] [h2:ClR' B] [h3:ClR' R] [h4:ClR' Pr] [h5:ClR' D] [h6:ClR' A]:ClL (entRw now closed P B R Pr D A):=⟨cl_entRw h1.out h2.out h3.out h4.out h5.out h6.out⟩
instance {S:StD} {R:List (List AV)} [h:ClR' R]:ClA (S.avE R):=⟨cl_avE h.out⟩
instance {S:StD} {e:Int} {r:List AV} [h:ClL r]:ClA (S.setRow e r):=⟨cl_setRow h.out⟩
instance {S:StD} {R RC SA TR:List (List AV)} {d:Int} [h1:ClR' R] [h2:ClR' RC] [h3:ClR' SA] [h4:ClR' TR]:ClA (S.avX R RC SA TR d):=⟨cl_avX h1.out h2.out h3.out h4.out⟩
instance {m c:Int} {pools:List PoolD} {B:List (List AV)} {r:List Int} {RC SA:List (List AV)} {d:Int} [h1:ClR' B] [h2:ClR' RC] [h3:ClR' SA]:ClA (oneA m c pools B r RC SA d):=⟨cl_oneA h1.out h2.out h3.out⟩
abbrev w64:Int×Int:=(-9223372036854775808,9223372036854775807)
abbrev w60:Int×Int:=(-1152921504606846976,1152921504606846976)
abbrev w58:Int×Int:=(-288230376151711744,288230376151711744)
abbrev Od (S:StD):Prop:=(0≤S.done∧S.done≤1000000)∧S.receipts.length≤40∧S.sales.length≤40∧S.transits.length≤40
abbrev B60 (v:Int):Prop:=-1152921504606846976≤v∧v≤1152921504606846976
theorem Wx.bd {S:StD} {e item now:Int} {closed:Bool} {pools:List PoolD} {bal:List Int} {rolls:List (List Int)} {prices down:List Int} {ahead:List EntC} {ms cs:List Int} {m c:Int} (H:Wx S e item now closed pools bal rolls prices down ahead ms cs m c) :
  S.ents.length≤4∧0≤e∧e<S.ents.length∧S.weights.length≤5∧0≤item∧item<S.weights.length∧S.methods.length=S.ents.length∧S.costs.length=S.ents.length∧ms.length=S.weights.length∧cs.length=S.weights.length∧pools.length=2*S.weights.length∧rolls.length=S.weights.length∧(-9223372036854775808≤m∧m≤9223372036854775807)∧(-9223372036854775808≤c∧c≤9223372036854775807) :=
 ⟨H.hn,H.e0,H.e1,H.hw,H.i0,H.i1,H.hmm,H.hcc,H.hml,H.hcl,H.hpl,H.hrl,⟨H.mb.lo,H.mb.hi⟩,⟨H.cb.lo,H.cb.hi⟩⟩
namespace Mc
theorem BndL.c {a b x:Int} {l:List (Int×Int)} {xs:List Int} (h:BndL l xs) (h1:a≤x:=by omega) (h2:x≤b:=by omega):BndL ((a,b)::l) (x::xs):=.cons h1 h2 h
theorem FctL.c {ρ:Nat→Int} {p:Poly} {a b:Int} {l:List (Poly×Int×Int)} (h:FctL ρ l) (h1:a≤pev ρ p:=by simp[pev,mev];omega) (h2:pev ρ p≤b:=by simp[pev,mev];omega):FctL ρ ((p,a,b)::l):=.cons h1 h2 h
theorem LenL.c {ρ:Nat→Int} {ss:List (List (List AV))} {k:Nat} {p:Poly} {l:List (Nat×Poly)} (h:LenL ρ ss l) (h1:((ss.getD k []).length:Int)=pev ρ p:=by simp[pev,mev,entsR,intsR,poolsR,rcsR,sasR,trsR,linsR,laysR,rollsR,aheadR,intssR];try omega):LenL ρ ss ((k,p)::l):=.cons h1 h
theorem AtsL.d {ρ:Nat→Int} {vl:Nat→Value} {ss:List (List (List AV))} {k:Nat} {p:Poly} {r r0:List AV} {l:List (Nat×Poly×List AV)} (h1:(ss.getD k [])[(pev ρ p).toNat]?=some r0) (h:AtsL ρ vl ss l) (h0:0≤pev ρ p:=by simp[pev,mev];try omega) (h2:r.map (denW ρ vl (fun i=>ss.getD i []) 12)=r0:=by rfl) (h3:r.all (noUps 12)=true:=by rfl):AtsL ρ vl ss ((k,p,r)::l):=.cons h0 h1 h2 h3 h
theorem eqv {ρ σ:Nat→Int} {c x:Int} (hr:ρ=σ) (h:c=x) (p:Poly) (hp:x=pev σ p:=by simp[pev,mev]<;>omega):c=evP ρ p:=by rw[evP_eq,h,hp,hr]
theorem rh (l:List Int):∃ρ:Nat→Int,ρ=fun i=>l.getD i 0:=⟨_,rfl⟩
abbrev evS (b:Bk) (xs:List Int) (vs:List Value) (ss:List (List (List AV))) [g:ClS ss] (hb:BndL b.vars xs) (hf:FctL (fun i=>xs.getD i 0) b.facts) (hl:LenL (fun i=>xs.getD i 0) ss b.lens) (ha:AtsL (fun i=>xs.getD i 0) (fun i=>vs.getD i (.bool false)) ss b.ats) (hd:DefL (fun i=>xs.getD i 0) b.defs:=by exact .nil) (ho:(vs.all Value.oneCell')=true:=by rfl) (hk:b.kinds=[]:=by rfl) (hc:∀t∈b.cats,ss.getD t.2.2 []=ss.getD t.1 []++ss.getD t.2.1 []:=by exact fun t h=>nomatch h):@Ev b :=
 evSeq b xs vs ss hd hb hf (fun v hv=>List.all_eq_true.1 ho v hv) hl ha g.out hk hc
theorem kc {P:Program} {b:Bk} {ev:@Ev b} {k:Nat} {xa xa':List AV} {r r':AV} {l:List (Nat×List AV×AV)} (h:CK P k xa' r') (hl:@KnL b ev P l) (ea:xa.map (@den b ev 12)=xa':=by rfl) (er:@den b ev 12 r=r':=by rfl) (hu:noUps 12 r=true:=by rfl):@KnL b ev P ((k,xa,r)::l):=knCons b ev (CK.named b ev h ea er hu) hl
theorem kr {P:Program} {b:Bk} {ev:@Ev b} {k:Nat} {xa:List AV} {r:AV} {l:List (Nat×List AV×AV)} (h:@KnOk b ev P k xa r) (hl:@KnL b ev P l):@KnL b ev P ((k,xa,r)::l):=knCons b ev h hl
theorem kn {P:Program} {b:Bk} {ev:@Ev b}:@KnL b ev P []:=knNil b ev
theorem CK.way {P:Program} (b:Bk) (ev:@Ev b) {k:FuncId} (xa:List AV) {xa':List AV} (r:AV) {r':AV} [g1:ClL xa'] [g2:ClA r'] (h:@runsTo b P 100000 60 k xa r=true) (hk:@KnL b ev P b.extV) (hx:@ExtL b ev P b.ext:=by exact exNil _ _) (hy:@YesL b ev P b.yes:=by exact yeNil _ _) (ea:xa.map (@den b ev 12)=xa':=by rfl) (er:@den b ev 12 r=r':=by rfl) (hu:xa.all (noUps 12)=true:=by rfl) (hg:b.glob=[]:=by rfl):CK P k xa' r' :=
 CK.of_run b ev h hx hy hk ea er g1.out g2.out hu hg
end Mc
noncomputable abbrev rnA (b:Bk) (c:Code) (N:Nat) (f:List AV) (t:List Mc.Blk) (n:Nat):Option (RT Out):=@arunT b Try.prog (@acallN b Try.prog 100000 60) 100000 100 c (Ft.of N f) (trOf t) n
noncomputable abbrev rsA (b:Bk) (c:Option (RT Out)) (k:Nat) (N:Nat) (f:List AV) (t:List Mc.Blk) (n:Nat):Option (RT Out):=@aresT b Try.prog (@acallN b Try.prog 100000 60) 100000 (oK c) (.exit k) (Ft.of N f) (trOf t) n
abbrev lK (ids:Ids) (o:Option (RT Out)) (f:List AV) (t:List Mc.Blk):Bool:=eqL (slotB ids 16) (lOf o) f&&blksB ids (oT o).get ids t
theorem ck_Place (v m:Int) (h1:0<m:=by omega) (h2:m≤1099511627776:=by omega):Ck 7 [.i v,.i m] (.i (v%m)) :=
 ⟨cl_cons (.c _) (cl_cons (.c _) cl_nil),.c _,@kn_c bk0 ev0 _ [.int .i64 v,.int .i64 m] _ fun w=>place_b v m w h1 h2⟩
theorem ck_Part {v q n:Int} (hv:I64 v) (hq:I64 q) (hn:I64 n):Ck 49 [.i v,.i q,.i n] (.i (partS v q n)) :=
 ⟨cl_cons (.c _) (cl_cons (.c _) (cl_cons (.c _) cl_nil)),.c _,@kn_c bk0 ev0 _ [.int .i64 v,.int .i64 q,.int .i64 n] _ fun w=>(money_Part v q n w hv hq hn).mono fun e w' h=>h⟩
theorem aI {xs:List Int} {i:Nat} {z:List Int} {v:Int} (h:z[(xs.getD i 0).toNat]?=some v):(intsR z)[(pev (fun k=>xs.getD k 0) [([i],1)]).toNat]?=some [.i v]:=at_eq (pv_get _ _) (gIntsAt h)
end Go.Proofs.Ytjccjmmbebiegaa
