/-
 The stock's functions that turn a state: what they answer, in plain data; their contracts, over closed data. (Printed by wip/mk_gst2.py.)
-/
import Derived.Test.YtnalblnmplnhmaaGreatGst1
set_option linter.unusedVariables false
set_option linter.unusedSimpArgs false
namespace Go.Proofs.YtnalblnmplnhmaaGreat
open Go.RowKit Mc
abbrev ErrB (f:Int):Prop:=0≤f∧f≤20
theorem inS_err {l:List Lay} {x:Lay}:ErrB (inS l x).2:=by
 unfold inS
 split
 ·exact⟨by simp,by simp⟩
 ·split
  ·exact⟨by simp,by simp⟩
  ·split<;>exact⟨by simp,by simp⟩
theorem inM_err {l:List Lay} {x:Lay}:ErrB (inM l x).2:=by
 unfold inM
 split
 ·exact⟨by simp,by simp⟩
 ·exact inS_err
theorem inC_err {l:List Lay} {x:Lay} {c:Int}:ErrB (inC l x c).2.2:=by
 unfold inC
 split
 ·exact⟨by simp,by simp⟩
 ·split
  ·exact⟨by simp,by simp⟩
  ·split
   ·exact⟨by simp,by simp⟩
   ·exact inM_err
theorem poolInS_err {m c:Int} {l:List Lay} {x:Lay}:ErrB (poolInS m c l x).2.2:=by
 unfold poolInS
 split
 ·exact inS_err
 ·split
  ·exact inM_err
  ·split
   ·exact inM_err
   ·split
    ·exact inC_err
    ·exact⟨by simp,by simp⟩
theorem outS_err {l:List Lay} {q:Int}:ErrB (outS l q).2.2:=by
 unfold outS
 split
 ·exact⟨by simp,by simp⟩
 ·split<;>exact⟨by simp,by simp⟩
theorem outP_err {l:List Lay} {d:Pnd} {q:Int}:ErrB (outP l d q).2.2:=by
 unfold outP
 split
 ·exact⟨by simp,by simp⟩
 ·split
  ·exact⟨by simp,by simp⟩
  ·exact outS_err
theorem outC_err {l:List Lay} {q c:Int}:ErrB (outC l q c).2.2:=by
 have h:=@outS_err l q
 unfold outC
 split
 ·exact⟨by simp,by simp⟩
 ·split
  ·rename_i y e hS;rw[hS]at h;exact h
  ·rename_i z t y e hS
   rw[hS]at h
   split
   ·exact h
   ·exact⟨by simp,by simp⟩
theorem waitS_err {l:List Lay} {d:Pnd} {k q:Int}:ErrB (waitS l d k q).2:=by
 unfold waitS
 split
 ·exact⟨by simp,by simp⟩
 ·split<;>exact⟨by simp,by simp⟩
theorem poolOutS_err {m c:Int} {l:List Lay} {d:Pnd} {kind q:Int}:ErrB (poolOutS m c l d kind q).2.2.2.2:=by
 unfold poolOutS
 split
 ·exact⟨by simp,by simp⟩
 ·split
  ·exact⟨by simp,by simp⟩
  ·split
   ·exact waitS_err
   ·simp only[methOut]
    split
    ·exact outP_err
    ·split
     ·exact outC_err
     ·exact outS_err
theorem inS_lay {l:List Lay} {x:Lay} (h:(inS l x).2=0):1≤x.q∧x.q≤288230376151711744∧0≤x.v∧x.v≤288230376151711744∧-288230376151711744≤x.p∧x.p≤288230376151711744:=by
 unfold inS at h
 split at h
 ·cases h
 ·split at h
  ·cases h
  ·split at h
   ·rename_i hr
    exact(LR.of hr).at_ (x:=x) (by simp)
   ·cases h
theorem inM_lay {l:List Lay} {x:Lay} (h:(inM l x).2=0):1≤x.q∧x.q≤288230376151711744∧0≤x.v∧x.v≤288230376151711744∧-288230376151711744≤x.p∧x.p≤288230376151711744:=by
 unfold inM at h
 split at h
 ·exact inS_lay ‹_›
 ·exact absurd h ‹_›
theorem poolInS_bd {m c:Int} {l l':List Lay} {x:Lay} {up:Int} (h:poolInS m c l x=(l',up,0)):0≤x.v∧x.v≤288230376151711744∧-288230376151711744≤up∧up≤288230376151711744∧0≤x.v-up∧x.v-up≤288230376151711744∧1≤x.q:=by
 unfold poolInS at h
 split at h
 ·have:=inS_lay (l:=l) (x:=x) (congrArg (fun r=>r.2.2) h)
  have hu:up=0:=(congrArg (fun r=>r.2.1) h).symm
  omega
 ·split at h
  ·have:=inM_lay (l:=l) (x:=x) (congrArg (fun r=>r.2.2) h)
   have hu:up=0:=(congrArg (fun r=>r.2.1) h).symm
   omega
  ·split at h
   ·have:=inM_lay (l:=l) (x:=x) (congrArg (fun r=>r.2.2) h)
    have hu:up=0:=(congrArg (fun r=>r.2.1) h).symm
    omega
   ·split at h
    ·unfold inC at h
     split at h
     ·exact absurd (congrArg (fun r=>r.2.2) h) (by simp)
     ·split at h
      ·exact absurd (congrArg (fun r=>r.2.2) h) (by simp)
      ·split at h
       ·rename_i h1 h2 h3
        have:=inM_lay h3
        simp only at this
        have hu:up=x.v-ofV c x.q:=(congrArg (fun r=>r.2.1) h).symm
        omega
       ·rename_i h3
        exact absurd (congrArg (fun r=>r.2.2) h) h3
    ·exact absurd (congrArg (fun r=>r.2.2) h) (by simp)
theorem StOk.setEnt {S:StD} (h:StOk S) {e:Int} {x:EntD} (e0:0≤e) (hx:EntOk S.weights.length (S.methods.getD e.toNat []) x.toEntC) (ha:∀y∈x.ahead,EntOk S.weights.length (S.methods.getD e.toNat []) y):StOk (S.setEnt e x):=by
 refine⟨by simp only[StD.setEnt,List.length_set];exact h.hn,h.hw,by simp only[StD.setEnt,List.length_set];exact h.hmm,by simp only[StD.setEnt,List.length_set];exact h.hcc,h.hml,h.hcl,h.mb,h.cb,?_,?_⟩
 ·intro k y hy
  simp only[StD.setEnt]at hy ⊢
  rw[List.getElem?_set]at hy
  split at hy
  ·rename_i hk
   subst hk
   split at hy
   ·cases hy;exact hx
   ·cases hy
  ·exact h.ent k y hy
 ·intro y hym k hy z hz
  simp only[StD.setEnt]at hy ⊢
  rw[List.getElem?_set]at hy
  split at hy
  ·rename_i hk
   subst hk
   split at hy
   ·cases hy;exact ha z hz
   ·cases hy
  ·exact h.ahead y (List.mem_of_getElem? hy) k hy z hz
section
variable {S:StD} {e item:Int}
theorem StOk.setPool (h:StOk S) (x:Ix S e item) {loc:Int} (l0:0≤loc) (l1:loc≤1) {p:PoolD} (hp:PoolOk (S.meth e item) p.layers p.pn):StOk (S.setEnt e ((S.ent e).setPool (2*item+loc) p)):=by
 have E:=h.eok x
 refine h.setEnt x.e0 ?_ (h.ahead _ (List.mem_of_getElem? (h.at_ x)) _ (h.at_ x))
 refine⟨by simp only[EntD.setPool,List.length_set];exact E.pl,?_,E.bl,E.bb,E.rl,E.rr,E.pr,E.prb,E.dl,E.db,E.now⟩
 intro k q hq
 simp only[EntD.setPool]at hq
 rw[List.getElem?_set]at hq
 split at hq
 ·rename_i hk
  subst hk
  split at hq
  ·cases hq
   have e1:(2*item+loc).toNat/2=item.toNat:=by have:=x.i0;omega
   rw[e1];exact hp
  ·cases hq
 ·exact E.ok k q hq
theorem Ix.setEnt (x:Ix S e item) {e':Int} {y:EntD}:Ix (S.setEnt e' y) e item:=⟨x.e0,by simp only[StD.setEnt,List.length_set];exact x.e1,x.i0,x.i1⟩
theorem StD.ent_setEnt (x:Ix S e item) (y:EntD):(S.setEnt e y).ent e=y:=by
 have he:e.toNat<S.ents.length:=by have:=x.e0;have:=x.e1;omega
 simp[StD.ent,StD.setEnt,List.getD,List.getElem?_set,he]
def bringT (S:StD) (e item loc:Int) (y:Lay):StD×Int×Int×Int :=
 if(poolInS (S.meth e item) (S.cost e item) ((S.ent e).pool (2*item+loc)).layers y).2.2≠0 then(S,0,0,(poolInS (S.meth e item) (S.cost e item) ((S.ent e).pool (2*item+loc)).layers y).2.2)
 else if(worthT (S.setEnt e ((S.ent e).setPool (2*item+loc) { (S.ent e).pool (2*item+loc)with layers:=(poolInS (S.meth e item) (S.cost e item) ((S.ent e).pool (2*item+loc)).layers y).1 })) e item).2=false then(S,0,0,2)
 else if steadyT (S.setEnt e ((S.ent e).setPool (2*item+loc) { (S.ent e).pool (2*item+loc)with layers:=(poolInS (S.meth e item) (S.cost e item) ((S.ent e).pool (2*item+loc)).layers y).1 })) e item=false then(S,0,0,2)
 else(S.setEnt e ((S.ent e).setPool (2*item+loc) { (S.ent e).pool (2*item+loc)with layers:=(poolInS (S.meth e item) (S.cost e item) ((S.ent e).pool (2*item+loc)).layers y).1 }),y.v-(poolInS (S.meth e item) (S.cost e item) ((S.ent e).pool (2*item+loc)).layers y).2.1,(poolInS (S.meth e item) (S.cost e item) ((S.ent e).pool (2*item+loc)).layers y).2.1,0)
theorem ck_Bring (h:StOk S) (x:Ix S e item) {loc:Int} (l0:0≤loc) (l1:loc≤1) {y:Lay} (hy:AllI [y.q,y.v,y.p]):CK Tryz.prog 116 [S.av,.i e,.i item,.i loc,y.av] (.tup [(bringT S e item loc y).1.av,.i (bringT S e item loc y).2.1,.i (bringT S e item loc y).2.2.1,.i (bringT S e item loc y).2.2.2]):=by
 have W:=h.wx x
 have hat:=h.pat x l0 l1
 have hpo:=h.pok x l0 l1
 have hm:=h.mb' x
 have hc:=h.cb' x
 have her:=@poolInS_err (S.meth e item) (S.cost e item) ((S.ent e).pool (2*item+loc)).layers y
 have hin:∀{l':List Lay} {up e':Int},poolInS (S.meth e item) (S.cost e item) ((S.ent e).pool (2*item+loc)).layers y=(l',up,e')→_:=fun hI=>hpo.in_ hm hI
 have hck:∀{l':List Lay} {up e':Int},poolInS (S.meth e item) (S.cost e item) ((S.ent e).pool (2*item+loc)).layers y=(l',up,e')→_:=fun hI=>ck_poolIn (p:=(S.ent e).pool (2*item+loc)) hm hpo.lr hy hc hI
 have hset:=fun p hp=>h.setPool x (p:=p) l0 l1 hp
 have hav:∀p,(S.setEnt e ((S.ent e).setPool (2*item+loc) p)).av=S.setRow e (entRw (S.ent e).now (S.ent e).closed ((poolsR (S.ent e).pools).set (2*item+loc).toNat p.row) (intsR (S.ent e).bal) (rollsR (S.ent e).rolls) (intsR (S.ent e).prices) (intsR (S.ent e).down) (aheadR (S.ent e).ahead)):=by
  intro p
  rw[StD.setEnt_av,←poolsR_set];rfl
 have hWt:=fun p (hp:PoolOk (S.meth e item) p.layers p.pn)=>ck_worth (hset p hp) (x.setEnt (e':=e) (y:=(S.ent e).setPool (2*item+loc) p))
 have hSt:=fun p (hp:PoolOk (S.meth e item) p.layers p.pn)=>ck_steady (hset p hp) (x.setEnt (e':=e) (y:=(S.ent e).setPool (2*item+loc) p))
 have hbd:∀{l':List Lay} {up:Int},poolInS (S.meth e item) (S.cost e item) ((S.ent e).pool (2*item+loc)).layers y=(l',up,0)→_:=fun hI=>poolInS_bd hI
 unfold bringT
 obtain⟨l',up,e',hI⟩:∃l' up e',poolInS (S.meth e item) (S.cost e item) ((S.ent e).pool (2*item+loc)).layers y=(l',up,e'):=⟨_,_,_,rfl⟩
 have k1:=hin hI
 have k2:=hck hI
 have k3:=fun(h0:e'=0)=>hbd (by rw[hI,h0])
 simp only[hI]at her ⊢
 clear hin hck hbd hI
 have k1':PoolOk (S.meth e item) ({ (S.ent e).pool (2*item+loc)with layers:=l' }:PoolD).layers ({ (S.ent e).pool (2*item+loc)with layers:=l' }:PoolD).pn:=k1.1
 have w1:=hWt _ k1'
 have s1:=hSt _ k1'
 have av1:=hav { (S.ent e).pool (2*item+loc)with layers:=l' }
 clear hWt hSt hset hav
 generalize (S.ent e).pool (2*item+loc)=P at *
 obtain⟨L,p0,p1,p2⟩:=P
 obtain⟨yq,yv,yp⟩:=y
 simp only at *
 generalize worthT (S.setEnt e ((S.ent e).setPool (2*item+loc) ⟨l',p0,p1,p2⟩)) e item=wt at *
 generalize steadyT (S.setEnt e ((S.ent e).setPool (2*item+loc) ⟨l',p0,p1,p2⟩)) e item=st at *
 rw[av1]at w1 s1
 by_cases he:e'=0
 ·subst he
  have k3:=k3 rfl
  rw[if_neg (by simp)]
  obtain⟨wl,wb⟩:=wt
  cases wb with
  |false=>rw[if_pos rfl];exact Bring_big W l0 l1 rfl hat (y:=yv) (f:=0) k2 w1
  |true =>
   rw[if_neg (by simp)]
   cases st with
   |false=>rw[if_pos rfl];exact Bring_swing W l0 l1 rfl hat (y:=yv) (f:=0) k2 w1 s1
   |true =>
    rw[if_neg (by simp)]
    simp only[av1]
    exact Bring_ok W l0 l1 rfl hat (f:=0) k2 ⟨by omega,by omega⟩ ⟨by omega,by omega⟩ w1 s1 rfl
 ·rw[if_pos he]
  exact Bring_err W l0 l1 rfl hat (W:=⟨0,0,0⟩) (f:=e') (by omega) (by omega) k2
def fetchT (S:StD) (e item loc kind q:Int):StD×Lay×Bool×Int :=
 if(poolOutS (S.meth e item) (S.cost e item) ((S.ent e).pool (2*item+loc)).layers ((S.ent e).pool (2*item+loc)).pn kind q).2.2.2.2≠0 then(S,⟨0,0,0⟩,false,(poolOutS (S.meth e item) (S.cost e item) ((S.ent e).pool (2*item+loc)).layers ((S.ent e).pool (2*item+loc)).pn kind q).2.2.2.2)
 else(S.setEnt e ((S.ent e).setPool (2*item+loc) ⟨(poolOutS (S.meth e item) (S.cost e item) ((S.ent e).pool (2*item+loc)).layers ((S.ent e).pool (2*item+loc)).pn kind q).1,(poolOutS (S.meth e item) (S.cost e item) ((S.ent e).pool (2*item+loc)).layers ((S.ent e).pool (2*item+loc)).pn kind q).2.1.a,(poolOutS (S.meth e item) (S.cost e item) ((S.ent e).pool (2*item+loc)).layers ((S.ent e).pool (2*item+loc)).pn kind q).2.1.b,(poolOutS (S.meth e item) (S.cost e item) ((S.ent e).pool (2*item+loc)).layers ((S.ent e).pool (2*item+loc)).pn kind q).2.1.c⟩),(poolOutS (S.meth e item) (S.cost e item) ((S.ent e).pool (2*item+loc)).layers ((S.ent e).pool (2*item+loc)).pn kind q).2.2.1,(poolOutS (S.meth e item) (S.cost e item) ((S.ent e).pool (2*item+loc)).layers ((S.ent e).pool (2*item+loc)).pn kind q).2.2.2.1,0)
theorem ck_Fetch (h:StOk S) (x:Ix S e item) {loc kind q:Int} (l0:0≤loc) (l1:loc≤1) (hk:0≤kind∧kind≤3) (hq:I64 q):CK Tryz.prog 161 [S.av,.i e,.i item,.i loc,.i kind,.i q] (.tup [(fetchT S e item loc kind q).1.av,(fetchT S e item loc kind q).2.1.av,.c (.bool (fetchT S e item loc kind q).2.2.1),.i (fetchT S e item loc kind q).2.2.2]):=by
 have W:=h.wx x
 have hat:=h.pat x l0 l1
 have hpo:=h.pok x l0 l1
 have hm:=h.mb' x
 have hc:=h.cb' x
 have her:=@poolOutS_err (S.meth e item) (S.cost e item) ((S.ent e).pool (2*item+loc)).layers ((S.ent e).pool (2*item+loc)).pn kind q
 obtain⟨l',d',y,wt,e',hO⟩:∃l' d' y wt e',poolOutS (S.meth e item) (S.cost e item) ((S.ent e).pool (2*item+loc)).layers ((S.ent e).pool (2*item+loc)).pn kind q=(l',d',y,wt,e'):=⟨_,_,_,_,_,rfl⟩
 have k2:=ck_poolOut (p:=(S.ent e).pool (2*item+loc)) hm hpo.lr (fun h4=>by rcases hpo.one with h|h<;>omega) hpo.pnd hk hq hc hO
 unfold fetchT
 simp only[hO]at her ⊢
 clear hO
 have av1:(S.setEnt e ((S.ent e).setPool (2*item+loc) ⟨l',d'.a,d'.b,d'.c⟩)).av=S.setRow e (entRw (S.ent e).now (S.ent e).closed ((poolsR (S.ent e).pools).set (2*item+loc).toNat (PoolD.row ⟨l',d'.a,d'.b,d'.c⟩)) (intsR (S.ent e).bal) (rollsR (S.ent e).rolls) (intsR (S.ent e).prices) (intsR (S.ent e).down) (aheadR (S.ent e).ahead)):=by
  rw[StD.setEnt_av,←poolsR_set];rfl
 generalize (S.ent e).pool (2*item+loc)=P at *
 obtain⟨L,p0,p1,p2⟩:=P
 obtain⟨yq,yv,yp⟩:=y
 by_cases he:e'=0
 ·subst he
  rw[if_neg (by simp)]
  simp only[av1]
  exact Fetch_ok W l0 l1 rfl hat ⟨by omega,by omega⟩ hq (f:=0) k2
 ·rw[if_pos he]
  exact Fetch_err W l0 l1 rfl hat ⟨by omega,by omega⟩ hq (f:=e') (by omega) (by omega) k2
def addsR:List Int→List Int→Option (List Int)
 |a::l,b::r=>if addE a b=0 then(addsR l r).map (addV a b::·)else none
 |_,_=>some []
def turnT (S:StD) (e item:Int) (r:List Int):StD×Int :=
 match addsR ((S.ent e).roll item) r with
 |none=>(S,2)
 |some s=>(S.setEnt e ((S.ent e).setRoll item s),0)
theorem addE_02 (a b:Int):addE a b=0∨addE a b=2:=by unfold addE;split<;>simp
theorem addV_bd (a b:Int):B58 (addV a b):=by
 unfold addV
 split
 ·rename_i h
  have:=addOk_bd h
  exact⟨by omega,by omega⟩
 ·exact⟨by omega,by omega⟩
theorem list11' {l:List Int} (h:l.length=11):∃r0 r1 r2 r3 r4 r5 r6 r7 r8 r9 r10,l=[r0,r1,r2,r3,r4,r5,r6,r7,r8,r9,r10]:=by
 match l,h with
 |[r0,r1,r2,r3,r4,r5,r6,r7,r8,r9,r10],_=>exact⟨_,_,_,_,_,_,_,_,_,_,_,rfl⟩
theorem roll_at (h:StOk S) (x:Ix S e item):(S.ent e).rolls[item.toNat]?=some ((S.ent e).roll item):=getD_some (by have:=(h.eok x).rl;have:=x.i0;have:=x.i1;omega)
theorem roll_ok (h:StOk S) (x:Ix S e item):((S.ent e).roll item).length=11∧∀v∈(S.ent e).roll item,B58 v:=(h.eok x).rr _ (List.mem_of_getElem? (roll_at h x))
theorem ck_Turn (h:StOk S) (x:Ix S e item) {r:List Int} (hr:r.length=11) (hb:∀v∈r,I64 v):CK Tryz.prog 68 [S.av,.i e,.i item,.agg (rowI r)] (.tup [(turnT S e item r).1.av,.i (turnT S e item r).2]):=by
 have W:=h.wx x
 have hat:=roll_at h x
 have hro:=roll_ok h x
 have hav:∀s,(S.setEnt e ((S.ent e).setRoll item s)).av=S.setRow e (entRw (S.ent e).now (S.ent e).closed (poolsR (S.ent e).pools) (intsR (S.ent e).bal) ((rollsR (S.ent e).rolls).set item.toNat (rowI s)) (intsR (S.ent e).prices) (intsR (S.ent e).down) (aheadR (S.ent e).ahead)):=by
  intro s
  rw[StD.setEnt_av,←rollsR_set];rfl
 unfold turnT
 generalize (S.ent e).roll item=R at *
 obtain⟨hl,hR⟩:=hro
 obtain⟨a0,a1,a2,a3,a4,a5,a6,a7,a8,a9,a10,rfl⟩:=list11' hl
 obtain⟨b0,b1,b2,b3,b4,b5,b6,b7,b8,b9,b10,rfl⟩:=list11' hr
 clear hR hb
 have c0:=ck_Add a0 b0
 have c1:=ck_Add a1 b1
 have c2:=ck_Add a2 b2
 have c3:=ck_Add a3 b3
 have c4:=ck_Add a4 b4
 have c5:=ck_Add a5 b5
 have c6:=ck_Add a6 b6
 have c7:=ck_Add a7 b7
 have c8:=ck_Add a8 b8
 have c9:=ck_Add a9 b9
 have c10:=ck_Add a10 b10
 rcases addE_02 a0 b0 with k0|k0
 rotate_left
 ·simp only[addsR,k0,show ¬((2:Int)=0)from by decide,if_true,if_false,Option.map_some,Option.map_none,ite_true,ite_false];rw[k0]at c0;exact Turn_0 W hat c0
 rw[k0]at c0
 rcases addE_02 a1 b1 with k1|k1
 rotate_left
 ·simp only[addsR,k0,k1,show ¬((2:Int)=0)from by decide,if_true,if_false,Option.map_some,Option.map_none,ite_true,ite_false];rw[k1]at c1;exact Turn_1 W hat c0 c1
 rw[k1]at c1
 rcases addE_02 a2 b2 with k2|k2
 rotate_left
 ·simp only[addsR,k0,k1,k2,show ¬((2:Int)=0)from by decide,if_true,if_false,Option.map_some,Option.map_none,ite_true,ite_false];rw[k2]at c2;exact Turn_2 W hat c0 c1 c2
 rw[k2]at c2
 rcases addE_02 a3 b3 with k3|k3
 rotate_left
 ·simp only[addsR,k0,k1,k2,k3,show ¬((2:Int)=0)from by decide,if_true,if_false,Option.map_some,Option.map_none,ite_true,ite_false];rw[k3]at c3;exact Turn_3 W hat c0 c1 c2 c3
 rw[k3]at c3
 rcases addE_02 a4 b4 with k4|k4
 rotate_left
 ·simp only[addsR,k0,k1,k2,k3,k4,show ¬((2:Int)=0)from by decide,if_true,if_false,Option.map_some,Option.map_none,ite_true,ite_false];rw[k4]at c4;exact Turn_4 W hat c0 c1 c2 c3 c4
 rw[k4]at c4
 rcases addE_02 a5 b5 with k5|k5
 rotate_left
 ·simp only[addsR,k0,k1,k2,k3,k4,k5,show ¬((2:Int)=0)from by decide,if_true,if_false,Option.map_some,Option.map_none,ite_true,ite_false];rw[k5]at c5;exact Turn_5 W hat c0 c1 c2 c3 c4 c5
 rw[k5]at c5
 rcases addE_02 a6 b6 with k6|k6
 rotate_left
 ·simp only[addsR,k0,k1,k2,k3,k4,k5,k6,show ¬((2:Int)=0)from by decide,if_true,if_false,Option.map_some,Option.map_none,ite_true,ite_false];rw[k6]at c6;exact Turn_6 W hat c0 c1 c2 c3 c4 c5 c6
 rw[k6]at c6
 rcases addE_02 a7 b7 with k7|k7
 rotate_left
 ·simp only[addsR,k0,k1,k2,k3,k4,k5,k6,k7,show ¬((2:Int)=0)from by decide,if_true,if_false,Option.map_some,Option.map_none,ite_true,ite_false];rw[k7]at c7;exact Turn_7 W hat c0 c1 c2 c3 c4 c5 c6 c7
 rw[k7]at c7
 rcases addE_02 a8 b8 with k8|k8
 rotate_left
 ·simp only[addsR,k0,k1,k2,k3,k4,k5,k6,k7,k8,show ¬((2:Int)=0)from by decide,if_true,if_false,Option.map_some,Option.map_none,ite_true,ite_false];rw[k8]at c8;exact Turn_8 W hat c0 c1 c2 c3 c4 c5 c6 c7 c8
 rw[k8]at c8
 rcases addE_02 a9 b9 with k9|k9
 rotate_left
 ·simp only[addsR,k0,k1,k2,k3,k4,k5,k6,k7,k8,k9,show ¬((2:Int)=0)from by decide,if_true,if_false,Option.map_some,Option.map_none,ite_true,ite_false];rw[k9]at c9;exact Turn_9 W hat c0 c1 c2 c3 c4 c5 c6 c7 c8 c9
 rw[k9]at c9
 rcases addE_02 a10 b10 with k10|k10
 rotate_left
 ·simp only[addsR,k0,k1,k2,k3,k4,k5,k6,k7,k8,k9,k10,show ¬((2:Int)=0)from by decide,if_true,if_false,Option.map_some,Option.map_none,ite_true,ite_false];rw[k10]at c10;exact Turn_10 W hat c0 c1 c2 c3 c4 c5 c6 c7 c8 c9 c10
 rw[k10]at c10
 ·simp only[addsR,k0,k1,k2,k3,k4,k5,k6,k7,k8,k9,k10,if_true,Option.map_some,ite_true];rw[hav];exact Turn_11 W hat c0 c1 c2 c3 c4 c5 c6 c7 c8 c9 c10
def postG (S:StD) (e:Int) (l:List Lin):StD×Int :=
 if(plainS l).2≠0 then(S,(plainS l).2)else if(postS (S.ent e).bal (plainS l).1).2≠0 then(S,(postS (S.ent e).bal (plainS l).1).2)else(S.setEnt e ((S.ent e).setBal (postS (S.ent e).bal (plainS l).1).1),0)
theorem plainS_err (l:List Lin):ErrB (plainS l).2∧((plainS l).2≠0→(plainS l).1=[]):=by
 unfold plainS
 split
 ·exact⟨⟨by simp,by simp⟩,fun _=>rfl⟩
 ·split
  ·exact⟨⟨by simp,by simp⟩,fun _=>rfl⟩
  ·exact⟨⟨by simp,by simp⟩,fun h=>absurd rfl h⟩
theorem postS_err (b:List Int) (l:List Lin):ErrB (postS b l).2:=by
 unfold postS
 split
 ·exact⟨by simp,by simp⟩
 ·unfold postE
  split
  ·exact⟨by simp,by simp⟩
  ·split<;>exact⟨by simp,by simp⟩
theorem EntOk.balI {n:Nat} {ms:List Int} {x:EntC} (h:EntOk n ms x):AllI x.bal:=fun v hv=>by have:=h.bb v hv;exact⟨by omega,by omega⟩
theorem plain_len (l:List Lin):(plainS l).1.length≤17:=by
 unfold plainS
 split
 ·simp
 ·split
  ·simp
  ·exact Nat.le_trans (List.length_filter_le _ _) (by simp)
theorem ck_Post (h:StOk S) (x:Ix S e item) {l:List Lin} (hI:AllI (flat2 l)) (hl:l.length≤20):CK Tryz.prog 67 [S.av,.i e,.lit 2 (linsR l)] (.tup [(postG S e l).1.av,.i (postG S e l).2]):=by
 have E:=h.eok x
 have hx:=h.at_ x
 have hP:=ck_Plain l hI (by omega)
 have hPI:=plain_I l
 have hpe:=plainS_err l
 have hpl:=plain_len l
 unfold postG
 obtain⟨m,f,hm⟩:∃m f,plainS l=(m,f):=⟨_,_,rfl⟩
 rw[hm]at hP hPI hpe hpl ⊢
 simp only at hP hPI hpe hpl ⊢
 by_cases hf:f=0
 ·subst hf
  rw[if_neg (by simp)]
  have hG:=ck_glPost (S.ent e).bal m E.bl E.balI hPI (by omega)
  have hge:=postS_err (S.ent e).bal m
  generalize postS (S.ent e).bal m=g at *
  obtain⟨b,f⟩:=g
  simp only at hG hge ⊢
  by_cases hf:f=0
  ·subst hf
   rw[if_neg (by simp)]
   exact Post_ok h.hn x.e0 x.e1 hx hP hG
  ·rw[if_pos hf]
   exact Post_gl h.hn x.e0 x.e1 hx (f:=f) (by omega) (by omega) hP hG
 ·rw[if_pos hf]
  have:=hpe.2 hf
  subst this
  exact Post_plain h.hn x.e0 x.e1 hx (f:=f) (by omega) (by omega) hP
end
end Go.Proofs.YtnalblnmplnhmaaGreat
