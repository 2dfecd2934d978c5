/-
 The stock's functions that turn a state: what every one of them keeps. No program in sight.
-/
import Derived.Test.YtnalblnmplnhmaaGreatGst2
set_option linter.unusedVariables false
set_option linter.unusedSimpArgs false
namespace Go.Proofs.YtnalblnmplnhmaaGreat
open Go.RowKit Mc
structure Kin (S S1:StD):Prop where
 eq:S1=S.withEnts S1.ents
 len:S1.ents.length=S.ents.length
 ok:StOk S1
theorem Kin.refl {S:StD} (h:StOk S):Kin S S:=⟨rfl,rfl,h⟩
theorem Kin.trans {S S1 S2:StD} (h:Kin S S1) (g:Kin S1 S2):Kin S S2:=⟨by rw[g.eq,h.eq];rfl,g.len.trans h.len,g.ok⟩
theorem Kin.ix {S S1:StD} (h:Kin S S1) {e item:Int} (x:Ix S e item):Ix S1 e item:=⟨x.e0,by rw[h.len];exact x.e1,x.i0,by rw[h.eq];exact x.i1⟩
theorem Kin.setEnt {S:StD} {e:Int} {y:EntD} (h:StOk (S.setEnt e y)):Kin S (S.setEnt e y):=⟨rfl,by simp[StD.setEnt],h⟩
section
variable {S:StD} {e item:Int}
theorem bringT_facts (h:StOk S) (x:Ix S e item) {loc:Int} (l0:0≤loc) (l1:loc≤1) (y:Lay) :
  Kin S (bringT S e item loc y).1∧ErrB (bringT S e item loc y).2.2.2∧B58 (bringT S e item loc y).2.1∧B58 (bringT S e item loc y).2.2.1∧((bringT S e item loc y).2.2.2≠0→(bringT S e item loc y).1=S∧(bringT S e item loc y).2.1=0∧(bringT S e item loc y).2.2.1=0):=by
 have hpo:=h.pok x l0 l1
 have hm:=h.mb' x
 have her:=@poolInS_err (S.meth e item) (S.cost e item) ((S.ent e).pool (2*item+loc)).layers y
 have hset:=fun p hp=>h.setPool x (p:=p) l0 l1 hp
 unfold bringT
 obtain⟨l',up,e',hI⟩:∃l' up e',poolInS (S.meth e item) (S.cost e item) ((S.ent e).pool (2*item+loc)).layers y=(l',up,e'):=⟨_,_,_,rfl⟩
 have k1:=hpo.in_ hm hI
 have k3:e'=0→_:=fun(h0:e'=0)=>poolInS_bd (by rw[hI,h0])
 simp only[hI]at her ⊢
 clear hI
 have k:=Kin.setEnt (hset { (S.ent e).pool (2*item+loc)with layers:=l' } k1.1)
 split
 ·exact⟨Kin.refl h,her,⟨by simp,by simp⟩,⟨by simp,by simp⟩,fun _=>⟨rfl,rfl,rfl⟩⟩
 ·rename_i he
  have he:e'=0:=by simpa using he
  have k3:=k3 he
  split
  ·exact⟨Kin.refl h,⟨by simp,by simp⟩,⟨by simp,by simp⟩,⟨by simp,by simp⟩,fun _=>⟨rfl,rfl,rfl⟩⟩
  ·split
   ·exact⟨Kin.refl h,⟨by simp,by simp⟩,⟨by simp,by simp⟩,⟨by simp,by simp⟩,fun _=>⟨rfl,rfl,rfl⟩⟩
   ·exact⟨k,⟨by simp,by simp⟩,⟨by simp only;omega,by simp only;omega⟩,⟨by simp only;omega,by simp only;omega⟩,fun h=>absurd rfl h⟩
theorem poolOutS_val {m c:Int} {l:List Lay} {d:Pnd} {kind q:Int} (hp:PoolOk m l d) (hm:1≤m∧m≤4) (hk:0≤kind∧kind≤3):-288230376151711744≤(poolOutS m c l d kind q).2.2.1.v∧(poolOutS m c l d kind q).2.2.1.v≤288230376151711744:=by
 obtain⟨k1,k2⟩:=hp.out_ (c:=c) (kind:=kind) (q:=q) hm hk (l':=(poolOutS m c l d kind q).1) (d':=(poolOutS m c l d kind q).2.1) (y:=(poolOutS m c l d kind q).2.2.1) (wt:=(poolOutS m c l d kind q).2.2.2.1) (e':=(poolOutS m c l d kind q).2.2.2.2) rfl
 have h1:=hp.lr.v
 have h2:=(qs_pos hp.lr.ok).2.1
 have h3:=k1.lr.v
 have h4:=(qs_pos k1.lr.ok).2.1
 omega
theorem outS_I {l:List Lay} (hl:LR l) {q:Int}:(0≤(outS l q).2.1.q∧(outS l q).2.1.q≤288230376151711744)∧-576460752303423488≤(outS l q).2.1.p∧(outS l q).2.1.p≤576460752303423488:=by
 by_cases h:(outS l q).2.2=0
 ·have hq:=hl.q
  obtain⟨h1,h2,-⟩:=outS_all hl (m:=(outS l q).1) (y:=(outS l q).2.1) (by rw[←h])
  have hR:=outS_LR (q:=q) hl
  have a1:=ps_le l
  have a2:=hl.p
  have a3:=ps_le (outS l q).1
  have a4:=hR.p
  rw[outS_ok hl h1 h2]at a3 a4 ⊢
  have s:=outL_sum l .zero q hl (by omega) h2
  simp only[Lay.zero]at s a3 a4 ⊢
  omega
 ·rw[(outS_no h).2];simp[Lay.zero]
theorem poolOutS_I {m c:Int} {l:List Lay} {d:Pnd} {kind q:Int} (hl:LR l):(0≤(poolOutS m c l d kind q).2.2.1.q∧(poolOutS m c l d kind q).2.2.1.q≤288230376151711744)∧-576460752303423488≤(poolOutS m c l d kind q).2.2.1.p∧(poolOutS m c l d kind q).2.2.1.p≤576460752303423488:=by
 have k:=outS_I hl (q:=q)
 unfold poolOutS
 split
 ·simp[Lay.zero]
 ·split
  ·simp[Lay.zero]
  ·split
   ·simp[Lay.zero]
   ·simp only[methOut]
    split
    ·unfold outP
     split
     ·simp[Lay.zero]
     ·split
      ·simp[Lay.zero]
      ·exact k
    ·split
     ·unfold outC
      split
      ·simp[Lay.zero]
      ·split
       ·rename_i y e hS;rw[hS]at k;exact k
       ·rename_i z t y e hS
        rw[hS]at k
        split
        ·exact k
        ·exact k
     ·exact k
theorem fetchT_facts (h:StOk S) (x:Ix S e item) {loc kind:Int} (l0:0≤loc) (l1:loc≤1) (k0:0≤kind) (k1:kind≤3) (q:Int) :
  Kin S (fetchT S e item loc kind q).1∧ErrB (fetchT S e item loc kind q).2.2.2∧B58 (fetchT S e item loc kind q).2.1.v∧((0≤(fetchT S e item loc kind q).2.1.q∧(fetchT S e item loc kind q).2.1.q≤288230376151711744)∧-576460752303423488≤(fetchT S e item loc kind q).2.1.p∧(fetchT S e item loc kind q).2.1.p≤576460752303423488)∧((fetchT S e item loc kind q).2.2.2≠0→(fetchT S e item loc kind q).1=S∧(fetchT S e item loc kind q).2.1=⟨0,0,0⟩∧(fetchT S e item loc kind q).2.2.1=false):=by
 have hpo:=h.pok x l0 l1
 have hm:=h.mb' x
 have her:=@poolOutS_err (S.meth e item) (S.cost e item) ((S.ent e).pool (2*item+loc)).layers ((S.ent e).pool (2*item+loc)).pn kind q
 have hv:=poolOutS_val (c:=S.cost e item) (kind:=kind) (q:=q) hpo hm ⟨k0,k1⟩
 have hi:=poolOutS_I (m:=S.meth e item) (c:=S.cost e item) (d:=((S.ent e).pool (2*item+loc)).pn) (kind:=kind) (q:=q) hpo.lr
 unfold fetchT
 obtain⟨l',d',y,wt,e',hO⟩:∃l' d' y wt e',poolOutS (S.meth e item) (S.cost e item) ((S.ent e).pool (2*item+loc)).layers ((S.ent e).pool (2*item+loc)).pn kind q=(l',d',y,wt,e'):=⟨_,_,_,_,_,rfl⟩
 have k:=hpo.out_ hm ⟨k0,k1⟩ hO
 simp only[hO]at her hv hi ⊢
 clear hO
 have kk:=Kin.setEnt (h.setPool x l0 l1 (p:=⟨l',d'.a,d'.b,d'.c⟩) k.1)
 split
 ·exact⟨Kin.refl h,her,⟨by simp,by simp⟩,by simp,fun _=>⟨rfl,rfl,rfl⟩⟩
 ·exact⟨kk,⟨by simp,by simp⟩,⟨by simp only;omega,by simp only;omega⟩,hi,fun h=>absurd rfl h⟩
theorem addsR_ok:∀(a b s:List Int),a.length=b.length→addsR a b=some s→s.length=a.length∧∀v∈s,B58 v
 |[],[],s,_,h=>by simp[addsR]at h;subst h;simp
 |[],_::_,s,hl,h=>by simp at hl
 |_::_,[],s,hl,h=>by simp at hl
 |a::l,b::r,s,hl,h=>by
  simp only[addsR]at h
  split at h
  ·cases hx:addsR l r with
   |none=>rw[hx]at h;cases h
   |some t =>
    rw[hx]at h
    cases h
    obtain⟨h1,h2⟩:=addsR_ok l r t (by simpa using hl) hx
    refine⟨by simp[h1],?_⟩
    intro v hv
    rcases List.mem_cons.1 hv with rfl|hv
    ·exact addV_bd _ _
    ·exact h2 v hv
  ·cases h
theorem StOk.setRoll (h:StOk S) (x:Ix S e item) {r:List Int} (hr:r.length=11∧∀v∈r,B58 v):StOk (S.setEnt e ((S.ent e).setRoll item r)):=by
 have E:=h.eok x
 refine h.setEnt x.e0 ?_ (h.ahead _ (List.mem_of_getElem? (h.at_ x)) _ (h.at_ x))
 refine⟨E.pl,E.ok,E.bl,E.bb,by simp only[EntD.setRoll,List.length_set];exact E.rl,?_,E.pr,E.prb,E.dl,E.db,E.now⟩
 intro q hq
 simp only[EntD.setRoll]at hq
 rcases List.mem_or_eq_of_mem_set hq with hq|rfl
 ·exact E.rr q hq
 ·exact hr
theorem turnT_facts (h:StOk S) (x:Ix S e item) {r:List Int} (hr:r.length=11):Kin S (turnT S e item r).1∧ErrB (turnT S e item r).2∧((turnT S e item r).2≠0→(turnT S e item r).1=S):=by
 have hro:=roll_ok h x
 unfold turnT
 split
 ·exact⟨Kin.refl h,⟨by simp,by simp⟩,fun _=>rfl⟩
 ·rename_i s hs
  obtain⟨k1,k2⟩:=addsR_ok _ _ _ (by rw[hro.1,hr]) hs
  exact⟨Kin.setEnt (h.setRoll x ⟨by rw[k1,hro.1],k2⟩),⟨by simp,by simp⟩,fun h=>absurd rfl h⟩
theorem addAll_B:∀(m:List Lin) (bal next:List Int),(∀v∈bal,B58 v)→addAll bal m=some next→∀v∈next,B58 v
 |[],bal,next,hI,h=>by simp[addAll]at h;rw[←h];exact hI
 |x::m,bal,next,hI,h=>by
  simp only[addAll]at h
  split at h
  ·rename_i ho
   have hb:=addOk_bd ho
   refine addAll_B m _ _ (fun z hz=>?_) h
   rcases List.mem_or_eq_of_mem_set hz with h|rfl
   ·exact hI z h
   ·exact⟨by omega,by omega⟩
  ·cases h
theorem postS_ok {b:List Int} {l:List Lin} (hb:b.length=17) (hB:∀v∈b,B58 v):(postS b l).1.length=17∧∀v∈(postS b l).1,B58 v:=by
 unfold postS
 split
 ·simp only[postN]
  cases h:addAll b (plainS l).1 with
  |none=>simp only[Option.getD_none];exact⟨hb,hB⟩
  |some n=>simp only[Option.getD_some];exact⟨by rw[addAll_len _ _ _ h,hb],addAll_B _ _ _ hB h⟩
 ·exact⟨hb,hB⟩
theorem StOk.setBal (h:StOk S) (x:Ix S e item) {b:List Int} (hb:b.length=17∧∀v∈b,B58 v):StOk (S.setEnt e ((S.ent e).setBal b)):=by
 have E:=h.eok x
 refine h.setEnt x.e0 ?_ (h.ahead _ (List.mem_of_getElem? (h.at_ x)) _ (h.at_ x))
 exact⟨E.pl,E.ok,hb.1,hb.2,E.rl,E.rr,E.pr,E.prb,E.dl,E.db,E.now⟩
theorem postG_facts (h:StOk S) (x:Ix S e item) (l:List Lin):Kin S (postG S e l).1∧ErrB (postG S e l).2∧((postG S e l).2≠0→(postG S e l).1=S):=by
 have E:=h.eok x
 have e1:=plainS_err l
 have e2:=postS_err (S.ent e).bal (plainS l).1
 have e3:=postS_ok (l:=(plainS l).1) E.bl E.bb
 unfold postG
 split
 ·exact⟨Kin.refl h,e1.1,fun _=>rfl⟩
 ·split
  ·exact⟨Kin.refl h,e2,fun _=>rfl⟩
  ·exact⟨Kin.setEnt (h.setBal x e3),⟨by simp,by simp⟩,fun h=>absurd rfl h⟩
end
end Go.Proofs.YtnalblnmplnhmaaGreat
