/-
 Uniform pools at ten a piece: goods that come and go where nothing stands in the way. No program in sight.
-/
import Derived.Test.YtnalblnmplnhmaaGreatUniA
import Derived.Test.YtnalblnmplnhmaaGreatGop2
set_option linter.unusedVariables false
set_option linter.unusedSimpArgs false
namespace Go.Proofs.YtnalblnmplnhmaaGreat
open Go.RowKit Mc
theorem lr_snoc {l:List Lay} {q:Int} (hL:LR l) (hU:Uni l) (hn:l.length≤29) (hq:1≤q∧q≤100000) (hs:qs l≤100000):LR (l++[⟨q,10*q,0⟩]):=by
 have u:=uni_sums (uni_snoc (q:=q) hU)
 have s:qs (l++[⟨q,10*q,0⟩])=qs l+q:=by rw[qs_append];simp[qs]
 refine⟨by rw[List.length_append];simp only[List.length_singleton];omega,?_,by omega,by omega,by omega⟩
 intro x hx
 rcases List.mem_append.1 hx with hx|hx
 ·exact hL.ok x hx
 ·rw[List.mem_singleton]at hx;subst hx
  exact layOk_iff.2 ⟨by simp only;omega,by simp only;omega,by simp only;omega,by simp only;omega,by simp only;omega,by simp only;omega⟩
theorem in_ok {m q:Int} {l:List Lay} (hm:1≤m∧m≤4) (hL:LR l) (hU:Uni l) (hn:l.length≤29) (hq:1≤q∧q≤100000) (hs:qs l≤100000):(poolInS m 10 l ⟨q,10*q,0⟩).2.2=0∧(poolInS m 10 l ⟨q,10*q,0⟩).1.length≤l.length+1:=by
 have a:=inS_ok (lr_snoc hL hU hn hq hs)
 have b:inM l ⟨q,10*q,0⟩=([tot (l++[⟨q,10*q,0⟩])],0):=by unfold inM;rw[a,if_pos rfl]
 obtain⟨e1,e2⟩:=ofV10 (q:=q) (by omega) (by omega)
 unfold poolInS
 rcases(by omega:m=1∨m=2∨m=3∨m=4)with rfl|rfl|rfl|rfl
 ·rw[if_pos rfl,a];exact⟨rfl,by simp⟩
 ·rw[if_neg (by decide),if_pos rfl,b];exact⟨rfl,by simp⟩
 ·rw[if_neg (by decide),if_neg (by decide),if_pos rfl,b];exact⟨rfl,by simp⟩
 ·rw[if_neg (by decide),if_neg (by decide),if_neg (by decide),if_pos rfl]
  unfold inC
  have c1:¬(fitsR 10=false∨(⟨q,10*q,0⟩:Lay).q<1∨(⟨q,10*q,0⟩:Lay).v<0):=by
   rw[fits10];rintro(h|h|h)
   ·cases h
   ·simp only at h;omega
   ·simp only at h;omega
  have c2:¬(ofE 10 (⟨q,10*q,0⟩:Lay).q≠0∨288230376151711744<(⟨q,10*q,0⟩:Lay).v):=by
   rw[e2];rintro(h|h)
   ·exact h rfl
   ·simp only at h;omega
  rw[if_neg c1,if_neg c2]
  simp only[e1,b]
  rw[if_pos trivial]
  exact⟨rfl,by simp⟩
theorem outL_len:∀(l:List Lay) (a:Lay) (k:Int),(outL l a k).1.length≤l.length
 |[],_,_=>by simp[outL]
 |x::r,a,k=>by
  unfold outL
  split
  ·exact Nat.le_refl _
  ·split
   ·simp
   ·have:=outL_len r (plusL a x) (k-x.q)
    simp only[List.length_cons];omega
theorem out_ok {m k:Int} {l:List Lay} (hm:1≤m∧m≤4) (h3:m≠3) (hL:LR l) (h1:1≤k) (hk:k≤qs l):(poolOutS m 10 l ⟨0,0,0⟩ 0 k).2.2.2.2=0∧(poolOutS m 10 l ⟨0,0,0⟩ 0 k).1.length≤l.length:=by
 have a:=outS_ok hL h1 hk
 have b:=outL_len l .zero k
 unfold poolOutS methOut
 rw[if_neg (by omega),if_neg (by omega),if_neg (by omega),if_neg h3]
 split
 ·unfold outC
  rw[if_neg (by rw[fits10];simp),a]
  cases hz:(outL l .zero k).1 with
  |nil=>exact⟨rfl,by simp⟩
  |cons z t =>
   rw[hz]at b
   simp only
   rw[if_neg (by simp)]
   exact⟨rfl,b⟩
 ·rw[a];exact⟨rfl,b⟩
section
variable {m:Int} {L:List Lay} {b r:List Int} {rc:List RcD} {sa:List SaD} {d:Int}
theorem bring0 {q:Int} (hm:1≤m∧m≤4) (h:Two m L []) (hn:L.length≤29) (hq:1≤q∧q≤10000) (hs:qs L≤80000) :
  ∃L',Two m L' []∧qs L'=qs L+q∧L'.length≤L.length+1∧bringT (twoS m L [] b r rc sa d) 0 0 0 ⟨q,10*q,0⟩=(twoS m L' [] b r rc sa d,10*q,0,0):=by
 obtain⟨l',up,f,hI⟩:∃l' up f,poolInS m 10 L ⟨q,10*q,0⟩=(l',up,f):=⟨_,_,_,rfl⟩
 have k:=h.p0.in_ hm hI
 obtain⟨o1,o2⟩:=in_ok (q:=q) hm h.p0.lr h.u0 hn ⟨hq.1,by omega⟩ (by omega)
 rw[hI]at o1 o2
 simp only at o1 o2
 subst o1
 obtain⟨rfl,u,s⟩:=uni_poolIn h.u0 ⟨by omega,by omega⟩ hI
 have T:Two m l' []:=⟨k.1,h.p1,u,h.u1⟩
 refine⟨l',T,s,o2,?_⟩
 obtain⟨w1,w2⟩:=two_worth (b:=b) (r:=r) (rc:=rc) (sa:=sa) (d:=d) T (by rw[show qs ([]:List Lay)=0 from rfl];omega)
 unfold bringT
 rw[show(twoS m L [] b r rc sa d).meth 0 0=m from rfl,show(twoS m L [] b r rc sa d).cost 0 0=10 from rfl,show((twoS m L [] b r rc sa d).ent 0).pool (2*0+0)=⟨L,0,0,0⟩from rfl]
 rw[hI]
 rw[if_neg (by simp)]
 show(if(worthT (twoS m l' [] b r rc sa d) 0 0).2=false then _ else if steadyT (twoS m l' [] b r rc sa d) 0 0=false then _ else(twoS m l' [] b r rc sa d,_,_,_))=_
 rw[w1,w2]
 simp
theorem fetch0 {k:Int} (hm:1≤m∧m≤4) (h3:m≠3) (h:Two m L []) (h1:1≤k) (hk:k≤qs L) (hs:qs L≤80000) :
  ∃L',Two m L' []∧qs L'=qs L-k∧L'.length≤L.length∧fetchT (twoS m L [] b r rc sa d) 0 0 0 0 k=(twoS m L' [] b r rc sa d,⟨k,10*k,0⟩,false,0):=by
 obtain⟨l',d',y,wt,f,hO⟩:∃l' d' y wt f,poolOutS m 10 L ⟨0,0,0⟩ 0 k=(l',d',y,wt,f):=⟨_,_,_,_,_,rfl⟩
 have kk:=h.p0.out_ hm (by decide) hO
 obtain⟨o1,o2⟩:=out_ok hm h3 h.p0.lr h1 hk
 rw[hO]at o1 o2
 simp only at o1 o2
 subst o1
 obtain⟨rfl,rfl,rfl,u,s,-,-⟩:=uni_poolOut (by decide) hm (.inl h3) h.p0.lr h.u0 (by omega) hO
 refine⟨l',⟨kk.1,h.p1,u,h.u1⟩,s,o2,?_⟩
 unfold fetchT
 rw[show(twoS m L [] b r rc sa d).meth 0 0=m from rfl,show(twoS m L [] b r rc sa d).cost 0 0=10 from rfl,show((twoS m L [] b r rc sa d).ent 0).pool (2*0+0)=⟨L,0,0,0⟩from rfl,show(PoolD.pn ⟨L,0,0,0⟩)=⟨0,0,0⟩from rfl]
 rw[hO,if_neg (by simp)]
 rfl
end
end Go.Proofs.YtnalblnmplnhmaaGreat
