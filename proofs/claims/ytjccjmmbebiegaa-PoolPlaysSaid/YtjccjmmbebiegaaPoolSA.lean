/-
 What waits in a pool: sums. No program in sight.
 PoolPlays: what every step keeps. No program in sight.
-/
import Derived.Test.YtjccjmmbebiegaaPoolD
import Derived.Test.YtjccjmmbebiegaaKPool
set_option linter.unusedVariables false
set_option linter.unusedSimpArgs false
namespace Go.Proofs.Ytjccjmmbebiegaa
open Go.RowKit
theorem pnd_sum (d:Pnd) (k q:Int):(d.add k q).a+(d.add k q).b+(d.add k q).c=d.a+d.b+d.c+q:=by
 unfold Pnd.add
 split
 ·simp only;omega
 ·split<;>(simp only;omega)
theorem pnd_get_bd {d:Pnd} (h:PndOk d) (k:Int):0≤d.get k∧d.get k≤d.a+d.b+d.c:=by
 have h0:=h.a0;have h1:=h.b0;have h2:=h.c0
 unfold Pnd.get
 split
 ·omega
 ·split<;>omega
end Go.Proofs.Ytjccjmmbebiegaa
set_option linter.unusedVariables false
set_option linter.unusedSimpArgs false
namespace Go.Proofs.Ytjccjmmbebiegaa
open Go.RowKit
structure PoolOk (m:Int) (l:List Lay) (d:Pnd):Prop where
 lr:LR l
 one:m=1∨l.length≤1
 a0:0≤d.a
 b0:0≤d.b
 c0:0≤d.c
 sum:d.a+d.b+d.c≤qs l
 zero:m=3∨(d.a=0∧d.b=0∧d.c=0)
theorem PoolOk.pnd {m:Int} {l:List Lay} {d:Pnd} (h:PoolOk m l d):PndOk d:=by
 have:=h.lr.q;have:=h.sum;have:=h.a0;have:=h.b0;have:=h.c0
 exact⟨by omega,by omega,by omega,by omega,by omega,by omega⟩
theorem PoolOk.right {m:Int} {l:List Lay} {d:Pnd} (h:PoolOk m l d) (hm:1≤m∧m≤4):rightP m l d=true:=by
 obtain⟨lr,one,a0,b0,c0,sum,zero⟩:=h
 unfold rightP
 rw[if_neg (by
  rintro(h1|h1|h1|h1)
  ·omega
  ·omega
  ·rw[lr.right]at h1;cases h1
  ·omega)]
 rw[lr.tot.1]
 have hd:decide (m=3)=false→d.a=0∧d.b=0∧d.c=0:=fun h1=>by
  rcases zero with h2|h2
  ·rw[h2]at h1;simp at h1
  ·exact h2
 generalize decide (m=3)=b at *
 simp only[pendGo]
 cases b with
 |true=>rw[if_neg (by simp;omega),if_neg (by simp;omega),if_neg (by simp;omega)]
 |false =>
  obtain⟨e1,e2,e3⟩:=hd rfl
  rw[e1,e2,e3]
  have:=(qs_pos lr.ok).1
  rw[if_neg (by simp;omega),if_neg (by simp;omega),if_neg (by simp;omega)]
theorem inS_sums {l m:List Lay} {x:Lay} (h:inS l x=(m,0)):m=l++[x]∧qs m=qs l+x.q∧vs m=vs l+x.v∧LR m∧1≤x.q:=by
 unfold inS at h
 split at h
 ·cases h
 ·rename_i hx
  split at h
  ·cases h
  ·split at h
   ·rename_i hr
    cases h
    exact⟨rfl,by rw[qs_append];simp[qs],by rw[vs_append];simp[vs],LR.of hr,by omega⟩
   ·cases h
theorem inM_sums {l m:List Lay} {x:Lay} (h:inM l x=(m,0)):m.length=1∧qs m=qs l+x.q∧vs m=vs l+x.v∧1≤x.q:=by
 unfold inM at h
 split at h
 ·rename_i he
  cases h
  obtain⟨k,e,hk⟩:∃k e,inS l x=(k,e):=⟨_,_,rfl⟩
  rw[hk]at he ⊢
  simp only at he ⊢
  subst he
  obtain⟨-,h1,h2,h3,h4⟩:=inS_sums hk
  refine⟨rfl,?_,?_,h4⟩
  ·rw[h3.tot.1];simp[qs]at h1 ⊢;exact h1
  ·rw[h3.tot.1];simp[vs]at h2 ⊢;exact h2
 ·rename_i he
  exact absurd (congrArg Prod.snd h) he
theorem PoolOk.in_ {m c:Int} {l l':List Lay} {d:Pnd} {x:Lay} {up e':Int} (h:PoolOk m l d) (hm:1≤m∧m≤4) (hI:poolInS m c l x=(l',up,e')) :
  PoolOk m l' d∧(e'=0→vs l'=vs l+x.v-up)∧(e'≠0→l'=l):=by
 have hlr:LR (poolInS m c l x).1:=poolInS_LR h.lr
 have hno:=@poolInS_no m c l x
 rw[hI]at hlr hno
 simp only at hlr hno
 by_cases he:e'=0
 ·subst he
  have key:qs l'=qs l+x.q∧vs l'=vs l+x.v-up∧1≤x.q∧(m=1∨l'.length≤1):=by
   unfold poolInS at hI
   split at hI
   ·have hS:inS l x=(l',0):=Prod.ext (congrArg (fun r=>r.1) hI) (congrArg (fun r=>r.2.2) hI)
    have hu:up=0:=(congrArg (fun r=>r.2.1) hI).symm
    obtain⟨-,h1,h2,-,h4⟩:=inS_sums hS
    exact⟨h1,by omega,h4,.inl ‹_›⟩
   ·split at hI
    ·have hS:inM l x=(l',0):=Prod.ext (congrArg (fun r=>r.1) hI) (congrArg (fun r=>r.2.2) hI)
     have hu:up=0:=(congrArg (fun r=>r.2.1) hI).symm
     obtain⟨h0,h1,h2,h4⟩:=inM_sums hS
     exact⟨h1,by omega,h4,.inr (by omega)⟩
    ·split at hI
     ·have hS:inM l x=(l',0):=Prod.ext (congrArg (fun r=>r.1) hI) (congrArg (fun r=>r.2.2) hI)
      have hu:up=0:=(congrArg (fun r=>r.2.1) hI).symm
      obtain⟨h0,h1,h2,h4⟩:=inM_sums hS
      exact⟨h1,by omega,h4,.inr (by omega)⟩
     ·split at hI
      ·unfold inC at hI
       split at hI
       ·cases hI
       ·split at hI
        ·cases hI
        ·split at hI
         ·rename_i hz
          have hS:inM l ⟨x.q,ofV c x.q,x.p⟩=(l',0):=Prod.ext (congrArg (fun r=>r.1) hI) hz
          have hu:up=x.v-ofV c x.q:=(congrArg (fun r=>r.2.1) hI).symm
          obtain⟨h0,h1,h2,h4⟩:=inM_sums hS
          simp only at h1 h2 h4
          exact⟨h1,by omega,h4,.inr (by omega)⟩
         ·rename_i hz
          exact absurd (congrArg (fun r=>r.2.2) hI) hz
      ·cases hI
  obtain⟨k1,k2,k3,k4⟩:=key
  have:=h.sum
  exact⟨⟨hlr,k4,h.a0,h.b0,h.c0,by omega,h.zero⟩,fun _=>k2,fun hx=>absurd rfl hx⟩
 ·obtain⟨rfl,-⟩:=hno he
  exact⟨h,fun hx=>absurd hx he,fun _=>rfl⟩
theorem outS_all {l m:List Lay} {y:Lay} {q:Int} (h:LR l) (hO:outS l q=(m,y,0)):1≤q∧q≤qs l∧qs m=qs l-q∧y.v+vs m=vs l∧m.length≤l.length∧0≤y.v:=by
 have h1:¬ q<1:=fun h=>by rw[outS,if_pos h]at hO;cases hO
 have h2:q≤qs l:=by
  rcases(by omega:qs l<q∨q≤qs l)with h'|h'
  ·rw[outS_short h (by omega) h']at hO;cases hO
  ·exact h'
 have hs:=outS_sum h hO
 have hlen:=outS_len (l:=l) (q:=q)
 rw[hO]at hlen
 have hq:=outL_sum l .zero q h (by omega) h2
 rw[outS_ok h (by omega) h2]at hO
 have hm:m=(outL l .zero q).1:=(congrArg (fun r=>r.1) hO).symm
 rw[←hm]at hq
 exact⟨by omega,h2,hq.2.1,by omega,hlen,hs.1⟩
theorem outC_all {l m:List Lay} {y:Lay} {q c:Int} (h:LR l) (hO:outC l q c=(m,y,0)):1≤q∧q≤qs l∧qs m=qs l-q∧y.v+vs m=vs l∧m.length≤l.length:=by
 unfold outC at hO
 split at hO
 ·exact absurd (congrArg (fun r=>r.2.2) hO) (by simp)
 ·split at hO
  ·rename_i y0 e0 hS
   have he:e0=0:=congrArg (fun r=>r.2.2) hO
   have hm:[]=m:=congrArg (fun r=>r.1) hO
   have hy:y0=y:=congrArg (fun r=>r.2.1) hO
   subst he hm hy
   obtain⟨a,b,c,d,e,-⟩:=outS_all h hS
   exact⟨a,b,c,d,e⟩
  ·rename_i z t y0 e0 hS
   split at hO
   ·rename_i hne
    exact absurd (congrArg (fun r=>r.2.2) hO) hne
   ·rename_i hne
    have he:e0=0:=by simpa using hne
    subst he
    obtain⟨a,b,cc,d,e,-⟩:=outS_all h hS
    simp only at hO
    generalize (if ofE c q≠0∨z.v+y0.v<ofV c q then z.v+y0.v else ofV c q)=V at hO
    have hm:(⟨z.q,z.v+(y0.v-V),z.p⟩:Lay)::t=m:=congrArg (fun r=>r.1) hO
    have hy:(⟨y0.q,V,y0.p⟩:Lay)=y:=congrArg (fun r=>r.2.1) hO
    subst hm hy
    rw[qs_cons]at cc
    rw[vs_cons]at d
    refine⟨a,b,?_,?_,by simpa using e⟩
    ·rw[qs_cons];exact cc
    ·rw[vs_cons];simp only;omega
theorem PoolOk.out_ {m c:Int} {l l':List Lay} {d d':Pnd} {y:Lay} {wt:Bool} {kind q e':Int} (h:PoolOk m l d) (hm:1≤m∧m≤4) (hk:0≤kind∧kind≤3) (hO:poolOutS m c l d kind q=(l',d',y,wt,e')) :
  PoolOk m l' d'∧y.v+vs l'=vs l:=by
 have hlr:LR (poolOutS m c l d kind q).1:=poolOutS_LR h.lr
 rw[hO]at hlr
 simp only at hlr
 unfold poolOutS at hO
 rw[if_neg (by omega),if_neg (by omega)]at hO
 by_cases hw:m=3∧kind≠3
 ·rw[if_pos hw]at hO
  obtain⟨rfl,hk3⟩:=hw
  have e1:l=l':=congrArg (fun r=>r.1) hO
  have e2:(waitS l d kind q).1=d':=congrArg (fun r=>r.2.1) hO
  have e3:Lay.zero=y:=congrArg (fun r=>r.2.2.1) hO
  subst e1 e3
  refine⟨?_,by simp[Lay.zero]⟩
  unfold waitS at e2
  split at e2
  ·subst e2;exact h
  ·split at e2
   ·subst e2;exact h
   ·rename_i hb hf
    subst e2
    have hfr:freeP l d=qs l-d.a-d.b-d.c:=rfl
    rw[hfr]at hf
    have hs:=pnd_sum d kind q
    have hg:=pnd_get_bd h.pnd kind
    have ha:=h.a0;have hb0:=h.b0;have hc0:=h.c0
    have hbnd:0≤(d.add kind q).a∧0≤(d.add kind q).b∧0≤(d.add kind q).c:=by
     unfold Pnd.add
     split
     ·exact⟨by simp only;omega,hb0,hc0⟩
     ·split
      ·exact⟨ha,by simp only;omega,hc0⟩
      ·exact⟨ha,hb0,by simp only;omega⟩
    have hsum:(d.add kind q).a+(d.add kind q).b+(d.add kind q).c≤qs l:=by omega
    exact⟨h.lr,h.one,hbnd.1,hbnd.2.1,hbnd.2.2,hsum,.inl rfl⟩
 ·rw[if_neg hw]at hO
  have e1:(methOut m c l d q).1=l':=congrArg (fun r=>r.1) hO
  have e2:d=d':=congrArg (fun r=>r.2.1) hO
  have e3:(methOut m c l d q).2.1=y:=congrArg (fun r=>r.2.2.1) hO
  subst e2
  by_cases he:(methOut m c l d q).2.2=0
  ·have hM:methOut m c l d q=(l',y,0):=Prod.ext e1 (Prod.ext e3 he)
   have key:qs l'=qs l-q∧y.v+vs l'=vs l∧l'.length≤l.length∧d.a+d.b+d.c≤qs l-q:=by
    unfold methOut at hM
    split at hM
    ·unfold outP at hM
     split at hM
     ·exact absurd (congrArg (fun r=>r.2.2) hM) (by simp)
     ·split at hM
      ·exact absurd (congrArg (fun r=>r.2.2) hM) (by simp)
      ·rename_i hf
       obtain⟨-,-,a,b,cc,-⟩:=outS_all h.lr hM
       have hfr:freeP l d=qs l-d.a-d.b-d.c:=rfl
       rw[hfr]at hf
       exact⟨a,b,cc,by omega⟩
    ·rename_i h3
     have hz:d.a=0∧d.b=0∧d.c=0:=by
      rcases h.zero with h'|h'
      ·exact absurd h' h3
      ·exact h'
     split at hM
     ·obtain⟨-,k2,a,b,cc⟩:=outC_all h.lr hM
      exact⟨a,b,cc,by omega⟩
     ·obtain⟨-,k2,a,b,cc,-⟩:=outS_all h.lr hM
      exact⟨a,b,cc,by omega⟩
   obtain⟨k1,k2,k3,k4⟩:=key
   refine⟨⟨hlr,?_,h.a0,h.b0,h.c0,by omega,h.zero⟩,k2⟩
   rcases h.one with h'|h'
   ·exact .inl h'
   ·exact .inr (by omega)
  ·obtain⟨f1,f2⟩:=methOut_no he
   rw[f1]at e1
   rw[f2]at e3
   subst e1 e3
   exact⟨h,by simp[Lay.zero]⟩
theorem outS_val {l:List Lay} (hl:LR l) {q:Int}:0≤(outS l q).2.1.v∧(outS l q).2.1.v≤288230376151711744:=by
 by_cases h:(outS l q).2.2=0
 ·have hv:=hl.v
  have:=outS_all hl (m:=(outS l q).1) (y:=(outS l q).2.1) (by rw[←h])
  have:=(qs_pos (outS_LR (q:=q) hl).ok).2.1
  omega
 ·rw[(outS_no h).2];simp[Lay.zero]
theorem outS_I {l:List Lay} (hl:LR l) {q:Int}:(0≤(outS l q).2.1.q∧(outS l q).2.1.q≤288230376151711744)∧-576460752303423488≤(outS l q).2.1.p∧(outS l q).2.1.p≤576460752303423488:=by
 by_cases h:(outS l q).2.2=0
 ·have hq:=hl.q
  obtain⟨h1,h2,-⟩:=outS_all hl (m:=(outS l q).1) (y:=(outS l q).2.1) (by rw[←h])
  have hR:=outS_LR (q:=q) hl
  have a1:=ps_le l
  have a2:=hl.p
  have a3:=ps_le (outS l q).1
  have a4:=hR.p
  rw[outS_ok hl h1 h2]at a3 a4 ⊢
  have s:=outL_sum l .zero q hl (by omega) h2
  simp only[Lay.zero]at s a3 a4 ⊢
  omega
 ·rw[(outS_no h).2];simp[Lay.zero]
theorem outS_facts {l:List Lay} (h:LR l) {q:Int}:((outS l q).2.2=0∧1≤q∧q≤qs l∧(outS l q).2.1.q=q∧qs (outS l q).1=qs l-q∧(outS l q).2.1.v+vs (outS l q).1=vs l∧(outS l q).2.1.p+ps (outS l q).1=ps l)∨(((outS l q).2.2=1∧q<1∨(outS l q).2.2=5∧qs l<q)∧(outS l q).1=l∧(outS l q).2.1=.zero):=by
 by_cases h1:q<1
 ·right;unfold outS;rw[if_pos h1];exact⟨.inl ⟨rfl,h1⟩,rfl,rfl⟩
 by_cases h2:q≤qs l
 ·left
  rw[outS_ok h (by omega) h2]
  have s:=outL_sum l .zero q h (by omega) h2
  simp only[Lay.zero]at s ⊢
  exact⟨trivial,by omega,h2,by omega,s.2.1,by omega,by omega⟩
 ·right;rw[outS_short h (by omega) (by omega)];exact⟨.inr ⟨rfl,by omega⟩,rfl,rfl⟩
theorem LR.bds {l:List Lay} (h:LR l):I64 (qs l)∧I64 (vs l)∧I64 (ps l):=by
 have h1:=qs_pos h.ok
 have h2:=h.q
 have h3:=h.v
 have h4:=h.p
 have h5:=ps_le l
 exact⟨⟨by omega,by omega⟩,⟨by omega,by omega⟩,⟨by omega,by omega⟩⟩
end Go.Proofs.Ytjccjmmbebiegaa
