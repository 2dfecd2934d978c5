/-
 Pools all at one price (ten a piece, no profit): what comes in and goes out is at that price, whatever the method; states of one entity and one item that have such pools. No program in sight.
 States of one entity and one item whose pools are all at one price: goods that come, go, are moved. No program in sight.
-/
import Derived.Test.YtnalblnmplnhmaaGreatGop0
import Derived.Test.YtnalblnmplnhmaaGreatOne
import Derived.Test.YtnalblnmplnhmaaGreatGop1
set_option linter.unusedVariables false
set_option linter.unusedSimpArgs false
namespace Go.Proofs.YtnalblnmplnhmaaGreat
open Go.RowKit Mc
def Uni (l:List Lay):Prop:=∀x∈l,x.v=10*x.q∧x.p=0
theorem uni_nil:Uni []:=fun x h=>absurd h List.not_mem_nil
theorem Uni.tail {x:Lay} {l:List Lay} (h:Uni (x::l)):Uni l:=fun y hy=>h y (List.mem_cons_of_mem _ hy)
theorem uni_sums:∀{l:List Lay},Uni l→vs l=10*qs l∧ps l=0∧aps l=0
 |[],_=>by simp[qs,vs,ps,aps,absum]
 |x::l,h=>by
  have ih:=uni_sums h.tail
  have hx:=h x List.mem_cons_self
  rw[qs_cons,vs_cons,ps_cons,aps_cons]
  omega
theorem uni_sw:∀{l:List Lay},Uni l→∀v∈sw l,v=0:=by
 intro L h v hv
 obtain⟨x,hx,rfl⟩:=List.mem_map.1 hv
 have:=h x hx
 omega
theorem zeros_sum:∀{l:List Int},(∀v∈l,v=0)→sumGo 0 l=some 0
 |[],_=>rfl
 |v::l,h=>by
  have hv:v=0:=h v List.mem_cons_self
  subst hv
  unfold sumGo
  have:addOk 0 0=true:=by decide +kernel
  rw[if_pos this]
  exact zeros_sum fun y hy=>h y (List.mem_cons_of_mem _ hy)
theorem uni_cut {x:Lay} {k:Int} (hx:x.v=10*x.q∧x.p=0) (h1:1≤x.q) (h2:x.q≤100000) (h0:0≤k) (hk:k≤x.q):cutL x k=⟨k,10*k,0⟩:=by
 unfold cutL
 have e1:partS x.v k x.q=10*k:=by
  rw[hx.1,Int.mul_comm 10,part_price h1 h2 h0 hk (by omega) (by omega),Int.mul_comm]
 have e2:partS x.p k x.q=0:=by
  rw[hx.2]
  have:=part_price (q:=x.q) (k:=k) (p:=0) h1 h2 h0 hk (by omega) (by omega)
  simpa using this
 rw[e1,e2]
theorem uni_outL:∀{l:List Lay} (a:Lay) (k:Int),LR l→Uni l→qs l≤100000→0≤k→k≤qs l→(outL l a k).2=⟨a.q+k,a.v+10*k,a.p⟩∧Uni (outL l a k).1
 |[],a,k,_,_,_,h0,hk=>by
  have:k=0:=by simp[qs]at hk;omega
  subst this
  simp[outL,Uni]
 |x::l,a,k,hL,hU,hb,h0,hk=>by
  have hx:=hU x List.mem_cons_self
  have hlx:=hL.at_ (x:=x) List.mem_cons_self
  have hq:=qs_pos hL.tail.ok
  rw[qs_cons]at hb hk
  simp only[outL]
  split
  ·have:k=0:=by omega
   subst this
   exact⟨by simp,hU⟩
  ·split
   ·have hc:=uni_cut hx (k:=k) (by omega) (by omega) h0 (by omega)
    rw[hc]
    refine⟨by simp[plusL],?_⟩
    intro y hy
    rcases List.mem_cons.1 hy with rfl|hy
    ·simp only[minusL];omega
    ·exact hU y (List.mem_cons_of_mem _ hy)
   ·obtain⟨h1,h2⟩:=uni_outL (plusL a x) (k-x.q) hL.tail hU.tail (by omega) (by omega) (by omega)
    refine⟨?_,h2⟩
    rw[h1]
    simp only[plusL,Lay.mk.injEq]
    omega
theorem uni_outS {l l':List Lay} {k:Int} {y:Lay} (hL:LR l) (hU:Uni l) (hb:qs l≤100000) (h:outS l k=(l',y,0)):y=⟨k,10*k,0⟩∧Uni l'∧qs l'=qs l-k∧1≤k∧k≤qs l:=by
 obtain⟨h1,h2,h3,-⟩:=outS_all hL h
 rw[outS_ok hL h1 h2]at h
 obtain⟨e1,e2⟩:=uni_outL .zero k hL hU hb (by omega) h2
 have a1:(outL l .zero k).1=l':=congrArg (fun r=>r.1) h
 have a2:(outL l .zero k).2=y:=congrArg (fun r=>r.2.1) h
 rw[a2]at e1
 rw[a1]at e2
 exact⟨by rw[e1];simp[Lay.zero],e2,h3,h1,h2⟩
theorem uni_snoc {l:List Lay} {q:Int} (hU:Uni l):Uni (l++[⟨q,10*q,0⟩]):=by
 intro x hx
 rcases List.mem_append.1 hx with hx|hx
 ·exact hU x hx
 ·rw[List.mem_singleton]at hx;subst hx;exact⟨rfl,rfl⟩
theorem uni_inS {l l':List Lay} {q:Int} (hU:Uni l) (h:inS l ⟨q,10*q,0⟩=(l',0)):Uni l'∧qs l'=qs l+q:=by
 obtain⟨rfl,h2,-⟩:=inS_sums h
 exact⟨uni_snoc hU,h2⟩
theorem uni_inM {l l':List Lay} {q:Int} (hU:Uni l) (h:inM l ⟨q,10*q,0⟩=(l',0)):Uni l'∧qs l'=qs l+q:=by
 obtain⟨h1,h2,h3,-⟩:=inM_sums h
 refine⟨?_,h2⟩
 unfold inM at h
 split at h
 ·rename_i he
  obtain⟨k,e,hk⟩:∃k e,inS l ⟨q,10*q,0⟩=(k,e):=⟨_,_,rfl⟩
  rw[hk]at he h
  simp only at he h
  subst he
  cases h
  obtain⟨e1,-,-,hL,-⟩:=inS_sums hk
  have hu:=(uni_inS hU hk).1
  have hs:=uni_sums hu
  rw[hL.tot.1]
  intro x hx
  rw[List.mem_singleton]at hx
  subst hx
  exact⟨hs.1,hs.2.1⟩
 ·rename_i he
  exact absurd (congrArg Prod.snd h) he
theorem fits10:fitsR 10=true:=by decide +kernel
theorem ofV10 {q:Int} (h:0≤q) (hq:q≤1000000):ofV 10 q=10*q∧ofE 10 q=0:=by
 have:=of_ok fits10 h (by omega)
 rw[Int.mul_comm 10];exact this
theorem uni_poolIn {m q up:Int} {l l':List Lay} (hU:Uni l) (hq:0≤q∧q≤1000000) (h:poolInS m 10 l ⟨q,10*q,0⟩=(l',up,0)):up=0∧Uni l'∧qs l'=qs l+q:=by
 unfold poolInS at h
 split at h
 ·exact⟨(congrArg (fun r=>r.2.1) h).symm,uni_inS hU (Prod.ext (congrArg (fun r=>r.1) h) (congrArg (fun r=>r.2.2) h))⟩
 ·split at h
  ·exact⟨(congrArg (fun r=>r.2.1) h).symm,uni_inM hU (Prod.ext (congrArg (fun r=>r.1) h) (congrArg (fun r=>r.2.2) h))⟩
  ·split at h
   ·exact⟨(congrArg (fun r=>r.2.1) h).symm,uni_inM hU (Prod.ext (congrArg (fun r=>r.1) h) (congrArg (fun r=>r.2.2) h))⟩
   ·split at h
    ·obtain⟨e1,e2⟩:=ofV10 hq.1 hq.2
     unfold inC at h
     split at h
     ·exact absurd (congrArg (fun r=>r.2.2) h) (by simp)
     ·split at h
      ·exact absurd (congrArg (fun r=>r.2.2) h) (by simp)
      ·simp only[e1]at h
       split at h
       ·rename_i hz
        refine⟨?_,uni_inM hU (Prod.ext (congrArg (fun r=>r.1) h) hz)⟩
        have:=(congrArg (fun r=>r.2.1) h).symm
        simp only at this
        omega
       ·rename_i hz
        exact absurd (congrArg (fun r=>r.2.2) h) hz
    ·exact absurd (congrArg (fun r=>r.2.2) h) (by simp)
theorem uni_outC {l l':List Lay} {k:Int} {y:Lay} (hL:LR l) (hU:Uni l) (hb:qs l≤100000) (h:outC l k 10=(l',y,0)):y=⟨k,10*k,0⟩∧Uni l'∧qs l'=qs l-k∧1≤k∧k≤qs l:=by
 unfold outC at h
 rw[if_neg (by rw[fits10];simp)]at h
 split at h
 ·rename_i y0 e0 hS
  have he:e0=0:=congrArg (fun r=>r.2.2) h
  have hm:[]=l':=congrArg (fun r=>r.1) h
  have hy:y0=y:=congrArg (fun r=>r.2.1) h
  subst he hm hy
  exact uni_outS hL hU hb hS
 ·rename_i z t y0 e0 hS
  split at h
  ·rename_i hne
   exact absurd (congrArg (fun r=>r.2.2) h) hne
  ·rename_i hne
   have he:e0=0:=by simpa using hne
   subst he
   obtain⟨a1,a2,a3,a4,a5⟩:=uni_outS hL hU hb hS
   obtain⟨e1,e2⟩:=ofV10 (q:=k) (by omega) (by omega)
   have hz:=a2 z List.mem_cons_self
   have hzl:LR (z::t):=by have:=outS_LR (q:=k) hL;rw[hS]at this;exact this
   have hz2:=hzl.at_ (x:=z) List.mem_cons_self
   subst a1
   simp only[e1,e2]at h
   rw[if_neg (by omega)]at h
   have hm:(⟨z.q,z.v+(10*k-10*k),z.p⟩:Lay)::t=l':=congrArg (fun r=>r.1) h
   have hy:(⟨k,10*k,0⟩:Lay)=y:=congrArg (fun r=>r.2.1) h
   subst hm hy
   refine⟨rfl,?_,?_,a4,a5⟩
   ·intro x hx
    rcases List.mem_cons.1 hx with rfl|hx
    ·simp only;omega
    ·exact a2 x (List.mem_cons_of_mem _ hx)
   ·rw[qs_cons]at a3 ⊢;exact a3
theorem uni_poolOut {m q kind:Int} {l l':List Lay} {d d':Pnd} {y:Lay} {wt:Bool} (hk:0≤kind∧kind≤3) (hm:1≤m∧m≤4) (hw:m≠3∨kind=3) (hL:LR l) (hU:Uni l) (hb:qs l≤100000) (h:poolOutS m 10 l d kind q=(l',d',y,wt,0)):d'=d∧wt=false∧y=⟨q,10*q,0⟩∧Uni l'∧qs l'=qs l-q∧1≤q∧q≤qs l:=by
 unfold poolOutS at h
 rw[if_neg (by omega),if_neg (by omega),if_neg (by omega)]at h
 have e1:d=d':=congrArg (fun r=>r.2.1) h
 have e2:false=wt:=congrArg (fun r=>r.2.2.2.1) h
 have hM:methOut m 10 l d q=(l',y,0):=Prod.ext (congrArg (fun r=>r.1) h) (Prod.ext (congrArg (fun r=>r.2.2.1) h) (congrArg (fun r=>r.2.2.2.2) h))
 refine⟨e1.symm,e2.symm,?_⟩
 unfold methOut at hM
 split at hM
 ·unfold outP at hM
  split at hM
  ·exact absurd (congrArg (fun r=>r.2.2) hM) (by simp)
  ·split at hM
   ·exact absurd (congrArg (fun r=>r.2.2) hM) (by simp)
   ·exact uni_outS hL hU hb hM
 ·split at hM
  ·exact uni_outC hL hU hb hM
  ·exact uni_outS hL hU hb hM
theorem sum2_ok {a b:Int} (ha:-1000000000≤a∧a≤1000000000) (hb:-1000000000≤b∧b≤1000000000):sumV [a,b]=a+b∧sumE [a,b]=0:=by
 have h:=sumGo_abs [a,b] 0 (by simp[absum];omega)
 have e:=sumV_some h
 simpa using e
theorem postG_small {S:StD} {e:Int} {l:List Lin} (hb:(S.ent e).bal.length=17) (hB:∀a:Nat,a<17→-144115188075855872≤(S.ent e).bal.getD a 0∧(S.ent e).bal.getD a 0≤144115188075855872) (h:Small l) (hs:(amts l).sum=0):postG S e l=(S.setEnt e ((S.ent e).setBal (adds (S.ent e).bal l)),0):=by
 unfold postG
 rw[plain_small h]
 simp only
 rw[if_neg (by simp),post_small hb hB h hs]
 simp
theorem addV_small {a b:Int} (ha:-1000000000≤a∧a≤1000000000) (hb:-1000000000≤b∧b≤1000000000):addV a b=a+b∧addE a b=0:=by
 have k1:inB a=true:=inB_iff.2 ⟨by omega,by omega⟩
 have k2:inB b=true:=inB_iff.2 ⟨by omega,by omega⟩
 have e:wrap64 (a+b)=a+b:=by unfold wrap64;omega
 have k3:inB (wrap64 (a+b))=true:=by rw[e];exact inB_iff.2 ⟨by omega,by omega⟩
 have:=addV_yes k1 k2 (by rw[k3];rfl)
 exact⟨this.1.symm.trans (by first|rfl|exact e),this.2.symm⟩
theorem addsR_small:∀(a b:List Int),a.length=b.length→(∀v∈a,-1000000000≤v∧v≤1000000000)→(∀v∈b,-1000000000≤v∧v≤1000000000)→addsR a b=some (List.zipWith (·+·) a b)
 |[],[],_,_,_=>rfl
 |[],_::_,hl,_,_=>by simp at hl
 |_::_,[],hl,_,_=>by simp at hl
 |a::l,b::r,hl,ha,hb=>by
  obtain⟨e1,e2⟩:=addV_small (ha a List.mem_cons_self) (hb b List.mem_cons_self)
  simp only[addsR,e2,if_true,e1,List.zipWith_cons_cons]
  rw[addsR_small l r (by simpa using hl) (fun v hv=>ha v (List.mem_cons_of_mem _ hv)) (fun v hv=>hb v (List.mem_cons_of_mem _ hv))]
  rfl
theorem turnT_small {S:StD} {e item:Int} {r:List Int} (hl:((S.ent e).roll item).length=r.length) (ha:∀v∈(S.ent e).roll item,-1000000000≤v∧v≤1000000000) (hb:∀v∈r,-1000000000≤v∧v≤1000000000):turnT S e item r=(S.setEnt e ((S.ent e).setRoll item (List.zipWith (·+·) ((S.ent e).roll item) r)),0):=by
 unfold turnT
 rw[addsR_small _ _ hl ha hb]
theorem worth_uni {S:StD} {e item:Int} (h0:Uni ((S.ent e).pool (2*item)).layers) (h1:Uni ((S.ent e).pool (2*item+1)).layers) (b0:0≤qs ((S.ent e).pool (2*item)).layers∧qs ((S.ent e).pool (2*item)).layers≤100000) (b1:0≤qs ((S.ent e).pool (2*item+1)).layers∧qs ((S.ent e).pool (2*item+1)).layers≤100000) :
  worthT S e item=(⟨qs ((S.ent e).pool (2*item)).layers+qs ((S.ent e).pool (2*item+1)).layers,10*(qs ((S.ent e).pool (2*item)).layers+qs ((S.ent e).pool (2*item+1)).layers),0⟩,true)∧steadyT S e item=true:=by
 have s0:=uni_sums h0
 have s1:=uni_sums h1
 have z:=zeros_sum (l:=sw ((S.ent e).pool (2*item)).layers++sw ((S.ent e).pool (2*item+1)).layers) (by
  intro v hv
  rcases List.mem_append.1 hv with hv|hv
  ·exact uni_sw h0 v hv
  ·exact uni_sw h1 v hv)
 unfold worthT steadyT
 simp only
 rw[s0.1,s1.1,s0.2.1,s1.2.1,(sumV_some z).2]
 obtain⟨e1,e2⟩:=sum2_ok (a:=qs ((S.ent e).pool (2*item)).layers) (b:=qs ((S.ent e).pool (2*item+1)).layers) (by omega) (by omega)
 obtain⟨e3,e4⟩:=sum2_ok (a:=10*qs ((S.ent e).pool (2*item)).layers) (b:=10*qs ((S.ent e).pool (2*item+1)).layers) (by omega) (by omega)
 obtain⟨e5,e6⟩:=sum2_ok (a:=0) (b:=0) (by omega) (by omega)
 rw[e1,e2,e3,e4,e5,e6]
 exact⟨by simp;omega,by simp⟩
end Go.Proofs.YtnalblnmplnhmaaGreat
set_option linter.unusedVariables false
set_option linter.unusedSimpArgs false
namespace Go.Proofs.YtnalblnmplnhmaaGreat
open Go.RowKit Mc
structure Two (m:Int) (L0 L1:List Lay):Prop where
 p0:PoolOk m L0 ⟨0,0,0⟩
 p1:PoolOk m L1 ⟨0,0,0⟩
 u0:Uni L0
 u1:Uni L1
abbrev twoS (m:Int) (L0 L1:List Lay) (b r:List Int) (rc:List RcD) (sa:List SaD) (d:Int):StD:=oneS m 10 [⟨L0,0,0,0⟩,⟨L1,0,0,0⟩] b r rc sa d
theorem Two.q {m:Int} {L0 L1:List Lay} (h:Two m L0 L1):0≤qs L0∧0≤qs L1:=⟨(qs_pos h.p0.lr.ok).1,(qs_pos h.p1.lr.ok).1⟩
section
variable {m:Int} {L0 L1:List Lay} {b r:List Int} {rc:List RcD} {sa:List SaD} {d:Int}
theorem two_ok (hm:1≤m∧m≤4) (h:Two m L0 L1) (hb:b.length=17) (hB:∀v∈b,B58 v) (hr:r.length=11) (hR:∀v∈r,B58 v):StOk (twoS m L0 L1 b r rc sa d):=by
 have E:EntOk 1 [m] ((twoS m L0 L1 b r rc sa d).ent 0).toEntC:=by
  refine⟨rfl,?_,hb,hB,rfl,?_,rfl,?_,rfl,?_,⟨show(1:Int)≤1 by decide,show(1:Int)≤12 by decide⟩⟩
  ·intro k p hp
   match k,hp with
   |0,hp=>cases hp;exact h.p0
   |1,hp=>cases hp;exact h.p1
   |k+2,hp=>exact absurd hp (by simp[twoS,oneS,StD.ent])
  ·intro x hx
   have:x=r:=by simpa[twoS,oneS,StD.ent]using hx
   subst this
   exact⟨hr,hR⟩
  ·intro v hv
   have:v=-1:=by simpa[twoS,oneS,StD.ent]using hv
   subst this
   exact⟨by decide,by decide⟩
  ·intro v hv
   have:v=0:=by simpa[twoS,oneS,StD.ent]using hv
   subst this
   exact⟨by decide,by decide⟩
 refine⟨by simp[twoS,oneS],by simp[twoS,oneS],rfl,rfl,?_,?_,?_,?_,?_,?_⟩
 ·intro x hx;have:x=[m]:=by simpa[twoS,oneS]using hx
  subst this;rfl
 ·intro x hx;have:x=[10]:=by simpa[twoS,oneS]using hx
  subst this;rfl
 ·intro x hx;have:x=[m]:=by simpa[twoS,oneS]using hx
  subst this
  intro v hv
  rw[List.mem_singleton]at hv;subst hv;exact hm
 ·intro x hx;have:x=[10]:=by simpa[twoS,oneS]using hx
  subst this
  intro v hv
  rw[List.mem_singleton]at hv;subst hv;exact⟨by decide,by decide⟩
 ·intro e x hx
  match e,hx with
  |0,hx=>cases hx;exact E
  |e+1,hx=>simp[twoS,oneS]at hx
 ·intro x hx e he y hy
  have:x=(twoS m L0 L1 b r rc sa d).ent 0:=by simpa[twoS,oneS,StD.ent]using hx
  subst this
  simp[twoS,oneS,StD.ent]at hy
theorem two_ix:Ix (twoS m L0 L1 b r rc sa d) 0 0:=⟨by decide,by simp[twoS,oneS],by decide,by simp[twoS,oneS]⟩
theorem two_worth (h:Two m L0 L1) (hq:qs L0+qs L1≤100000):worthT (twoS m L0 L1 b r rc sa d) 0 0=(⟨qs L0+qs L1,10*(qs L0+qs L1),0⟩,true)∧steadyT (twoS m L0 L1 b r rc sa d) 0 0=true:=by
 have:=h.q
 exact worth_uni (S:=twoS m L0 L1 b r rc sa d) (e:=0) (item:=0) h.u0 h.u1 ⟨this.1,by show qs L0≤_;omega⟩ ⟨this.2,by show qs L1≤_;omega⟩
structure Books (k:Nat) (b r:List Int):Prop where
 bl:b.length=17
 bb:∀j:Nat,j<17→-(200000*(k:Int))≤b.getD j 0∧b.getD j 0≤200000*k
 rl:r.length=11
 rb:∀v∈r,-(200000*(k:Int))≤v∧v≤200000*k
theorem Books.B {k:Nat} (h:Books k b r) (hk:k≤1000):∀v∈b,B58 v:=by
 intro v hv
 obtain⟨j,hj⟩:=List.getElem?_of_mem hv
 have hlt:=(List.getElem?_eq_some_iff.1 hj).1
 have:=h.bb j (by rw[h.bl]at hlt;exact hlt)
 rw[List.getD,hj]at this
 simp only[Option.getD_some]at this
 exact⟨by omega,by omega⟩
theorem Books.R {k:Nat} (h:Books k b r) (hk:k≤1000):∀v∈r,B58 v:=fun v hv=>by have:=h.rb v hv;exact⟨by omega,by omega⟩
theorem Books.more {k:Nat} (h:Books k b r):Books (k+1) b r:=⟨h.bl,fun j hj=>by have:=h.bb j hj;omega,h.rl,fun v hv=>by have:=h.rb v hv;omega⟩
theorem amts_abs (l:List Lin) (a:Int):-absum (amts l)≤vtot l a∧vtot l a≤absum (amts l):=by
 induction l with
 |nil=>simp[vtot,amts,absum]
 |cons x l ih =>
  have e:amts (x::l)=x.n::amts l:=rfl
  have:=absum_nonneg (amts l)
  rw[vtot_cons,e,absum_cons]
  split<;>omega
theorem books_next {k:Nat} {l:List Lin} {z:List Int} (h:Books k b r) (hl:absum (amts l)≤200000) (hz:z.length=11) (hzb:∀v∈z,-200000≤v∧v≤200000):Books (k+1) (adds b l) (List.zipWith (·+·) r z):=by
 refine⟨adds_len _ _,fun j hj=>?_,by simp[h.rl,hz],?_⟩
 ·rw[adds_get _ _ hj]
  have h1:=h.bb j hj
  have h2:=amts_abs l j
  omega
 ·intro v hv
  obtain⟨x,y,hx,hy,rfl⟩:∃x y,x∈r∧y∈z∧x+y=v:=by
   obtain⟨i,hi⟩:=List.getElem?_of_mem hv
   rw[List.getElem?_zipWith]at hi
   cases h1:r[i]? with
   |none=>rw[h1]at hi;simp at hi
   |some x =>
    cases h2:z[i]? with
    |none=>rw[h1,h2]at hi;simp at hi
    |some y =>
     rw[h1,h2]at hi
     simp at hi
     exact⟨x,y,List.mem_of_getElem? h1,List.mem_of_getElem? h2,hi⟩
  have h1:=h.rb x hx
  have h2:=hzb y hy
  omega
theorem write2 {k:Nat} {l:List Lin} {z:List Int} (h:Books k b r) (hk:k≤1000) (hS:Small l) (hs:(amts l).sum=0) (hz:z.length=11) (hzb:∀v∈z,-200000≤v∧v≤200000) :
  postG (twoS m L0 L1 b r rc sa d) 0 l=(twoS m L0 L1 (adds b l) r rc sa d,0)∧turnT (twoS m L0 L1 (adds b l) r rc sa d) 0 0 z=(twoS m L0 L1 (adds b l) (List.zipWith (·+·) r z) rc sa d,0):=by
 constructor
 ·exact postG_small (S:=twoS m L0 L1 b r rc sa d) (e:=0) h.bl (fun j hj=>by have:=h.bb j hj;show _≤b.getD j 0∧b.getD j 0≤_;omega) hS hs
 ·exact turnT_small (S:=twoS m L0 L1 (adds b l) r rc sa d) (e:=0) (item:=0) (h.rl.trans hz.symm) (fun v hv=>by have:=h.rb v hv;omega) (fun v hv=>by have:=hzb v hv;omega)
end
end Go.Proofs.YtnalblnmplnhmaaGreat
