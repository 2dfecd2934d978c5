/-
 Pools, in plain data: what comes in, what goes out, what waits, by each method. (Out of the older texts by wip/mk_poold.py.) No program in sight.
-/
import Derived.Test.YtjccjmmbebiegaaFifoH
import Derived.Test.YtjccjmmbebiegaaSt3
set_option linter.unusedVariables false
set_option linter.unusedSimpArgs false
namespace Go.Proofs.Ytjccjmmbebiegaa
open Go.RowKit
def fitsR (r:Int):Bool:=decide (0≤r)&&decide (r≤1073741824)
def ofV (r q:Int):Int:=mdQ (max q 0) r 1
def ofE (r q:Int):Int:=mdE (max q 0) r 1
theorem fitsR_iff {r:Int}:fitsR r=true↔0≤r∧r≤1073741824:=by simp[fitsR]
theorem of_ok {r q:Int} (hr:fitsR r=true) (hq:0≤q) (h:q*r≤288230376151711744):ofV r q=q*r∧ofE r q=0:=by
 have hr:=fitsR_iff.1 hr
 have e:max q 0=q:=by omega
 simp only[ofV,ofE,mdQ,mdE,e,Int.ediv_one]
 rw[if_neg (by omega),if_neg (by omega),if_neg (by omega),if_neg (by omega)]
 exact⟨rfl,rfl⟩
theorem of_bd {r q:Int} (hr:fitsR r=true):0≤ofV r q∧ofV r q≤288230376151711744∧(ofE r q=0∨ofE r q=2):=by
 have hr:=fitsR_iff.1 hr
 have:=Int.mul_nonneg (show 0≤max q 0 by omega) hr.1
 simp only[ofV,ofE,mdQ,mdE,Int.ediv_one]
 have hneg:¬ (max q 0<0∨r<0∨(1:Int)<1):=by omega
 simp only[if_neg hneg]
 by_cases h:max q 0*r > 288230376151711744
 ·simp only[if_pos h];exact⟨by omega,by omega,.inr trivial⟩
 ·simp only[if_neg h];exact⟨this,by omega,.inl trivial⟩
def inC (l:List Lay) (x:Lay) (c:Int):List Lay×Int×Int :=
 if fitsR c=false∨x.q<1∨x.v<0 then(l,0,1)else if ofE c x.q≠0∨288230376151711744<x.v then(l,0,2)else
  if(inM l ⟨x.q,ofV c x.q,x.p⟩).2=0 then((inM l ⟨x.q,ofV c x.q,x.p⟩).1,x.v-ofV c x.q,0)else(l,0,(inM l ⟨x.q,ofV c x.q,x.p⟩).2)
def outC (l:List Lay) (q c:Int):List Lay×Lay×Int :=
 if fitsR c=false then(l,.zero,1)else match outS l q with
  |([],y,e)=>([],y,e)
  |(z::t,y,e)=>if e≠0 then(z::t,y,e)else
   let v:=if ofE c q≠0∨z.v+y.v<ofV c q then z.v+y.v else ofV c q
   (⟨z.q,z.v+(y.v-v),z.p⟩::t,⟨y.q,v,y.p⟩,0)
theorem outS_sum {l m:List Lay} {y:Lay} {q:Int} (h:LR l) (hO:outS l q=(m,y,0)):0≤y.v∧y.v≤288230376151711744∧y.v+vs m=vs l:=by
 by_cases h1:q<1
 ·rw[outS,if_pos h1]at hO;cases hO
 by_cases h2:q≤qs l
 ·rw[outS_ok h (by omega) h2]at hO
  have s:=(outL_sum l .zero q h (by omega) h2).2.2.1
  have t:=outL_LR l .zero q h
  generalize outL l .zero q=r at *
  cases hO
  have a:=qs_pos t.1.ok
  have b:=h.v
  simp[Lay.zero]at s
  have:=t.2.2.1
  omega
 ·rw[outS_short h (by omega) (by omega)]at hO;cases hO
structure Pnd where
 a:Int
 b:Int
 c:Int
structure PndOk (d:Pnd):Prop where
 a0:0≤d.a
 b0:0≤d.b
 c0:0≤d.c
 a1:d.a≤288230376151711744
 b1:d.b≤288230376151711744
 c1:d.c≤288230376151711744
def freeP (l:List Lay) (d:Pnd):Int:=qs l-d.a-d.b-d.c
theorem qs_take_bd {l:List Lay} (h:LR l) (j:Nat):0≤qs (l.take j)∧qs (l.take j)≤288230376151711744:=by
 have h1:=qs_pos (l:=l.take j) fun x hx=>h.ok x (List.mem_of_mem_take hx)
 have h2:=qs_pos (l:=l.drop j) fun x hx=>h.ok x (List.mem_of_mem_drop hx)
 have h3:qs (l.take j)+qs (l.drop j)=qs l:=by rw[←qs_append,List.take_append_drop]
 have:=h.q
 omega
theorem LR.all {l:List Lay} (h:LR l):AllI (flat l):=by
 intro z hz
 obtain⟨x,hx,hz⟩:=List.mem_flatMap.1 hz
 have:=h.at_ hx
 simp at hz
 rcases hz with rfl|rfl|rfl
 ·exact⟨by omega,by omega⟩
 ·exact⟨by omega,by omega⟩
 ·exact⟨by omega,by omega⟩
def Pnd.get (d:Pnd) (k:Int):Int:=if k=0 then d.a else if k=1 then d.b else d.c
def Pnd.add (d:Pnd) (k q:Int):Pnd:=if k=0 then⟨d.a+q,d.b,d.c⟩else if k=1 then⟨d.a,d.b+q,d.c⟩else⟨d.a,d.b,d.c+q⟩
def waitS (l:List Lay) (d:Pnd) (k q:Int):Pnd×Int:=if k<0∨3≤k∨q<1 then(d,1)else if freeP l d<q then(d,5)else(d.add k q,0)
def outP (l:List Lay) (d:Pnd) (q:Int):List Lay×Lay×Int:=if q<1 then(l,.zero,1)else if freeP l d<q then(l,.zero,5)else outS l q
theorem PndOk.zero:PndOk ⟨0,0,0⟩:=⟨by simp,by simp,by simp,by simp,by simp,by simp⟩
theorem inC_LR {l:List Lay} {x:Lay} {c:Int} (h:LR l):LR (inC l x c).1:=by
 unfold inC
 split
 ·exact h
 ·split
  ·exact h
  ·split
   ·exact inM_LR h
   ·exact h
theorem outC_LR {l:List Lay} {q c:Int} (h:LR l):LR (outC l q c).1:=by
 unfold outC
 split
 ·exact h
 ·have hm:=outS_LR (q:=q) h
  split
  ·exact LR.nil
  ·rename_i z t y e hO
   rw[hO]at hm
   split
   ·exact hm
   ·rename_i he
    have he0:e=0:=by simpa using he
    subst he0
    obtain⟨s1,s2,s3⟩:=outS_sum h hO
    have hz:=hm.at_ (x:=z) (by simp)
    have hvs:=h.v
    have hqv:=(qs_pos hm.tail.ok).2.1
    rw[vs_cons]at s3
    have key:∀v:Int,(0≤v∧v≤z.v+y.v)→LR (⟨z.q,z.v+(y.v-v),z.p⟩::t):=by
     intro v hv
     obtain⟨a,b,cq,dv,ep⟩:=hm
     refine⟨by simpa using a,fun x hx=>?_,?_,?_,?_⟩
     ·rcases List.mem_cons.1 hx with rfl|hx
      ·exact layOk_iff.2 ⟨by simp only;omega,by simp only;omega,by simp only;omega,by simp only;omega,by simp only;omega,by simp only;omega⟩
      ·exact b x (by simp[hx])
     ·rw[qs_cons]at cq ⊢;exact cq
     ·rw[vs_cons];simp only;omega
     ·rw[aps_cons]at ep ⊢;exact ep
    simp only
    apply key
    split
    ·omega
    ·rename_i hq
     have hfit:fitsR c=true:=by cases hf:fitsR c<;>simp_all
     have:=(of_bd (q:=q) hfit).1
     omega
theorem outP_LR {l:List Lay} {d:Pnd} {q:Int} (h:LR l):LR (outP l d q).1:=by
 unfold outP
 split
 ·exact h
 ·split
  ·exact h
  ·exact outS_LR h
def poolInS (m c:Int) (l:List Lay) (x:Lay):List Lay×Int×Int :=
 if m=1 then((inS l x).1,0,(inS l x).2)else if m=2 then((inM l x).1,0,(inM l x).2)else if m=3 then((inM l x).1,0,(inM l x).2)else if m=4 then inC l x c else(l,0,12)
theorem inM_no {l:List Lay} {x:Lay} (h:(inM l x).2≠0):(inM l x).1=l:=by
 unfold inM at h ⊢
 split
 ·rw[if_pos ‹_›]at h;exact absurd rfl h
 ·rfl
theorem inC_no {l:List Lay} {x:Lay} {c:Int} (h:(inC l x c).2.2≠0):(inC l x c).1=l∧(inC l x c).2.1=0:=by
 unfold inC at h ⊢
 split
 ·exact⟨rfl,rfl⟩
 ·rw[if_neg ‹_›]at h
  split
  ·exact⟨rfl,rfl⟩
  ·rw[if_neg ‹_›]at h
   split
   ·rw[if_pos ‹_›]at h;exact absurd rfl h
   ·exact⟨rfl,rfl⟩
theorem poolInS_no {m c:Int} {l:List Lay} {x:Lay} (h:(poolInS m c l x).2.2≠0):(poolInS m c l x).1=l∧(poolInS m c l x).2.1=0:=by
 unfold poolInS at h ⊢
 split
 ·rw[if_pos ‹_›]at h;exact⟨inS_no h,rfl⟩
 ·rw[if_neg ‹_›]at h
  split
  ·rw[if_pos ‹_›]at h;exact⟨inM_no h,rfl⟩
  ·rw[if_neg ‹_›]at h
   split
   ·rw[if_pos ‹_›]at h;exact⟨inM_no h,rfl⟩
   ·rw[if_neg ‹_›]at h
    split
    ·rw[if_pos ‹_›]at h;exact inC_no h
    ·exact⟨rfl,rfl⟩
theorem poolInS_LR {m c:Int} {l:List Lay} {x:Lay} (h:LR l):LR (poolInS m c l x).1:=by
 unfold poolInS
 split
 ·exact inS_LR h
 ·split
  ·exact inM_LR h
  ·split
   ·exact inM_LR h
   ·split
    ·exact inC_LR h
    ·exact h
theorem outS_no {l:List Lay} {q:Int} (h:(outS l q).2.2≠0):(outS l q).1=l∧(outS l q).2.1=.zero:=by
 unfold outS at h ⊢
 split
 ·exact⟨rfl,rfl⟩
 ·rw[if_neg ‹_›]at h
  split
  ·exact⟨rfl,rfl⟩
  ·rw[if_neg ‹_›]at h;exact absurd rfl h
theorem outP_no {l:List Lay} {d:Pnd} {q:Int} (h:(outP l d q).2.2≠0):(outP l d q).1=l∧(outP l d q).2.1=.zero:=by
 unfold outP at h ⊢
 split
 ·exact⟨rfl,rfl⟩
 ·rw[if_neg ‹_›]at h
  split
  ·exact⟨rfl,rfl⟩
  ·rw[if_neg ‹_›]at h;exact outS_no h
theorem outC_no {l:List Lay} {q c:Int} (h:(outC l q c).2.2≠0):(outC l q c).1=l∧(outC l q c).2.1=.zero:=by
 unfold outC at h ⊢
 split
 ·exact⟨rfl,rfl⟩
 ·rename_i hf
  rw[if_neg hf]at h
  split
  ·rename_i y e hO
   rw[hO]at h
   have:=outS_no (l:=l) (q:=q) (by rw[hO];exact h)
   rw[hO]at this
   exact this
  ·rename_i z t y e hO
   rw[hO]at h
   simp only at h ⊢
   split
   ·rename_i he
    have:=outS_no (l:=l) (q:=q) (by rw[hO];exact he)
    rw[hO]at this
    exact this
   ·rw[if_neg ‹_›]at h
    exact absurd rfl h
def methOut (m c:Int) (l:List Lay) (d:Pnd) (q:Int):List Lay×Lay×Int:=if m=3 then outP l d q else if m=4 then outC l q c else outS l q
def poolOutS (m c:Int) (l:List Lay) (d:Pnd) (kind q:Int):List Lay×Pnd×Lay×Bool×Int :=
 if m<1∨4<m then(l,d,.zero,false,12)else if kind<0∨3<kind then(l,d,.zero,false,1)
 else if m=3∧kind≠3 then(l,(waitS l d kind q).1,.zero,decide ((waitS l d kind q).2=0),(waitS l d kind q).2)
 else((methOut m c l d q).1,d,(methOut m c l d q).2.1,false,(methOut m c l d q).2.2)
theorem methOut_LR {m c:Int} {l:List Lay} {d:Pnd} {q:Int} (h:LR l):LR (methOut m c l d q).1:=by
 unfold methOut
 split
 ·exact outP_LR h
 ·split
  ·exact outC_LR h
  ·exact outS_LR h
theorem methOut_no {m c:Int} {l:List Lay} {d:Pnd} {q:Int} (h:(methOut m c l d q).2.2≠0):(methOut m c l d q).1=l∧(methOut m c l d q).2.1=.zero:=by
 unfold methOut at h ⊢
 split
 ·rw[if_pos ‹_›]at h;exact outP_no h
 ·rw[if_neg ‹_›]at h
  split
  ·rw[if_pos ‹_›]at h;exact outC_no h
  ·rw[if_neg ‹_›]at h;exact outS_no h
def pendGo (b:Bool) (left:Int):List Int→Bool
 |[]=>true
 |q::r=>if q<0∨left<q∨(0<q∧b=false)then false else pendGo b (left-q) r
def rightP (m:Int) (l:List Lay) (d:Pnd):Bool :=
 if m<1∨4<m∨rightL l=false∨(m≠1∧1<l.length)then false else pendGo (decide (m=3)) (tot l).q [d.a,d.b,d.c]
theorem poolOutS_LR {m c:Int} {l:List Lay} {d:Pnd} {kind q:Int} (h:LR l):LR (poolOutS m c l d kind q).1:=by
 unfold poolOutS
 split
 ·exact h
 ·split
  ·exact h
  ·split
   ·exact h
   ·exact methOut_LR h
end Go.Proofs.Ytjccjmmbebiegaa
