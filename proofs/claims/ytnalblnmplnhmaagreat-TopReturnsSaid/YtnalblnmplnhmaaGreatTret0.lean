/-
 TopReturns: goods sold, goods that come back, on a state of one entity: plain data. No program in sight.
-/
import Derived.Test.YtnalblnmplnhmaaGreatUniB
set_option linter.unusedVariables false
set_option linter.unusedSimpArgs false
namespace Go.Proofs.YtnalblnmplnhmaaGreat
open Go.RowKit Mc
section
variable {m:Int} {L:List Lay} {b r:List Int} {rc:List RcD} {sa:List SaD} {d:Int}
theorem sell0 {k:Nat} {q:Int} (hm:1≤m∧m≤4) (h3:m≠3) (h:Two m L []) (hB:Books k b r) (hk:k≤1000) (h1:1≤q) (hq:q≤qs L) (hs:qs L≤1000) (hsa:sa.length≠40) :
  ∃L',Two m L' []∧qs L'=qs L-q∧L'.length≤L.length∧Books (k+1) (adds b [⟨3,3⟩,⟨4,-3⟩,⟨5,10*q⟩,⟨0,-(10*q)⟩]) (List.zipWith (·+·) r [0,0,0,0,0,10*q,0,0,0,0,0]) ∧
   sellT (twoS m L [] b r rc sa d) 0 0 0 q 3=(twoS m L' [] (adds b [⟨3,3⟩,⟨4,-3⟩,⟨5,10*q⟩,⟨0,-(10*q)⟩]) (List.zipWith (·+·) r [0,0,0,0,0,10*q,0,0,0,0,0]) rc (sa++[⟨0,0,0,q,0,10*q,0,1,false⟩]) (1+d),0):=by
 obtain⟨L',T,s,len,e⟩:=fetch0 (b:=b) (r:=r) (rc:=rc) (sa:=sa) (d:=d) hm h3 h h1 hq (by omega)
 have hS:Small [⟨3,3⟩,⟨4,-3⟩,⟨5,10*q⟩,⟨0,-(10*q)⟩]:=by
  refine⟨?_,by simp⟩
  intro x hx
  simp only[List.mem_cons,List.not_mem_nil,or_false]at hx
  rcases hx with rfl|rfl|rfl|rfl<;>simp only<;>omega
 have hz:∀v∈([0,0,0,0,0,10*q,0,0,0,0,0]:List Int),-200000≤v∧v≤200000:=by
  intro v hv
  simp only[List.mem_cons,List.not_mem_nil,or_false]at hv
  omega
 obtain⟨w1,w2⟩:=write2 (m:=m) (L0:=L') (L1:=[]) (rc:=rc) (sa:=sa) (d:=d) hB hk hS (by simp[amts];try omega) (z:=[0,0,0,0,0,10*q,0,0,0,0,0]) rfl hz
 refine⟨L',T,s,len,books_next hB (by simp[amts,absum];omega) rfl hz,?_⟩
 unfold sellT
 rw[if_neg (by simp[twoS,oneS,StD.ent]),if_neg (show ¬(twoS m L [] b r rc sa d).sales.length=40 from hsa),e]
 simp only
 rw[if_neg (by simp),w1]
 simp only
 rw[if_neg (by simp),w2]
 simp only
 rw[if_neg (by simp)]
 rfl
theorem back0 {k:Nat} {q:Int} {ref:Nat} (hm:1≤m∧m≤4) (h:Two m L []) (hn:L.length≤29) (hB:Books k b r) (hk:k≤1000) (h1:1≤q) (hq:q≤1000) (hs:qs L≤1000) (hsa:sa[ref]?=some ⟨0,0,0,q,0,10*q,0,1,false⟩) :
  ∃L',Two m L' []∧qs L'=qs L+q∧L'.length≤L.length+1∧Books (k+1) (adds b [⟨0,10*q⟩,⟨6,0⟩,⟨5,-(10*q)⟩,⟨4,3⟩,⟨3,-3⟩]) (List.zipWith (·+·) r [0,0,0,0,10*q,0,0,0,0,0,0]) ∧
   takeBackT (twoS m L [] b r rc sa d) ref q 3=(twoS m L' [] (adds b [⟨0,10*q⟩,⟨6,0⟩,⟨5,-(10*q)⟩,⟨4,3⟩,⟨3,-3⟩]) (List.zipWith (·+·) r [0,0,0,0,10*q,0,0,0,0,0,0]) rc (sa.set ref ⟨0,0,0,q,q,0,0,1,false⟩) (1+d),0):=by
 obtain⟨L',T,s,len,e⟩:=bring0 (b:=b) (r:=r) (rc:=rc) (sa:=sa) (d:=d) (q:=q) hm h hn ⟨h1,by omega⟩ (by omega)
 have hS:Small [⟨0,10*q⟩,⟨6,0⟩,⟨5,-(10*q)⟩,⟨4,3⟩,⟨3,-3⟩]:=by
  refine⟨?_,by simp⟩
  intro x hx
  simp only[List.mem_cons,List.not_mem_nil,or_false]at hx
  rcases hx with rfl|rfl|rfl|rfl|rfl<;>simp only<;>omega
 have hz:∀v∈([0,0,0,0,10*q,0,0,0,0,0,0]:List Int),-200000≤v∧v≤200000:=by
  intro v hv
  simp only[List.mem_cons,List.not_mem_nil,or_false]at hv
  omega
 obtain⟨w1,w2⟩:=write2 (m:=m) (L0:=L') (L1:=[]) (rc:=rc) (sa:=sa) (d:=d) hB hk hS (by simp[amts];try omega) (z:=[0,0,0,0,10*q,0,0,0,0,0,0]) rfl hz
 have p1:partS (10*q) q (q-0)=10*q:=by
  rw[partS,if_neg (by have:inB (10*q)=true:=inB_iff.2 ⟨by omega,by omega⟩;rw[this];simp;omega),if_neg (by omega),Int.sub_zero,Int.mul_ediv_cancel _ (by omega)]
 have p2:partS 0 q (q-0)=0:=by
  rw[partS];split
  ·rfl
  ·simp
 refine⟨L',T,s,len,books_next hB (by simp[amts,absum];omega) rfl hz,?_⟩
 unfold takeBackT
 rw[show(twoS m L [] b r rc sa d).sales[((ref:Nat):Int).toNat]?=some ⟨0,0,0,q,0,10*q,0,1,false⟩from hsa]
 simp only
 rw[if_neg (by simp[twoS,oneS,StD.ent]),if_neg (by omega),if_neg (by simp)]
 unfold backT
 simp only[p1,p2,e]
 rw[if_neg (by simp),w1]
 simp only
 rw[if_neg (by simp),w2]
 simp only
 rw[if_neg (by simp)]
 simp only[Int.sub_self,Int.add_zero,Int.sub_zero]
 rfl
abbrev penS (L:List Lay) (p:Int) (b r:List Int) (rc:List RcD) (sa:List SaD) (d:Int):StD:=oneS 3 10 [⟨L,p,0,0⟩,⟨[],0,0,0⟩] b r rc sa d
theorem write3 {k:Nat} {p:Int} {l:List Lin} {z:List Int} (h:Books k b r) (hk:k≤1000) (hS:Small l) (hs:(amts l).sum=0) (hz:z.length=11) (hzb:∀v∈z,-200000≤v∧v≤200000) :
  postG (penS L p b r rc sa d) 0 l=(penS L p (adds b l) r rc sa d,0)∧turnT (penS L p (adds b l) r rc sa d) 0 0 z=(penS L p (adds b l) (List.zipWith (·+·) r z) rc sa d,0):=by
 constructor
 ·exact postG_small (S:=penS L p b r rc sa d) (e:=0) h.bl (fun j hj=>by have:=h.bb j hj;show _≤b.getD j 0∧b.getD j 0≤_;omega) hS hs
 ·exact turnT_small (S:=penS L p (adds b l) r rc sa d) (e:=0) (item:=0) (h.rl.trans hz.symm) (fun v hv=>by have:=h.rb v hv;omega) (fun v hv=>by have:=hzb v hv;omega)
theorem sell3 {k:Nat} {q:Int} (hB:Books k b r) (hk:k≤1000) (h1:1≤q) (hq:q≤qs L) (hsa:sa.length≠40) :
  Books (k+1) (adds b [⟨3,3⟩,⟨4,-3⟩,⟨5,0⟩,⟨0,0⟩]) (List.zipWith (·+·) r [0,0,0,0,0,0,0,0,0,0,0]) ∧
   sellT (penS L 0 b r rc sa d) 0 0 0 q 3=(penS L q (adds b [⟨3,3⟩,⟨4,-3⟩,⟨5,0⟩,⟨0,0⟩]) (List.zipWith (·+·) r [0,0,0,0,0,0,0,0,0,0,0]) rc (sa++[⟨0,0,0,q,0,0,0,1,true⟩]) (1+d),0):=by
 have hS:Small [⟨3,3⟩,⟨4,-3⟩,⟨5,0⟩,⟨0,0⟩]:=by
  refine⟨?_,by simp⟩
  intro x hx
  simp only[List.mem_cons,List.not_mem_nil,or_false]at hx
  rcases hx with rfl|rfl|rfl|rfl<;>simp only<;>omega
 have hz:∀v∈([0,0,0,0,0,0,0,0,0,0,0]:List Int),-200000≤v∧v≤200000:=by
  intro v hv
  simp only[List.mem_cons,List.not_mem_nil,or_false]at hv
  omega
 obtain⟨w1,w2⟩:=write3 (L:=L) (p:=q) (rc:=rc) (sa:=sa) (d:=d) hB hk hS (by simp[amts]) (z:=[0,0,0,0,0,0,0,0,0,0,0]) rfl hz
 refine⟨books_next hB (by simp[amts,absum];omega) rfl hz,?_⟩
 have e:fetchT (penS L 0 b r rc sa d) 0 0 0 0 q=(penS L q b r rc sa d,⟨0,0,0⟩,true,0):=by
  have hw:waitS L ⟨0,0,0⟩ 0 q=(⟨q,0,0⟩,0):=by
   unfold waitS
   rw[if_neg (by omega),if_neg (by unfold freeP;simp only;omega)]
   simp[Pnd.add]
  have hO:poolOutS 3 10 L ⟨0,0,0⟩ 0 q=(L,⟨q,0,0⟩,.zero,true,0):=by
   unfold poolOutS
   rw[if_neg (by decide),if_neg (by decide),if_pos ⟨rfl,by decide⟩,hw]
   rfl
  unfold fetchT
  rw[show(penS L 0 b r rc sa d).meth 0 0=3 from rfl,show(penS L 0 b r rc sa d).cost 0 0=10 from rfl,show((penS L 0 b r rc sa d).ent 0).pool (2*0+0)=⟨L,0,0,0⟩from rfl,show(PoolD.pn ⟨L,0,0,0⟩)=⟨0,0,0⟩from rfl]
  rw[hO,if_neg (by simp)]
  rfl
 unfold sellT
 rw[if_neg (by simp[penS,oneS,StD.ent]),if_neg (show ¬(penS L 0 b r rc sa d).sales.length=40 from hsa),e]
 simp only[Int.neg_zero]
 rw[if_neg (by simp),w1]
 simp only
 rw[if_neg (by simp),w2]
 simp only
 rw[if_neg (by simp)]
 rfl
theorem zw0:∀(r:List Int) (n:Nat),r.length=n→List.zipWith (·+·) r (List.replicate n 0)=r
 |[],_,h=>by simp
 |x::r,n+1,h=>by
  rw[List.replicate_succ,List.zipWith_cons_cons,zw0 r n (by simpa using h),Int.add_zero]
theorem back3 {k:Nat} {q:Int} {ref:Nat} (hB:Books k b r) (hk:k≤1000) (h1:1≤q) (hsa:sa[ref]?=some ⟨0,0,0,q,0,0,0,1,true⟩) :
  Books (k+1) (adds b [⟨4,3⟩,⟨3,-3⟩]) r ∧
   takeBackT (penS L q b r rc sa d) ref q 3=(penS L 0 (adds b [⟨4,3⟩,⟨3,-3⟩]) r rc (sa.set ref ⟨0,0,0,q,q,0,0,1,true⟩) (1+d),0):=by
 have hS:Small [⟨4,3⟩,⟨3,-3⟩]:=by
  refine⟨?_,by simp⟩
  intro x hx
  simp only[List.mem_cons,List.not_mem_nil,or_false]at hx
  rcases hx with rfl|rfl<;>simp only<;>omega
 have hz:∀v∈(List.replicate 11 0:List Int),-200000≤v∧v≤200000:=by
  intro v hv
  rw[List.eq_of_mem_replicate hv];decide
 have w1:=(write3 (L:=L) (p:=q) (rc:=rc) (sa:=sa) (d:=d) hB hk hS (by simp[amts]) (z:=List.replicate 11 0) rfl hz).1
 have hb2:=books_next hB (l:=[⟨4,3⟩,⟨3,-3⟩]) (by simp[amts,absum];omega) (z:=List.replicate 11 0) rfl hz
 have hrr:List.zipWith (·+·) r (List.replicate 11 0)=r:=zw0 r 11 hB.rl
 rw[hrr]at hb2
 refine⟨hb2,?_⟩
 unfold takeBackT
 rw[show(penS L q b r rc sa d).sales[((ref:Nat):Int).toNat]?=some ⟨0,0,0,q,0,0,0,1,true⟩from hsa]
 simp only
 rw[if_neg (by simp[penS,oneS,StD.ent]),if_neg (by omega),if_pos ⟨trivial,by simp[penS,oneS,StD.ent]⟩]
 unfold unsellT
 rw[show((penS L q b r rc sa d).ent 0).pool (2*0+0)=⟨L,q,0,0⟩from rfl]
 simp only
 rw[if_neg (by omega),w1]
 simp only
 rw[if_neg (by simp)]
 simp only[Int.sub_self,Int.add_zero]
 rfl
end
end Go.Proofs.YtnalblnmplnhmaaGreat
