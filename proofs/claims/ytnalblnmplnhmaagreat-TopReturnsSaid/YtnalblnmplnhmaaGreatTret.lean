/-
 TopReturns: what is kept from pair to pair of a sale and its return; the steps' contracts; the law.
-/
import Derived.Test.YtnalblnmplnhmaaGreatTret0
import Derived.Test.YtnalblnmplnhmaaGreatRet
import Derived.Test.YtnalblnmplnhmaaGreatGopR
import Derived.Test.YtnalblnmplnhmaaGreatPcheck2
set_option linter.unusedVariables false
set_option linter.unusedSimpArgs false
namespace Go.Proofs.YtnalblnmplnhmaaGreat
open Go.RowKit Mc
namespace Rt
theorem pen_ok {L:List Lay} {p:Int} {b r:List Int} {rc:List RcD} {sa:List SaD} {d:Int} (h:PoolOk 3 L ⟨p,0,0⟩) (h':PoolOk 3 [] ⟨0,0,0⟩) (hb:b.length=17) (hB:∀v∈b,B58 v) (hr:r.length=11) (hR:∀v∈r,B58 v):StOk (penS L p b r rc sa d):=by
 have E:EntOk 1 [3] ((penS L p b r rc sa d).ent 0).toEntC:=by
  refine⟨rfl,?_,hb,hB,rfl,?_,rfl,?_,rfl,?_,⟨show(1:Int)≤1 by decide,show(1:Int)≤12 by decide⟩⟩
  ·intro k p hp
   match k,hp with
   |0,hp=>cases hp;exact h
   |1,hp=>cases hp;exact h'
   |k+2,hp=>exact absurd hp (by simp[penS,oneS,StD.ent])
  ·intro x hx
   have:x=r:=by simpa[penS,oneS,StD.ent]using hx
   subst this
   exact⟨hr,hR⟩
  ·intro v hv
   have:v=-1:=by simpa[penS,oneS,StD.ent]using hv
   subst this
   exact⟨by decide,by decide⟩
  ·intro v hv
   have:v=0:=by simpa[penS,oneS,StD.ent]using hv
   subst this
   exact⟨by decide,by decide⟩
 have O:=two_ok (m:=3) (L0:=[]) (L1:=[]) (b:=b) (r:=r) (rc:=rc) (sa:=sa) (d:=d) (by decide) ⟨h',h',uni_nil,uni_nil⟩ hb hB hr hR
 refine{ O with ent:=?_,ahead:=?_ }
 ·intro e x hx
  match e,hx with
  |0,hx=>cases hx;exact E
  |e+1,hx=>simp[penS,oneS]at hx
 ·intro x hx e he y hy
  have:x=(penS L p b r rc sa d).ent 0:=by simpa[penS,oneS,StD.ent]using hx
  subst this
  simp[penS,oneS,StD.ent]at hy
structure KR (m n:Int) (i:Nat) (s:RD):Prop where
 L:∃L,s.P=[⟨L,0,0,0⟩,⟨[],0,0,0⟩]∧Two m L []∧qs L=n∧L.length≤i+1
 bk:Books (2*i+1) s.b s.r
 b0:s.b.getD 0 0=10*n
 b3:s.b.getD 3 0=0
 b4:s.b.getD 4 0=0
 b5:s.b.getD 5 0=0
 rc:s.rc=[⟨0,0,0,n,10*n,n,10*n,0⟩]
 sal:s.sa.length=i
 sab:∀x∈s.sa,x.entity=0∧x.item=0∧x.loc=0∧(1≤x.qty∧x.qty≤100)∧(0≤x.back∧x.back≤x.qty)∧(0≤x.cost∧x.cost≤1000)∧x.profit=0∧x.period=1
 hd:s.d=1+2*i
theorem gen_of {S:StD} (O:StOk S) {n:Int} {i:Nat} (hn:1≤n∧n≤100) (hi:i≤13) (h1:S.ents.length=1) (h2:S.weights.length=1) (hr:S.receipts=[⟨0,0,0,n,10*n,n,10*n,0⟩]) (ht:S.transits=[]) (hl:S.sales.length≤i)
  (hs:∀x∈S.sales,x.entity=0∧x.item=0∧x.loc=0∧(1≤x.qty∧x.qty≤100)∧(0≤x.back∧x.back≤x.qty)∧(0≤x.cost∧x.cost≤1000)∧x.profit=0∧x.period=1) (hd:0≤S.done):Gen S:=by
 refine{ toStOk:=O,rcl:=by rw[hr];simp,sal:=by omega,trl:=by rw[ht];simp,rcb:=?_,sab:=?_,trb:=?_,d0:=hd }
 ·intro x hx
  rw[hr,List.mem_singleton]at hx
  subst hx
  rw[h1,h2]
  simp only
  omega
 ·intro x hx
  obtain⟨a,b,c,e,f,g,h,j⟩:=hs x hx
  rw[h1,h2,a,b,c,h,j]
  refine⟨by omega,by omega,by omega,by omega,f,⟨by omega,by omega⟩,⟨by decide,by decide⟩,by omega⟩
 ·intro x hx;rw[ht]at hx;exact absurd hx List.not_mem_nil
theorem nil_ok' (m:Int):PoolOk m [] ⟨0,0,0⟩:=⟨⟨by simp,fun x h=>absurd h List.not_mem_nil,by simp[qs],by simp[vs],by simp[aps,absum]⟩,.inr (by simp),by simp,by simp,by simp,by simp[qs],.inr ⟨rfl,rfl,rfl⟩⟩
theorem books0:Books 0 zeros17 zeros11:=by
 refine⟨by decide +kernel,?_,by decide +kernel,?_⟩
 ·intro j hj
  have:∀j:Fin 17,zeros17.getD j.1 0=0:=by decide +kernel
  rw[this ⟨j,hj⟩];omega
 ·intro v hv
  have:∀v∈zeros11,v=0:=by decide +kernel
  rw[this v hv];omega
theorem vnil' (a:Int):vtot [] a=0:=by simp[vtot]
theorem sab_snoc {sa:List SaD} {y:SaD} {Q:SaD→Prop} (h:∀x∈sa,Q x) (hy:Q y):∀x∈sa++[y],Q x:=fun x hx=>by
 rcases List.mem_append.1 hx with hx|hx
 ·exact h x hx
 ·rw[List.mem_singleton]at hx;subst hx;exact hy
theorem sab_set {sa:List SaD} {y:SaD} {k:Nat} {Q:SaD→Prop} (h:∀x∈sa,Q x) (hy:Q y):∀x∈sa.set k y,Q x:=fun x hx=>by
 rcases List.mem_or_eq_of_mem_set hx with hx|rfl
 ·exact h x hx
 ·exact hy
theorem pair {m n q:Int} {i:Nat} {s:RD} (hm:1≤m∧m≤4) (hn:1≤n∧n≤100) (hi:i<12) (hq:1≤q∧q≤n) (K:KR m n i s) :
  ∃s1 s2,Ck 11 [rA m s,opAv 4 0 0 0 0 q 3 0] (.tup [rA m s1,.i 0])∧Ck 11 [rA m s1,opAv 5 0 0 0 0 q 3 i] (.tup [rA m s2,.i 0])∧KR m n (i+1) s2:=by
 obtain⟨P,b,r,rc,sa,d⟩:=s
 obtain⟨⟨L,hP,T,hL,len⟩,B,b0,b3,b4,b5,hrc,sal,sab,hd⟩:=K
 simp only at hP B b0 b3 b4 b5 hrc sal sab hd
 subst hP hrc
 have hC1:Ck 19 [opAv 4 0 0 0 0 q 3 0] (.c (.bool true)):=Check_sell (e:=0) (item:=0) (by omega) (by omega) (by omega) (by omega) (by omega)
 have hC2:Ck 19 [opAv 5 0 0 0 0 q 3 i] (.c (.bool true)):=Check_takeBack (by omega) (by omega) (by omega)
 by_cases h3:m=3
 ·subst h3
  have G1:=gen_of (i:=13) (two_ok (rc:=[⟨0,0,0,n,10*n,n,10*n,0⟩]) (sa:=sa) (d:=d) hm T B.bl (B.B (by omega)) B.rl (B.R (by omega))) hn (by omega) rfl rfl rfl rfl (show sa.length≤13 by omega) sab (show 0≤d by omega)
  have C1:=ck_sellZ (q:=q) (a:=3) (loc:=0) G1 (show d≤1000000 by omega) two_ix (by omega) (by omega) (by omega) hC1
  obtain⟨B1,e1⟩:=sell3 (L:=L) (rc:=[⟨0,0,0,n,10*n,n,10*n,0⟩]) (d:=d) (sa:=sa) (q:=q) B (by omega) hq.1 (by omega) (by omega)
  replace C1:=C1 (by rw[e1])
  rw[e1]at C1
  have sab1:=sab_snoc (y:=⟨0,0,0,q,0,0,0,1,true⟩) sab ⟨rfl,rfl,rfl,by simp only;omega,by simp only;omega,by simp only;omega,rfl,rfl⟩
  have hP:PoolOk 3 L ⟨q,0,0⟩:=⟨T.p0.lr,T.p0.one,by simp only;omega,by simp,by simp,by simp only;omega,.inl rfl⟩
  have G2:=gen_of (i:=13) (pen_ok (rc:=[⟨0,0,0,n,10*n,n,10*n,0⟩]) (sa:=sa++[(⟨0,0,0,q,0,0,0,1,true⟩:SaD)]) (d:=1+d) hP T.p1 B1.bl (B1.B (by omega)) B1.rl (B1.R (by omega))) hn (by omega) rfl rfl rfl rfl (by show(sa++[_]).length≤13;rw[List.length_append];simp only[List.length_singleton];omega) sab1 (show 0≤1+d by omega)
  have C2:=ck_takeBackZ (q:=q) (a:=3) (ref:=i) G2 (show 1+d≤1000000 by omega) (by omega) (by omega) (by omega) (fun x hx=>by
   obtain⟨h0,-,-,-,-,-,-,hp⟩:=sab1 x hx
   rw[h0,hp];rfl) hC2
  obtain⟨B2,e2⟩:=back3 (L:=L) (rc:=[⟨0,0,0,n,10*n,n,10*n,0⟩]) (d:=1+d) (sa:=sa++[(⟨0,0,0,q,0,0,0,1,true⟩:SaD)]) (q:=q) (ref:=i) B1 (by omega) hq.1 (by rw[←sal];simp)
  replace C2:=C2 (by rw[e2])
  rw[e2]at C2
  refine⟨⟨[⟨L,q,0,0⟩,⟨[],0,0,0⟩],_,_,[⟨0,0,0,n,10*n,n,10*n,0⟩],_,_⟩,⟨[⟨L,0,0,0⟩,⟨[],0,0,0⟩],_,_,[⟨0,0,0,n,10*n,n,10*n,0⟩],_,_⟩,C1,C2,⟨⟨L,rfl,T,by omega,by omega⟩,by rw[show 2*(i+1)+1=2*i+1+1+1 by omega];exact B2,?_,?_,?_,?_,rfl,?_,sab_set sab1 ⟨rfl,rfl,rfl,by simp only;omega,by simp only;omega,by simp only;omega,rfl,rfl⟩,?_⟩⟩
  ·rw[adds_get _ _ (by omega),adds_get _ _ (by omega),b0];simp[vtot_cons,vnil']
  ·rw[adds_get _ _ (by omega),adds_get _ _ (by omega),b3];simp[vtot_cons,vnil']
  ·rw[adds_get _ _ (by omega),adds_get _ _ (by omega),b4];simp[vtot_cons,vnil']
  ·rw[adds_get _ _ (by omega),adds_get _ _ (by omega),b5];simp[vtot_cons,vnil']
  ·show((sa++[_]).set i _).length=i+1;simp[sal]
  ·show 1+(1+d)=1+2*((i+1:Nat):Int);omega
 ·have G1:=gen_of (i:=13) (two_ok (rc:=[⟨0,0,0,n,10*n,n,10*n,0⟩]) (sa:=sa) (d:=d) hm T B.bl (B.B (by omega)) B.rl (B.R (by omega))) hn (by omega) rfl rfl rfl rfl (show sa.length≤13 by omega) sab (show 0≤d by omega)
  have C1:=ck_sellZ (q:=q) (a:=3) (loc:=0) G1 (show d≤1000000 by omega) two_ix (by omega) (by omega) (by omega) hC1
  obtain⟨L1,T1,s1,len1,B1,e1⟩:=sell0 (rc:=[⟨0,0,0,n,10*n,n,10*n,0⟩]) (d:=d) (sa:=sa) (q:=q) hm h3 T B (by omega) hq.1 (by omega) (by omega) (by omega)
  replace C1:=C1 (by rw[e1])
  rw[e1]at C1
  have sab1:=sab_snoc (y:=⟨0,0,0,q,0,10*q,0,1,false⟩) sab ⟨rfl,rfl,rfl,by simp only;omega,by simp only;omega,by simp only;omega,rfl,rfl⟩
  have G2:=gen_of (i:=13) (two_ok (rc:=[⟨0,0,0,n,10*n,n,10*n,0⟩]) (sa:=sa++[(⟨0,0,0,q,0,10*q,0,1,false⟩:SaD)]) (d:=1+d) hm T1 B1.bl (B1.B (by omega)) B1.rl (B1.R (by omega))) hn (by omega) rfl rfl rfl rfl (by show(sa++[_]).length≤13;rw[List.length_append];simp only[List.length_singleton];omega) sab1 (show 0≤1+d by omega)
  have C2:=ck_takeBackZ (q:=q) (a:=3) (ref:=i) G2 (show 1+d≤1000000 by omega) (by omega) (by omega) (by omega) (fun x hx=>by
   obtain⟨h0,-,-,-,-,-,-,hp⟩:=sab1 x hx
   rw[h0,hp];rfl) hC2
  obtain⟨L2,T2,s2,len2,B2,e2⟩:=back0 (rc:=[⟨0,0,0,n,10*n,n,10*n,0⟩]) (d:=1+d) (sa:=sa++[(⟨0,0,0,q,0,10*q,0,1,false⟩:SaD)]) (q:=q) (ref:=i) hm T1 (by omega) B1 (by omega) hq.1 (by omega) (by omega) (by rw[←sal];simp)
  replace C2:=C2 (by rw[e2])
  rw[e2]at C2
  refine⟨⟨[⟨L1,0,0,0⟩,⟨[],0,0,0⟩],_,_,[⟨0,0,0,n,10*n,n,10*n,0⟩],_,_⟩,⟨[⟨L2,0,0,0⟩,⟨[],0,0,0⟩],_,_,[⟨0,0,0,n,10*n,n,10*n,0⟩],_,_⟩,C1,C2,⟨⟨L2,rfl,T2,by omega,by omega⟩,by rw[show 2*(i+1)+1=2*i+1+1+1 by omega];exact B2,?_,?_,?_,?_,rfl,?_,sab_set sab1 ⟨rfl,rfl,rfl,by simp only;omega,by simp only;omega,by simp only;omega,rfl,rfl⟩,?_⟩⟩
  ·rw[adds_get _ _ (by omega),adds_get _ _ (by omega),b0];simp[vtot_cons,vnil'];try omega
  ·rw[adds_get _ _ (by omega),adds_get _ _ (by omega),b3];simp[vtot_cons,vnil']
  ·rw[adds_get _ _ (by omega),adds_get _ _ (by omega),b4];simp[vtot_cons,vnil']
  ·rw[adds_get _ _ (by omega),adds_get _ _ (by omega),b5];simp[vtot_cons,vnil'];try omega
  ·show((sa++[_]).set i _).length=i+1;simp[sal]
  ·show 1+(1+d)=1+2*((i+1:Nat):Int);omega
theorem first {m n:Int} (hm:1≤m∧m≤4) (hn:1≤n∧n≤100):∃s,Ck 11 [oneA m 10 [⟨[],0,0,0⟩,⟨[],0,0,0⟩] (intsR zeros17) zeros11 [] [] 0,opAv 1 0 0 0 0 n (10*n) 0] (.tup [rA m s,.i 0])∧KR m n 0 s:=by
 have T0:Two m [] []:=⟨nil_ok' m,nil_ok' m,uni_nil,uni_nil⟩
 have B0:Books 0 zeros17 zeros11:=books0
 have hC:Ck 19 [opAv 1 0 0 0 0 n (10*n) 0] (.c (.bool true)):=Check_receive (e:=0) (item:=0) (by omega) (by omega) (by omega) (by omega) (by omega)
 have O:=two_ok (rc:=[]) (sa:=[]) (d:=0) hm T0 B0.bl (B0.B (by omega)) B0.rl (B0.R (by omega))
 have G:Gen (twoS m [] [] zeros17 zeros11 [] [] 0):={ toStOk:=O,rcl:=by simp[twoS,oneS],sal:=by simp[twoS,oneS],trl:=by simp[twoS,oneS],rcb:=fun x h=>absurd h List.not_mem_nil,sab:=fun x h=>absurd h List.not_mem_nil,trb:=fun x h=>absurd h List.not_mem_nil,d0:=Int.le_refl 0 }
 have C:=ck_receiveZ (q:=n) (a:=10*n) (loc:=0) G (show(0:Int)≤1000000 by decide) two_ix (by omega) (by omega) (by omega) hC
 obtain⟨L',T,s,len,e⟩:=bring0 (b:=zeros17) (r:=zeros11) (rc:=[]) (sa:=[]) (d:=0) (q:=n) hm T0 (by simp) ⟨by omega,by omega⟩ (by simp[qs])
 have hS:Small [⟨0,10*n⟩,⟨6,0⟩,⟨1,-(10*n)⟩]:=by
  refine⟨?_,by simp⟩
  intro x hx
  simp only[List.mem_cons,List.not_mem_nil,or_false]at hx
  rcases hx with rfl|rfl|rfl<;>simp only<;>omega
 have hz:∀v∈([0,10*n,0,0,0,0,0,0,0,0,0]:List Int),-200000≤v∧v≤200000:=by
  intro v hv
  simp only[List.mem_cons,List.not_mem_nil,or_false]at hv
  omega
 obtain⟨w1,w2⟩:=write2 (m:=m) (L0:=L') (L1:=[]) (rc:=[]) (sa:=[]) (d:=0) B0 (by omega) hS (by simp[amts];try omega) (z:=[0,10*n,0,0,0,0,0,0,0,0,0]) rfl hz
 have hT:receiveT (twoS m [] [] zeros17 zeros11 [] [] 0) 0 0 0 n (10*n)=(twoS m L' [] (adds zeros17 [⟨0,10*n⟩,⟨6,0⟩,⟨1,-(10*n)⟩]) (List.zipWith (·+·) zeros11 [0,10*n,0,0,0,0,0,0,0,0,0]) [⟨0,0,0,n,10*n,n,10*n,0⟩] [] (1+0),0):=by
  unfold receiveT
  rw[if_neg (by simp[twoS,oneS,StD.ent]),if_neg (by simp[twoS,oneS]),e]
  simp only
  rw[if_neg (by simp),w1]
  simp only
  rw[if_neg (by simp),w2]
  simp only
  rw[if_neg (by simp)]
  rfl
 replace C:=C (by rw[hT])
 rw[hT]at C
 have hq:qs []=0:=by simp[qs]
 have z (j:Fin 17):zeros17.getD j.1 0=0:=by revert j;decide +kernel
 refine⟨⟨[⟨L',0,0,0⟩,⟨[],0,0,0⟩],_,_,_,[],_⟩,C,⟨⟨L',rfl,T,by omega,by simpa using len⟩,books_next B0 (by simp[amts,absum];omega) rfl hz,?_,?_,?_,?_,rfl,rfl,fun x h=>absurd h List.not_mem_nil,rfl⟩⟩
 ·rw[adds_get _ _ (by decide +kernel),show zeros17.getD 0 0=0 from z 0];simp[vtot_cons,vnil']
 ·rw[adds_get _ _ (by decide +kernel),show zeros17.getD 3 0=0 from z 3];simp[vtot_cons,vnil']
 ·rw[adds_get _ _ (by decide +kernel),show zeros17.getD 4 0=0 from z 4];simp[vtot_cons,vnil']
 ·rw[adds_get _ _ (by decide +kernel),show zeros17.getD 5 0=0 from z 5];simp[vtot_cons,vnil']
theorem chain {m n:Int} {k:Nat→Int} (hm:1≤m∧m≤4) (hn:1≤n∧n≤100) {s:RD} (K:KR m n 0 s):∀(L:Nat),L≤12→(∀i,i<L→0≤k i∧k i<n)→∃S:Nat→RD,S 0=s∧KR m n L (S (2*L)) ∧
  (∀i,i<L→Ck 11 [rA m (S (2*i)),opAv 4 0 0 0 0 (1+k i) 3 0] (.tup [rA m (S (2*i+1)),.i 0])) ∧
  (∀i:Nat,i<L→Ck 11 [rA m (S (2*i+1)),opAv 5 0 0 0 0 (1+k i) 3 i] (.tup [rA m (S (2*i+2)),.i 0]))
 |0,_,_=>⟨fun _=>s,rfl,K,fun i h=>absurd h (by omega),fun i h=>absurd h (by omega)⟩
 |L+1,hL,hk=>by
  obtain⟨S,h0,KL,h1,h2⟩:=chain hm hn K L (by omega) fun i hi=>hk i (by omega)
  have hkl:=hk L (by omega)
  obtain⟨s1,s2,c1,c2,K2⟩:=pair (q:=1+k L) hm hn (by omega) (by omega) KL
  have e (j:Nat) (h:j≤2*L):(fun j=>if j≤2*L then S j else if j=2*L+1 then s1 else s2) j=S j:=if_pos h
  have e1:(fun j=>if j≤2*L then S j else if j=2*L+1 then s1 else s2) (2*L+1)=s1:=(if_neg (by omega)).trans (if_pos rfl)
  have e2:(fun j=>if j≤2*L then S j else if j=2*L+1 then s1 else s2) (2*L+2)=s2:=(if_neg (by omega)).trans (if_neg (by omega))
  generalize (fun j=>if j≤2*L then S j else if j=2*L+1 then s1 else s2)=Z at e e1 e2
  refine⟨Z,by rw[e 0 (by omega),h0],by rw[show 2*(L+1)=2*L+2 by omega,e2];exact K2,?_,?_⟩
  ·intro i hi
   rcases(by omega:i<L∨i=L)with h|rfl
   ·rw[e _ (by omega),e _ (by omega)];exact h1 i h
   ·rw[e _ (by omega),e1];exact c1
  ·intro i hi
   rcases(by omega:i<L∨i=L)with h|rfl
   ·rw[e _ (by omega),e _ (by omega)];exact h2 i h
   ·rw[e1,e2];exact c2
theorem run_of {n:Nat}:∃L:Nat,∃la lb:Int,L=min n 12∧la≤n∧(n≤9223372036854775807→(n:Int)≤lb)∧Runs L la lb:=by
 rcases(by omega:n=0∨n=1∨n=2∨n=3∨n=4∨n=5∨n=6∨n=7∨n=8∨n=9∨n=10∨n=11∨n=12∨13≤n)with rfl|rfl|rfl|rfl|rfl|rfl|rfl|rfl|rfl|rfl|rfl|rfl|rfl|h
 ·exact⟨0,0,0,rfl,by omega,by omega,run_0⟩
 ·exact⟨1,1,1,rfl,by omega,by omega,run_1⟩
 ·exact⟨2,2,2,rfl,by omega,by omega,run_2⟩
 ·exact⟨3,3,3,rfl,by omega,by omega,run_3⟩
 ·exact⟨4,4,4,rfl,by omega,by omega,run_4⟩
 ·exact⟨5,5,5,rfl,by omega,by omega,run_5⟩
 ·exact⟨6,6,6,rfl,by omega,by omega,run_6⟩
 ·exact⟨7,7,7,rfl,by omega,by omega,run_7⟩
 ·exact⟨8,8,8,rfl,by omega,by omega,run_8⟩
 ·exact⟨9,9,9,rfl,by omega,by omega,run_9⟩
 ·exact⟨10,10,10,rfl,by omega,by omega,run_10⟩
 ·exact⟨11,11,11,rfl,by omega,by omega,run_11⟩
 ·exact⟨12,12,12,rfl,by omega,by omega,run_12⟩
 ·exact⟨12,13,9223372036854775807,by omega,by omega,by omega,run_13⟩
theorem law {me qe:Int} {z:List Int} (hme:I64 me) (hqe:I64 qe) (hz:z.length≤9223372036854775807) (hzI:AllI z):Ck 4 [.i me,.i qe,.lit 1 (intsR z)] (.c (.bool true)):=by
 obtain⟨L,la,lb,hL,hla,hlb,hr⟩:=run_of (n:=z.length)
 obtain⟨m,hm⟩:∃m,m=1+me%4:=⟨_,rfl⟩
 obtain⟨n,hn⟩:∃n,n=1+qe%100:=⟨_,rfl⟩
 have hm4:1≤m∧m≤4:=by omega
 have hn4:1≤n∧n≤100:=by omega
 obtain⟨s,C0,K0⟩:=first hm4 hn4
 have hv (i:Nat) (h:i<L):z[i]?=some (z.getD i 0):=getD_some (by omega)
 have hI (i:Nat) (h:i<L):I64 (z.getD i 0):=hzI _ (List.mem_of_getElem? (hv i h))
 have hk (i:Nat) (_:i<L):0≤z.getD i 0%n∧z.getD i 0%n<n:=⟨Int.emod_nonneg _ (by omega),Int.emod_lt_of_pos _ (by omega)⟩
 obtain⟨S,e0,K,h1,h2⟩:=chain (k:=fun i=>z.getD i 0%n) hm4 hn4 K0 L (by omega) hk
 obtain⟨⟨LL,hP,T,hq,-⟩,B,b0,b3,b4,b5,-,-,-,-⟩:=K
 have W:Ck 15 [rA m (S (2*L)),.i 0,.i 0] (Lay.av ⟨n,10*n,0⟩):=by
  generalize S (2*L)=s2 at *
  obtain⟨P,b,r,rc,sa,d⟩:=s2
  simp only at hP B
  subst hP
  have hq0:qs []=0:=by simp[qs]
  have W:=ck_Worth (two_ok (rc:=rc) (sa:=sa) (d:=d) hm4 T B.bl (B.B (by omega)) B.rl (B.R (by omega))) (e:=0) (item:=0) two_ix
  rw[(two_worth T (by omega)).1,hq,hq0,Int.add_zero]at W
  exact W
 exact ret L la lb hme hqe hla (hlb hz) hn hm (tn:=10*n) (by omega) hI hv (fun i hi=>by have:=hk i hi;omega) (fun i hi=>ck_Place _ _) (by rw[e0];exact C0) h1 h2 W B.bl (some_of (by rw[B.bl];omega) b5) (some_of (by rw[B.bl];omega) b4) (some_of (by rw[B.bl];omega) b3) (some_of (by rw[B.bl];omega) b0) hr
end Rt
theorem TopReturns_walk (a0 a1:Int) (a2:Option Addr) (len2 cap2:Nat) (z2:List Int) (w:World) (h0:I64 a0) (h1:I64 a1) (h2:Row w 1 a2 len2 cap2 z2):Calls Tryz.prog 4 #[.int .i64 a0,.int .i64 a1,.slice a2 len2 cap2] w fun e w'=>e=.returned (.bool true)∧Below w.heap.size w w':=by
 have hl:z2.length=len2:=by have:=h2.len;omega
 refine calls_of_ck (Rt.law h0 h1 (z:=z2) ?_ h2.all) w _ rfl ?_
 ·have h3:=h2.le
  have h4:=h2.max
  unfold maxLen at h4
  omega
 ·intro i x hx
  match i,hx with
  |0,hx=>cases hx;exact rdl_i
  |1,hx=>cases hx;exact rdl_i
  |2,hx=>cases hx;exact rdl_ints h2
end Go.Proofs.YtnalblnmplnhmaaGreat
