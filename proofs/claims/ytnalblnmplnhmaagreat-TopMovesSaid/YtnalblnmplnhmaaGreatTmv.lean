/-
 TopMoves: what is kept from head to head; the law.
-/
import Derived.Test.YtnalblnmplnhmaaGreatPmvlaw
import Derived.Test.YtnalblnmplnhmaaGreatTqty
import Derived.Test.YtnalblnmplnhmaaGreatUniA
import Derived.Test.YtnalblnmplnhmaaGreatPcheck2
import Derived.Test.YtnalblnmplnhmaaGreatPcheck3
import Derived.Test.YtnalblnmplnhmaaGreatGops2
set_option linter.unusedVariables false
set_option linter.unusedSimpArgs false
namespace Go.Proofs.YtnalblnmplnhmaaGreat
open Go.RowKit Mc
namespace Mv
structure Kept (k:Nat) (m n:Int) (L0 L1:List Lay) (b r:List Int) (rc:List RcD) (d:Int):Prop where
 hm:1≤m∧m≤4
 two:Two m L0 L1
 sum:qs L0+qs L1=n
 hn:n≤12*k
 bk:Books k b r
 b0:b.getD 0 0=10*n
 b6:b.getD 6 0=0
 b8:b.getD 8 0=0
 rcl:rc.length≤40
 rcb:∀x∈rc,x.entity=0∧x.item=0∧(0≤x.loc∧x.loc≤1)∧(1≤x.qty∧x.qty≤12)∧(0≤x.value∧x.value≤120)∧x.opn=x.qty∧x.accrued=x.value∧x.back=0
 hd:0≤d∧d≤k
section
variable {k:Nat} {m n:Int} {L0 L1:List Lay} {b r:List Int} {rc:List RcD} {d:Int}
theorem Kept.n0 (K:Kept k m n L0 L1 b r rc d):0≤n:=by have:=K.two.q;have:=K.sum;omega
theorem Kept.more (K:Kept k m n L0 L1 b r rc d):Kept (k+1) m n L0 L1 b r rc d:={ K with hn:=by have:=K.hn;omega,bk:=K.bk.more,hd:=by have:=K.hd;omega }
theorem Kept.gen (K:Kept k m n L0 L1 b r rc d) (hk:k≤60):Gen (twoS m L0 L1 b r rc [] d):=by
 refine{ toStOk:=two_ok K.hm K.two K.bk.bl (K.bk.B (by omega)) K.bk.rl (K.bk.R (by omega)),rcl:=K.rcl,sal:=by simp[twoS,oneS],trl:=by simp[twoS,oneS],rcb:=?_,sab:=?_,trb:=?_,d0:=K.hd.1 }
 ·intro x hx
  have:=K.rcb x hx
  refine⟨⟨by omega,by rw[this.1];exact Int.zero_lt_one⟩,⟨by omega,by rw[this.2.1];exact Int.zero_lt_one⟩,by omega,by omega,by omega,by omega,by omega,by omega⟩
 ·intro x hx;exact absurd hx List.not_mem_nil
 ·intro x hx;exact absurd hx List.not_mem_nil
theorem Kept.dn (K:Kept k m n L0 L1 b r rc d) (hk:k≤60):(twoS m L0 L1 b r rc [] d).done≤1000000:=by
 have:=K.hd
 show d≤1000000
 omega
theorem vnil (a:Int):vtot [] a=0:=by simp[vtot]
theorem rec_step {q loc:Int} (K:Kept k m n L0 L1 b r rc d) (hk:k<60) (hq:1≤q∧q≤12) (hl:0≤loc∧loc≤1) :
  (∃L02 L12 b2 r2 rc2 d2,CK Tryz.prog 11 [oneA m 10 [⟨L0,0,0,0⟩,⟨L1,0,0,0⟩] (intsR b) r (rcsR rc) [] d,opAv 1 0 0 loc 0 q (10*q) 0] (.tup [oneA m 10 [⟨L02,0,0,0⟩,⟨L12,0,0,0⟩] (intsR b2) r2 (rcsR rc2) [] d2,.i 0])∧Kept (k+1) m (n+q) L02 L12 b2 r2 rc2 d2) ∨
  (∃f:Int,1≤f∧f≤20∧CK Tryz.prog 11 [oneA m 10 [⟨L0,0,0,0⟩,⟨L1,0,0,0⟩] (intsR b) r (rcsR rc) [] d,opAv 1 0 0 loc 0 q (10*q) 0] (.tup [oneA m 10 [⟨L0,0,0,0⟩,⟨L1,0,0,0⟩] (intsR b) r (rcsR rc) [] d,.i f])):=by
 have hn:=K.hn
 have hs:=K.sum
 have hC:CK Tryz.prog 19 [opAv 1 0 0 loc 0 q (10*q) 0] (.c (.bool true)):=Check_receive (e:=0) (item:=0) (by omega) (by omega) hl (by omega) (by omega)
 have C:=ck_receive (q:=q) (a:=10*q) (loc:=loc) (K.gen (by omega)) (K.dn (by omega)) two_ix hl (by omega) (by omega) hC
 rcases receive2 (d:=d) (rc:=rc) (sa:=[]) (q:=q) (loc:=loc) K.hm K.two K.bk (by omega) hl (by omega) (by omega)with⟨f,f0,f1,e⟩|⟨L02,L12,T,s,B,h40,e⟩
 ·rw[e]at C
  exact .inr ⟨f,by omega,by omega,C⟩
 ·rw[e]at C
  refine .inl ⟨L02,L12,_,_,_,_,C,⟨K.hm,T,by omega,by omega,B,?_,?_,?_,?_,?_,(show 0≤1+d∧1+d≤((k+1:Nat):Int)by have:=K.hd;omega)⟩⟩
  ·rw[adds_get _ _ (by omega),K.b0];simp[vtot_cons,vnil];omega
  ·rw[adds_get _ _ (by omega),K.b6];simp[vtot_cons,vnil]
  ·rw[adds_get _ _ (by omega),K.b8];simp[vtot_cons,vnil]
  ·have:=K.rcl;show(rc++[_]).length≤40;rw[List.length_append];simp only[List.length_singleton];omega
  ·intro x hx
   rcases List.mem_append.1 hx with hx|hx
   ·exact K.rcb x hx
   ·rw[List.mem_singleton]at hx;subst hx;refine⟨rfl,rfl,hl,?_,?_,rfl,rfl,rfl⟩<;>simp only<;>omega
theorem mov_step {q loc:Int} (K:Kept k m n L0 L1 b r rc d) (hk:k<60) (hq:1≤q∧q≤12) (hl:0≤loc∧loc≤1) :
  (∃L02 L12 b2 r2 rc2 d2,CK Tryz.prog 11 [oneA m 10 [⟨L0,0,0,0⟩,⟨L1,0,0,0⟩] (intsR b) r (rcsR rc) [] d,opAv 8 0 0 loc (1-loc) q 0 0] (.tup [oneA m 10 [⟨L02,0,0,0⟩,⟨L12,0,0,0⟩] (intsR b2) r2 (rcsR rc2) [] d2,.i 0])∧Kept (k+1) m n L02 L12 b2 r2 rc2 d2) ∨
  (∃f:Int,1≤f∧f≤20∧CK Tryz.prog 11 [oneA m 10 [⟨L0,0,0,0⟩,⟨L1,0,0,0⟩] (intsR b) r (rcsR rc) [] d,opAv 8 0 0 loc (1-loc) q 0 0] (.tup [oneA m 10 [⟨L0,0,0,0⟩,⟨L1,0,0,0⟩] (intsR b) r (rcsR rc) [] d,.i f])):=by
 have hn:=K.hn
 have hs:=K.sum
 have hC:CK Tryz.prog 19 [opAv 8 0 0 loc (1-loc) q 0 0] (.c (.bool true)):=by
  rcases(by omega:loc<1-loc∨1-loc<loc)with h|h
  ·exact Check_move_a (e:=0) (item:=0) (by omega) (by omega) hl (by omega) (by omega) h
  ·exact Check_move_b (e:=0) (item:=0) (by omega) (by omega) hl (by omega) (by omega) h
 have C:=ck_move (q:=q) (dst:=1-loc) (loc:=loc) (K.gen (by omega)) (K.dn (by omega)) two_ix hl (by omega) (by omega) hC
 rcases move2 (d:=d) (rc:=rc) (sa:=[]) (q:=q) (loc:=loc) K.hm K.two K.bk (by omega) hl (by omega) (by omega)with⟨f,f0,f1,e⟩|⟨L02,L12,T,s,B,e⟩
 ·rw[e]at C
  exact .inr ⟨f,by omega,by omega,C⟩
 ·rw[e]at C
  refine .inl ⟨L02,L12,_,_,_,_,C,⟨K.hm,T,by omega,by omega,B,?_,?_,?_,K.rcl,K.rcb,(show 0≤1+d∧1+d≤((k+1:Nat):Int)by have:=K.hd;omega)⟩⟩
  ·rw[adds_get _ _ (by omega),K.b0];simp[vtot_cons,vnil]
  ·rw[adds_get _ _ (by omega),K.b6];simp[vtot_cons,vnil]
  ·rw[adds_get _ _ (by omega),K.b8];simp[vtot_cons,vnil]
theorem cnt_step {loc:Int} (K:Kept k m n L0 L1 b r rc d) (hk:k<60) (hl:0≤loc∧loc≤1) :
  ∃LL,LR LL∧(0≤qs LL∧qs LL≤1000)∧CK Tryz.prog 16 [oneA m 10 [⟨L0,0,0,0⟩,⟨L1,0,0,0⟩] (intsR b) r (rcsR rc) [] d,.i 0,.i 0,.i loc] (PoolD.av ⟨LL,0,0,0⟩) ∧
   CK Tryz.prog 11 [oneA m 10 [⟨L0,0,0,0⟩,⟨L1,0,0,0⟩] (intsR b) r (rcsR rc) [] d,opAv 7 0 0 loc 0 (qs LL) 0 0] (.tup [oneA m 10 [⟨L0,0,0,0⟩,⟨L1,0,0,0⟩] (intsR b) r (rcsR rc) [] (1+d),.i 0])∧Kept (k+1) m n L0 L1 b r rc (1+d):=by
 have hn:=K.hn
 have hs:=K.sum
 have hq:=K.two.q
 have G:=K.gen (by omega)
 have hd:=K.hd
 have hm:=K.hm
 have K2:Kept (k+1) m n L0 L1 b r rc (1+d):={ K.more with hd:=by omega }
 have key:∀LL,LR LL→0≤qs LL∧qs LL≤1000→PndOk ⟨0,0,0⟩→((twoS m L0 L1 b r rc [] d).ent 0).pool (2*0+loc)=⟨LL,0,0,0⟩→CK Tryz.prog 16 [oneA m 10 [⟨L0,0,0,0⟩,⟨L1,0,0,0⟩] (intsR b) r (rcsR rc) [] d,.i 0,.i 0,.i loc] (PoolD.av ⟨LL,0,0,0⟩) ∧
   CK Tryz.prog 11 [oneA m 10 [⟨L0,0,0,0⟩,⟨L1,0,0,0⟩] (intsR b) r (rcsR rc) [] d,opAv 7 0 0 loc 0 (qs LL) 0 0] (.tup [oneA m 10 [⟨L0,0,0,0⟩,⟨L1,0,0,0⟩] (intsR b) r (rcsR rc) [] (1+d),.i 0]):=by
  intro LL hLL hb hp he
  have A:=ck_At G.toStOk two_ix hl.1 hl.2
  rw[he]at A
  have R:=ck_Ready G.toStOk (e:=0) (item:=0) two_ix
  rw[if_neg (by simp[twoS,oneS,StD.ent])]at R
  have F:=ck_poolFree (m:=m) (p:=⟨LL,0,0,0⟩) hm hLL hp
  have eF:(if m=3 then freeP LL ⟨0,0,0⟩else(tot LL).q)=qs LL:=by
   split
   ·unfold freeP;simp only;omega
   ·rw[hLL.tot.1]
  replace F:CK Tryz.prog 201 [.i m,PoolD.av ⟨LL,0,0,0⟩] (.i (if m=3 then freeP LL ⟨0,0,0⟩else(tot LL).q)):=F
  rw[eF]at F
  have hC:CK Tryz.prog 19 [opAv 7 0 0 loc 0 (qs LL) 0 0] (.c (.bool true)):=Check_count (e:=0) (item:=0) (by omega) (by omega) hl (by omega)
  exact⟨A,Op_count_eq_ok (S:=twoS m L0 L1 b r rc [] d) (e:=0) (item:=0) (ms:=[m]) (cs:=[10]) (meth:=m) (cost:=10) (d':=1+d) (by omega) (by omega) hl (by omega) ⟨⟨hd.1,K.dn (by omega)⟩,K.rcl,by simp[twoS,oneS],by simp[twoS,oneS]⟩ rfl rfl rfl rfl hm (by omega) (by simp[twoS,oneS]) (by simp[twoS,oneS]) (by simp) (by simp) (fr:=qs LL) (by omega) rfl rfl hC R A F⟩
 rcases(by omega:loc=0∨loc=1)with rfl|rfl
 ·obtain⟨a,c⟩:=key L0 K.two.p0.lr ⟨hq.1,by omega⟩ K.two.p0.pnd rfl
  exact⟨L0,K.two.p0.lr,⟨hq.1,by omega⟩,a,c,K2⟩
 ·obtain⟨a,c⟩:=key L1 K.two.p1.lr ⟨hq.2,by omega⟩ K.two.p1.pnd rfl
  exact⟨L1,K.two.p1.lr,⟨hq.2,by omega⟩,a,c,K2⟩
theorem Kept.worth (K:Kept k m n L0 L1 b r rc d) (hk:k≤60):CK Tryz.prog 15 [oneA m 10 [⟨L0,0,0,0⟩,⟨L1,0,0,0⟩] (intsR b) r (rcsR rc) [] d,.i 0,.i 0] (Lay.av ⟨n,10*n,0⟩):=by
 have hn:=K.hn
 have hs:=K.sum
 have W:=ck_Worth (K.gen hk).toStOk (e:=0) (item:=0) two_ix
 rw[(two_worth K.two (by omega)).1,hs]at W
 exact W
theorem Kept.s0 (K:Kept k m n L0 L1 b r rc d):b[0]?=some (10*n):=some_of (by rw[K.bk.bl];omega) K.b0
theorem Kept.s6 (K:Kept k m n L0 L1 b r rc d):b[6]?=some 0:=some_of (by rw[K.bk.bl];omega) K.b6
theorem Kept.s8 (K:Kept k m n L0 L1 b r rc d):b[8]?=some 0:=some_of (by rw[K.bk.bl];omega) K.b8
end
theorem nil_ok (m:Int):PoolOk m [] ⟨0,0,0⟩:=⟨⟨by simp,fun x h=>absurd h List.not_mem_nil,by simp[qs],by simp[vs],by simp[aps,absum]⟩,.inr (by simp),by simp,by simp,by simp,by simp[qs],.inr ⟨rfl,rfl,rfl⟩⟩
theorem kept0 {m:Int} (hm:1≤m∧m≤4):Kept 0 m 0 [] [] zeros17 zeros11 [] 0:=by
 refine⟨hm,⟨nil_ok m,nil_ok m,uni_nil,uni_nil⟩,by simp[qs],by omega,⟨by decide +kernel,?_,by decide +kernel,?_⟩,by decide +kernel,by decide +kernel,by decide +kernel,by simp,fun x h=>absurd h List.not_mem_nil,by omega⟩
 ·intro j hj
  have:zeros17.getD j 0=0:=by
   have:∀j:Fin 17,zeros17.getD j.1 0=0:=by decide +kernel
   exact this ⟨j,hj⟩
  rw[this];omega
 ·intro v hv
  have:∀v∈zeros11,v=0:=by decide +kernel
  rw[this v hv];omega
set_option maxHeartbeats 2000000
set_option maxRecDepth 1000000
theorem walk0 (oA oRO oRE oCO oMO oME oX oXr oY oYr:Option (RT Out))
  (rA:rnA b_A body 142 fi_A bi_A 0=oA) (tA:stopB oA=true) (kA:lK [some 10] oA fo_A bo_A=true)
  (rRO:rnA b_RO (oCode oA) 142 fi_RO bi_RO 1=oRO) (tRO:doneB oRO 0=true) (kRO:lK [some 0] oRO fo_RO bo_RO=true)
  (rRE:rnA b_RE (oCode oA) 142 fi_RE bi_RE 1=oRE) (tRE:doneB oRE 0=true) (kRE:lK [some 0] oRE fo_RE bo_RE=true)
  (rCO:rnA b_CO (oCode oA) 142 fi_CO bi_CO 1=oCO) (tCO:doneB oCO 0=true) (kCO:lK [some 0] oCO fo_CO bo_CO=true)
  (rMO:rnA b_MO (oCode oA) 142 fi_MO bi_MO 1=oMO) (tMO:doneB oMO 0=true) (kMO:lK [some 0] oMO fo_MO bo_MO=true)
  (rME:rnA b_ME (oCode oA) 142 fi_ME bi_ME 1=oME) (tME:doneB oME 0=true) (kME:lK [some 0] oME fo_ME bo_ME=true)
  (rX:rnA b_X (oCode oA) 142 fi_X bi_X 1=oX) (tX:doneB oX 2=true) (kX:lK [some 0] oX fo_X bo_X=true)
  (rXr:rsA b_Xr oA 0 142 fi_Xr bi_Xr 1=oXr) (tXr:doneB oXr 1=true) (kXr:resultsA Tryz.prog Tryz.f5 (lOf oXr) (oT oXr).get=some (.c (.bool true)))
  (rY:rnA b_Y (oCode oA) 142 fi_Y bi_Y 1=oY) (tY:doneB oY 2=true) (kY:lK [some 0] oY fo_Y bo_Y=true)
  (rYr:rsA b_Yr oA 0 142 fi_Yr bi_Yr 1=oYr) (tYr:doneB oYr 1=true) (kYr:resultsA Tryz.prog Tryz.f5 (lOf oYr) (oT oYr).get=some (.c (.bool true)))
  {me:Int} {z:List Int} (hme:I64 me) (hz:z.length≤9223372036854775807) (hzI:AllI z):CK Tryz.prog 5 [.i me,.lit 1 (intsR z)] (.c (.bool true)):=by
 refine CK.of_body Tryz.func5 (c:=body) (by kernel_rfl) (cl_cons (.c _) (cl_cons (cl_ints _).lit cl_nil)) (.c _) fun A w0 a0=>?_
 intro mm w a pr
 rw[Tryz.ntmps5]at pr
 obtain⟨m,hm⟩:∃m,m=1+me%4:=⟨_,rfl⟩
 refine go_A body oA rA tA kA hme hz hm (Start_one (by omega)) (pr:=pr) ?_
 intro mm w a pr
 refine loop_rule (fun nn a w=>∃(j:Nat) (_:j≤60) (n:Int) (L0 L1:List Lay) (b r:List Int) (rc:List RcD) (d:Int),nn=60-j∧Kept j m n L0 L1 b r rc d∧∃mm,@Pre bk0 ev0 A w0 a0 mm w a (headF z n j) (hOf (headB (stR m L0 L1 b r rc d)))) ?_ (n:=60) ⟨0,by omega,0,[],[],_,_,[],0,rfl,kept0 (by omega),_,pr⟩
 rintro nn a w ⟨j,hj,n,L0,L1,b,r,rc,d,rfl,K,mm,pr⟩
 have n0:=K.n0
 have hn:=K.hn
 rcases(by omega:(z.length:Int)≤j∨((j:Int)<z.length∧j=60)∨((j:Int)<z.length∧j<60))with h|⟨h,h60⟩|⟨h,h60⟩
 ·refine go_X (oCode oA) oX rX tX kX (by omega) hz h pr ?_
  intro mm w a pr
  exact go_Xr oA oXr rXr tXr kXr (by omega) hz h pr
 ·refine go_Y (oCode oA) oY rY tY kY (by omega) hz h (by omega) pr ?_
  intro mm w a pr
  exact go_Yr oA oYr rYr tYr kYr (by omega) hz h (by omega) pr
 ·have hlt:j<z.length:=by omega
  obtain⟨v,hv⟩:∃v,z[j]?=some v:=⟨_,List.getElem?_eq_getElem hlt⟩
  have hvI:I64 v:=hzI v (List.mem_of_getElem? hv)
  have hv':z[(j:Int).toNat]?=some v:=by simpa using hv
  have next:∀(n i2:Int) (L0 L1:List Lay) (b r:List Int) (rc:List RcD) (d:Int),i2=1+(j:Int)→Kept (j+1) m n L0 L1 b r rc d→∀(mm:Nat→St) (w:World) (a:Act),@Pre bk0 ev0 A w0 a0 mm w a (headF z n i2) (hOf (headB (stR m L0 L1 b r rc d))) →
    ∃n',n'<60-j∧∃(j':Nat) (_:j'≤60) (n:Int) (L0 L1:List Lay) (b r:List Int) (rc:List RcD) (d:Int),n'=60-j'∧Kept j' m n L0 L1 b r rc d∧∃mm,@Pre bk0 ev0 A w0 a0 mm w a (headF z n j') (hOf (headB (stR m L0 L1 b r rc d))):=by
   intro n i2 L0 L1 b r rc d hi2 K2 mm w a pr
   have e:i2=((j+1:Nat):Int):=by rw[hi2];simp;omega
   rw[e]at pr
   exact⟨60-(j+1),by omega,j+1,by omega,n,L0,L1,b,r,rc,d,rfl,K2,mm,pr⟩
  have hloc:0≤v%1048576/4%2∧v%1048576/4%2≤1:=by omega
  have hqq:1≤1+v%1048576/8%12∧1+v%1048576/8%12≤12:=by omega
  rcases(by omega:v%1048576%4=0∨v%1048576%4=1∨2≤v%1048576%4)with hpar|hpar|hpar
  ·rcases rec_step (q:=1+v%1048576/8%12) (loc:=v%1048576/4%2) K h60 hqq hloc with⟨L02,L12,b2,r2,rc2,d2,hT,K2⟩|⟨f,f1,f2,hT⟩
   ·refine go_RO (oCode oA) oRO rRO tRO kRO ⟨n0,by omega⟩ (by omega) h hz hvI hv' hpar K2.bk.bl (q:=1+v%1048576/8%12) rfl (am:=10*(1+v%1048576/8%12)) (by omega) (n2:=n+(1+v%1048576/8%12)) rfl (nn:=10*(n+(1+v%1048576/8%12))) rfl rfl hT (K2.worth (by omega)) K2.s0 K2.s8 K2.s6 pr ?_
    intro mm w a pr
    exact next _ _ _ _ _ _ _ _ rfl K2 mm w a pr
   ·refine go_RE (oCode oA) oRE rRE tRE kRE ⟨n0,by omega⟩ (by omega) h hz hvI hv' hpar ⟨f1,f2⟩ K.bk.bl (q:=1+v%1048576/8%12) rfl (am:=10*(1+v%1048576/8%12)) (by omega) (nn:=10*n) rfl rfl hT (K.worth (by omega)) K.s0 K.s8 K.s6 pr ?_
    intro mm w a pr
    exact next _ _ _ _ _ _ _ _ rfl K.more mm w a pr
  ·obtain⟨LL,hLL,hqL,hA,hT,K2⟩:=cnt_step (loc:=v%1048576/4%2) K h60 hloc
   refine go_CO (oCode oA) oCO rCO tCO kCO ⟨n0,by omega⟩ (by omega) h hz hvI hv' hpar (c:=qs LL) ⟨hqL.1,by omega⟩ K2.bk.bl rfl (nn:=10*n) rfl rfl hA (Qty.walk hLL) hT (K2.worth (by omega)) K2.s0 K2.s8 K2.s6 pr ?_
   intro mm w a pr
   exact next _ _ _ _ _ _ _ _ rfl K2 mm w a pr
  ·rcases mov_step (q:=1+v%1048576/8%12) (loc:=v%1048576/4%2) K h60 hqq hloc with⟨L02,L12,b2,r2,rc2,d2,hT,K2⟩|⟨f,f1,f2,hT⟩
   ·refine go_MO (oCode oA) oMO rMO tMO kMO ⟨n0,by omega⟩ (by omega) h hz hvI hv' hpar K2.bk.bl (q:=1+v%1048576/8%12) rfl (lo:=1-v%1048576/4%2) rfl (nn:=10*n) rfl rfl hT (K2.worth (by omega)) K2.s0 K2.s8 K2.s6 pr ?_
    intro mm w a pr
    exact next _ _ _ _ _ _ _ _ rfl K2 mm w a pr
   ·refine go_ME (oCode oA) oME rME tME kME ⟨n0,by omega⟩ (by omega) h hz hvI hv' hpar ⟨f1,f2⟩ K.bk.bl (q:=1+v%1048576/8%12) rfl (lo:=1-v%1048576/4%2) rfl (nn:=10*n) rfl rfl hT (K.worth (by omega)) K.s0 K.s8 K.s6 pr ?_
    intro mm w a pr
    exact next _ _ _ _ _ _ _ _ rfl K.more mm w a pr
theorem law {me:Int} {z:List Int} (hme:I64 me) (hz:z.length≤9223372036854775807) (hzI:AllI z):CK Tryz.prog 5 [.i me,.lit 1 (intsR z)] (.c (.bool true)) :=
 walk0 s_A s_RO s_RE s_CO s_MO s_ME s_X s_Xr s_Y s_Yr rfl end_A look_A rfl end_RO look_RO rfl end_RE look_RE rfl end_CO look_CO rfl end_MO look_MO rfl end_ME look_ME rfl end_X look_X rfl end_Xr res_Xr rfl end_Y look_Y rfl end_Yr res_Yr hme hz hzI
end Mv
theorem TopMoves_walk (a0:Int) (a1:Option Addr) (len1 cap1:Nat) (z1:List Int) (w:World) (h0:I64 a0) (h1:Row w 1 a1 len1 cap1 z1):Calls Tryz.prog 5 #[.int .i64 a0,.slice a1 len1 cap1] w fun e w'=>e=.returned (.bool true)∧Below w.heap.size w w':=by
 have hl:z1.length=len1:=by have:=h1.len;omega
 refine calls_of_ck (Mv.law h0 (z:=z1) ?_ h1.all) w _ rfl ?_
 ·have h2:=h1.le
  have h3:=h1.max
  unfold maxLen at h3
  omega
 ·intro i x hx
  match i,hx with
  |0,hx=>cases hx;exact rdl_i
  |1,hx=>cases hx;exact rdl_ints h1
end Go.Proofs.YtnalblnmplnhmaaGreat
