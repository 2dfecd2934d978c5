/-
 Operations on any state: what the program answers, in plain data; contracts of close.Step.
-/
import Derived.Test.YtnalblnmplnhmaaGreatGop0
import Derived.Test.YtnalblnmplnhmaaGreatGops
set_option linter.unusedVariables false
set_option linter.unusedSimpArgs false
namespace Go.Proofs.YtnalblnmplnhmaaGreat
open Go.RowKit Mc
structure Gen (S:StD):Prop extends StOk S where
 rcl:S.receipts.length≤40
 sal:S.sales.length≤40
 trl:S.transits.length≤40
 rcb:∀x∈S.receipts,(0≤x.entity∧x.entity<S.ents.length)∧(0≤x.item∧x.item<S.weights.length)∧(0≤x.loc∧x.loc≤1)∧(1≤x.qty∧x.qty≤1073741824)∧(0≤x.value∧x.value≤1125899906842624)∧(0≤x.opn∧x.opn≤x.qty)∧(0≤x.accrued∧x.accrued≤1125899906842624)∧(0≤x.back∧x.back≤x.qty)
 sab:∀x∈S.sales,(0≤x.entity∧x.entity<S.ents.length)∧(0≤x.item∧x.item<S.weights.length)∧(0≤x.loc∧x.loc≤1)∧(1≤x.qty∧x.qty≤1073741824)∧(0≤x.back∧x.back≤x.qty)∧B58 x.cost∧B58 x.profit∧(1≤x.period∧x.period≤12)
 trb:∀x∈S.transits,(0≤x.src∧x.src<S.ents.length)∧(0≤x.dst∧x.dst<S.ents.length)∧(0≤x.item∧x.item<S.weights.length)∧(0≤x.qty∧x.qty≤1073741824)∧(0≤x.value∧x.value≤1125899906842624)∧B58 x.profit
 d0:0≤S.done
def receiveT (S:StD) (e item loc q a:Int):StD×Int :=
 if(S.ent e).closed=true then(S,7)else if S.receipts.length=40 then(S,6)else
 match bringT S e item loc ⟨q,a,0⟩with
 |(S1,ca,up,f)=>if f≠0 then(S,f)else
  match postG S1 e [⟨0,ca⟩,⟨6,up⟩,⟨1,-a⟩]with
  |(S2,f)=>if f≠0 then(S,f)else
   match turnT S2 e item [0,ca,0,0,0,0,0,0,0,0,0]with
   |(S3,f)=>if f≠0 then(S,f)else({ S3 with receipts:=S.receipts++[⟨e,item,loc,q,a,q,a,0⟩],done:=1+S.done },0)
def moveT (S:StD) (e item loc dst q:Int):StD×Int :=
 if(S.ent e).closed=true then(S,7)else
 match fetchT S e item loc 3 q with
 |(S1,x,wt,f)=>if f≠0 then(S,f)else
  match bringT S1 e item dst x with
  |(S2,ca,up,f)=>if f≠0 then(S,f)else
   match postG S2 e [⟨0,ca-x.v⟩,⟨6,up⟩]with
   |(S3,f)=>if f≠0 then(S,f)else
    match turnT S3 e item [0,0,0,0,0,0,0,0,0,0,ca-x.v]with
    |(S4,f)=>if f≠0 then(S,f)else({ S4 with done:=1+S.done },0)
theorem linI {l:List Lin} (h:∀x∈l,(0≤x.a∧x.a≤100)∧(-4611686018427387904≤x.n∧x.n≤4611686018427387904)):AllI (flat2 l):=flat2_of fun x hx=>by
 have:=h x hx
 exact⟨⟨by omega,by omega⟩,⟨by omega,by omega⟩⟩
theorem allB {l:List Int} (h:∀x∈l,-4611686018427387904≤x∧x≤4611686018427387904):∀x∈l,I64 x:=fun x hx=>by
 have:=h x hx
 exact⟨by omega,by omega⟩
section
variable {S:StD} {e item loc dst q a:Int}
theorem ck_receive (G:Gen S) (hd:S.done≤1000000) (x:Ix S e item) (hl:0≤loc∧loc≤1) (hq:1≤q∧q≤1073741824) (ha:0≤a∧a≤1125899906842624) (hC:CK Tryz.prog 19 [opAv 1 e item loc 0 q a 0] (.c (.bool true))) :
  CK Tryz.prog 11 [S.av,opAv 1 e item loc 0 q a 0] (.tup [(receiveT S e item loc q a).1.av,.i (receiveT S e item loc q a).2]):=by
 have h:=G.toStOk
 have hE:0≤e∧e≤3:=by have:=x.e0;have:=x.e1;have:=h.hn;omega
 have hI:0≤item∧item≤4:=by have:=x.i0;have:=x.i1;have:=h.hw;omega
 have hdd:Od S:=⟨⟨G.d0,hd⟩,G.rcl,G.sal,G.trl⟩
 have hat:=h.at_ x
 have hnw:I64 (S.ent e).now:=by have:=(h.eok x).now;exact⟨by omega,by omega⟩
 have R:=ck_Ready h x
 unfold receiveT
 by_cases hc:(S.ent e).closed=true
 ·rw[if_pos hc]at R ⊢
  exact Op_receive_Ready hE hI hl hq ha hdd (f:=7) (by omega) hC R
 rw[if_neg hc]at R ⊢
 by_cases hf:S.receipts.length=40
 ·rw[if_pos hf]
  exact Op_receive_Full hE hI hl hq ha hdd hf hC R
 rw[if_neg hf]
 have C1:=ck_Bring h x hl.1 hl.2 (y:=⟨q,a,0⟩) (by intro v hv;simp only[List.mem_cons,List.not_mem_nil,or_false]at hv;rcases hv with rfl|rfl|rfl<;>exact⟨by omega,by omega⟩)
 obtain⟨k1,f1,cb,ub,z1⟩:=bringT_facts h x hl.1 hl.2 ⟨q,a,0⟩
 generalize bringT S e item loc ⟨q,a,0⟩=b at *
 obtain⟨S1,ca,up,f⟩:=b
 dsimp only at *
 by_cases h0:f=0
 rotate_left
 ·rw[if_pos h0]
  obtain⟨rfl,rfl,rfl⟩:=z1 h0
  exact Op_receive_Bring hE hI hl hq ha hdd (by omega) (f:=f) ⟨by omega,by omega⟩ hC R C1
 subst h0
 rw[if_neg (by simp)]
 have x1:=k1.ix x
 have C2:=ck_Post k1.ok x1 (l:=[⟨0,ca⟩,⟨6,up⟩,⟨1,-a⟩]) (linI (by intro y hy;simp only[List.mem_cons,List.not_mem_nil,or_false]at hy;rcases hy with rfl|rfl|rfl<;>simp only<;>omega)) (by simp)
 obtain⟨k2,f2,z2⟩:=postG_facts k1.ok x1 [⟨0,ca⟩,⟨6,up⟩,⟨1,-a⟩]
 generalize postG S1 e [⟨0,ca⟩,⟨6,up⟩,⟨1,-a⟩]=b at *
 obtain⟨S2,f⟩:=b
 dsimp only at *
 have e1:=k1.eq
 rw[e1]at C1 C2
 by_cases h0:f=0
 rotate_left
 ·rw[if_pos h0]
  have:=z2 h0
  subst this
  rw[e1]at C2
  exact Op_receive_Post hE hI hl hq ha hdd (by omega) (f:=f) ⟨by omega,by omega⟩ rfl hC R C1 C2
 subst h0
 rw[if_neg (by simp)]
 have x2:=k2.ix x1
 have C3:=ck_Turn k2.ok x2 (r:=[0,ca,0,0,0,0,0,0,0,0,0]) rfl (allB (by intro y hy;simp only[List.mem_cons,List.not_mem_nil,or_false]at hy;rcases hy with rfl|rfl|rfl|rfl|rfl|rfl|rfl|rfl|rfl|rfl|rfl<;>omega))
 obtain⟨k3,f3,z3⟩:=turnT_facts k2.ok x2 (r:=[0,ca,0,0,0,0,0,0,0,0,0]) rfl
 generalize turnT S2 e item [0,ca,0,0,0,0,0,0,0,0,0]=b at *
 obtain⟨S3,f⟩:=b
 dsimp only at *
 have e2:=(k1.trans k2).eq
 rw[e2]at C2 C3
 by_cases h0:f=0
 rotate_left
 ·rw[if_pos h0]
  have:=z3 h0
  subst this
  rw[e2]at C3
  exact Op_receive_Turn hE hI hl hq ha hdd (by omega) (f:=f) ⟨by omega,by omega⟩ rfl hC R C1 C2 C3
 subst h0
 rw[if_neg (by simp)]
 have x3:=k3.ix x2
 have e3:=((k1.trans k2).trans k3).eq
 rw[e3]at C3 ⊢
 have W:=Op_receive_ok hE hI hl hq ha hdd (by omega) rfl rfl hC R C1 C2 C3
 rw[show(rowI [e,item,loc,q,a,q,a,0])=rowI (RcD.r ⟨e,item,loc,q,a,q,a,0⟩)from rfl,rcs_snoc]at W
 exact W
theorem ck_move (G:Gen S) (hd:S.done≤1000000) (x:Ix S e item) (hl:0≤loc∧loc≤1) (ht:0≤dst∧dst≤1) (hq:1≤q∧q≤1073741824) (hC:CK Tryz.prog 19 [opAv 8 e item loc dst q 0 0] (.c (.bool true))) :
  CK Tryz.prog 11 [S.av,opAv 8 e item loc dst q 0 0] (.tup [(moveT S e item loc dst q).1.av,.i (moveT S e item loc dst q).2]):=by
 have h:=G.toStOk
 have hE:0≤e∧e≤3:=by have:=x.e0;have:=x.e1;have:=h.hn;omega
 have hI:0≤item∧item≤4:=by have:=x.i0;have:=x.i1;have:=h.hw;omega
 have hdd:Od S:=⟨⟨G.d0,hd⟩,G.rcl,G.sal,G.trl⟩
 have hat:=h.at_ x
 have hnw:I64 (S.ent e).now:=by have:=(h.eok x).now;exact⟨by omega,by omega⟩
 have R:=ck_Ready h x
 unfold moveT
 by_cases hc:(S.ent e).closed=true
 ·rw[if_pos hc]at R ⊢
  exact Op_move_Ready hE hI hl ht hq hdd (f:=7) (by omega) hC R
 rw[if_neg hc]at R ⊢
 have C1:=ck_Fetch h x (kind:=3) hl.1 hl.2 ⟨by omega,by omega⟩ (q:=q) ⟨by omega,by omega⟩
 obtain⟨k1,f1,vb,ib,z1⟩:=fetchT_facts h x (kind:=3) hl.1 hl.2 (by omega) (by omega) q
 generalize fetchT S e item loc 3 q=b at *
 obtain⟨S1,⟨xq,xv,xp⟩,wt,f⟩:=b
 dsimp only at *
 by_cases h0:f=0
 rotate_left
 ·rw[if_pos h0]
  obtain⟨rfl,hx,rfl⟩:=z1 h0
  cases hx
  exact Op_move_MFetch hE hI hl ht hq hdd (f:=f) ⟨by omega,by omega⟩ hC R C1
 subst h0
 rw[if_neg (by simp)]
 have x1:=k1.ix x
 have C2:=ck_Bring k1.ok x1 ht.1 ht.2 (y:=⟨xq,xv,xp⟩) (by intro v hv;simp only[List.mem_cons,List.not_mem_nil,or_false]at hv;rcases hv with rfl|rfl|rfl<;>exact⟨by omega,by omega⟩)
 obtain⟨k2,f2,cb,ub,z2⟩:=bringT_facts k1.ok x1 ht.1 ht.2 ⟨xq,xv,xp⟩
 generalize bringT S1 e item dst ⟨xq,xv,xp⟩=b at *
 obtain⟨S2,ca,up,f⟩:=b
 dsimp only at *
 have e1:=k1.eq
 rw[e1]at C1 C2
 by_cases h0:f=0
 rotate_left
 ·rw[if_pos h0]
  obtain⟨rfl,rfl,rfl⟩:=z2 h0
  rw[e1]at C2
  exact Op_move_MBring hE hI hl ht hq hdd ⟨by omega,by omega⟩ (f:=f) ⟨by omega,by omega⟩ hC R C1 C2
 subst h0
 rw[if_neg (by simp)]
 have x2:=k2.ix x1
 have C3:=ck_Post k2.ok x2 (l:=[⟨0,ca-xv⟩,⟨6,up⟩]) (linI (by intro y hy;simp only[List.mem_cons,List.not_mem_nil,or_false]at hy;rcases hy with rfl|rfl<;>simp only<;>omega)) (by simp)
 obtain⟨k3,f3,z3⟩:=postG_facts k2.ok x2 [⟨0,ca-xv⟩,⟨6,up⟩]
 generalize postG S2 e [⟨0,ca-xv⟩,⟨6,up⟩]=b at *
 obtain⟨S3,f⟩:=b
 dsimp only at *
 have e2:=(k1.trans k2).eq
 rw[e2]at C2 C3
 by_cases h0:f=0
 rotate_left
 ·rw[if_pos h0]
  have:=z3 h0
  subst this
  rw[e2]at C3
  exact Op_move_MPost hE hI hl ht hq hdd ⟨by omega,by omega⟩ ⟨by omega,by omega⟩ (f:=f) ⟨by omega,by omega⟩ rfl hC R C1 C2 C3
 subst h0
 rw[if_neg (by simp)]
 have x3:=k3.ix x2
 have C4:=ck_Turn k3.ok x3 (r:=[0,0,0,0,0,0,0,0,0,0,ca-xv]) rfl (allB (by intro y hy;simp only[List.mem_cons,List.not_mem_nil,or_false]at hy;rcases hy with rfl|rfl|rfl|rfl|rfl|rfl|rfl|rfl|rfl|rfl|rfl<;>omega))
 obtain⟨k4,f4,z4⟩:=turnT_facts k3.ok x3 (r:=[0,0,0,0,0,0,0,0,0,0,ca-xv]) rfl
 generalize turnT S3 e item [0,0,0,0,0,0,0,0,0,0,ca-xv]=b at *
 obtain⟨S4,f⟩:=b
 dsimp only at *
 have e3:=((k1.trans k2).trans k3).eq
 rw[e3]at C3 C4
 by_cases h0:f=0
 rotate_left
 ·rw[if_pos h0]
  have:=z4 h0
  subst this
  rw[e3]at C4
  exact Op_move_MTurn hE hI hl ht hq hdd ⟨by omega,by omega⟩ ⟨by omega,by omega⟩ (f:=f) ⟨by omega,by omega⟩ rfl hC R C1 C2 C3 C4
 subst h0
 rw[if_neg (by simp)]
 have x4:=k4.ix x3
 have e4:=(((k1.trans k2).trans k3).trans k4).eq
 rw[e4]at C4 ⊢
 have W:=Op_move_ok hE hI hl ht hq hdd ⟨by omega,by omega⟩ ⟨by omega,by omega⟩ rfl rfl hC R C1 C2 C3 C4
 exact W
end
end Go.Proofs.YtnalblnmplnhmaaGreat
