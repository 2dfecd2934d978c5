/-
 Operations on any state where nothing is refused: contracts of close.Step. (Printed by wip/mk_gopr.py.)
-/
import Derived.Test.YtnalblnmplnhmaaGreatGop2
set_option linter.unusedVariables false
set_option linter.unusedSimpArgs false
namespace Go.Proofs.YtnalblnmplnhmaaGreat
open Go.RowKit Mc
section
variable {S:StD} {e item loc dst q a ref sq sb sc sp st:Int}
theorem ck_receiveZ (G:Gen S) (hd:S.done≤1000000) (x:Ix S e item) (hl:0≤loc∧loc≤1) (hq:1≤q∧q≤1073741824) (ha:0≤a∧a≤1125899906842624) (hC:CK Tryz.prog 19 [opAv 1 e item loc 0 q a 0] (.c (.bool true))) (hz:(receiveT S e item loc q a).2=0) :
  CK Tryz.prog 11 [S.av,opAv 1 e item loc 0 q a 0] (.tup [(receiveT S e item loc q a).1.av,.i (receiveT S e item loc q a).2]):=by
 have h:=G.toStOk
 have hE:0≤e∧e≤3:=by have:=x.e0;have:=x.e1;have:=h.hn;omega
 have hI:0≤item∧item≤4:=by have:=x.i0;have:=x.i1;have:=h.hw;omega
 have hdd:Od S:=⟨⟨G.d0,hd⟩,G.rcl,G.sal,G.trl⟩
 have hat:=h.at_ x
 have hnw:I64 (S.ent e).now:=by have:=(h.eok x).now;exact⟨by omega,by omega⟩
 have R:=ck_Ready h x
 unfold receiveT at hz ⊢
 by_cases hc:(S.ent e).closed=true
 ·rw[if_pos hc]at hz;exact absurd hz (by simp)
 rw[if_neg hc]at R hz ⊢
 by_cases hf:S.receipts.length=40
 ·rw[if_pos hf]at hz;exact absurd hz (by simp)
 rw[if_neg hf]at hz ⊢
 have C1:=ck_Bring h x hl.1 hl.2 (y:=⟨q,a,0⟩) (by intro v hv;simp only[List.mem_cons,List.not_mem_nil,or_false]at hv;rcases hv with rfl|rfl|rfl<;>exact⟨by omega,by omega⟩)
 obtain⟨k1,f1,cb,ub,z1⟩:=bringT_facts h x hl.1 hl.2 ⟨q,a,0⟩
 generalize bringT S e item loc ⟨q,a,0⟩=b at *
 obtain⟨S1,ca,up,f⟩:=b
 dsimp only at *
 by_cases h0:f=0
 rotate_left
 ·rw[if_pos h0]at hz;exact absurd hz h0
 subst h0
 rw[if_neg (by simp)]at hz ⊢
 have x1:=k1.ix x
 have C2:=ck_Post k1.ok x1 (l:=[⟨0,ca⟩,⟨6,up⟩,⟨1,-a⟩]) (linI (by intro y hy;simp only[List.mem_cons,List.not_mem_nil,or_false]at hy;rcases hy with rfl|rfl|rfl<;>simp only<;>omega)) (by simp)
 obtain⟨k2,f2,z2⟩:=postG_facts k1.ok x1 [⟨0,ca⟩,⟨6,up⟩,⟨1,-a⟩]
 generalize postG S1 e [⟨0,ca⟩,⟨6,up⟩,⟨1,-a⟩]=b at *
 obtain⟨S2,f⟩:=b
 dsimp only at *
 have e1:=k1.eq
 rw[e1]at C1 C2
 by_cases h0:f=0
 rotate_left
 ·rw[if_pos h0]at hz;exact absurd hz h0
 subst h0
 rw[if_neg (by simp)]at hz ⊢
 have x2:=k2.ix x1
 have C3:=ck_Turn k2.ok x2 (r:=[0,ca,0,0,0,0,0,0,0,0,0]) rfl (allB (by intro y hy;simp only[List.mem_cons,List.not_mem_nil,or_false]at hy;rcases hy with rfl|rfl|rfl|rfl|rfl|rfl|rfl|rfl|rfl|rfl|rfl<;>omega))
 obtain⟨k3,f3,z3⟩:=turnT_facts k2.ok x2 (r:=[0,ca,0,0,0,0,0,0,0,0,0]) rfl
 generalize turnT S2 e item [0,ca,0,0,0,0,0,0,0,0,0]=b at *
 obtain⟨S3,f⟩:=b
 dsimp only at *
 have e2:=(k1.trans k2).eq
 rw[e2]at C2 C3
 by_cases h0:f=0
 rotate_left
 ·rw[if_pos h0]at hz;exact absurd hz h0
 subst h0
 rw[if_neg (by simp)]at hz ⊢
 have x3:=k3.ix x2
 have e3:=((k1.trans k2).trans k3).eq
 rw[e3]at C3 ⊢
 have W:=Op_receive_ok hE hI hl hq ha hdd (by omega) rfl rfl hC R C1 C2 C3
 rw[show(rowI [e,item,loc,q,a,q,a,0])=rowI (RcD.r ⟨e,item,loc,q,a,q,a,0⟩)from rfl,rcs_snoc]at W
 exact W
theorem ck_sellZ (G:Gen S) (hd:S.done≤1000000) (x:Ix S e item) (hl:0≤loc∧loc≤1) (hq:1≤q∧q≤1073741824) (ha:0≤a∧a≤1125899906842624) (hC:CK Tryz.prog 19 [opAv 4 e item loc 0 q a 0] (.c (.bool true))) (hz:(sellT S e item loc q a).2=0) :
  CK Tryz.prog 11 [S.av,opAv 4 e item loc 0 q a 0] (.tup [(sellT S e item loc q a).1.av,.i (sellT S e item loc q a).2]):=by
 have h:=G.toStOk
 have hE:0≤e∧e≤3:=by have:=x.e0;have:=x.e1;have:=h.hn;omega
 have hI:0≤item∧item≤4:=by have:=x.i0;have:=x.i1;have:=h.hw;omega
 have hdd:Od S:=⟨⟨G.d0,hd⟩,G.rcl,G.sal,G.trl⟩
 have hat:=h.at_ x
 have hnw:I64 (S.ent e).now:=by have:=(h.eok x).now;exact⟨by omega,by omega⟩
 have R:=ck_Ready h x
 unfold sellT at hz ⊢
 by_cases hc:(S.ent e).closed=true
 ·rw[if_pos hc]at hz;exact absurd hz (by simp)
 rw[if_neg hc]at R hz ⊢
 by_cases hf:S.sales.length=40
 ·rw[if_pos hf]at hz;exact absurd hz (by simp)
 rw[if_neg hf]at hz ⊢
 have C1:=ck_Fetch h x (kind:=0) hl.1 hl.2 ⟨by omega,by omega⟩ (q:=q) ⟨by omega,by omega⟩
 obtain⟨k1,f1,vb,ib,z1⟩:=fetchT_facts h x (kind:=0) hl.1 hl.2 (by omega) (by omega) q
 generalize fetchT S e item loc 0 q=b at *
 obtain⟨S1,⟨xq,xv,xp⟩,wt,f⟩:=b
 dsimp only at *
 by_cases h0:f=0
 rotate_left
 ·rw[if_pos h0]at hz;exact absurd hz h0
 subst h0
 rw[if_neg (by simp)]at hz ⊢
 have x1:=k1.ix x
 have C2:=ck_Post k1.ok x1 (l:=[⟨3,a⟩,⟨4,-a⟩,⟨5,xv⟩,⟨0,-xv⟩]) (linI (by intro y hy;simp only[List.mem_cons,List.not_mem_nil,or_false]at hy;rcases hy with rfl|rfl|rfl|rfl<;>simp only<;>omega)) (by simp)
 obtain⟨k2,f2,z2⟩:=postG_facts k1.ok x1 [⟨3,a⟩,⟨4,-a⟩,⟨5,xv⟩,⟨0,-xv⟩]
 generalize postG S1 e [⟨3,a⟩,⟨4,-a⟩,⟨5,xv⟩,⟨0,-xv⟩]=b at *
 obtain⟨S2,f⟩:=b
 dsimp only at *
 have e1:=k1.eq
 rw[e1]at C1 C2
 by_cases h0:f=0
 rotate_left
 ·rw[if_pos h0]at hz;exact absurd hz h0
 subst h0
 rw[if_neg (by simp)]at hz ⊢
 have x2:=k2.ix x1
 have C3:=ck_Turn k2.ok x2 (r:=[0,0,0,0,0,xv,0,0,0,0,0]) rfl (allB (by intro y hy;simp only[List.mem_cons,List.not_mem_nil,or_false]at hy;rcases hy with rfl|rfl|rfl|rfl|rfl|rfl|rfl|rfl|rfl|rfl|rfl<;>omega))
 obtain⟨k3,f3,z3⟩:=turnT_facts k2.ok x2 (r:=[0,0,0,0,0,xv,0,0,0,0,0]) rfl
 generalize turnT S2 e item [0,0,0,0,0,xv,0,0,0,0,0]=b at *
 obtain⟨S3,f⟩:=b
 dsimp only at *
 have e2:=(k1.trans k2).eq
 rw[e2]at C2 C3
 by_cases h0:f=0
 rotate_left
 ·rw[if_pos h0]at hz;exact absurd hz h0
 subst h0
 rw[if_neg (by simp)]at hz ⊢
 have x3:=k3.ix x2
 have e3:=((k1.trans k2).trans k3).eq
 rw[e3]at C3 ⊢
 have W:=Op_sell_ok hE hI hl hq ha hdd hat h.hn hnw (by omega) ⟨by omega,by omega⟩ rfl rfl rfl hC R C1 C2 C3
 rw[sas_snoc]at W
 exact W
theorem ck_backZ (G:Gen S) (hd:S.done≤1000000) (x:Ix S e item) (hl:0≤loc∧loc≤1) (hq:1≤q∧q≤1073741824) (ha:0≤a∧a≤1125899906842624) (hr:0≤ref∧ref≤39) (hsa:S.sales[ref.toNat]?=some ⟨e,item,loc,sq,sb,sc,sp,st,false⟩) (bsq:0≤sq∧sq≤1073741824) (bsb:0≤sb∧sb≤1073741824) (hc:B58 sc) (hp:B58 sp) (bst:I64 st) (hsh:q≤sq-sb) (R:CK Tryz.prog 113 [S.av,.i e,.i item] (.i 0)) (hC:CK Tryz.prog 19 [opAv 5 0 0 0 0 q a ref] (.c (.bool true))) (hz:(backT S ⟨e,item,loc,sq,sb,sc,sp,st,false⟩ ref q a).2=0) :
  CK Tryz.prog 11 [S.av,opAv 5 0 0 0 0 q a ref] (.tup [(backT S ⟨e,item,loc,sq,sb,sc,sp,st,false⟩ ref q a).1.av,.i (backT S ⟨e,item,loc,sq,sb,sc,sp,st,false⟩ ref q a).2]):=by
 have h:=G.toStOk
 have hE:0≤e∧e≤3:=by have:=x.e0;have:=x.e1;have:=h.hn;omega
 have hI:0≤item∧item≤4:=by have:=x.i0;have:=x.i1;have:=h.hw;omega
 have hdd:Od S:=⟨⟨G.d0,hd⟩,G.rcl,G.sal,G.trl⟩
 have hat:=h.at_ x
 have hnw:I64 (S.ent e).now:=by have:=(h.eok x).now;exact⟨by omega,by omega⟩
 have bsc:B60 sc:=⟨by omega,by omega⟩
 have bsp:B60 sp:=⟨by omega,by omega⟩
 have C:=ck_Part (v:=sc) (q:=q) (n:=sq-sb) ⟨by omega,by omega⟩ ⟨by omega,by omega⟩ ⟨by omega,by omega⟩
 have D:=ck_Part (v:=sp) (q:=q) (n:=sq-sb) ⟨by omega,by omega⟩ ⟨by omega,by omega⟩ ⟨by omega,by omega⟩
 have c0:=part_B (v:=sc) (q:=q) (n:=sq-sb) (by omega) (by omega) hsh hc
 have d0:=part_B (v:=sp) (q:=q) (n:=sq-sb) (by omega) (by omega) hsh hp
 have hc':B60 (partS sc q (sq-sb)):=⟨by omega,by omega⟩
 have hp':B60 (partS sp q (sq-sb)):=⟨by omega,by omega⟩
 unfold backT at hz ⊢
 dsimp only at hz ⊢
 generalize partS sc q (sq-sb)=c at *
 generalize partS sp q (sq-sb)=pf at *
 have C1:=ck_Bring h x hl.1 hl.2 (y:=⟨q,c,pf⟩) (by intro v hv;simp only[List.mem_cons,List.not_mem_nil,or_false]at hv;rcases hv with rfl|rfl|rfl<;>exact⟨by omega,by omega⟩)
 obtain⟨k1,f1,cb,ub,z1⟩:=bringT_facts h x hl.1 hl.2 ⟨q,c,pf⟩
 generalize bringT S e item loc ⟨q,c,pf⟩=b at *
 obtain⟨S1,ca,up,f⟩:=b
 dsimp only at *
 by_cases h0:f=0
 rotate_left
 ·rw[if_pos h0]at hz;exact absurd hz h0
 subst h0
 rw[if_neg (by simp)]at hz ⊢
 have x1:=k1.ix x
 have C2:=ck_Post k1.ok x1 (l:=[⟨0,ca⟩,⟨6,up⟩,⟨5,-c⟩,⟨4,a⟩,⟨3,-a⟩]) (linI (by intro y hy;simp only[List.mem_cons,List.not_mem_nil,or_false]at hy;rcases hy with rfl|rfl|rfl|rfl|rfl<;>simp only<;>omega)) (by simp)
 obtain⟨k2,f2,z2⟩:=postG_facts k1.ok x1 [⟨0,ca⟩,⟨6,up⟩,⟨5,-c⟩,⟨4,a⟩,⟨3,-a⟩]
 generalize postG S1 e [⟨0,ca⟩,⟨6,up⟩,⟨5,-c⟩,⟨4,a⟩,⟨3,-a⟩]=b at *
 obtain⟨S2,f⟩:=b
 dsimp only at *
 have e1:=k1.eq
 rw[e1]at C1 C2
 by_cases h0:f=0
 rotate_left
 ·rw[if_pos h0]at hz;exact absurd hz h0
 subst h0
 rw[if_neg (by simp)]at hz ⊢
 have x2:=k2.ix x1
 have C3:=ck_Turn k2.ok x2 (r:=[0,0,0,0,ca,0,0,0,0,0,0]) rfl (allB (by intro y hy;simp only[List.mem_cons,List.not_mem_nil,or_false]at hy;rcases hy with rfl|rfl|rfl|rfl|rfl|rfl|rfl|rfl|rfl|rfl|rfl<;>omega))
 obtain⟨k3,f3,z3⟩:=turnT_facts k2.ok x2 (r:=[0,0,0,0,ca,0,0,0,0,0,0]) rfl
 generalize turnT S2 e item [0,0,0,0,ca,0,0,0,0,0,0]=b at *
 obtain⟨S3,f⟩:=b
 dsimp only at *
 have e2:=(k1.trans k2).eq
 rw[e2]at C2 C3
 by_cases h0:f=0
 rotate_left
 ·rw[if_pos h0]at hz;exact absurd hz h0
 subst h0
 rw[if_neg (by simp)]at hz ⊢
 have x3:=k3.ix x2
 have e3:=((k1.trans k2).trans k3).eq
 rw[e3]at C3 ⊢
 have W:=Op_back_ok hq ha hr hdd hsa hE hI hl bsq bsb bsc bsp bst hat h.hn hnw hsh hc' hp' rfl rfl rfl rfl rfl rfl rfl hC R C D C1 C2 C3
 rw[sas_set]at W
 exact W
theorem ck_unsellZ (G:Gen S) (hd:S.done≤1000000) (x:Ix S e item) (hl:0≤loc∧loc≤1) (hq:1≤q∧q≤1073741824) (ha:0≤a∧a≤1125899906842624) (hr:0≤ref∧ref≤39) (hsa:S.sales[ref.toNat]?=some ⟨e,item,loc,sq,sb,sc,sp,st,true⟩) (bsq:0≤sq∧sq≤1073741824) (bsb:0≤sb∧sb≤1073741824) (hc:B58 sc) (hp:B58 sp) (bst:I64 st) (hsh:q≤sq-sb) (hst:st=(S.ent e).now) (R:CK Tryz.prog 113 [S.av,.i e,.i item] (.i 0)) (hC:CK Tryz.prog 19 [opAv 5 0 0 0 0 q a ref] (.c (.bool true))) (hz:(unsellT S ⟨e,item,loc,sq,sb,sc,sp,st,true⟩ ref q a).2=0) :
  CK Tryz.prog 11 [S.av,opAv 5 0 0 0 0 q a ref] (.tup [(unsellT S ⟨e,item,loc,sq,sb,sc,sp,st,true⟩ ref q a).1.av,.i (unsellT S ⟨e,item,loc,sq,sb,sc,sp,st,true⟩ ref q a).2]):=by
 have h:=G.toStOk
 have hE:0≤e∧e≤3:=by have:=x.e0;have:=x.e1;have:=h.hn;omega
 have hI:0≤item∧item≤4:=by have:=x.i0;have:=x.i1;have:=h.hw;omega
 have hdd:Od S:=⟨⟨G.d0,hd⟩,G.rcl,G.sal,G.trl⟩
 have hat:=h.at_ x
 have hnw:I64 (S.ent e).now:=by have:=(h.eok x).now;exact⟨by omega,by omega⟩
 have bsc:B60 sc:=⟨by omega,by omega⟩
 have bsp:B60 sp:=⟨by omega,by omega⟩
 have A:=ck_At h x hl.1 hl.2
 have hpk:=h.pok x hl.1 hl.2
 have hpn:=hpk.pnd
 have Bk:=ck_pavgBack (p:=(S.ent e).pool (2*item+loc)) (q:=q) hpk.lr.len (by have h1:=hpn.a0;have h2:=hpn.a1;simp only[PoolD.pn]at h1 h2;exact⟨by omega,by omega⟩) hq
 have hpt:=h.pat x hl.1 hl.2
 unfold unsellT at hz ⊢
 dsimp only at hz ⊢
 generalize hP:(S.ent e).pool (2*item+loc)=P at *
 obtain⟨L,p0,p1,p2⟩:=P
 dsimp only at *
 by_cases hb:p0<q
 ·rw[if_pos hb]at hz;exact absurd hz (by simp)
 rw[if_neg hb]at Bk hz ⊢
 rw[if_neg hb]at Bk
 have C1:=ck_Post h x (l:=[⟨4,a⟩,⟨3,-a⟩]) (linI (by intro y hy;simp only[List.mem_cons,List.not_mem_nil,or_false]at hy;rcases hy with rfl|rfl<;>simp only<;>omega)) (by simp)
 obtain⟨k1,f1,z1⟩:=postG_facts h x [⟨4,a⟩,⟨3,-a⟩]
 have hpo:=postG_pools h x [⟨4,a⟩,⟨3,-a⟩]
 generalize postG S e [⟨4,a⟩,⟨3,-a⟩]=b at *
 obtain⟨S1,f⟩:=b
 dsimp only at *
 by_cases h0:f=0
 rotate_left
 ·rw[if_pos h0]at hz;exact absurd hz h0
 subst h0
 rw[if_neg (by simp)]at hz ⊢
 have x1:=k1.ix x
 have e1:=k1.eq
 have hat1:=k1.ok.at_ x1
 have hnw1:I64 (S1.ent e).now:=by have:=(k1.ok.eok x1).now;exact⟨by omega,by omega⟩
 have hpl:(S1.ent e).pools.length≤10:=by have:=(k1.ok.eok x1).pl;have:=k1.ok.hw;omega
 have hkl:2*item+loc<(S1.ent e).pools.length:=by have:=(k1.ok.eok x1).pl;have:=x1.i1;omega
 have hp1:(S1.ent e).pools[(2*item+loc).toNat]?=some ⟨L,p0,p1,p2⟩:=by rw[hpo];exact hpt
 have av:({ S1.setEnt e ((S1.ent e).setPool (2*item+loc) ⟨L,p0-q,p1,p2⟩)with sales:=S.sales.set ref.toNat ⟨e,item,loc,sq,q+sb,sc,sp,st,true⟩,done:=1+S.done }:StD).av=S.avX ((entsR S1.ents).set e.toNat (entRw (S1.ent e).now (S1.ent e).closed ((poolsR (S1.ent e).pools).set (2*item+loc).toNat (PoolD.row ⟨L,p0-q,p1,p2⟩)) (intsR (S1.ent e).bal) (rollsR (S1.ent e).rolls) (intsR (S1.ent e).prices) (intsR (S1.ent e).down) (aheadR (S1.ent e).ahead))) (rcsR S.receipts) ((sasR S.sales).set ref.toNat (SaD.row ⟨e,item,loc,sq,q+sb,sc,sp,st,true⟩)) (trsR S.transits) (1+S.done):=by
  rw[sas_set,←poolsR_set]
  have e2:S1.entities=S.entities∧S1.periods=S.periods∧S1.weights=S.weights∧S1.methods=S.methods∧S1.costs=S.costs∧S1.receipts=S.receipts∧S1.transits=S.transits:=by rw[e1];exact⟨rfl,rfl,rfl,rfl,rfl,rfl,rfl⟩
  obtain⟨a1,a2,a3,a4,a5,a6,a7⟩:=e2
  show AV.agg [.i S1.entities,.i S1.periods,.lit 1 (intsR S1.weights),.lit 1 (intssR S1.methods),.lit 1 (intssR S1.costs),.lit 8 (entsR (S1.ents.set e.toNat _)),.lit 8 (rcsR S1.receipts),.lit 9 (sasR _),.lit 6 (trsR S1.transits),.i (1+S.done)]=_
  rw[a1,a2,a3,a4,a5,a6,a7,entsR_set]
  rfl
 rw[av]
 have hn1:S1.ents.length≤4:=k1.ok.hn
 generalize hX:S1.ent e=X at *
 obtain⟨⟨now1,closed1,pools1,bal1,rolls1,prices1,down1⟩,ahead1⟩:=X
 rw[e1]at C1
 exact Op_unsell_ok hq ha hr hdd hsa hE hI hl bsq bsb bsc bsp bst hat h.hn hnw hsh hst hat1 hn1 hnw1 hpl hkl rfl hp1 rfl rfl rfl hC R A Bk C1
theorem ck_takeBackZ (G:Gen S) (hd:S.done≤1000000) (hq:1≤q∧q≤1073741824) (ha:0≤a∧a≤1125899906842624) (hr:0≤ref∧ref≤39) (hpe:∀x∈S.sales,x.period=(S.ent x.entity).now) (hC:CK Tryz.prog 19 [opAv 5 0 0 0 0 q a ref] (.c (.bool true))) (hz:(takeBackT S ref q a).2=0) :
  CK Tryz.prog 11 [S.av,opAv 5 0 0 0 0 q a ref] (.tup [(takeBackT S ref q a).1.av,.i (takeBackT S ref q a).2]):=by
 have h:=G.toStOk
 unfold takeBackT at hz ⊢
 cases hsa:S.sales[ref.toNat]? with
 |none=>rw[hsa]at hz;exact absurd hz (by simp)
 |some s =>
  rw[hsa]at hz
  have hm:=List.mem_of_getElem? hsa
  have B:=G.sab s hm
  have P:=hpe s hm
  obtain⟨e,item,loc,sq,sb,sc,sp,st,sw⟩:=s
  dsimp only at *
  obtain⟨b1,b2,b3,b4,b5,b6,b7,b8⟩:=B
  have x:Ix S e item:=⟨b1.1,b1.2,b2.1,b2.2⟩
  have R:=ck_Ready h x
  by_cases hc:(S.ent e).closed=true
  ·rw[if_pos hc]at hz;exact absurd hz (by simp)
  rw[if_neg hc]at R hz ⊢
  by_cases hsh:sq-sb<q
  ·rw[if_pos hsh]at hz;exact absurd hz (by simp)
  rw[if_neg hsh]at hz ⊢
  cases sw with
  |false =>
   rw[if_neg (by simp)]at hz ⊢
   exact ck_backZ G hd x b3 hq ha hr hsa (by omega) (by omega) b6 b7 ⟨by omega,by omega⟩ (by omega) R hC hz
  |true =>
   rw[if_pos ⟨rfl,P⟩]at hz ⊢
   exact ck_unsellZ G hd x b3 hq ha hr hsa (by omega) (by omega) b6 b7 ⟨by omega,by omega⟩ (by omega) P R hC hz
end
end Go.Proofs.YtnalblnmplnhmaaGreat
