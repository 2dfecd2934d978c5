/-
 stock.steady: its two loops. The walk, by names.
-/
import Derived.Test.YtnalblnmplnhmaaGreatMX
import Derived.Test.YtnalblnmplnhmaaGreatSt2
set_option linter.unusedVariables false
set_option linter.unusedSimpArgs false
namespace Go.Proofs.YtnalblnmplnhmaaGreat
open Go.RowKit Mc
def stC:List AV:=[.o 0,.o 1,.seq 1 1 [] [],.seq 1 2 [] [],.seq 1 3 [] [],.seq 8 0 [] [],.seq 8 4 [] [],.seq 9 5 [] [],.seq 6 6 [] [],.o 2]
def stN:AV:=.agg stC
def sw (l:List Lay):List Int:=l.map fun x=>max x.p (-x.p)
namespace Steady
@[reducible] def bkH:Bk:={ vars:=[(-9223372036854775808,9223372036854775807),(-9223372036854775808,9223372036854775807),(0,30),(0,30),(0,60),(-288230376151711744,288230376151711744),(0,288230376151711744),(0,2)],lens:=[(7,[([3],1)]),(8,[([4],1)])] }
@[reducible] def bkR:Bk:={ vars:=[(-9223372036854775808,9223372036854775807),(-9223372036854775808,9223372036854775807),(0,30),(0,30),(0,60),(-288230376151711744,288230376151711744),(0,288230376151711744),(0,1)],lens:=[(7,[([3],1)]),(8,[([4],1)])],extV:=[(16,[stN,.e [([0],1)],.e [([1],1)],.e [([7],1)]],.agg [.seq 3 7 [] [],.o 3,.o 4,.o 5])] }
@[reducible] def bkJ:Bk:={ vars:=[(-9223372036854775808,9223372036854775807),(-9223372036854775808,9223372036854775807),(0,29),(0,30),(0,60),(-288230376151711744,288230376151711744),(0,288230376151711744),(0,1)],facts:=[([([2],-1),([3],1)],1,30)],defs:=[(2,[([5],1)],[([5],-1)],[([6],1)])],lens:=[(7,[([3],1)]),(8,[([4],1)])],ats:=[(7,[([2],1)],[.o 6,.o 7,.e [([5],1)]])] }
@[reducible] def bkE:Bk:={ vars:=[(-9223372036854775808,9223372036854775807),(-9223372036854775808,9223372036854775807),(0,30),(0,30),(0,60),(-288230376151711744,288230376151711744),(0,288230376151711744),(0,1)],facts:=[([([2],-1),([3],1)],0,0)],lens:=[(7,[([3],1)]),(8,[([4],1)])] }
@[reducible] def bkX0:Bk:={ vars:=[(-9223372036854775808,9223372036854775807),(-9223372036854775808,9223372036854775807),(0,30),(0,30),(0,60),(-288230376151711744,288230376151711744),(0,0),(2,2)],lens:=[(7,[([3],1)]),(8,[([4],1)])],extV:=[(60,[.seq 1 8 [] []],.tup [.o 3,.e [([6],1)]])] }
@[reducible] def bkX2:Bk:={ vars:=[(-9223372036854775808,9223372036854775807),(-9223372036854775808,9223372036854775807),(0,30),(0,30),(0,60),(-288230376151711744,288230376151711744),(2,2),(2,2)],lens:=[(7,[([3],1)]),(8,[([4],1)])],extV:=[(60,[.seq 1 8 [] []],.tup [.o 3,.e [([6],1)]])] }
def f0:List AV:=[stN,.e [([0],1)],.e [([1],1)]]++List.replicate 42 .undef
def fO:List AV:=[stN,.e [([0],1)],.e [([1],1)],.ptr 10 0 0 0,.junk,.junk,.c (.bool false),.sown 3 1 1 [([4],1)],.junk,.junk,.junk,.junk,.junk,.e [([7],1)]]++List.replicate 31 .junk
def bO:List Mc.Blk:=[.cells 33 10 [stC],.sc 3 1 8 [] [] [([4],1)]]
def fI:List AV:=[stN,.e [([0],1)],.e [([1],1)],.ptr 10 0 0 0,.junk,.junk,.c (.bool false),.sown 3 1 1 [([4],1)],.junk,.junk,.junk,.junk,.junk,.e [([7],1)],.junk,.junk,.junk,.junk,.junk,.junk,.junk,.seq 3 7 [] [],.e [([3],1)],.e [([2],1)]]++List.replicate 21 .junk
noncomputable def body:Code:=(Tryz.f160).body.getD .skip
noncomputable def sA:Option (RT Out):=@arunT bkH Tryz.prog (@acallN bkH Tryz.prog 1000 10) 1000 100 body (Ft.of 45 f0) (trOf []) 0
noncomputable def sB:Option (RT Out):=@arunT bkR Tryz.prog (@acallN bkR Tryz.prog 1000 10) 1000 100 (oCode sA) (Ft.of 45 fO) (trOf bO) 2
noncomputable def sC:Option (RT Out):=@arunT bkJ Tryz.prog (@acallN bkJ Tryz.prog 1000 10) 1000 100 (oCode sB) (Ft.of 45 fI) (trOf bO) 2
noncomputable def sD:Option (RT Out):=@arunT bkE Tryz.prog (@acallN bkE Tryz.prog 1000 10) 1000 100 (oCode sB) (Ft.of 45 fI) (trOf bO) 2
noncomputable def sE:Option (RT Out):=@aresT bkE Tryz.prog (@acallN bkE Tryz.prog 1000 10) 1000 (oK sB) (.exit 2) (Ft.of 45 fI) (trOf bO) 2
noncomputable def sF:Option (RT Out):=@arunT bkX0 Tryz.prog (@acallN bkX0 Tryz.prog 1000 10) 1000 100 (oCode sA) (Ft.of 45 fO) (trOf bO) 2
noncomputable def sH:Option (RT Out):=@arunT bkX2 Tryz.prog (@acallN bkX2 Tryz.prog 1000 10) 1000 100 (oCode sA) (Ft.of 45 fO) (trOf bO) 2
noncomputable def sG0:Option (RT Out):=@aresT bkX0 Tryz.prog (@acallN bkX0 Tryz.prog 1000 10) 1000 (oK sA) (.exit 0) (Ft.of 45 fO) (trOf bO) 2
noncomputable def sG2:Option (RT Out):=@aresT bkX2 Tryz.prog (@acallN bkX2 Tryz.prog 1000 10) 1000 (oK sA) (.exit 0) (Ft.of 45 fO) (trOf bO) 2
set_option maxRecDepth 1000000
theorem sA_stop:stopB sA=true:=by decide +kernel
theorem sB_stop:stopB sB=true:=by decide +kernel
theorem sC_done:doneB sC 0=true:=by decide +kernel
theorem sD_done:doneB sD 4=true:=by decide +kernel
theorem sE_done:doneB sE 0=true:=by decide +kernel
theorem sH_done:doneB sH 2=true:=by decide +kernel
theorem sF_done:doneB sF 2=true:=by decide +kernel
theorem sG0_done:doneB sG0 1=true:=by decide +kernel
theorem sG2_done:doneB sG2 1=true:=by decide +kernel
section
variable {S:StD} {e item:Int}
abbrev vsG (S:StD) (u3 u4 u5 u6 u7:Int):List Value:=[.int .i64 S.entities,.int .i64 S.periods,.int .i64 S.done,.int .i64 u3,.int .i64 u4,.int .i64 u5,.int .i64 u6,.int .i64 u7]
abbrev ssG (S:StD) (L:List Lay) (ws:List Int):List (List (List AV)):=[entsR S.ents,intsR S.weights,intssR S.methods,intssR S.costs,rcsR S.receipts,sasR S.sales,trsR S.transits,laysR L,intsR ws]
theorem splG (S:StD) (L:List Lay) (ws:List Int):∀l∈ssG S L ws,∀r∈l,∀x∈r,Cl x:=spl_cons (cl_ents _) (spl_cons (cl_ints _) (spl_cons (cl_intss _) (spl_cons (cl_intss _) (spl_cons (cl_rcs _) (spl_cons (cl_sas _) (spl_cons (cl_trs _) (spl_cons (cl_lays _) (spl_cons (cl_ints _) spl_nil))))))))
theorem oneG (S:StD) (u3 u4 u5 u6 u7:Int):∀v∈vsG S u3 u4 u5 u6 u7,v.oneCell'=true:=ones_cons rfl (ones_cons rfl (ones_cons rfl (ones_cons rfl (ones_cons rfl (ones_cons rfl (ones_cons rfl (ones_cons rfl ones_nil)))))))
theorem lenG {S:StD} {L:List Lay} {ws:List Int} {e item i nL nW p a loc:Int} (h1:(L.length:Int)=nL) (h2:(ws.length:Int)=nW):LenL (fun k=>([e,item,i,nL,nW,p,a,loc]:List Int).getD k 0) (ssG S L ws) [(7,[([3],1)]),(8,[([4],1)])] :=
 .cons (by simp[pev,mev,laysR];omega) (.cons (by simp[pev,mev,intsR];omega) .nil)
abbrev evG (b:Bk) (S:StD) (e item i nL nW p a loc u3 u4 u5 u6 u7:Int) (L:List Lay) (ws:List Int) (hd:DefL (fun k=>([e,item,i,nL,nW,p,a,loc]:List Int).getD k 0) b.defs) (hb:BndL b.vars [e,item,i,nL,nW,p,a,loc]) (hf:FctL (fun k=>([e,item,i,nL,nW,p,a,loc]:List Int).getD k 0) b.facts)
  (hl:LenL (fun k=>([e,item,i,nL,nW,p,a,loc]:List Int).getD k 0) (ssG S L ws) b.lens) (ha:AtsL (fun k=>([e,item,i,nL,nW,p,a,loc]:List Int).getD k 0) (fun i=>(vsG S u3 u4 u5 u6 u7).getD i (.bool false)) (ssG S L ws) b.ats) (hk:b.kinds=[]:=by rfl):@Ev b :=
 evSeq b [e,item,i,nL,nW,p,a,loc] (vsG S u3 u4 u5 u6 u7) (ssG S L ws) hd hb hf (oneG S u3 u4 u5 u6 u7) hl ha (splG S L ws) hk
end
theorem blO {b1 b2:Bk} {S:StD} {e item i nL nW p a loc u3 u4 u5 u6 u7 i' nL' p' a' loc' v3 v4 v5 v6 v7:Int} {L L':List Lay} {ws:List Int} {hd hb hf hl ha hk hd' hb' hf' hl' ha' hk'} (hW:(ws.length:Int)=nW) :
  BlkL b1 (evG b1 S e item i nL nW p a loc u3 u4 u5 u6 u7 L ws hd hb hf hl ha hk) b2 (evG b2 S e item i' nL' nW p' a' loc' v3 v4 v5 v6 v7 L' ws hd' hb' hf' hl' ha' hk') (idl 2) (hOf bO) (idl 2) bO:=by
 refine .cons (BlkS.cells1 (r:=stC) (r':=stC) rfl ?_ rfl rfl) (.cons (BlkS.sc (base:=8) (base':=8) (ups:=[]) (tail:=[]) (n:=[([4],1)]) rfl rfl ?_) .nil)
 ·refine .cons (Slot.data (d:=.i S.entities) rfl rfl (.c _) rfl) (.cons (Slot.data (d:=.i S.periods) rfl rfl (.c _) rfl) (.cons (Slot.data (d:=.lit 1 (intsR S.weights)) rfl rfl (cl_ints _).lit rfl) (.cons (Slot.data (d:=.lit 1 (intssR S.methods)) rfl rfl (cl_intss _).lit rfl) (.cons (Slot.data (d:=.lit 1 (intssR S.costs)) rfl rfl (cl_intss _).lit rfl) (.cons (Slot.data (d:=.lit 8 (entsR S.ents)) rfl rfl (cl_ents _).lit rfl) (.cons (Slot.data (d:=.lit 8 (rcsR S.receipts)) rfl rfl (cl_rcs _).lit rfl) (.cons (Slot.data (d:=.lit 9 (sasR S.sales)) rfl rfl (cl_sas _).lit rfl) (.cons (Slot.data (d:=.lit 6 (trsR S.transits)) rfl rfl (cl_trs _).lit rfl) (.cons (Slot.data (d:=.i S.done) rfl rfl (.c _) rfl) .nil)))))))))
 ·have e1:pev (fun k=>([e,item,i',nL',nW,p',a',loc']:List Int).getD k 0) [([4],1)]=nW:=by simp[pev,mev]
  refine e1.trans ?_
  show nW=((intsR ws).length:Int)
  rw[←hW];simp[intsR]
def fA:List AV:=[stN,.e [([0],1)],.e [([1],1)],.ptr 10 0 0 0,.junk,.junk,.c (.bool false),.emp,.junk,.junk,.junk,.junk,.junk,.c (.int .i64 0)]++List.replicate 31 .junk
def bA:List Mc.Blk:=[.cells 33 10 [stC]]
def fB:List AV:=[stN,.e [([0],1)],.e [([1],1)],.ptr 10 0 0 0,.junk,.junk,.c (.bool false),.sown 3 1 1 [([4],1)],.junk,.junk,.junk,.junk,.junk,.e [([7],1)],.junk,.junk,.junk,.junk,.junk,.junk,.junk,.seq 3 7 [] [],.e [([3],1)],.c (.int .i64 0)]++List.replicate 21 .junk
def fC:List AV:=[stN,.e [([0],1)],.e [([1],1)],.ptr 10 0 0 0,.junk,.junk,.c (.bool false),.sown 3 1 1 [([],1),([4],1)],.junk,.junk,.junk,.junk,.junk,.e [([7],1)],.junk,.junk,.junk,.junk,.junk,.junk,.junk,.seq 3 7 [] [],.e [([3],1)],.e [([],1),([2],1)]]++List.replicate 21 .junk
def bC:List Mc.Blk:=[.cells 33 10 [stC],.sc 3 1 8 [] [[.e [([6],1)]]] [([],1),([4],1)]]
def fE:List AV:=[stN,.e [([0],1)],.e [([1],1)],.ptr 10 0 0 0,.junk,.junk,.c (.bool false),.sown 3 1 1 [([4],1)],.junk,.junk,.junk,.junk,.junk,.e [([],1),([7],1)]]++List.replicate 31 .junk
theorem kA:(eqL (slotB [some 0] 16) (lOf sA) fA&&blksB [some 0] (oT sA).get [some 0] bA)=true:=by decide +kernel
theorem kB:(eqL (slotB (idl 2) 16) (lOf sB) fB&&@blksB (idl 2) (oT sB).get (idl 2) bO)=true:=by decide +kernel
theorem kC:(eqL (slotB [some 0,some 4] 16) (lOf sC) fC&&blksB [some 0,some 4] (oT sC).get [some 0,some 4] bC)=true:=by decide +kernel
theorem kD:(eqL (slotB (idl 2) 16) (lOf sD) fI&&blksB (idl 2) (oT sD).get (idl 2) bO)=true:=by decide +kernel
theorem kE:(eqL (slotB (idl 2) 16) (lOf sE) fE&&blksB (idl 2) (oT sE).get (idl 2) bO)=true:=by decide +kernel
theorem kH:(eqL (slotB (idl 2) 16) (lOf sH) fO&&blksB (idl 2) (oT sH).get (idl 2) bO)=true:=by decide +kernel
theorem kF:(eqL (slotB (idl 2) 16) (lOf sF) fO&&blksB (idl 2) (oT sF).get (idl 2) bO)=true:=by decide +kernel
theorem slots_stC {b1 b2:Bk} {e1:@Ev b1} {e2:@Ev b2} {ids:Ids} (h0:∀_:Unit,@den b1 e1 12 (.o 0)=@den b2 e2 12 (.o 0)) (h1:∀_:Unit,@den b1 e1 12 (.o 1)=@den b2 e2 12 (.o 1)) (h2:@Ev.seq b1 e1 1=@Ev.seq b2 e2 1) (h3:@Ev.seq b1 e1 2=@Ev.seq b2 e2 2) (h4:@Ev.seq b1 e1 3=@Ev.seq b2 e2 3) (h5:@Ev.seq b1 e1 0=@Ev.seq b2 e2 0) (h6:@Ev.seq b1 e1 4=@Ev.seq b2 e2 4) (h7:@Ev.seq b1 e1 5=@Ev.seq b2 e2 5) (h8:@Ev.seq b1 e1 6=@Ev.seq b2 e2 6) (h9:@den b1 e1 12 (.o 2)=@den b2 e2 12 (.o 2)):SlotL b1 e1 b2 e2 ids stC stC:=by
 have sq:∀sz k,@Ev.seq b1 e1 k=@Ev.seq b2 e2 k→Slot b1 e1 b2 e2 ids (.seq sz k [] []) (.seq sz k [] []):=by
  intro sz k h
  have d1:∀(b:Bk) (e:@Ev b),@den b e 12 (.seq sz k [] [])=.lit sz (@Ev.seq b e k):=fun b e=>rfl
  exact Slot.data (d1 b1 e1) ((d1 b2 e2).trans (by rw[h])) (.lit _ _ (@Ev.seq_cl b1 e1 k)) rfl
 have ov:∀k,@den b1 e1 12 (.o k)=@den b2 e2 12 (.o k)→Slot b1 e1 b2 e2 ids (.o k) (.o k):=fun k h=>Slot.data h rfl (.c _) rfl
 exact .cons (ov 0 (h0 ())) (.cons (ov 1 (h1 ())) (.cons (sq 1 1 h2) (.cons (sq 1 2 h3) (.cons (sq 1 3 h4) (.cons (sq 8 0 h5) (.cons (sq 8 4 h6) (.cons (sq 9 5 h7) (.cons (sq 6 6 h8) (.cons (ov 2 h9) .nil)))))))))
theorem slots_undef {b1 b2:Bk} {e1:@Ev b1} {e2:@Ev b2} {ids:Ids}:∀n,SlotL b1 e1 b2 e2 ids (List.replicate n .undef) (List.replicate n .undef)
 |0=>.nil
 |n+1=>by rw[List.replicate_succ];exact .cons (Slot.data (d:=.undef) rfl rfl .undef rfl) (slots_undef n)
theorem slots_junk {b1 b2:Bk} {e1:@Ev b1} {e2:@Ev b2} {ids:Ids}:∀n,SlotL b1 e1 b2 e2 ids (List.replicate n .junk) (List.replicate n .junk)
 |0=>.nil
 |n+1=>by rw[List.replicate_succ];exact .cons Slot.junk (slots_junk n)
theorem slO {b1 b2:Bk} {S:StD} {e item i nL nW p a loc u3 u4 u5 u6 u7 i' nL' nW' p' a' loc' v3 v4 v5 v6 v7:Int} {L L':List Lay} {ws ws':List Int} {hd hb hf hl ha hk hd' hb' hf' hl' ha' hk'} {ids:Ids} (i0:ids[0]?=some (some 0)) (i1:ids[1]?=some (some 1)) (hl0:loc'=loc) (hw:nW'=nW) (hx:True=True) :
  SlotL b1 (evG b1 S e item i nL nW p a loc u3 u4 u5 u6 u7 L ws hd hb hf hl ha hk) b2 (evG b2 S e item i' nL' nW' p' a' loc' v3 v4 v5 v6 v7 L' ws' hd' hb' hf' hl' ha' hk') ids fO fO:=by
 subst hl0
 subst hw
 exact .append (.cons (Slot.data (d:=S.av) rfl rfl (cl_st S) rfl) (.cons (Slot.data (d:=.i e) rfl rfl (.c _) rfl) (.cons (Slot.data (d:=.i item) rfl rfl (.c _) rfl) (.cons (Slot.ptr i0) (.cons .junk (.cons .junk (.cons (Slot.data (d:=.c (.bool false)) rfl rfl (.c _) rfl)
   (.cons (Slot.sown i1 rfl) (.cons .junk (.cons .junk (.cons .junk (.cons .junk (.cons .junk (.cons (Slot.data (d:=.i loc') rfl rfl (.c _) rfl) .nil)))))))))))))) (slots_junk 31)
theorem slI {b1 b2:Bk} {S:StD} {e item i nL nW p a loc u3 u4 u5 u6 u7 i' nL' nW' p' a' loc' v3 v4 v5 v6 v7:Int} {L L':List Lay} {ws ws':List Int} {hd hb hf hl ha hk hd' hb' hf' hl' ha' hk'} {ids:Ids} {x d:AV} (i0:ids[0]?=some (some 0)) (i1:ids[1]?=some (some 1)) (hl0:loc'=loc)
  (hx:@den b1 (evG b1 S e item i nL nW p a loc u3 u4 u5 u6 u7 L ws hd hb hf hl ha hk) 12 x=d) (hcl:Cl d) (hy:AV.c (.int .i64 i')=d) (hw:nW'=nW) (hL:L'=L) (hnL:nL'=nL:=by rfl) :
  SlotL b1 (evG b1 S e item i nL nW p a loc u3 u4 u5 u6 u7 L ws hd hb hf hl ha hk) b2 (evG b2 S e item i' nL' nW' p' a' loc' v3 v4 v5 v6 v7 L' ws' hd' hb' hf' hl' ha' hk') ids ([stN,.e [([0],1)],.e [([1],1)],.ptr 10 0 0 0,.junk,.junk,.c (.bool false),.sown 3 1 1 [([4],1)],.junk,.junk,.junk,.junk,.junk,.e [([7],1)],.junk,.junk,.junk,.junk,.junk,.junk,.junk,.seq 3 7 [] [],.e [([3],1)],x]++List.replicate 21 .junk) fI:=by
 subst hl0
 subst hw
 subst hL
 subst hnL
 exact .append (.cons (Slot.data (d:=S.av) rfl rfl (cl_st S) rfl) (.cons (Slot.data (d:=.i e) rfl rfl (.c _) rfl) (.cons (Slot.data (d:=.i item) rfl rfl (.c _) rfl) (.cons (Slot.ptr i0) (.cons .junk (.cons .junk (.cons (Slot.data (d:=.c (.bool false)) rfl rfl (.c _) rfl)
   (.cons (Slot.sown i1 rfl) (.cons .junk (.cons .junk (.cons .junk (.cons .junk (.cons .junk (.cons (Slot.data (d:=.i loc') rfl rfl (.c _) rfl) (.cons .junk (.cons .junk (.cons .junk (.cons .junk (.cons .junk (.cons .junk (.cons .junk (.cons (Slot.data (d:=.lit 3 (laysR L')) rfl rfl (cl_lays _).lit rfl) (.cons (Slot.data (d:=.i nL') rfl rfl (.c _) rfl) (.cons (Slot.data (d:=d) hx hy hcl rfl) .nil)))))))))))))))))))))))) (slots_junk 21)
theorem blS {b1 b2:Bk} {S:StD} {e item i nL nW p a loc u3 u4 u5 u6 u7 i' nL' nW' p' a' loc' v3 v4 v5 v6 v7:Int} {L L':List Lay} {ws ws':List Int} {hd hb hf hl ha hk hd' hb' hf' hl' ha' hk'} (hii:True=True) (hww:ws'=ws) (hW:nW'=((intsR ws').length:Int)) (hx:True=True) :
  BlkL b1 (evG b1 S e item i nL nW p a loc u3 u4 u5 u6 u7 L ws hd hb hf hl ha hk) b2 (evG b2 S e item i' nL' nW' p' a' loc' v3 v4 v5 v6 v7 L' ws' hd' hb' hf' hl' ha' hk') (idl 2) (hOf bO) (idl 2) bO:=by
 subst hww
 refine .cons (BlkS.cells1 (r:=stC) (r':=stC) rfl (slots_stC (fun _=>rfl) (fun _=>rfl) rfl rfl rfl rfl rfl rfl rfl rfl) rfl rfl) (.cons (BlkS.sc (base:=8) (base':=8) (ups:=[]) (tail:=[]) (n:=[([4],1)]) rfl rfl ?_) .nil)
 exact(pv_get [e,item,i',nL',nW',p',a',loc'] 4).trans hW
theorem resG0:resultsA Tryz.prog Tryz.f160 (lOf sG0) (oT sG0).get=some (.c (.bool true)):=by kernel_rfl
theorem resG2:resultsA Tryz.prog Tryz.f160 (lOf sG2) (oT sG2).get=some (.c (.bool false)):=by kernel_rfl
theorem sw_bd {l:List Lay} (h:∀x∈l,layOk x=true):∀x∈l,-288230376151711744≤x.p∧x.p≤288230376151711744∧0≤max x.p (-x.p)∧max x.p (-x.p)≤288230376151711744:=by
 intro x hx
 have:=layOk_iff.1 (h x hx)
 omega
set_option maxHeartbeats 2000000
theorem walk0 (oA oB oC oD oE oF oG0 oH oG2:Option (RT Out))
  (rA:@arunT bkH Tryz.prog (@acallN bkH Tryz.prog 1000 10) 1000 100 body (Ft.of 45 f0) (trOf []) 0=oA) (rB:@arunT bkR Tryz.prog (@acallN bkR Tryz.prog 1000 10) 1000 100 (oCode oA) (Ft.of 45 fO) (trOf bO) 2=oB) (rC:@arunT bkJ Tryz.prog (@acallN bkJ Tryz.prog 1000 10) 1000 100 (oCode oB) (Ft.of 45 fI) (trOf bO) 2=oC) (rD:@arunT bkE Tryz.prog (@acallN bkE Tryz.prog 1000 10) 1000 100 (oCode oB) (Ft.of 45 fI) (trOf bO) 2=oD) (rE:@aresT bkE Tryz.prog (@acallN bkE Tryz.prog 1000 10) 1000 (oK oB) (.exit 2) (Ft.of 45 fI) (trOf bO) 2=oE) (rF:@arunT bkX0 Tryz.prog (@acallN bkX0 Tryz.prog 1000 10) 1000 100 (oCode oA) (Ft.of 45 fO) (trOf bO) 2=oF) (rG0:@aresT bkX0 Tryz.prog (@acallN bkX0 Tryz.prog 1000 10) 1000 (oK oA) (.exit 0) (Ft.of 45 fO) (trOf bO) 2=oG0) (rH:@arunT bkX2 Tryz.prog (@acallN bkX2 Tryz.prog 1000 10) 1000 100 (oCode oA) (Ft.of 45 fO) (trOf bO) 2=oH) (rG2:@aresT bkX2 Tryz.prog (@acallN bkX2 Tryz.prog 1000 10) 1000 (oK oA) (.exit 0) (Ft.of 45 fO) (trOf bO) 2=oG2)
  (tA:stopB oA=true) (tB:stopB oB=true) (tC:doneB oC 0=true) (tD:doneB oD 4=true) (tE:doneB oE 0=true) (tF:doneB oF 2=true) (tG0:doneB oG0 1=true) (tH:doneB oH 2=true) (tG2:doneB oG2 1=true)
  (kA:(eqL (slotB [some 0] 16) (lOf oA) fA&&blksB [some 0] (oT oA).get [some 0] bA)=true) (kB:(eqL (slotB (idl 2) 16) (lOf oB) fB&&blksB (idl 2) (oT oB).get (idl 2) bO)=true) (kC:(eqL (slotB [some 0,some 4] 16) (lOf oC) fC&&blksB [some 0,some 4] (oT oC).get [some 0,some 4] bC)=true) (kD:(eqL (slotB (idl 2) 16) (lOf oD) fI&&blksB (idl 2) (oT oD).get (idl 2) bO)=true) (kE:(eqL (slotB (idl 2) 16) (lOf oE) fE&&blksB (idl 2) (oT oE).get (idl 2) bO)=true) (kF:(eqL (slotB (idl 2) 16) (lOf oF) fO&&blksB (idl 2) (oT oF).get (idl 2) bO)=true) (kH:(eqL (slotB (idl 2) 16) (lOf oH) fO&&blksB (idl 2) (oT oH).get (idl 2) bO)=true) (eG0:resultsA Tryz.prog Tryz.f160 (lOf oG0) (oT oG0).get=some (.c (.bool true))) (eG2:resultsA Tryz.prog Tryz.f160 (lOf oG2) (oT oG2).get=some (.c (.bool false)))
  {S:StD} {e item:Int} {p0 p1:PoolD} {n f:Int} (he:I64 e) (hi:I64 item) (h0:CK Tryz.prog 16 [S.av,.i e,.i item,.i 0] p0.av) (h1:CK Tryz.prog 16 [S.av,.i e,.i item,.i 1] p1.av) (hL0:LR p0.layers) (hL1:LR p1.layers)
  (hS:CK Tryz.prog 60 [.lit 1 (intsR (sw p0.layers++sw p1.layers))] (.tup [.i n,.i f])) (hf:f=0∨f=2):CK Tryz.prog 160 [S.av,.i e,.i item] (.c (.bool (decide (f=0)))):=by
 have he0:=he.lo;have he1:=he.hi;have hi0:=hi.lo;have hi1:=hi.hi
 obtain⟨pl,hpl⟩:∃pl:Nat→PoolD,pl=fun j=>if j=0 then p0 else p1:=⟨_,rfl⟩
 obtain⟨ws,hws⟩:∃ws:Nat→List Int,ws=fun j=>if j=0 then[]else if j=1 then sw p0.layers else sw p0.layers++sw p1.layers:=⟨_,rfl⟩
 have w0':ws 0=[]:=by rw[hws];rfl
 have w2':ws 2=sw p0.layers++sw p1.layers:=by rw[hws];rfl
 have wS:∀j,j<2→ws (j+1)=ws j++sw (pl j).layers:=by
  intro j hj
  rcases(by omega:j=0∨j=1)with rfl|rfl
  ·rw[hws,hpl];simp
  ·rw[hws,hpl];simp
 have hLR:∀j,LR (pl j).layers:=by
  intro j
  rw[hpl]
  dsimp only
  split
  ·exact hL0
  ·exact hL1
 have hAt:∀j:Nat,j<2→CK Tryz.prog 16 [S.av,.i e,.i item,.i (j:Int)] (pl j).av:=by
  intro j hj
  rcases(by omega:j=0∨j=1)with rfl|rfl
  ·rw[hpl];exact h0
  ·rw[hpl];exact h1
 have wlen:∀j,j≤2→(ws j).length≤30*j:=by
  intro j hj
  have q0:=hL0.len
  have q1:=hL1.len
  rcases(by omega:j=0∨j=1∨j=2)with rfl|rfl|rfl<;>(rw[hws];simp[sw];try omega)
 clear hws hpl
 let evO:(j:Nat)→(hj:j≤2)→@Ev bkH:=fun j hj=>evG bkH S e item 0 0 ((ws j).length:Int) 0 0 j 0 0 0 0 0 [] (ws j) .nil
  (.cons he0 he1 (.cons hi0 hi1 (.cons (by omega) (by omega) (.cons (by omega) (by omega) (.cons (by omega) (by have:=wlen j hj;omega) (.cons (by omega) (by omega) (.cons (by omega) (by omega) (.cons (by omega) (by omega) .nil)))))))) .nil (lenG rfl rfl) .nil
 let wsI:Nat→Nat→List Int:=fun j i=>ws j++(sw (pl j).layers).take i
 have wIlen:∀j i,j<2→i≤(pl j).layers.length→(wsI j i).length=(ws j).length+i:=by
  intro j i hj hi
  simp only[wsI,List.length_append,List.length_take,sw,List.length_map];omega
 let evI:(j i:Nat)→(hj:j<2)→(hi:i≤(pl j).layers.length)→@Ev bkH:=fun j i hj hi=>evG bkH S e item i ((pl j).layers.length:Int) ((wsI j i).length:Int) 0 0 j 0 0 0 0 0 (pl j).layers (wsI j i) .nil
  (.cons he0 he1 (.cons hi0 hi1 (.cons (by omega) (by have:=(hLR j).len;omega) (.cons (by omega) (by have:=(hLR j).len;omega) (.cons (by omega) (by have:=wlen j (by omega);have:=wIlen j i hj hi;have:=(hLR j).len;omega) (.cons (by omega) (by omega) (.cons (by omega) (by omega) (.cons (by omega) (by omega) .nil)))))))) .nil (lenG rfl rfl) .nil
 refine CK.of_body Tryz.func160 (c:=body) (by kernel_rfl) (cl_cons (cl_st _) (cl_cons (.c _) (cl_cons (.c _) cl_nil))) (.c _) fun A w0 a0=>?_
 intro m w a pr
 rw[Tryz.ntmps160]at pr
 have pr:@Pre bkH (evO 0 (by omega)) A w0 a0 (mOf m []) w a f0 (hOf []):=by
  refine Pre.to (ids:=[]) (bs:=[]) pr (.append (.cons (Slot.data (d:=S.av) ((cl_st S).den 12) rfl (cl_st S) rfl) (.cons (Slot.data (d:=.i e) rfl rfl (.c _) rfl) (.cons (Slot.data (d:=.i item) rfl rfl (.c _) rfl) .nil))) ?_) .nil (by intro i j k h;simp at h)
  exact slots_undef 42
 refine run_stop bkH (evO 0 (by omega)) (xNil bkH _) (L:=1000) (d:=10) (k:=100) (N:=45) (n:=0) oA rA tA (by decide) pr ?_
 intro m w a pr
 obtain⟨m1,pr⟩:=shorter bkH (evO 0 (by omega)) pr kA rfl
 obtain⟨m2,pr⟩:∃m',@Pre bkH (evO 0 (by omega)) A w0 a0 m' w a fO (hOf bO):=by
  refine⟨_,Pre.to (ids:=[some 0,none]) (bs:=bO) pr (.append (.cons (Slot.data (d:=S.av) rfl rfl (cl_st S) rfl) (.cons (Slot.data (d:=.i e) rfl rfl (.c _) rfl) (.cons (Slot.data (d:=.i item) rfl rfl (.c _) rfl) (.cons (Slot.ptr rfl) (.cons .junk (.cons .junk (.cons (Slot.data (d:=.c (.bool false)) rfl rfl (.c _) rfl)
   (.cons (Slot.emp_sown rfl ?_) (.cons .junk (.cons .junk (.cons .junk (.cons .junk (.cons .junk (.cons (Slot.data (d:=.i 0) rfl rfl (.c _) rfl) .nil)))))))))))))) (slots_junk 31)) (.cons (BlkS.cells1 (r:=stC) (r':=stC) rfl ?_ rfl rfl) (.cons (BlkS.virt ?_ ?_) .nil)) ?_⟩
  ·exact(pv_get [e,item,0,0,((ws 0).length:Int),0,0,((0:Nat):Int)] 4).trans (by show((ws 0).length:Int)=0;rw[w0'];rfl)
  ·exact slots_stC (fun _=>rfl) (fun _=>rfl) rfl rfl rfl rfl rfl rfl rfl rfl
  ·show intsR (ws 0)=[]
   rw[w0'];rfl
  ·exact(pv_get [e,item,0,0,((ws 0).length:Int),0,0,((0:Nat):Int)] 4).trans (by show((ws 0).length:Int)=0;rw[w0'];rfl)
  ·intro i j k hi hj
   rcases i with _|_|i<;>rcases j with _|_|j<;>simp at hi hj<;>omega
 refine loop_rule (fun n a w=>∃(j:Nat) (hj:j≤2),n=2-j∧∃m,@Pre bkH (evO j hj) A w0 a0 m w a fO (hOf bO)) ?_ (n:=2) ⟨0,by omega,rfl,_,pr⟩
 rintro nn a w ⟨j,hj,rfl,m,pr⟩
 rcases(by omega:j<2∨j=2)with hj2|rfl
 ·-- a round: the pool's layers,one by one
  let evR:@Ev bkR:=evG bkR S e item 0 ((pl j).layers.length:Int) ((ws j).length:Int) 0 0 j (pl j).p0 (pl j).p1 (pl j).p2 0 0 (pl j).layers (ws j) .nil
   (.cons he0 he1 (.cons hi0 hi1 (.cons (by omega) (by omega) (.cons (by omega) (by have:=(hLR j).len;omega) (.cons (by omega) (by have:=wlen j hj;omega) (.cons (by omega) (by omega) (.cons (by omega) (by omega) (.cons (by omega) (by omega) .nil)))))))) .nil (lenG rfl rfl) .nil
  obtain⟨m3,pr⟩:∃m',@Pre bkR evR A w0 a0 m' w a fO (hOf bO):=⟨_,Pre.to (ids:=idl 2) (bs:=bO) pr (slO rfl rfl rfl rfl rfl) (blO rfl) (ndB_ok (by decide))⟩
  refine run_stop bkR evR (xKn bkR evR (knCons bkR evR (CK.named bkR evR (hAt j hj2) rfl rfl rfl) (knNil bkR evR))) (L:=1000) (d:=10) (k:=100) (N:=45) (n:=2) oB rB tB (by decide) pr ?_
  intro m w a pr
  obtain⟨m4,pr⟩:=shorter bkR evR pr kB rfl
  have hl0:(wsI j 0)=ws j:=by simp[wsI]
  obtain⟨m5,pr⟩:∃m',@Pre bkH (evI j 0 hj2 (Nat.zero_le _)) A w0 a0 m' w a fI (hOf bO):=by
   refine⟨_,Pre.to (ids:=idl 2) (bs:=bO) pr (slI (d:=.c (.int .i64 0)) rfl rfl rfl rfl (.c _) rfl (by rw[hl0]) rfl) ?_ (ndB_ok (by decide))⟩
   exact blS (i:=0) rfl (by rw[hl0]) (by rw[hl0];simp[intsR]) rfl
  refine loop_rule (fun n a w=>∃(i:Nat) (hi:i≤(pl j).layers.length),n=(pl j).layers.length-i∧∃m,@Pre bkH (evI j i hj2 hi) A w0 a0 m w a fI (hOf bO)) ?_ (n:=(pl j).layers.length) ⟨0,Nat.zero_le _,rfl,_,pr⟩
  rintro n2 a w ⟨i,hi,rfl,m,pr⟩
  rcases(by omega:i<(pl j).layers.length∨i=(pl j).layers.length)with hi2|rfl
  ·-- one layer more
   obtain⟨x,hx⟩:∃x,(pl j).layers[i]?=some x:=⟨_,List.getElem?_eq_getElem hi2⟩
   have hxb:=sw_bd (hLR j).ok x (List.mem_of_getElem? hx)
   let evJ:@Ev bkJ:=evG bkJ S e item i ((pl j).layers.length:Int) ((wsI j i).length:Int) x.p (max x.p (-x.p)) j 0 0 0 x.q x.v (pl j).layers (wsI j i) (.great (by simp[pev,mev]) .nil)
    (.cons he0 he1 (.cons hi0 hi1 (.cons (by omega) (by have:=(hLR j).len;omega) (.cons (by omega) (by have:=(hLR j).len;omega) (.cons (by omega) (by have:=wlen j hj;have:=wIlen j i hj2 hi;have:=(hLR j).len;omega) (.cons hxb.1 hxb.2.1 (.cons hxb.2.2.1 hxb.2.2.2 (.cons (by omega) (by omega) .nil)))))))) (.cons (by simp[pev,mev];omega) (by simp[pev,mev];have:=(hLR j).len;omega) .nil) (lenG rfl rfl)
    (.cons (by simp[pev,mev]) (r0:=rowI x.r) (by simp[pev,mev,laysR,hx]) rfl rfl .nil)
   obtain⟨m6,pr⟩:∃m',@Pre bkJ evJ A w0 a0 m' w a fI (hOf bO):=⟨_,Pre.to (ids:=idl 2) (bs:=bO) pr (slI (d:=.i (i:Int)) rfl rfl rfl rfl (.c _) rfl rfl rfl) (blO rfl) (ndB_ok (by decide))⟩
   refine run_done bkJ evJ (xNil bkJ evJ) (L:=1000) (d:=10) (k:=100) (N:=45) (n:=2) oC rC tC (by decide) pr ?_
   intro m w a pr
   obtain⟨m7,pr⟩:=shorter bkJ evJ pr kC rfl
   have hnext:wsI j (i+1)=wsI j i++[max x.p (-x.p)]:=by
    simp only[wsI,List.append_assoc]
    congr 1
    have:(sw (pl j).layers)[i]?=some (max x.p (-x.p)):=by simp[sw,hx]
    rw[List.take_add_one,this];rfl
   refine⟨(pl j).layers.length-(i+1),by omega,i+1,by omega,rfl,?_⟩
   refine⟨_,Pre.to (ids:=idl 2) (bs:=bO) pr ?_ ?_ (ndB_ok (by decide))⟩
   ·refine .append (.cons (Slot.data (d:=S.av) rfl rfl (cl_st S) rfl) (.cons (Slot.data (d:=.i e) rfl rfl (.c _) rfl) (.cons (Slot.data (d:=.i item) rfl rfl (.c _) rfl) (.cons (Slot.ptr rfl) (.cons .junk (.cons .junk (.cons (Slot.data (d:=.c (.bool false)) rfl rfl (.c _) rfl)
     (.cons (Slot.sown rfl ((pv_succ [e,item,(i:Int),((pl j).layers.length:Int),((wsI j i).length:Int),x.p,max x.p (-x.p),(j:Int)] 4).trans ((show((wsI j i).length:Int)+1=((wsI j (i+1)).length:Int)by rw[hnext];simp).trans (pv_get [e,item,((i+1:Nat):Int),((pl j).layers.length:Int),((wsI j (i+1)).length:Int),0,0,(j:Int)] 4).symm))) (.cons .junk (.cons .junk (.cons .junk (.cons .junk (.cons .junk (.cons (Slot.data (d:=.i (j:Int)) rfl rfl (.c _) rfl) (.cons .junk (.cons .junk (.cons .junk (.cons .junk (.cons .junk (.cons .junk (.cons .junk (.cons (Slot.data (d:=.lit 3 (laysR (pl j).layers)) rfl rfl (cl_lays _).lit rfl) (.cons (Slot.data (d:=.i ((pl j).layers.length:Int)) rfl rfl (.c _) rfl) (.cons (Slot.data (d:=.i ((i+1:Nat):Int)) ?_ rfl (.c _) rfl) .nil)))))))))))))))))))))))) (slots_junk 21)
    exact congrArg (fun v=>AV.c (.int .i64 v)) ((evP_eq _ _).trans <| (pv_succ [e,item,(i:Int),((pl j).layers.length:Int),((wsI j i).length:Int),x.p,max x.p (-x.p),(j:Int)] 2).trans (show(i:Int)+1=((i+1:Nat):Int)by simp))
   ·refine .cons (BlkS.cells1 (r:=stC) (r':=stC) rfl (slots_stC (fun _=>rfl) (fun _=>rfl) rfl rfl rfl rfl rfl rfl rfl rfl) rfl rfl) (.cons (BlkS.sc (base:=8) (base':=8) (ups:=[]) (tail:=[[.e [([6],1)]]]) (n:=[([],1),([4],1)]) rfl ?_ ?_) .nil)
    ·show AV.lit 1 (intsR (wsI j i)++[[.c (.int .i64 (max x.p (-x.p)))]])=AV.lit 1 (intsR (wsI j (i+1)))
     rw[hnext];simp[intsR]
    ·exact(pv_get [e,item,((i+1:Nat):Int),((pl j).layers.length:Int),((wsI j (i+1)).length:Int),0,0,(j:Int)] 4).trans (by show((wsI j (i+1)).length:Int)=((intsR (wsI j (i+1))).length:Int);simp[intsR])
  ·-- all layers are through
   let evE:@Ev bkE:=evG bkE S e item ((pl j).layers.length:Int) ((pl j).layers.length:Int) ((wsI j (pl j).layers.length).length:Int) 0 0 j 0 0 0 0 0 (pl j).layers (wsI j (pl j).layers.length) .nil
    (.cons he0 he1 (.cons hi0 hi1 (.cons (by omega) (by have:=(hLR j).len;omega) (.cons (by omega) (by have:=(hLR j).len;omega) (.cons (by omega) (by have:=wlen j hj;have:=wIlen j _ hj2 hi;have:=(hLR j).len;omega) (.cons (by omega) (by omega) (.cons (by omega) (by omega) (.cons (by omega) (by omega) .nil)))))))) (.cons (by simp[pev,mev]<;>omega) (by simp[pev,mev]<;>omega) .nil) (lenG rfl rfl) .nil
   obtain⟨m6,pr⟩:∃m',@Pre bkE evE A w0 a0 m' w a fI (hOf bO):=⟨_,Pre.to (ids:=idl 2) (bs:=bO) pr (slI (d:=.i ((pl j).layers.length:Int)) rfl rfl rfl rfl (.c _) rfl rfl rfl) (blO rfl) (ndB_ok (by decide))⟩
   refine run_done bkE evE (xNil bkE evE) (L:=1000) (d:=10) (k:=100) (N:=45) (n:=2) oD rD tD (by decide) pr ?_
   intro m w a pr
   obtain⟨m7,pr⟩:=shorter bkE evE pr kD rfl
   refine res_done bkE evE (xNil bkE evE) (L:=1000) (d:=10) (N:=45) (n:=2) oE rE tE (by decide) pr ?_
   intro m w a pr
   obtain⟨m8,pr⟩:=shorter bkE evE pr kE rfl
   have hnext:wsI j (pl j).layers.length=ws (j+1):=by
    simp only[wsI]
    rw[wS j hj2,List.take_of_length_le (by simp[sw])]
   refine⟨2-(j+1),by omega,j+1,by omega,rfl,?_⟩
   refine⟨_,Pre.to (ids:=idl 2) (bs:=bO) pr ?_ ?_ (ndB_ok (by decide))⟩
   ·refine .append (.cons (Slot.data (d:=S.av) rfl rfl (cl_st S) rfl) (.cons (Slot.data (d:=.i e) rfl rfl (.c _) rfl) (.cons (Slot.data (d:=.i item) rfl rfl (.c _) rfl) (.cons (Slot.ptr rfl) (.cons .junk (.cons .junk (.cons (Slot.data (d:=.c (.bool false)) rfl rfl (.c _) rfl)
     (.cons (Slot.sown rfl ((pv_get [e,item,((pl j).layers.length:Int),((pl j).layers.length:Int),((wsI j (pl j).layers.length).length:Int),0,0,(j:Int)] 4).trans ((show(((wsI j (pl j).layers.length).length:Nat):Int)=((ws (j+1)).length:Int)by rw[hnext]).trans (pv_get [e,item,0,0,((ws (j+1)).length:Int),0,0,((j+1:Nat):Int)] 4).symm))) (.cons .junk (.cons .junk (.cons .junk (.cons .junk (.cons .junk (.cons (Slot.data (d:=.i ((j+1:Nat):Int)) ?_ rfl (.c _) rfl) .nil)))))))))))))) (slots_junk 31)
    exact congrArg (fun v=>AV.c (.int .i64 v)) ((evP_eq _ _).trans <| (pv_succ [e,item,((pl j).layers.length:Int),((pl j).layers.length:Int),((wsI j (pl j).layers.length).length:Int),0,0,(j:Int)] 7).trans (show(j:Int)+1=((j+1:Nat):Int)by simp))
   ·exact blS (ws:=wsI j (pl j).layers.length) (ws':=ws (j+1)) (nW':=((ws (j+1)).length:Int)) rfl hnext.symm (by simp[intsR]) rfl
 ·-- both pools are through
  have hc:((sw p0.layers++sw p1.layers):List Int)=ws 2:=w2'.symm
  rw[hc]at hS
  rcases hf with rfl|rfl
  ·let evX:@Ev bkX0:=evG bkX0 S e item 0 0 ((ws 2).length:Int) 0 0 2 n 0 0 0 0 [] (ws 2) .nil
    (.cons he0 he1 (.cons hi0 hi1 (.cons (by omega) (by omega) (.cons (by omega) (by omega) (.cons (by omega) (by have:=wlen 2 (by omega);omega) (.cons (by omega) (by omega) (.cons (by omega) (by omega) (.cons (by omega) (by omega) .nil)))))))) .nil (lenG rfl rfl) .nil
   obtain⟨m3,pr⟩:∃m',@Pre bkX0 evX A w0 a0 m' w a fO (hOf bO):=⟨_,Pre.to (ids:=idl 2) (bs:=bO) pr (slO rfl rfl rfl rfl rfl) (blO rfl) (ndB_ok (by decide))⟩
   have hX:@ExtOk bkX0 evX Tryz.prog:=xKn bkX0 evX (knCons bkX0 evX (CK.named bkX0 evX hS rfl rfl rfl) (knNil bkX0 evX))
   refine run_done bkX0 evX hX (L:=1000) (d:=10) (k:=100) (N:=45) (n:=2) oF rF tF (by decide) pr ?_
   intro m w a pr
   obtain⟨m4,pr⟩:=shorter bkX0 evX pr kF rfl
   refine res_done bkX0 evX hX (L:=1000) (d:=10) (N:=45) (n:=2) oG0 rG0 tG0 (by decide) pr ?_
   intro m w a pr
   exact⟨.inr rfl,bkX0,evX,m,lOf oG0,(oT oG0).get,.c (.bool true),.c (.bool true),[],pr,eG0,rfl,rfl⟩
  ·let evX:@Ev bkX2:=evG bkX2 S e item 0 0 ((ws 2).length:Int) 0 2 2 n 0 0 0 0 [] (ws 2) .nil
    (.cons he0 he1 (.cons hi0 hi1 (.cons (by omega) (by omega) (.cons (by omega) (by omega) (.cons (by omega) (by have:=wlen 2 (by omega);omega) (.cons (by omega) (by omega) (.cons (by omega) (by omega) (.cons (by omega) (by omega) .nil)))))))) .nil (lenG rfl rfl) .nil
   obtain⟨m3,pr⟩:∃m',@Pre bkX2 evX A w0 a0 m' w a fO (hOf bO):=⟨_,Pre.to (ids:=idl 2) (bs:=bO) pr (slO rfl rfl rfl rfl rfl) (blO rfl) (ndB_ok (by decide))⟩
   have hX:@ExtOk bkX2 evX Tryz.prog:=xKn bkX2 evX (knCons bkX2 evX (CK.named bkX2 evX hS rfl rfl rfl) (knNil bkX2 evX))
   refine run_done bkX2 evX hX (L:=1000) (d:=10) (k:=100) (N:=45) (n:=2) oH rH tH (by decide) pr ?_
   intro m w a pr
   obtain⟨m4,pr⟩:=shorter bkX2 evX pr kH rfl
   refine res_done bkX2 evX hX (L:=1000) (d:=10) (N:=45) (n:=2) oG2 rG2 tG2 (by decide) pr ?_
   intro m w a pr
   exact⟨.inr rfl,bkX2,evX,m,lOf oG2,(oT oG2).get,.c (.bool false),.c (.bool false),[],pr,eG2,rfl,rfl⟩
theorem walk {S:StD} {e item:Int} {p0 p1:PoolD} {n f:Int} (he:I64 e) (hi:I64 item) (h0:CK Tryz.prog 16 [S.av,.i e,.i item,.i 0] p0.av) (h1:CK Tryz.prog 16 [S.av,.i e,.i item,.i 1] p1.av) (hL0:LR p0.layers) (hL1:LR p1.layers)
  (hS:CK Tryz.prog 60 [.lit 1 (intsR (sw p0.layers++sw p1.layers))] (.tup [.i n,.i f])) (hf:f=0∨f=2):CK Tryz.prog 160 [S.av,.i e,.i item] (.c (.bool (decide (f=0)))) :=
 walk0 sA sB sC sD sE sF sG0 sH sG2 rfl rfl rfl rfl rfl rfl rfl rfl rfl sA_stop sB_stop sC_done sD_done sE_done sF_done sG0_done sH_done sG2_done kA kB kC kD kE kF kH resG0 resG2 he hi h0 h1 hL0 hL1 hS hf
end Steady
end Go.Proofs.YtnalblnmplnhmaaGreat
