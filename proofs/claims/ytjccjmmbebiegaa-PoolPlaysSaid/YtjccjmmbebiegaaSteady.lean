/-
 stock.steady: its two loops. The walk, by names.
-/
import Derived.Test.YtjccjmmbebiegaaMX
import Derived.Test.YtjccjmmbebiegaaSt2
set_option linter.unusedVariables false
set_option linter.unusedSimpArgs false
namespace Go.Proofs.Ytjccjmmbebiegaa
open Go.RowKit Mc
def stC:List AV:=[.o 0,.o 1,.seq 1 1 [] [],.seq 1 2 [] [],.seq 1 3 [] [],.seq 8 0 [] [],.seq 8 4 [] [],.seq 9 5 [] [],.seq 6 6 [] [],.o 2]
def stN:AV:=.agg stC
namespace Steady
@[reducible] def bkH:Bk:={ vars:=[(-9223372036854775808,9223372036854775807),(-9223372036854775808,9223372036854775807),(0,30),(0,30),(0,60),(-288230376151711744,288230376151711744),(0,288230376151711744),(0,2)],lens:=[(7,[([3],1)]),(8,[([4],1)])] }
@[reducible] def bkJ:Bk:={ vars:=[(-9223372036854775808,9223372036854775807),(-9223372036854775808,9223372036854775807),(0,29),(0,30),(0,60),(-288230376151711744,288230376151711744),(0,288230376151711744),(0,1)],facts:=[([([2],-1),([3],1)],1,30)],defs:=[(2,[([5],1)],[([5],-1)],[([6],1)])],lens:=[(7,[([3],1)]),(8,[([4],1)])],ats:=[(7,[([2],1)],[.o 6,.o 7,.e [([5],1)]])] }
@[reducible] def bkE:Bk:={ vars:=[(-9223372036854775808,9223372036854775807),(-9223372036854775808,9223372036854775807),(0,30),(0,30),(0,60),(-288230376151711744,288230376151711744),(0,288230376151711744),(0,1)],facts:=[([([2],-1),([3],1)],0,0)],lens:=[(7,[([3],1)]),(8,[([4],1)])] }
@[reducible] def bkX0:Bk:={ vars:=[(-9223372036854775808,9223372036854775807),(-9223372036854775808,9223372036854775807),(0,30),(0,30),(0,60),(-288230376151711744,288230376151711744),(0,0),(2,2)],lens:=[(7,[([3],1)]),(8,[([4],1)])],extV:=[(68,[.seq 1 8 [] []],.tup [.o 3,.e [([6],1)]])] }
@[reducible] def bkX2:Bk:={ vars:=[(-9223372036854775808,9223372036854775807),(-9223372036854775808,9223372036854775807),(0,30),(0,30),(0,60),(-288230376151711744,288230376151711744),(2,2),(2,2)],lens:=[(7,[([3],1)]),(8,[([4],1)])],extV:=[(68,[.seq 1 8 [] []],.tup [.o 3,.e [([6],1)]])] }
def f0:List AV:=[stN,.e [([0],1)],.e [([1],1)]]++List.replicate 42 .undef
def fO:List AV:=[stN,.e [([0],1)],.e [([1],1)],.ptr 10 0 0 0,.junk,.junk,.c (.bool false),.sown 3 1 1 [([4],1)],.junk,.junk,.junk,.junk,.junk,.e [([7],1)]]++List.replicate 31 .junk
set_option maxRecDepth 1000000
section
variable {S:StD} {e item:Int}
abbrev vsG (S:StD) (u3 u4 u5 u6 u7:Int):List Value:=[.int .i64 S.entities,.int .i64 S.periods,.int .i64 S.done,.int .i64 u3,.int .i64 u4,.int .i64 u5,.int .i64 u6,.int .i64 u7]
abbrev ssG (S:StD) (L:List Lay) (ws:List Int):List (List (List AV)):=[entsR S.ents,intsR S.weights,intssR S.methods,intssR S.costs,rcsR S.receipts,sasR S.sales,trsR S.transits,laysR L,intsR ws]
theorem splG (S:StD) (L:List Lay) (ws:List Int):∀l∈ssG S L ws,∀r∈l,∀x∈r,Cl x:=spl_cons (cl_ents _) (spl_cons (cl_ints _) (spl_cons (cl_intss _) (spl_cons (cl_intss _) (spl_cons (cl_rcs _) (spl_cons (cl_sas _) (spl_cons (cl_trs _) (spl_cons (cl_lays _) (spl_cons (cl_ints _) spl_nil))))))))
theorem oneG (S:StD) (u3 u4 u5 u6 u7:Int):∀v∈vsG S u3 u4 u5 u6 u7,v.oneCell'=true:=ones_cons rfl (ones_cons rfl (ones_cons rfl (ones_cons rfl (ones_cons rfl (ones_cons rfl (ones_cons rfl (ones_cons rfl ones_nil)))))))
abbrev evG (b:Bk) (S:StD) (e item i nL nW p a loc u3 u4 u5 u6 u7:Int) (L:List Lay) (ws:List Int) (hd:DefL (fun k=>([e,item,i,nL,nW,p,a,loc]:List Int).getD k 0) b.defs) (hb:BndL b.vars [e,item,i,nL,nW,p,a,loc]) (hf:FctL (fun k=>([e,item,i,nL,nW,p,a,loc]:List Int).getD k 0) b.facts)
  (hl:LenL (fun k=>([e,item,i,nL,nW,p,a,loc]:List Int).getD k 0) (ssG S L ws) b.lens) (ha:AtsL (fun k=>([e,item,i,nL,nW,p,a,loc]:List Int).getD k 0) (fun i=>(vsG S u3 u4 u5 u6 u7).getD i (.bool false)) (ssG S L ws) b.ats) (hk:b.kinds=[]:=by rfl) (hc:b.cats=[]:=by rfl):@Ev b :=
 evSeq b [e,item,i,nL,nW,p,a,loc] (vsG S u3 u4 u5 u6 u7) (ssG S L ws) hd hb hf (oneG S u3 u4 u5 u6 u7) hl ha (splG S L ws) hk (fun t h=>absurd (hc▸h:t∈[]) List.not_mem_nil)
end
theorem slots_junk {b1 b2:Bk} {e1:@Ev b1} {e2:@Ev b2} {ids:Ids}:∀n,SlotL b1 e1 b2 e2 ids (List.replicate n .junk) (List.replicate n .junk)
 |0=>.nil
 |n+1=>by rw[List.replicate_succ];exact .cons Slot.junk (slots_junk n)
theorem slO {b1 b2:Bk} {S:StD} {e item i nL nW p a loc u3 u4 u5 u6 u7 i' nL' nW' p' a' loc' v3 v4 v5 v6 v7:Int} {L L':List Lay} {ws ws':List Int} {hd hb hf hl ha hk hc hd' hb' hf' hl' ha' hk' hc'} {ids:Ids} (i0:ids[0]?=some (some 0)) (i1:ids[1]?=some (some 1)) (hl0:loc'=loc) (hw:nW'=nW) (hx:True=True) :
  SlotL b1 (evG b1 S e item i nL nW p a loc u3 u4 u5 u6 u7 L ws hd hb hf hl ha hk hc) b2 (evG b2 S e item i' nL' nW' p' a' loc' v3 v4 v5 v6 v7 L' ws' hd' hb' hf' hl' ha' hk' hc') ids fO fO:=by
 subst hl0
 subst hw
 exact .append (.cons (Slot.data (d:=S.av) rfl rfl (cl_st S) rfl) (.cons (Slot.data (d:=.i e) rfl rfl (.c _) rfl) (.cons (Slot.data (d:=.i item) rfl rfl (.c _) rfl) (.cons (Slot.ptr i0) (.cons .junk (.cons .junk (.cons (Slot.data (d:=.c (.bool false)) rfl rfl (.c _) rfl)
   (.cons (Slot.sown i1 rfl) (.cons .junk (.cons .junk (.cons .junk (.cons .junk (.cons .junk (.cons (Slot.data (d:=.i loc') rfl rfl (.c _) rfl) .nil)))))))))))))) (slots_junk 31)
set_option maxHeartbeats 2000000
end Steady
end Go.Proofs.Ytjccjmmbebiegaa
