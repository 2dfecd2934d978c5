/-
 Three appends in one statement, as a region that draws its order: proved once.
 fifo.Total: all layers together. Its walk.
 fifo: wrong, steady, Right; the document's own.
 
 fifo: Right, has; the document's Total, Swing, Right, SameLayer, Same.
 The document's Total, Swing, Right, SameLayer, Same.
 The document's Swing, Right, Same.
 The document's Same.
 fifo.has.
 What goes: the plain law.
 Layers that may be, in plain sums; what goes and what comes leaves such.
-/
import Derived.Test.YtjccjmmbebiegaaBase
import Derived.LoopN
import Derived.Deep.QuietTactic
import Derived.BigQuiet
import Derived.IntWalk
import Derived.Deep.RegionHeld3
set_option linter.unusedVariables false
set_option linter.unusedSimpArgs false
set_option linter.unnecessarySimpa false
set_option linter.unusedVariables false
namespace Go.Proofs.Ytjccjmmbebiegaa
open Go.RowKit
def app3Ops (T S I f0 f1 f2 xs s1 s2 s3 t:Nat) (pos:String):List Oper :=
 [{ dst:=some t,op:=Op.move (Operand.tmp s1),type:=S,pos:=pos,after:=#[],guard:=none },
  { dst:=some (t+1),op:=Op.fieldAddr T (Operand.tmp xs) f0,type:=0,pos:=pos,after:=#[],guard:=none },
  { dst:=some (t+2),op:=Op.load I (Operand.tmp (t+1)),type:=I,pos:=pos,after:=#[{ on:=1,ground:=Ground.data }],guard:=none },
  { dst:=some (t+3),op:=Op.buildSlice S 1 #[(0,Operand.tmp (t+2))],type:=S,pos:=pos,after:=#[{ on:=2,ground:=Ground.data }],guard:=none },
  { dst:=some (t+4),op:=Op.call { callee:=Callee.builtin Builtin.append,args:=#[Operand.tmp t,Operand.tmp (t+3)],argTypes:=#[S,S] },type:=S,pos:=pos,after:=#[{ on:=0,ground:=Ground.data },{ on:=3,ground:=Ground.data }],guard:=none },
  { dst:=some (t+5),op:=Op.move (Operand.tmp s2),type:=S,pos:=pos,after:=#[],guard:=none },
  { dst:=some (t+6),op:=Op.fieldAddr T (Operand.tmp xs) f1,type:=0,pos:=pos,after:=#[],guard:=none },
  { dst:=some (t+7),op:=Op.load I (Operand.tmp (t+6)),type:=I,pos:=pos,after:=#[{ on:=6,ground:=Ground.data }],guard:=none },
  { dst:=some (t+8),op:=Op.buildSlice S 1 #[(0,Operand.tmp (t+7))],type:=S,pos:=pos,after:=#[{ on:=7,ground:=Ground.data }],guard:=none },
  { dst:=some (t+9),op:=Op.call { callee:=Callee.builtin Builtin.append,args:=#[Operand.tmp (t+5),Operand.tmp (t+8)],argTypes:=#[S,S] },type:=S,pos:=pos,after:=#[{ on:=5,ground:=Ground.data },{ on:=8,ground:=Ground.data },{ on:=4,ground:=Ground.chain }],guard:=none },
  { dst:=some (t+10),op:=Op.move (Operand.tmp s3),type:=S,pos:=pos,after:=#[],guard:=none },
  { dst:=some (t+11),op:=Op.fieldAddr T (Operand.tmp xs) f2,type:=0,pos:=pos,after:=#[],guard:=none },
  { dst:=some (t+12),op:=Op.load I (Operand.tmp (t+11)),type:=I,pos:=pos,after:=#[{ on:=11,ground:=Ground.data }],guard:=none },
  { dst:=some (t+13),op:=Op.buildSlice S 1 #[(0,Operand.tmp (t+12))],type:=S,pos:=pos,after:=#[{ on:=12,ground:=Ground.data }],guard:=none },
  { dst:=some (t+14),op:=Op.call { callee:=Callee.builtin Builtin.append,args:=#[Operand.tmp (t+10),Operand.tmp (t+13)],argTypes:=#[S,S] },type:=S,pos:=pos,after:=#[{ on:=10,ground:=Ground.data },{ on:=13,ground:=Ground.data },{ on:=9,ground:=Ground.chain }],guard:=none },
  { dst:=some s1,op:=Op.assign (Operand.tmp (t+4)),type:=S,pos:=pos,after:=#[{ on:=4,ground:=Ground.data },{ on:=14,ground:=Ground.chain },{ on:=0,ground:=Ground.phase },{ on:=1,ground:=Ground.phase },{ on:=2,ground:=Ground.phase },{ on:=3,ground:=Ground.phase },{ on:=4,ground:=Ground.phase },{ on:=5,ground:=Ground.textOnly Departure.lateStores },{ on:=6,ground:=Ground.textOnly Departure.lateStores },{ on:=7,ground:=Ground.textOnly Departure.lateStores },{ on:=8,ground:=Ground.textOnly Departure.lateStores },{ on:=9,ground:=Ground.textOnly Departure.lateStoresUnsure },{ on:=10,ground:=Ground.textOnly Departure.lateStores },{ on:=11,ground:=Ground.textOnly Departure.lateStores },{ on:=12,ground:=Ground.textOnly Departure.lateStores },{ on:=13,ground:=Ground.textOnly Departure.lateStores },{ on:=14,ground:=Ground.textOnly Departure.lateStoresUnsure }],guard:=none },
  { dst:=some s2,op:=Op.assign (Operand.tmp (t+9)),type:=S,pos:=pos,after:=#[{ on:=9,ground:=Ground.data },{ on:=15,ground:=Ground.chain },{ on:=0,ground:=Ground.phase },{ on:=1,ground:=Ground.phase },{ on:=2,ground:=Ground.phase },{ on:=3,ground:=Ground.phase },{ on:=4,ground:=Ground.phase },{ on:=5,ground:=Ground.phase },{ on:=6,ground:=Ground.phase },{ on:=7,ground:=Ground.phase },{ on:=8,ground:=Ground.phase },{ on:=9,ground:=Ground.phase },{ on:=10,ground:=Ground.textOnly Departure.lateStores },{ on:=11,ground:=Ground.textOnly Departure.lateStores },{ on:=12,ground:=Ground.textOnly Departure.lateStores },{ on:=13,ground:=Ground.textOnly Departure.lateStores },{ on:=14,ground:=Ground.textOnly Departure.lateStoresUnsure },{ on:=15,ground:=Ground.phase }],guard:=none },
  { dst:=some s3,op:=Op.assign (Operand.tmp (t+14)),type:=S,pos:=pos,after:=#[{ on:=14,ground:=Ground.data },{ on:=16,ground:=Ground.chain },{ on:=0,ground:=Ground.phase },{ on:=1,ground:=Ground.phase },{ on:=2,ground:=Ground.phase },{ on:=3,ground:=Ground.phase },{ on:=4,ground:=Ground.phase },{ on:=5,ground:=Ground.phase },{ on:=6,ground:=Ground.phase },{ on:=7,ground:=Ground.phase },{ on:=8,ground:=Ground.phase },{ on:=9,ground:=Ground.phase },{ on:=10,ground:=Ground.phase },{ on:=11,ground:=Ground.phase },{ on:=12,ground:=Ground.phase },{ on:=13,ground:=Ground.phase },{ on:=14,ground:=Ground.phase },{ on:=15,ground:=Ground.phase },{ on:=16,ground:=Ground.phase }],guard:=none }]
def app3Slots (s1 s2 s3 t:Nat):List (Option Tmp):=[some t,some (t+1),some (t+2),some (t+3),some (t+4),some (t+5),some (t+6),some (t+7),some (t+8),some (t+9),some (t+10),some (t+11),some (t+12),some (t+13),some (t+14),some s1,some s2,some s3]
theorem anc_mem {ops:Array Oper} {D i k:Nat} (h:(ancOf ops D i).contains k=true):k∈ancOf ops D i:=by simpa using h
set_option maxHeartbeats 2000000 in
theorem region_app3 {Q:Exit→Act→World→Prop} {id:Nat} {A:Act} {w:World} (T f0 f1 f2 o0 o1 o2 xs s1 s2 s3 t:Nat) (pos:String)
  (B H0 X j B0:Nat) (a b c:Value) (As Bs Cs:List Int) (x y z:Int) (W1:World)
  (h1:t+15≤A.tmps.size) (h2:s1<t) (h3:s2<t) (h4:s3<t) (hd:slotsApart (app3Slots s1 s2 s3 t)=true) (hxs:(app3Slots s1 s2 s3 t).contains (some xs)=false)
  (hx:A.eval (.tmp xs)=.pointer (some ⟨X,0,none⟩)) (ha0:A.tmps.getD s1 undef=a) (hb0:A.tmps.getD s2 undef=b) (hc0:A.tmps.getD s3 undef=c)
  (hF0:∀ρ w,ρ (.tmp xs)=.pointer (some ⟨X,0,none⟩)→(execOp ρ { dst:=some (t+1),op:=Op.fieldAddr T (Operand.tmp xs) f0,type:=0,pos:=pos,after:=#[],guard:=none }).run Try.prog w=.ok (.value (.pointer (some ⟨X,o0,none⟩))) w)
  (hF1:∀ρ w,ρ (.tmp xs)=.pointer (some ⟨X,0,none⟩)→(execOp ρ { dst:=some (t+6),op:=Op.fieldAddr T (Operand.tmp xs) f1,type:=0,pos:=pos,after:=#[],guard:=none }).run Try.prog w=.ok (.value (.pointer (some ⟨X,o1,none⟩))) w)
  (hF2:∀ρ w,ρ (.tmp xs)=.pointer (some ⟨X,0,none⟩)→(execOp ρ { dst:=some (t+11),op:=Op.fieldAddr T (Operand.tmp xs) f2,type:=0,pos:=pos,after:=#[],guard:=none }).run Try.prog w=.ok (.value (.pointer (some ⟨X,o2,none⟩))) w)
  (hR:App3R B H0 X a b c) (hB0:B0≤H0) (hBB:B0≤B) (hBX:B≤X) (hj:(j+1)*8≤140737488355328)
  (hs:App3S B 3 H0 X o0 o1 o2 j a b c As Bs Cs x y z B0 W1 (fun _=>false) w.drew)
  (fin:∀u w' L,App3S B 3 H0 X o0 o1 o2 j a b c As Bs Cs x y z B0 W1 L w'→(∀i,i<18→App3Φ B 3 H0 X o0 o1 o2 j a b c As Bs Cs x y z i u w')→Q .normal (puts A (app3Slots s1 s2 s3 t) 0 u) w') :
  (Code.region id (app3Ops T 22 3 f0 f1 f2 xs s1 s2 s3 t pos).toArray true).wp Try.prog Q A w:=by
 refine wp_region_all 3 (app3Slots s1 s2 s3 t) (App3Φ B 3 H0 X o0 o1 o2 j a b c As Bs Cs x y z) (App3S B 3 H0 X o0 o1 o2 j a b c As Bs Cs x y z B0 W1)
  (by kernel_rfl) rfl rfl hd hs (App3.dep (anc_mem rfl) (anc_mem rfl) (anc_mem rfl) (anc_mem rfl) (anc_mem rfl) (anc_mem rfl)) ?_ (fun u w L h1 _ h2=>fin u w L h1 h2)
 refine⟨?d0,?d1,?d2,?d3,?d4,?d5,?d6,?d7,?d8,?d9,?d10,?d11,?d12,?d13,?d14,?d15,?d16,?d17,trivial⟩
 case d0 =>
   change DutyO _ _ _ _ _ _ _ _ 0 _
   intro u ww L hS hL _ hpre hpost K hK
   have hk:=hK (a) (ww) (by simp[App3Φ,upd]) (hS.idle (grown_refl _ _) hR.x hB0) (fun j x _ h=>h)
   unfold Oper.wp
   rw[(?h:Sem.run Try.prog (execOp _ _) ww=.ok (.value (a)) (ww))]
   ·exact hk
   case h =>
    have r15:(puts A (app3Slots s1 s2 s3 t) 0 u).eval (.tmp s1)=a:=(puts_eval_in _ A 0 u 15 s1 hd rfl (by omega)).trans ((hpost 15 (by simp[app3Ops]) (anc_mem rfl)).trans ha0)
    clear hK hpost hS
    generalize (puts _ _ _ u).eval=ρ at *
    simp[execOp,r15]
 case d1 =>
   change DutyO _ _ _ _ _ _ _ _ 1 _
   intro u ww L hS hL _ hpre hpost K hK
   have hk:=hK (.pointer (some ⟨X,o0,none⟩)) (ww) (by simp[App3Φ,upd]) (hS.idle (grown_refl _ _) hR.x hB0) (fun j x _ h=>h)
   unfold Oper.wp
   rw[(?h:Sem.run Try.prog (execOp _ _) ww=.ok (.value (.pointer (some ⟨X,o0,none⟩))) (ww))]
   ·exact hk
   case h =>
    have rx:(puts A (app3Slots s1 s2 s3 t) 0 u).eval (.tmp xs)=.pointer (some ⟨X,0,none⟩):=(puts_eval_out _ A 0 u xs hxs).trans hx
    exact hF0 _ _ rx
 case d2 =>
   change DutyO _ _ _ _ _ _ _ _ 2 _
   intro u ww L hS hL _ hpre hpost K hK
   have hk:=hK (.int .i64 x) (ww) (by simp[App3Φ,upd]) (hS.idle (grown_refl _ _) hR.x hB0) (fun j x _ h=>h)
   unfold Oper.wp
   rw[(?h:Sem.run Try.prog (execOp _ _) ww=.ok (.value (.int .i64 x)) (ww))]
   ·exact hk
   case h =>
    have r1:(puts A (app3Slots s1 s2 s3 t) 0 u).eval (.tmp (t+1))=.pointer (some ⟨X,o0,none⟩):=(puts_eval_in _ A 0 u 1 (t+1) hd rfl (by omega)).trans (hpre 1 (anc_mem rfl))
    have c1:=hS.cx
    clear hK hpost hS
    generalize (puts _ _ _ u).eval=ρ at *
    simp[execOp,go_sem,r1,c1]
 case d3 =>
   change DutyO _ _ _ _ _ _ _ _ 3 _
   intro u ww L hS hL _ hpre hpost K hK
   have hk:=hK (.slice (some ⟨ww.heap.size,0,none⟩) 1 1) (ww.alloc (.cells #[.int .i64 x] 3)) (by
     simp only[App3Φ,upd,if_true]
     exact⟨_,rfl,hS.h0,by simp,CellsAt.new ww [x] _⟩) (hS.idle (grown_alloc _ _ _) hR.x hB0) (App3.stab (grown_alloc _ _ _) (touch_idle _ _ _ _ _))
   unfold Oper.wp
   rw[(?h:Sem.run Try.prog (execOp _ _) ww=.ok (.value (.slice (some ⟨ww.heap.size,0,none⟩) 1 1)) (ww.alloc (.cells #[.int .i64 x] 3)))]
   ·exact hk
   case h =>
    have r2:(puts A (app3Slots s1 s2 s3 t) 0 u).eval (.tmp (t+2))=.int .i64 x:=(puts_eval_in _ A 0 u 2 (t+2) hd rfl (by omega)).trans (hpre 2 (anc_mem rfl))
    clear hK hpost hS
    generalize (puts _ _ _ u).eval=ρ at *
    simp[execOp,go_sem,r2]
 case d4 =>
   change DutyO _ _ _ _ _ _ _ _ 4 _
   intro u ww L hS hL _ hpre hpost K hK
   have hl:=hpre 3 (anc_mem rfl)
   have r0:(puts A (app3Slots s1 s2 s3 t) 0 u).eval (.tmp t)=a:=(puts_eval_in _ A 0 u 0 t hd rfl (by omega)).trans (hpre 0 (anc_mem rfl))
   have r3:(puts A (app3Slots s1 s2 s3 t) 0 u).eval (.tmp (t+3))=u 3:=(puts_eval_in _ A 0 u 3 (t+3) hd rfl (by omega)).trans (rfl)
   refine wp_push ww _ _ 22 rfl B 3 H0 elem_Int a j _ r0 (hS.a hL) (u 3) x r3 hl (by omega) (by have:=hS.h0;have:=hR.x;omega) hS.h0 ?_
   intro v' w' hG hg hg'
   refine hK v' w' ?_ (hS.kept hg hR.t4 (fun k hk=>by have:=hR.ra k hk;omega) hR.x hB0) (App3.stab hg hR.t4)
   simp only[App3Φ,upd,if_true,Nat.reduceEqDiff,if_false]
   exact hG
 case d5 =>
   change DutyO _ _ _ _ _ _ _ _ 5 _
   intro u ww L hS hL _ hpre hpost K hK
   have hk:=hK (b) (ww) (by simp[App3Φ,upd]) (hS.idle (grown_refl _ _) hR.x hB0) (fun j x _ h=>h)
   unfold Oper.wp
   rw[(?h:Sem.run Try.prog (execOp _ _) ww=.ok (.value (b)) (ww))]
   ·exact hk
   case h =>
    have r16:(puts A (app3Slots s1 s2 s3 t) 0 u).eval (.tmp s2)=b:=(puts_eval_in _ A 0 u 16 s2 hd rfl (by omega)).trans ((hpost 16 (by simp[app3Ops]) (anc_mem rfl)).trans hb0)
    clear hK hpost hS
    generalize (puts _ _ _ u).eval=ρ at *
    simp[execOp,r16]
 case d6 =>
   change DutyO _ _ _ _ _ _ _ _ 6 _
   intro u ww L hS hL _ hpre hpost K hK
   have hk:=hK (.pointer (some ⟨X,o1,none⟩)) (ww) (by simp[App3Φ,upd]) (hS.idle (grown_refl _ _) hR.x hB0) (fun j x _ h=>h)
   unfold Oper.wp
   rw[(?h:Sem.run Try.prog (execOp _ _) ww=.ok (.value (.pointer (some ⟨X,o1,none⟩))) (ww))]
   ·exact hk
   case h =>
    have rx:(puts A (app3Slots s1 s2 s3 t) 0 u).eval (.tmp xs)=.pointer (some ⟨X,0,none⟩):=(puts_eval_out _ A 0 u xs hxs).trans hx
    exact hF1 _ _ rx
 case d7 =>
   change DutyO _ _ _ _ _ _ _ _ 7 _
   intro u ww L hS hL _ hpre hpost K hK
   have hk:=hK (.int .i64 y) (ww) (by simp[App3Φ,upd]) (hS.idle (grown_refl _ _) hR.x hB0) (fun j x _ h=>h)
   unfold Oper.wp
   rw[(?h:Sem.run Try.prog (execOp _ _) ww=.ok (.value (.int .i64 y)) (ww))]
   ·exact hk
   case h =>
    have r6:(puts A (app3Slots s1 s2 s3 t) 0 u).eval (.tmp (t+6))=.pointer (some ⟨X,o1,none⟩):=(puts_eval_in _ A 0 u 6 (t+6) hd rfl (by omega)).trans (hpre 6 (anc_mem rfl))
    have c1:=hS.cy
    clear hK hpost hS
    generalize (puts _ _ _ u).eval=ρ at *
    simp[execOp,go_sem,r6,c1]
 case d8 =>
   change DutyO _ _ _ _ _ _ _ _ 8 _
   intro u ww L hS hL _ hpre hpost K hK
   have hk:=hK (.slice (some ⟨ww.heap.size,0,none⟩) 1 1) (ww.alloc (.cells #[.int .i64 y] 3)) (by
     simp only[App3Φ,upd,if_true]
     exact⟨_,rfl,hS.h0,by simp,CellsAt.new ww [y] _⟩) (hS.idle (grown_alloc _ _ _) hR.x hB0) (App3.stab (grown_alloc _ _ _) (touch_idle _ _ _ _ _))
   unfold Oper.wp
   rw[(?h:Sem.run Try.prog (execOp _ _) ww=.ok (.value (.slice (some ⟨ww.heap.size,0,none⟩) 1 1)) (ww.alloc (.cells #[.int .i64 y] 3)))]
   ·exact hk
   case h =>
    have r7:(puts A (app3Slots s1 s2 s3 t) 0 u).eval (.tmp (t+7))=.int .i64 y:=(puts_eval_in _ A 0 u 7 (t+7) hd rfl (by omega)).trans (hpre 7 (anc_mem rfl))
    clear hK hpost hS
    generalize (puts _ _ _ u).eval=ρ at *
    simp[execOp,go_sem,r7]
 case d9 =>
   change DutyO _ _ _ _ _ _ _ _ 9 _
   intro u ww L hS hL _ hpre hpost K hK
   have hl:=hpre 8 (anc_mem rfl)
   have r5:(puts A (app3Slots s1 s2 s3 t) 0 u).eval (.tmp (t+5))=b:=(puts_eval_in _ A 0 u 5 (t+5) hd rfl (by omega)).trans (hpre 5 (anc_mem rfl))
   have r8:(puts A (app3Slots s1 s2 s3 t) 0 u).eval (.tmp (t+8))=u 8:=(puts_eval_in _ A 0 u 8 (t+8) hd rfl (by omega)).trans (rfl)
   refine wp_push ww _ _ 22 rfl B 3 H0 elem_Int b j _ r5 (hS.b hL) (u 8) y r8 hl (by omega) (by have:=hS.h0;have:=hR.x;omega) hS.h0 ?_
   intro v' w' hG hg hg'
   refine hK v' w' ?_ (hS.kept hg hR.t9 (fun k hk=>by have:=hR.rb k hk;omega) hR.x hB0) (App3.stab hg hR.t9)
   simp only[App3Φ,upd,if_true,Nat.reduceEqDiff,if_false]
   refine⟨hG,?_⟩
   have g4:=hpre 4 (anc_mem rfl)
   exact grew_apart (w1:=ww) (m:=0) (ys:=[]) g4 hg' hR.ab (fun k hk=>by have:=hR.rb k hk;have:=hR.x;omega)
 case d10 =>
   change DutyO _ _ _ _ _ _ _ _ 10 _
   intro u ww L hS hL _ hpre hpost K hK
   have hk:=hK (c) (ww) (by simp[App3Φ,upd]) (hS.idle (grown_refl _ _) hR.x hB0) (fun j x _ h=>h)
   unfold Oper.wp
   rw[(?h:Sem.run Try.prog (execOp _ _) ww=.ok (.value (c)) (ww))]
   ·exact hk
   case h =>
    have r17:(puts A (app3Slots s1 s2 s3 t) 0 u).eval (.tmp s3)=c:=(puts_eval_in _ A 0 u 17 s3 hd rfl (by omega)).trans ((hpost 17 (by simp[app3Ops]) (anc_mem rfl)).trans hc0)
    clear hK hpost hS
    generalize (puts _ _ _ u).eval=ρ at *
    simp[execOp,r17]
 case d11 =>
   change DutyO _ _ _ _ _ _ _ _ 11 _
   intro u ww L hS hL _ hpre hpost K hK
   have hk:=hK (.pointer (some ⟨X,o2,none⟩)) (ww) (by simp[App3Φ,upd]) (hS.idle (grown_refl _ _) hR.x hB0) (fun j x _ h=>h)
   unfold Oper.wp
   rw[(?h:Sem.run Try.prog (execOp _ _) ww=.ok (.value (.pointer (some ⟨X,o2,none⟩))) (ww))]
   ·exact hk
   case h =>
    have rx:(puts A (app3Slots s1 s2 s3 t) 0 u).eval (.tmp xs)=.pointer (some ⟨X,0,none⟩):=(puts_eval_out _ A 0 u xs hxs).trans hx
    exact hF2 _ _ rx
 case d12 =>
   change DutyO _ _ _ _ _ _ _ _ 12 _
   intro u ww L hS hL _ hpre hpost K hK
   have hk:=hK (.int .i64 z) (ww) (by simp[App3Φ,upd]) (hS.idle (grown_refl _ _) hR.x hB0) (fun j x _ h=>h)
   unfold Oper.wp
   rw[(?h:Sem.run Try.prog (execOp _ _) ww=.ok (.value (.int .i64 z)) (ww))]
   ·exact hk
   case h =>
    have r11:(puts A (app3Slots s1 s2 s3 t) 0 u).eval (.tmp (t+11))=.pointer (some ⟨X,o2,none⟩):=(puts_eval_in _ A 0 u 11 (t+11) hd rfl (by omega)).trans (hpre 11 (anc_mem rfl))
    have c1:=hS.cz
    clear hK hpost hS
    generalize (puts _ _ _ u).eval=ρ at *
    simp[execOp,go_sem,r11,c1]
 case d13 =>
   change DutyO _ _ _ _ _ _ _ _ 13 _
   intro u ww L hS hL _ hpre hpost K hK
   have hk:=hK (.slice (some ⟨ww.heap.size,0,none⟩) 1 1) (ww.alloc (.cells #[.int .i64 z] 3)) (by
     simp only[App3Φ,upd,if_true]
     exact⟨_,rfl,hS.h0,by simp,CellsAt.new ww [z] _⟩) (hS.idle (grown_alloc _ _ _) hR.x hB0) (App3.stab (grown_alloc _ _ _) (touch_idle _ _ _ _ _))
   unfold Oper.wp
   rw[(?h:Sem.run Try.prog (execOp _ _) ww=.ok (.value (.slice (some ⟨ww.heap.size,0,none⟩) 1 1)) (ww.alloc (.cells #[.int .i64 z] 3)))]
   ·exact hk
   case h =>
    have r12:(puts A (app3Slots s1 s2 s3 t) 0 u).eval (.tmp (t+12))=.int .i64 z:=(puts_eval_in _ A 0 u 12 (t+12) hd rfl (by omega)).trans (hpre 12 (anc_mem rfl))
    clear hK hpost hS
    generalize (puts _ _ _ u).eval=ρ at *
    simp[execOp,go_sem,r12]
 case d14 =>
   change DutyO _ _ _ _ _ _ _ _ 14 _
   intro u ww L hS hL _ hpre hpost K hK
   have hl:=hpre 13 (anc_mem rfl)
   have r10:(puts A (app3Slots s1 s2 s3 t) 0 u).eval (.tmp (t+10))=c:=(puts_eval_in _ A 0 u 10 (t+10) hd rfl (by omega)).trans (hpre 10 (anc_mem rfl))
   have r13:(puts A (app3Slots s1 s2 s3 t) 0 u).eval (.tmp (t+13))=u 13:=(puts_eval_in _ A 0 u 13 (t+13) hd rfl (by omega)).trans (rfl)
   refine wp_push ww _ _ 22 rfl B 3 H0 elem_Int c j _ r10 (hS.c hL) (u 13) z r13 hl (by omega) (by have:=hS.h0;have:=hR.x;omega) hS.h0 ?_
   intro v' w' hG hg hg'
   refine hK v' w' ?_ (hS.kept hg hR.t14 (fun k hk=>by have:=hR.rc k hk;omega) hR.x hB0) (App3.stab hg hR.t14)
   simp only[App3Φ,upd,if_true,Nat.reduceEqDiff,if_false]
   refine⟨hG,?_,?_⟩
   ·have g4:=hpre 4 (anc_mem rfl)
    exact grew_apart (w1:=ww) (m:=0) (ys:=[]) g4 hg' hR.ac (fun k hk=>by have:=hR.rc k hk;have:=hR.x;omega)
   ·have g9:=hpre 9 (anc_mem rfl)
    exact grew_apart (w1:=ww) (m:=0) (ys:=[]) g9.1 hg' hR.bc (fun k hk=>by have:=hR.rc k hk;have:=hR.x;omega)
 case d15 =>
   change DutyO _ _ _ _ _ _ _ _ 15 _
   intro u ww L hS hL _ hpre hpost K hK
   have hk:=hK (u 4) (ww) (by simp[App3Φ,upd]) (hS.idle (grown_refl _ _) hR.x hB0) (fun j x _ h=>h)
   unfold Oper.wp
   rw[(?h:Sem.run Try.prog (execOp _ _) ww=.ok (.value (u 4)) (ww))]
   ·exact hk
   case h =>
    have r4:(puts A (app3Slots s1 s2 s3 t) 0 u).eval (.tmp (t+4))=u 4:=(puts_eval_in _ A 0 u 4 (t+4) hd rfl (by omega)).trans (rfl)
    clear hK hpost hS
    generalize (puts _ _ _ u).eval=ρ at *
    simp[execOp,r4]
 case d16 =>
   change DutyO _ _ _ _ _ _ _ _ 16 _
   intro u ww L hS hL _ hpre hpost K hK
   have hk:=hK (u 9) (ww) (by simp[App3Φ,upd]) (hS.idle (grown_refl _ _) hR.x hB0) (fun j x _ h=>h)
   unfold Oper.wp
   rw[(?h:Sem.run Try.prog (execOp _ _) ww=.ok (.value (u 9)) (ww))]
   ·exact hk
   case h =>
    have r9:(puts A (app3Slots s1 s2 s3 t) 0 u).eval (.tmp (t+9))=u 9:=(puts_eval_in _ A 0 u 9 (t+9) hd rfl (by omega)).trans (rfl)
    clear hK hpost hS
    generalize (puts _ _ _ u).eval=ρ at *
    simp[execOp,r9]
 case d17 =>
   change DutyO _ _ _ _ _ _ _ _ 17 _
   intro u ww L hS hL _ hpre hpost K hK
   have hk:=hK (u 14) (ww) (by simp[App3Φ,upd]) (hS.idle (grown_refl _ _) hR.x hB0) (fun j x _ h=>h)
   unfold Oper.wp
   rw[(?h:Sem.run Try.prog (execOp _ _) ww=.ok (.value (u 14)) (ww))]
   ·exact hk
   case h =>
    have r14:(puts A (app3Slots s1 s2 s3 t) 0 u).eval (.tmp (t+14))=u 14:=(puts_eval_in _ A 0 u 14 (t+14) hd rfl (by omega)).trans (rfl)
    clear hK hpost hS
    generalize (puts _ _ _ u).eval=ρ at *
    simp[execOp,r14]
end Go.Proofs.Ytjccjmmbebiegaa
set_option linter.unusedVariables false
set_option linter.unusedSimpArgs false
namespace Go.Proofs.Ytjccjmmbebiegaa
open Go.RowKit
theorem bset {a b:World} (h:Below a.heap.size a b) (k:Nat) (v:Value):Below a.heap.size a (b.setCell ⟨a.heap.size,k,none⟩ v):=h.setCell (Nat.le_refl _) v
theorem bsetN {a b:World} {n:Nat} (h:Below a.heap.size a b) (hn:a.heap.size≤n) (k:Nat) (v:Value):Below a.heap.size a (b.setCell ⟨n,k,none⟩ v):=h.setCell hn v
structure Lay where
 q:Int
 v:Int
 p:Int
def Lay.val (x:Lay):Value:=.agg #[.int .i64 x.q,.int .i64 x.v,.int .i64 x.p]
def Lay.zero:Lay:=⟨0,0,0⟩
def flat (l:List Lay):List Int:=l.flatMap fun x=>[x.q,x.v,x.p]
theorem flat_len (l:List Lay):(flat l).length=l.length*3:=by
 induction l with
 |nil=>rfl
 |cons x l ih=>simp only[flat,List.flatMap_cons,List.length_append,List.length_cons,List.length_nil]at ih ⊢;omega
theorem flat_get (l:List Lay):∀(i:Nat) (x:Lay),l[i]?=some x→(flat l).getD (i*3) 0=x.q∧(flat l).getD (i*3+1) 0=x.v∧(flat l).getD (i*3+2) 0=x.p:=by
 induction l with
 |nil=>intro i x h;simp at h
 |cons y l ih =>
  intro i x h
  cases i with
  |zero=>simp at h;subst h;exact⟨rfl,rfl,rfl⟩
  |succ i =>
   have:=ih i x (by simpa using h)
   have e:∀k,(flat (y::l)).getD ((i+1)*3+k) 0=(flat l).getD (i*3+k) 0:=by
    intro k
    show([y.q,y.v,y.p]++flat l).getD ((i+1)*3+k) 0=_
    rw[List.getD_eq_getElem?_getD,List.getElem?_append_right (by simp;omega),←List.getD_eq_getElem?_getD]
    congr 1
    simp
    omega
   have e0:=e 0;have e1:=e 1;have e2:=e 2
   simp only[Nat.add_zero]at e0
   rw[e0,e1,e2]
   exact this
theorem flat_all {l:List Lay} (h:AllI (flat l)):AllI (l.map (·.q))∧AllI (l.map (·.v))∧AllI (l.map (·.p)):=by
 have H:∀x,x∈l→I64 x.q∧I64 x.v∧I64 x.p:=fun x hx =>
  ⟨h _ (List.mem_flatMap.2 ⟨x,hx,by simp⟩),h _ (List.mem_flatMap.2 ⟨x,hx,by simp⟩),h _ (List.mem_flatMap.2 ⟨x,hx,by simp⟩)⟩
 refine⟨fun z hz=>?_,fun z hz=>?_,fun z hz=>?_⟩ <;>
  (obtain⟨x,hx,rfl⟩:=List.mem_map.1 hz;first|exact(H x hx).1|exact(H x hx).2.1|exact(H x hx).2.2)
def totOk (l:List Lay):Bool:=decide (sumE (l.map (·.q))=0)&&decide (sumE (l.map (·.v))=0)&&decide (sumE (l.map (·.p))=0)
def tot (l:List Lay):Lay:=if totOk l then⟨sumV (l.map (·.q)),sumV (l.map (·.v)),sumV (l.map (·.p))⟩else .zero
def totE (l:List Lay):Int:=if totOk l then 0 else 2
theorem tot_no {l:List Lay} (h:totOk l=false):tot l=.zero∧totE l=2:=by simp[tot,totE,h]
theorem tot_yes {l:List Lay} (h:totOk l=true):tot l=⟨sumV (l.map (·.q)),sumV (l.map (·.v)),sumV (l.map (·.p))⟩∧totE l=0:=by simp[tot,totE,h]
theorem sumE_or (l:List Int):sumE l=0∨sumE l=2:=by
 unfold sumE;split<;>simp
structure Tot3 (w:World) (B:Nat) (j:Nat) (l:List Lay) (a b c:Value):Prop where
 q:OwnI w B 3 1 a j ((l.take j).map (·.q))
 v:OwnI w B 3 1 b j ((l.take j).map (·.v))
 p:OwnI w B 3 1 c j ((l.take j).map (·.p))
 ab:Apart a b
 ac:Apart a c
 bc:Apart b c
 ba:Apart b a
 ca:Apart c a
 cb:Apart c b
set_option maxHeartbeats 1000000 in
theorem fifo_Total (a:Option Addr) (cap:Nat) (l:List Lay) (w:World) (h:Row w 3 a l.length cap (flat l)) (hn:l.length≤1000) :
  Calls Try.prog 54 #[.slice a l.length cap] w fun e w'=>e=.returned (.tuple #[(tot l).val,.int .i64 (totE l)])∧Below w.heap.size w w':=by
 obtain⟨hl,hcap,hmax,hall,hat⟩:=h
 unfold maxLen at hmax
 go_enter Try.func54,Try.ntmps54
 try simp only[List.append_eq,List.cons_append,List.nil_append]
 go_wp2
 go_loopw [4,5,6,16] (fun q v p i wr=>∃j:Nat,j≤l.length∧i=.int .i64 j∧Tot3 wr (w.heap.size+1) j l q v p∧Below (w.heap.size+1) (w.alloc (.cells #[.int .i64 0,.int .i64 0,.int .i64 0] 32)) wr) (fun _ _ _ i _=>l.length-(intOf i).toNat)
 case atStart=>exact⟨0,by omega,rfl,⟨OwnI.nil _ _ _ _,OwnI.nil _ _ _ _,OwnI.nil _ _ _ _,.inl rfl,.inl rfl,.inl rfl,.inl rfl,.inl rfl,.inl rfl⟩,Below.refl _ _⟩
 case round =>
  obtain⟨j,hj,rfl,T,hbel⟩:=hrel
  have hsz:=hbel.size
  simp only[World.size_alloc]at hsz
  by_cases hlt:j<l.length
  ·obtain⟨b,off,rfl,hb,hc⟩:∃b off,a=some ⟨b,off,none⟩∧b<w.heap.size∧CellsAt w b off (flat l):=by
    rcases hat with h0|h0
    ·omega
    ·exact h0
   obtain⟨x,hx⟩:∃x,l[j]?=some x:=⟨l[j],by simp[hlt]⟩
   have hg:=flat_get l j x hx
   have hfl:=flat_len l
   have hcw:∀i,i<(flat l).length→wr.cell? ⟨b,off+i,none⟩=some (.int .i64 ((flat l).getD i 0)):=fun i hi=>by
    rw[hbel.cell (by show b<_;omega),World.cell?_alloc_lt _ _ _ hb];exact hc i hi
   have c0:wr.cell? ⟨b,off+j*3,none⟩=some (.int .i64 x.q):=by rw[hcw (j*3) (by omega),hg.1]
   have c1:wr.cell? ⟨b,off+j*3+1,none⟩=some (.int .i64 x.v):=by rw[Nat.add_assoc,hcw (j*3+1) (by omega),hg.2.1]
   have c2:wr.cell? ⟨b,off+j*3+2,none⟩=some (.int .i64 x.p):=by rw[Nat.add_assoc,hcw (j*3+2) (by omega),hg.2.2]
   have hlt':(j:Int)<(l.length:Int):=by omega
   clear hc hcw hat hg
   have hx:=Lib.hid hx
   have hfl:=Lib.hid hfl
   go_wp2_with fail
   have hB0:w.heap.size+1≤wr.heap.size+1:=by omega
   have hR:App3R (w.heap.size+1) (wr.heap.size+1) wr.heap.size u4 u5 u6:=⟨World.ownsRow.lt T.q,World.ownsRow.lt T.v,World.ownsRow.lt T.p,by omega,T.ab,T.ac,T.bc,T.ba,T.ca,T.cb⟩
   refine region_app3 32 0 1 2 0 1 2 8 4 5 6 20 _ (w.heap.size+1) (wr.heap.size+1) wr.heap.size j (w.heap.size+1) u4 u5 u6
    ((l.take j).map (·.q)) ((l.take j).map (·.v)) ((l.take j).map (·.p)) x.q x.v x.p (w.alloc (.cells #[.int .i64 0,.int .i64 0,.int .i64 0] 32))
    (by simp) (by decide) (by decide) (by decide) (by decide) (by decide) rfl rfl rfl rfl ?f0 ?f1 ?f2 hR hB0 (Nat.le_refl _) (by omega) (by omega) ?hs ?fin
   case f0=>intro ρ ww hρ;simp[execOp,go_sem,hρ]
   case f1=>intro ρ ww hρ;simp[execOp,go_sem,hρ]
   case f2=>intro ρ ww hρ;simp[execOp,go_sem,hρ]
   case hs=>exact⟨by simp,by simp,by simp,by simp,(hbel.alloc hsz _).drew,fun _=>(T.q.alloc _).drew,fun _=>(T.v.alloc _).drew,fun _=>(T.p.alloc _).drew⟩
   case fin =>
    intro u w' L hS hΦ
    have e4:=hΦ 4 (by omega)
    have e9:=hΦ 9 (by omega)
    have e14:=hΦ 14 (by omega)
    have e15:u 15=u 4:=hΦ 15 (by omega)
    have e16:u 16=u 9:=hΦ 16 (by omega)
    have e17:u 17=u 14:=hΦ 17 (by omega)
    have hb':=hS.bel
    clear hS hΦ
    simp only[puts,app3Slots,Act.put,e15,e16,e17,List.setIfInBounds_toArray,List.set_cons_succ,List.set_cons_zero]
    go_wp2_with fail
    case' roundEnd =>
     have tk:∀f:Lay→Int,(l.take (j+1)).map f=(l.take j).map f++[f x]:=fun f=>by
      rw[List.take_add_one,show l[j]?=some x from hx]
      simp
     refine⟨⟨j+1,hlt,by simp,⟨by rw[tk];exact e4.1,by rw[tk];exact e9.1.1,by rw[tk];exact e14.1.1,.inr e9.2,.inr e14.2.1,.inr e14.2.2,.inr (Ne.symm e9.2),.inr (Ne.symm e14.2.1),.inr (Ne.symm e14.2.2)⟩,hb'⟩,?_⟩
     simp[intOf]
     omega
  ·have ej:j=l.length:=by omega
   subst ej
   have hge:¬ ((l.length:Int)<(l.length:Int)):=by omega
   obtain⟨hq,hv,hp⟩:=flat_all hall
   obtain⟨T1,T2,T3,-,-,-,-,-,-⟩:=T
   simp only[List.take_length]at T1 T2 T3
   obtain⟨a1,p1,rfl,R1⟩:=T1.row hq
   obtain⟨a2,p2,rfl,R2⟩:=T2.row hv
   obtain⟨a3,p3,rfl,R3⟩:=T3.row hp
   clear T1 T2 T3 hat hall
   have hl:=Lib.hid hl
   have hszl:w.heap.size<wr.heap.size:=hsz
   have hszl1:w.heap.size<wr.heap.size+1:=by omega
   have hszl2:w.heap.size<wr.heap.size+1+1:=by omega
   have hszl3:w.heap.size<wr.heap.size+1+1+1:=by omega
   have hszl4:w.heap.size<wr.heap.size+1+1+1+1:=by omega
   have r0:wr.cell? ⟨w.heap.size,0,none⟩=some (.int .i64 0):=by rw[hbel.cell (Nat.lt_succ_self _)];simp
   have r1:wr.cell? ⟨w.heap.size,1,none⟩=some (.int .i64 0):=by rw[hbel.cell (Nat.lt_succ_self _)];simp
   have r2:wr.cell? ⟨w.heap.size,2,none⟩=some (.int .i64 0):=by rw[hbel.cell (Nat.lt_succ_self _)];simp
   have z0:wr.frozen? ⟨w.heap.size,0,none⟩=false:=by rw[hbel.frozen (Nat.lt_succ_self _)];simp
   have z1:wr.frozen? ⟨w.heap.size,1,none⟩=false:=by rw[hbel.frozen (Nat.lt_succ_self _)];simp
   have z2:wr.frozen? ⟨w.heap.size,2,none⟩=false:=by rw[hbel.frozen (Nat.lt_succ_self _)];simp
   have hb0:Below w.heap.size w wr:=((Below.refl _ w).alloc (Nat.le_refl _) _).trans (hbel.mono (by omega))
   clear hbel
   go_wp2_with fail
   refine wp_loop_rounds 4 ?_
   rw[rounds_succ]
   rcases sumE_or (l.map (·.q))with h1|h1
   rotate_left
   ·go_wp2_with (first|(go_at_call 68;refine(money_Sum _ _ _ _ _ (R1.below (by(repeat (first|assumption|exact Below.refl _ _|refine ballc ?_ _|refine bdrew ?_|refine bdrewN ?_ _|refine bset ?_ _ _|refine bsetN ?_ (by omega) _ _|refine bthen ?_ (by assumption)))))).mono ?_;rintro e w' ⟨rfl,rfl⟩))
    have ht:=tot_no (l:=l) (by simp[totOk,h1])
    exact bodyPost_ret (v:=.tuple #[Lay.zero.val,.int .i64 2]) (by simp[results,Try.results54,go_sem,Lay.val,Lay.zero,hszl,hszl1,hszl2,hszl3,hszl4,r0,r1,r2,z0,z1,z2]) rfl ⟨by rw[ht.1,ht.2],by(repeat (first|assumption|exact Below.refl _ _|refine ballc ?_ _|refine bdrew ?_|refine bdrewN ?_ _|refine bset ?_ _ _|refine bsetN ?_ (by omega) _ _|refine bthen ?_ (by assumption)))⟩
   go_wp2_with (first|(go_at_call 68;refine(money_Sum _ _ _ _ _ (R1.below (by(repeat (first|assumption|exact Below.refl _ _|refine ballc ?_ _|refine bdrew ?_|refine bdrewN ?_ _|refine bset ?_ _ _|refine bsetN ?_ (by omega) _ _|refine bthen ?_ (by assumption)))))).mono ?_;rintro e w' ⟨rfl,rfl⟩))
   rw[rounds_succ]
   rcases sumE_or (l.map (·.v))with h2|h2
   rotate_left
   ·go_wp2_with (first|(go_at_call 68;refine(money_Sum _ _ _ _ _ (R2.below (by(repeat (first|assumption|exact Below.refl _ _|refine ballc ?_ _|refine bdrew ?_|refine bdrewN ?_ _|refine bset ?_ _ _|refine bsetN ?_ (by omega) _ _|refine bthen ?_ (by assumption)))))).mono ?_;rintro e w' ⟨rfl,rfl⟩))
    have ht:=tot_no (l:=l) (by simp[totOk,h2])
    exact bodyPost_ret (v:=.tuple #[Lay.zero.val,.int .i64 2]) (by simp[results,Try.results54,go_sem,Lay.val,Lay.zero,hszl,hszl1,hszl2,hszl3,hszl4,r0,r1,r2,z0,z1,z2]) rfl ⟨by rw[ht.1,ht.2],by(repeat (first|assumption|exact Below.refl _ _|refine ballc ?_ _|refine bdrew ?_|refine bdrewN ?_ _|refine bset ?_ _ _|refine bsetN ?_ (by omega) _ _|refine bthen ?_ (by assumption)))⟩
   go_wp2_with (first|(go_at_call 68;refine(money_Sum _ _ _ _ _ (R2.below (by(repeat (first|assumption|exact Below.refl _ _|refine ballc ?_ _|refine bdrew ?_|refine bdrewN ?_ _|refine bset ?_ _ _|refine bsetN ?_ (by omega) _ _|refine bthen ?_ (by assumption)))))).mono ?_;rintro e w' ⟨rfl,rfl⟩))
   rw[rounds_succ]
   rcases sumE_or (l.map (·.p))with h3|h3
   rotate_left
   ·go_wp2_with (first|(go_at_call 68;refine(money_Sum _ _ _ _ _ (R3.below (by(repeat (first|assumption|exact Below.refl _ _|refine ballc ?_ _|refine bdrew ?_|refine bdrewN ?_ _|refine bset ?_ _ _|refine bsetN ?_ (by omega) _ _|refine bthen ?_ (by assumption)))))).mono ?_;rintro e w' ⟨rfl,rfl⟩))
    have ht:=tot_no (l:=l) (by simp[totOk,h3])
    exact bodyPost_ret (v:=.tuple #[Lay.zero.val,.int .i64 2]) (by simp[results,Try.results54,go_sem,Lay.val,Lay.zero,hszl,hszl1,hszl2,hszl3,hszl4,r0,r1,r2,z0,z1,z2]) rfl ⟨by rw[ht.1,ht.2],by(repeat (first|assumption|exact Below.refl _ _|refine ballc ?_ _|refine bdrew ?_|refine bdrewN ?_ _|refine bset ?_ _ _|refine bsetN ?_ (by omega) _ _|refine bthen ?_ (by assumption)))⟩
   go_wp2_with (first|(go_at_call 68;refine(money_Sum _ _ _ _ _ (R3.below (by(repeat (first|assumption|exact Below.refl _ _|refine ballc ?_ _|refine bdrew ?_|refine bdrewN ?_ _|refine bset ?_ _ _|refine bsetN ?_ (by omega) _ _|refine bthen ?_ (by assumption)))))).mono ?_;rintro e w' ⟨rfl,rfl⟩))
   rw[rounds_succ]
   go_wp2_with fail
   have ht:=tot_yes (l:=l) (by simp[totOk,h1,h2,h3])
   exact bodyPost_ret (v:=.tuple #[(tot l).val,.int .i64 0]) (by rw[ht.1];simp[results,Try.results54,go_sem,Lay.val,hszl,hszl1,hszl2,hszl3,hszl4,r0,r1,r2,z0,z1,z2]) rfl ⟨by rw[ht.2],by(repeat (first|assumption|exact Below.refl _ _|refine ballc ?_ _|refine bdrew ?_|refine bdrewN ?_ _|refine bset ?_ _ _|refine bsetN ?_ (by omega) _ _|refine bthen ?_ (by assumption)))⟩
end Go.Proofs.Ytjccjmmbebiegaa
set_option linter.unusedVariables false
set_option linter.unusedSimpArgs false
namespace Go.Proofs.Ytjccjmmbebiegaa
open Go.RowKit
def layOk (x:Lay):Bool:=decide (1≤x.q)&&decide (x.q≤288230376151711744)&&decide (0≤x.v)&&decide (x.v≤288230376151711744)&&decide (-288230376151711744≤x.p)&&decide (x.p≤288230376151711744)
theorem lay_cells {w wr:World} {b off:Nat} {l:List Lay} {j:Nat} {x:Lay} (hc:CellsAt w b off (flat l)) (hx:l[j]?=some x) (hb:b<w.heap.size) (hbel:Below w.heap.size w wr) :
  wr.cell? ⟨b,off+j*3,none⟩=some (.int .i64 x.q)∧wr.cell? ⟨b,off+j*3+1,none⟩=some (.int .i64 x.v)∧wr.cell? ⟨b,off+j*3+2,none⟩=some (.int .i64 x.p):=by
 have hg:=flat_get l j x hx
 have hfl:=flat_len l
 have hj:j<l.length:=by
  rcases Nat.lt_or_ge j l.length with h|h
  ·exact h
  ·rw[List.getElem?_eq_none h]at hx;cases hx
 have hcw:∀i,i<(flat l).length→wr.cell? ⟨b,off+i,none⟩=some (.int .i64 ((flat l).getD i 0)):=fun i hi=>by
  rw[hbel.cell (by show b<_;omega)];exact hc i hi
 refine⟨by rw[hcw (j*3) (by omega),hg.1],by rw[Nat.add_assoc,hcw (j*3+1) (by omega),hg.2.1],by rw[Nat.add_assoc,hcw (j*3+2) (by omega),hg.2.2]⟩
theorem all_take {l:List Lay} {j:Nat} {x:Lay} {f:Lay→Bool} (hx:l[j]?=some x):(l.take (j+1)).all f=((l.take j).all f&&f x):=by
 rw[List.take_add_one,hx]
 simp
theorem fifo_wrong (x:Lay) (w:World) :
  Calls Try.prog 60 #[x.val] w fun e w'=>e=.returned (.bool (!layOk x))∧Below w.heap.size w w':=by
 unfold Lay.val
 go_enter Try.func60,Try.ntmps60
 try simp only[List.append_eq,List.cons_append,List.nil_append]
 go_wp2
 all_goals (go_ret;exact⟨ret_bool (by rw[Bool.eq_iff_iff];simp[layOk]<;>omega),by(repeat (first|assumption|exact Below.refl _ _|refine ballc ?_ _|refine bdrew ?_|refine bdrewN ?_ _|refine bset ?_ _ _|refine bsetN ?_ (by omega) _ _|refine bthen ?_ (by assumption)))⟩)
theorem slices_IndexFunc_Layer (a:Option Addr) (cap:Nat) (l:List Lay) (w:World) (h:Row w 3 a l.length cap (flat l)) :
  Calls Try.prog 71 #[.slice a l.length cap,.func (.func 60) #[] #[]] w fun e w'=>∃i:Int,e=.returned (.int .i64 i)∧(decide (0≤i))=!l.all layOk∧Below w.heap.size w w':=by
 go_enter Try.func71,Try.ntmps71
 obtain⟨hl,hcap,hmax,hall,hat⟩:=h
 unfold maxLen at hmax
 go_wp2
 go_loopw [8] (fun i wr=>∃j:Nat,j≤l.length∧i=.int .i64 j∧(l.take j).all layOk=true∧Below w.heap.size w wr) (fun i _=>l.length-(intOf i).toNat)
 case atStart=>exact⟨0,by omega,rfl,rfl,Below.refl _ _⟩
 case round =>
  obtain⟨j,hj,rfl,T,hbel⟩:=hrel
  have hsz:=hbel.size
  by_cases hlt:j<l.length
  ·obtain⟨b,off,rfl,hb,hc⟩:∃b off,a=some ⟨b,off,none⟩∧b<w.heap.size∧CellsAt w b off (flat l):=by
    rcases hat with h0|h0
    ·omega
    ·exact h0
   obtain⟨x,hx⟩:∃x,l[j]?=some x:=⟨l[j],by simp[hlt]⟩
   obtain⟨c0,c1,c2⟩:=lay_cells hc hx hb hbel
   have hlt':(j:Int)<(l.length:Int):=by omega
   have hx:=Lib.hid hx
   clear hc hat
   go_wp2_with (first|(go_at_call 60;refine(fifo_wrong x _).mono ?_;rintro e w' ⟨rfl,hw1⟩))
   ·have hx:l[j]?=some x:=hx
    have hno:layOk x=false:=by
     rename_i hh
     simpa using hh
    go_ret
    refine⟨(j:Int),rfl,?_,by(repeat (first|assumption|exact Below.refl _ _|refine ballc ?_ _|refine bdrew ?_|refine bdrewN ?_ _|refine bset ?_ _ _|refine bsetN ?_ (by omega) _ _|refine bthen ?_ (by assumption)))⟩
    have:l.all layOk=false:=List.all_eq_false.2 ⟨x,List.mem_of_getElem? hx,by simp[hno]⟩
    rw[this]
    simp
   case' roundEnd =>
    have hx:l[j]?=some x:=hx
    have hno:layOk x=true:=by
     rename_i hh
     simpa using hh
    refine⟨⟨j+1,hlt,by simp,by rw[all_take hx,T,hno];rfl,hbel.trans (hw1.mono hsz)⟩,?_⟩
    simp[intOf]
    omega
  ·have ej:j=l.length:=by omega
   subst ej
   have hge:¬ ((l.length:Int)<(l.length:Int)):=by omega
   go_wp2_with fail
   go_ret
   refine⟨-1,rfl,?_,by(repeat (first|assumption|exact Below.refl _ _|refine ballc ?_ _|refine bdrew ?_|refine bdrewN ?_ _|refine bset ?_ _ _|refine bsetN ?_ (by omega) _ _|refine bthen ?_ (by assumption)))⟩
   rw[List.take_length]at T
   rw[T]
   rfl
theorem slices_ContainsFunc_Layer (a:Option Addr) (cap:Nat) (l:List Lay) (w:World) (h:Row w 3 a l.length cap (flat l)) :
  Calls Try.prog 59 #[.slice a l.length cap,.func (.func 60) #[] #[]] w fun e w'=>e=.returned (.bool (!l.all layOk))∧Below w.heap.size w w':=by
 go_enter Try.func59,Try.ntmps59
 go_wp2_with (first|(go_at_call 71;refine(slices_IndexFunc_Layer a cap l _ h).mono ?_;rintro e w' ⟨i,rfl,hi,hw1⟩))
 go_ret
 exact⟨rfl,hw1⟩
theorem layOk_iff {x:Lay}:layOk x=true↔1≤x.q∧x.q≤288230376151711744∧0≤x.v∧x.v≤288230376151711744∧-288230376151711744≤x.p∧x.p≤288230376151711744:=by
 simp[layOk,and_assoc]
def swing (x:Lay):Int:=max x.p (-x.p)
theorem all_at {l:List Lay} {j:Nat} {x:Lay} {f:Lay→Bool} (h:l.all f=true) (hx:l[j]?=some x):f x=true:=List.all_eq_true.1 h x (List.mem_of_getElem? hx)
@[go_sem] theorem Lay.val_eq (x:Lay):x.val=.agg #[.int .i64 x.q,.int .i64 x.v,.int .i64 x.p]:=rfl
@[go_sem] theorem Lay.zero_q:Lay.zero.q=0:=rfl
@[go_sem] theorem Lay.zero_v:Lay.zero.v=0:=rfl
@[go_sem] theorem Lay.zero_p:Lay.zero.p=0:=rfl
end Go.Proofs.Ytjccjmmbebiegaa
set_option linter.unusedVariables false
set_option linter.unusedSimpArgs false
namespace Go.Proofs.Ytjccjmmbebiegaa
open Go.RowKit
theorem lit1 {w:World} {y:Int} {t n:Nat} (hn:n=w.heap.size):CellsAt (w.alloc (.cells #[.int .i64 y] t)) n 0 [y]:=by
 subst hn;exact CellsAt.new w [y] t
theorem swing_all {l:List Lay} (hok:l.all layOk=true):AllI (l.map swing):=by
 intro z hz
 obtain⟨x,hx,rfl⟩:=List.mem_map.1 hz
 have:=layOk_iff.1 (List.all_eq_true.1 hok x hx)
 unfold swing
 exact⟨by omega,by omega⟩
set_option maxHeartbeats 1000000 in
theorem fifo_steady (a:Option Addr) (cap:Nat) (l:List Lay) (w:World) (h:Row w 3 a l.length cap (flat l)) (hn:l.length≤1000) (hok:l.all layOk=true) :
  Calls Try.prog 61 #[.slice a l.length cap] w fun e w'=>e=.returned (.bool (decide (sumE (l.map swing)=0)))∧Below w.heap.size w w':=by
 obtain⟨hl,hcap,hmax,hall,hat⟩:=h
 unfold maxLen at hmax
 go_enter Try.func61,Try.ntmps61
 go_wp2
 go_loopw [3,10] (fun q i wr=>∃j:Nat,j≤l.length∧i=.int .i64 j∧OwnI wr w.heap.size 3 1 q j ((l.take j).map swing)∧Below w.heap.size w wr) (fun _ i _=>l.length-(intOf i).toNat)
 case atStart=>exact⟨0,by omega,rfl,OwnI.nil _ _ _ _,Below.refl _ _⟩
 case round =>
  obtain⟨j,hj,rfl,T,hbel⟩:=hrel
  have hsz:=hbel.size
  by_cases hlt:j<l.length
  ·obtain⟨b,off,rfl,hb,hc⟩:∃b off,a=some ⟨b,off,none⟩∧b<w.heap.size∧CellsAt w b off (flat l):=by
    rcases hat with h0|h0
    ·omega
    ·exact h0
   obtain⟨x,hx⟩:∃x,l[j]?=some x:=⟨l[j],by simp[hlt]⟩
   obtain⟨c0,c1,c2⟩:=lay_cells hc hx hb hbel
   have hlt':(j:Int)<(l.length:Int):=by omega
   have hok':=layOk_iff.1 (all_at hok hx)
   obtain⟨k1,k2,k3,k4,k5,k6⟩:=hok'
   have hx:=Lib.hid hx
   have hok:=Lib.hid hok
   clear hc hat
   go_wp2_with (at_builtin;refine wpList_push _ rfl _ _ 22 rfl w.heap.size 3 1 elem_Int u3 j ((l.take j).map swing) rfl ((T.alloc _).alloc _) (wr.heap.size+1) 0 1 [swing x] rfl rfl (lit1 (y:=swing x) (by simp)) ?c1 ?c2 ?_)
   case c1=>omega
   case c2=>simp;omega
   ·intro l' w1 hown' hb1
    have hx:l[j]?=some x:=hx
    have e:(l.take j).map swing++[swing x]=(l.take (j+1)).map swing:=by rw[List.take_add_one,hx];simp
    rw[←List.map_take,e]at hown'
    have hs1:w.heap.size≤(wr.alloc (.cells #[.int .i64 x.q,.int .i64 x.v,.int .i64 x.p] 32)).heap.size:=by simp;omega
    have hbel':=((hbel.alloc hsz (.cells #[.int .i64 x.q,.int .i64 x.v,.int .i64 x.p] 32)).alloc hs1 _).trans hb1
    clear T hb1 e
    have hx:=Lib.hid hx
    go_wp2
    go_roundw
    case rel=>exact⟨j+1,by omega,by go_num,hown',hbel'⟩
    case measure=>simp[intOf];omega
  ·have ej:j=l.length:=by omega
   subst ej
   have hge:¬ ((l.length:Int)<(l.length:Int)):=by omega
   rw[List.take_length]at T
   obtain⟨l0,cp,rfl,hrow⟩:=T.row (swing_all hok)
   clear T
   rcases sumE_or (l.map swing)with h1|h1
   all_goals
    go_wp2_with (first|(go_at_call 68;refine(money_Sum _ _ _ _ _ hrow).mono ?_;rintro e w' ⟨rfl,rfl⟩))
    go_ret
    exact⟨ret_bool (by simp[h1]),hbel⟩
end Go.Proofs.Ytjccjmmbebiegaa
set_option linter.unusedVariables false
set_option linter.unusedSimpArgs false
namespace Go.Proofs.Ytjccjmmbebiegaa
open Go.RowKit
def rightL (l:List Lay):Bool:=decide (l.length≤30)&&l.all layOk&&totOk l&&decide (sumE (l.map swing)=0)
set_option maxHeartbeats 1000000 in
theorem fifo_Right (a:Option Addr) (cap:Nat) (l:List Lay) (w:World) (h:Row w 3 a l.length cap (flat l)) (hn:l.length≤1000) :
  Calls Try.prog 37 #[.slice a l.length cap] w fun e w'=>e=.returned (.bool (rightL l))∧Below w.heap.size w w':=by
 have h0:=h
 obtain⟨hl,hcap,hmax,hall,hat⟩:=h
 unfold maxLen at hmax
 go_enter Try.func37,Try.ntmps37
 have hlen:rightL l=true→l.length≤30:=by simp[rightL];intros;assumption
 by_cases hL:l.length≤30
 ·have hL':¬ (30<(l.length:Int)):=by omega
  cases hok:l.all layOk
  ·go_wp2_with (first|(go_at_call 59;refine(slices_ContainsFunc_Layer a cap l _ h0).mono ?_;rintro e w' ⟨rfl,hw1⟩))
   go_ret
   exact⟨ret_bool (by simp[rightL,hok]),by(repeat (first|assumption|exact Below.refl _ _|refine ballc ?_ _|refine bdrew ?_|refine bdrewN ?_ _|refine bset ?_ _ _|refine bsetN ?_ (by omega) _ _|refine bthen ?_ (by assumption)))⟩
  ·have hs:=fun w h=>fifo_steady a cap l w h hn hok
   cases ht:totOk l
   ·have ht':=tot_no ht
    go_wp2_with (first|(go_at_call 59;refine(slices_ContainsFunc_Layer a cap l _ h0).mono ?_;rintro e w' ⟨rfl,hw1⟩)|(go_at_call 54;refine(fifo_Total a cap l _ (h0.below (by(repeat (first|assumption|exact Below.refl _ _|refine ballc ?_ _|refine bdrew ?_|refine bdrewN ?_ _|refine bset ?_ _ _|refine bsetN ?_ (by omega) _ _|refine bthen ?_ (by assumption))))) hn).mono ?_;rintro e w' ⟨rfl,hw2⟩)|(go_at_call 61;refine(hs _ (h0.below (by(repeat (first|assumption|exact Below.refl _ _|refine ballc ?_ _|refine bdrew ?_|refine bdrewN ?_ _|refine bset ?_ _ _|refine bsetN ?_ (by omega) _ _|refine bthen ?_ (by assumption)))))).mono ?_;rintro e w' ⟨rfl,hw3⟩))
    all_goals (go_ret;exact⟨ret_bool (by simp[rightL,hok,ht,hL]),by(repeat (first|assumption|exact Below.refl _ _|refine ballc ?_ _|refine bdrew ?_|refine bdrewN ?_ _|refine bset ?_ _ _|refine bsetN ?_ (by omega) _ _|refine bthen ?_ (by assumption)))⟩)
   ·have ht':=tot_yes ht
    go_wp2_with (first|(go_at_call 59;refine(slices_ContainsFunc_Layer a cap l _ h0).mono ?_;rintro e w' ⟨rfl,hw1⟩)|(go_at_call 54;refine(fifo_Total a cap l _ (h0.below (by(repeat (first|assumption|exact Below.refl _ _|refine ballc ?_ _|refine bdrew ?_|refine bdrewN ?_ _|refine bset ?_ _ _|refine bsetN ?_ (by omega) _ _|refine bthen ?_ (by assumption))))) hn).mono ?_;rintro e w' ⟨rfl,hw2⟩)|(go_at_call 61;refine(hs _ (h0.below (by(repeat (first|assumption|exact Below.refl _ _|refine ballc ?_ _|refine bdrew ?_|refine bdrewN ?_ _|refine bset ?_ _ _|refine bsetN ?_ (by omega) _ _|refine bthen ?_ (by assumption)))))).mono ?_;rintro e w' ⟨rfl,hw3⟩))
    all_goals (go_ret;exact⟨ret_bool (by simp[rightL,hok,ht,hL]),by(repeat (first|assumption|exact Below.refl _ _|refine ballc ?_ _|refine bdrew ?_|refine bdrewN ?_ _|refine bset ?_ _ _|refine bsetN ?_ (by omega) _ _|refine bthen ?_ (by assumption)))⟩)
 ·have hL':30<(l.length:Int):=by omega
  go_wp2_with fail
  go_ret
  exact⟨ret_bool (by simp[rightL,hL]),by(repeat (first|assumption|exact Below.refl _ _|refine ballc ?_ _|refine bdrew ?_|refine bdrewN ?_ _|refine bset ?_ _ _|refine bsetN ?_ (by omega) _ _|refine bthen ?_ (by assumption)))⟩
end Go.Proofs.Ytjccjmmbebiegaa
set_option linter.unusedVariables false
set_option linter.unusedSimpArgs false
namespace Go.Proofs.Ytjccjmmbebiegaa
open Go.RowKit
structure Cell3 (w:World) (b:Nat) (x y z:Int):Prop where
 c0:w.cell? ⟨b,0,none⟩=some (.int .i64 x)
 c1:w.cell? ⟨b,1,none⟩=some (.int .i64 y)
 c2:w.cell? ⟨b,2,none⟩=some (.int .i64 z)
 f0:w.frozen? ⟨b,0,none⟩=false
 f1:w.frozen? ⟨b,1,none⟩=false
 f2:w.frozen? ⟨b,2,none⟩=false
theorem ref_AddQ (a b:Int) (w:World):Calls Try.prog 33 #[.int .i64 a,.int .i64 b] w fun e w'=>e=.returned (.tuple #[.int .i64 (addV a b),.int .i64 (addE a b)])∧w'=w :=
 (ref_Add a b w).mono fun _ _ h=>⟨h.1,h.2.symm⟩
theorem bad_of {zs:List Int} {k:Nat} (e:sumGo 0 (zs.take k)=none):sumE zs=2:=by simp[sumE,sumGo_none e]
theorem bad_1 {l:List Lay} {k:Nat} (e:sumGo 0 ((l.map (·.q)).take k)=none):totOk l=false:=by simp[totOk,bad_of e]
theorem bad_2 {l:List Lay} {k:Nat} (e:sumGo 0 ((l.map (·.v)).take k)=none):totOk l=false:=by simp[totOk,bad_of e]
theorem bad_3 {l:List Lay} {k:Nat} (e:sumGo 0 ((l.map (·.p)).take k)=none):totOk l=false:=by simp[totOk,bad_of e]
theorem sumGo_lay {l:List Lay} {j:Nat} {x:Lay} {f:Lay→Int} {n:Int} (hx:l[j]?=some x) (e:sumGo 0 ((l.map f).take j)=some n) :
  sumGo 0 ((l.map f).take (j+1))=if addOk n (f x)then some (n+f x)else none:=by
 have hj:j<(l.map f).length:=by
  rcases Nat.lt_or_ge j l.length with h|h
  ·simpa using h
  ·rw[List.getElem?_eq_none h]at hx;cases hx
 rw[sumGo_take hj e]
 have:(l.map f).getD j 0=f x:=by rw[List.getD_eq_getElem?_getD,List.getElem?_map,hx];rfl
 rw[this]
set_option maxHeartbeats 1000000 in
theorem ref_Total9 (a:Option Addr) (cap:Nat) (l:List Lay) (w:World) (h:Row w 3 a l.length cap (flat l)) :
  Calls Try.prog 11 #[.slice a l.length cap] w fun e w'=>e=.returned (.tuple #[(tot l).val,.int .i64 (totE l)])∧Below w.heap.size w w':=by
 obtain⟨hl,hcap,hmax,hall,hat⟩:=h
 unfold maxLen at hmax
 go_enter Try.func11,Try.ntmps11
 obtain⟨hq,hv,hp⟩:=flat_all hall
 go_wp2
 go_loopw [5] (fun i wr=>∃(j:Nat) (q v p:Int),j≤l.length∧i=.int .i64 j∧sumGo 0 ((l.map (·.q)).take j)=some q∧sumGo 0 ((l.map (·.v)).take j)=some v∧sumGo 0 ((l.map (·.p)).take j)=some p ∧
  Cell3 wr w.heap.size 0 0 0∧Cell3 wr (w.heap.size+1) q v p∧w.heap.size+2≤wr.heap.size∧Below w.heap.size w wr) (fun i _=>l.length-(intOf i).toNat)
 case atStart=>exact⟨0,0,0,0,by omega,rfl,rfl,rfl,rfl,⟨by simp,by simp,by simp,by simp,by simp,by simp⟩,⟨by simp,by simp,by simp,by simp,by simp,by simp⟩,by simp,by(repeat (first|assumption|exact Below.refl _ _|refine ballc ?_ _|refine bdrew ?_|refine bdrewN ?_ _|refine bset ?_ _ _|refine bsetN ?_ (by omega) _ _|refine bthen ?_ (by assumption)))⟩
 case round =>
  obtain⟨j,q,v,p,hj,rfl,s1,s2,s3,⟨r0,r1,r2,z0,z1,z2⟩,⟨y0,y1,y2,x0,x1,x2⟩,hs2,hbel⟩:=hrel
  have hsz:=hbel.size
  by_cases hlt:j<l.length
  ·obtain⟨b,off,rfl,hb,hc⟩:∃b off,a=some ⟨b,off,none⟩∧b<w.heap.size∧CellsAt w b off (flat l):=by
    rcases hat with h0|h0
    ·omega
    ·exact h0
   obtain⟨x,hx⟩:∃x,l[j]?=some x:=⟨l[j],by simp[hlt]⟩
   obtain⟨c0,c1,c2⟩:=lay_cells hc hx hb hbel
   have hlt':(j:Int)<(l.length:Int):=by omega
   have t1:=sumGo_lay (f:=(·.q)) hx s1
   have t2:=sumGo_lay (f:=(·.v)) hx s2
   have t3:=sumGo_lay (f:=(·.p)) hx s3
   have hx:=Lib.hid hx
   clear hc hat s1 s2 s3
   have t1:=Lib.hid t1
   have t2:=Lib.hid t2
   have t3:=Lib.hid t3
   go_wp2_with fail
   go_quiet ((go_at_call 33;refine Calls.quiet_of_same (ref_AddQ _ _ _)))
   change (wr.drewN nq).cell? _=_ at y0 y1 y2 r0 r1 r2 c0 c1 c2
   change (wr.drewN nq).frozen? _=_ at x0 x1 x2 z0 z1 z2
   change _≤(wr.drewN nq).heap.size at hs2 hsz
   replace hbel:=bdrewN hbel nq
   generalize wr.drewN nq=wr at *
   go_wp2_with fail
   go_quiet ((go_at_call 33;refine Calls.quiet_of_same (ref_AddQ _ _ _)))
   change (wr.drewN nq).cell? _=_ at y0 y1 y2 r0 r1 r2 c0 c1 c2
   change (wr.drewN nq).frozen? _=_ at x0 x1 x2 z0 z1 z2
   change _≤(wr.drewN nq).heap.size at hs2 hsz
   replace hbel:=bdrewN hbel nq
   generalize wr.drewN nq=wr at *
   go_wp2_with fail
   go_quiet ((go_at_call 33;refine Calls.quiet_of_same (ref_AddQ _ _ _)))
   change (wr.drewN nq).cell? _=_ at y0 y1 y2 r0 r1 r2 c0 c1 c2
   change (wr.drewN nq).frozen? _=_ at x0 x1 x2 z0 z1 z2
   change _≤(wr.drewN nq).heap.size at hs2 hsz
   replace hbel:=bdrewN hbel nq
   generalize wr.drewN nq=wr at *
   cases k1:addOk q x.q
   ·have k5:=addV_of_not k1
    go_wp2_with fail
    have ht:=tot_no (l:=l) (bad_1 (by have:=t1.out;rw[this,k1];rfl))
    exact bodyPost_ret (v:=.tuple #[Lay.zero.val,.int .i64 2]) (by simp[results,Try.results11,go_sem,r0,r1,r2,z0,z1,z2]) rfl ⟨by rw[ht.1,ht.2],by(repeat (first|assumption|exact Below.refl _ _|refine ballc ?_ _|refine bdrew ?_|refine bdrewN ?_ _|refine bset ?_ _ _|refine bsetN ?_ (by omega) _ _|refine bthen ?_ (by assumption)))⟩
   have m1:=addV_of k1
   cases k2:addOk v x.v
   ·have k5:=addV_of_not k2
    go_wp2_with fail
    have ht:=tot_no (l:=l) (bad_2 (by have:=t2.out;rw[this,k2];rfl))
    exact bodyPost_ret (v:=.tuple #[Lay.zero.val,.int .i64 2]) (by simp[results,Try.results11,go_sem,r0,r1,r2,z0,z1,z2]) rfl ⟨by rw[ht.1,ht.2],by(repeat (first|assumption|exact Below.refl _ _|refine ballc ?_ _|refine bdrew ?_|refine bdrewN ?_ _|refine bset ?_ _ _|refine bsetN ?_ (by omega) _ _|refine bthen ?_ (by assumption)))⟩
   have m2:=addV_of k2
   cases k3:addOk p x.p
   ·have k5:=addV_of_not k3
    go_wp2_with fail
    have ht:=tot_no (l:=l) (bad_3 (by have:=t3.out;rw[this,k3];rfl))
    exact bodyPost_ret (v:=.tuple #[Lay.zero.val,.int .i64 2]) (by simp[results,Try.results11,go_sem,r0,r1,r2,z0,z1,z2]) rfl ⟨by rw[ht.1,ht.2],by(repeat (first|assumption|exact Below.refl _ _|refine ballc ?_ _|refine bdrew ?_|refine bdrewN ?_ _|refine bset ?_ _ _|refine bsetN ?_ (by omega) _ _|refine bthen ?_ (by assumption)))⟩
   have m3:=addV_of k3
   go_wp2_with fail
   case' roundEnd =>
    have t1:=t1.out;have t2:=t2.out;have t3:=t3.out
    rw[k1]at t1;rw[k2]at t2;rw[k3]at t3
    refine⟨⟨j+1,q+x.q,v+x.v,p+x.p,hlt,by simp,t1,t2,t3,⟨by go_simp,by go_simp,by go_simp,by simp[z0],by simp[z1],by simp[z2]⟩,⟨by go_simp,by go_simp,by go_simp,by simp[x0],by simp[x1],by simp[x2]⟩,by simp;omega,by(repeat (first|assumption|exact Below.refl _ _|refine ballc ?_ _|refine bdrew ?_|refine bdrewN ?_ _|refine bset ?_ _ _|refine bsetN ?_ (by omega) _ _|refine bthen ?_ (by assumption)))⟩,?_⟩
    simp[intOf]
    omega
  ·have ej:j=l.length:=by omega
   subst ej
   have hge:¬ ((l.length:Int)<(l.length:Int)):=by omega
   have e1:sumGo 0 (l.map (·.q))=some q:=by rw[←s1,List.take_of_length_le (by simp)]
   have e2:sumGo 0 (l.map (·.v))=some v:=by rw[←s2,List.take_of_length_le (by simp)]
   have e3:sumGo 0 (l.map (·.p))=some p:=by rw[←s3,List.take_of_length_le (by simp)]
   have ht:=tot_yes (l:=l) (by simp[totOk,sumE,e1,e2,e3])
   have ht2:tot l=⟨q,v,p⟩:=by rw[ht.1];simp[sumV,e1,e2,e3]
   have hte:=ht.2
   clear s1 s2 s3 e1 e2 e3 ht
   go_wp2_with fail
   exact bodyPost_ret (v:=.tuple #[.agg #[.int .i64 q,.int .i64 v,.int .i64 p],.int .i64 0]) (by simp[results,Try.results11,go_sem,r0,r1,r2,z0,z1,z2]) rfl ⟨by first|rfl|(rw[ht2,hte];rfl),by(repeat (first|assumption|exact Below.refl _ _|refine ballc ?_ _|refine bdrew ?_|refine bdrewN ?_ _|refine bset ?_ _ _|refine bsetN ?_ (by omega) _ _|refine bthen ?_ (by assumption)))⟩
end Go.Proofs.Ytjccjmmbebiegaa
set_option linter.unusedVariables false
set_option linter.unusedSimpArgs false
namespace Go.Proofs.Ytjccjmmbebiegaa
open Go.RowKit
set_option maxHeartbeats 1000000 in
theorem ref_Swing (a:Option Addr) (cap:Nat) (l:List Lay) (w:World) (h:Row w 3 a l.length cap (flat l)) (hok:l.all layOk=true) :
  Calls Try.prog 67 #[.slice a l.length cap] w fun e w'=>e=.returned (.tuple #[.int .i64 (sumV (l.map swing)),.int .i64 (sumE (l.map swing))])∧Below w.heap.size w w':=by
 obtain⟨hl,hcap,hmax,hall,hat⟩:=h
 unfold maxLen at hmax
 go_enter Try.func67,Try.ntmps67
 go_wp2
 go_loopw [4,5] (fun n i wr=>∃(j:Nat) (q:Int),j≤l.length∧i=.int .i64 j∧n=.int .i64 q∧sumGo 0 ((l.map swing).take j)=some q∧Below w.heap.size w wr) (fun _ i _=>l.length-(intOf i).toNat)
 case atStart=>exact⟨0,0,by omega,rfl,rfl,rfl,by(repeat (first|assumption|exact Below.refl _ _|refine ballc ?_ _|refine bdrew ?_|refine bdrewN ?_ _|refine bset ?_ _ _|refine bsetN ?_ (by omega) _ _|refine bthen ?_ (by assumption)))⟩
 case round =>
  obtain⟨j,q,hj,rfl,rfl,s1,hbel⟩:=hrel
  have hsz:=hbel.size
  by_cases hlt:j<l.length
  ·obtain⟨b,off,rfl,hb,hc⟩:∃b off,a=some ⟨b,off,none⟩∧b<w.heap.size∧CellsAt w b off (flat l):=by
    rcases hat with h0|h0
    ·omega
    ·exact h0
   obtain⟨x,hx⟩:∃x,l[j]?=some x:=⟨l[j],by simp[hlt]⟩
   obtain⟨c0,c1,c2⟩:=lay_cells hc hx hb hbel
   have hlt':(j:Int)<(l.length:Int):=by omega
   have t1:=sumGo_lay (f:=swing) hx s1
   obtain⟨-,-,-,-,kp1,kp2⟩:=layOk_iff.1 (all_at hok hx)
   have wr1:IntKind.i64.wrap (-x.p)=-x.p:=IntWalk.i64_in _ (by omega)
   have hx:=Lib.hid hx
   clear hc hat s1 hok
   have t1:=Lib.hid t1
   go_wp2_with fail
   go_quiet ((go_at_call 33;refine Calls.quiet_of_same (ref_AddQ _ (swing x) _)))
   change (wr.drewN nq).cell? _=_ at c0 c1 c2
   change _≤(wr.drewN nq).heap.size at hsz
   replace hbel:=bdrewN hbel nq
   generalize wr.drewN nq=wr at *
   clear wr1
   have kp3:¬ x.p < -288230376151711744:=by omega
   cases k1:addOk q (swing x)
   ·have k5:=addV_of_not k1
    go_wp2_with fail
    have hb:sumE (l.map swing)=2:=bad_of (by have:=t1.out;rw[this,k1];rfl)
    have hb2:sumV (l.map swing)=0:=by
     have:sumGo 0 (l.map swing)=none:=sumGo_none (by have:=t1.out;rw[this,k1];rfl)
     simp[sumV,this]
    go_ret2
    exact⟨by rw[hb,hb2];rfl,by(repeat (first|assumption|exact Below.refl _ _|refine ballc ?_ _|refine bdrew ?_|refine bdrewN ?_ _|refine bset ?_ _ _|refine bsetN ?_ (by omega) _ _|refine bthen ?_ (by assumption)))⟩
   ·have m1:=addV_of k1
    go_wp2_with fail
    case' roundEnd =>
     have t1:=t1.out
     rw[k1]at t1
     refine⟨⟨j+1,q+swing x,hlt,by simp,by rw[m1.1],t1,by(repeat (first|assumption|exact Below.refl _ _|refine ballc ?_ _|refine bdrew ?_|refine bdrewN ?_ _|refine bset ?_ _ _|refine bsetN ?_ (by omega) _ _|refine bthen ?_ (by assumption)))⟩,?_⟩
     simp[intOf]
     omega
  ·have ej:j=l.length:=by omega
   subst ej
   have hge:¬ ((l.length:Int)<(l.length:Int)):=by omega
   have e1:sumGo 0 (l.map swing)=some q:=by rw[←s1,List.take_of_length_le (by simp)]
   have e2:sumV (l.map swing)=q:=by simp[sumV,e1]
   have e3:sumE (l.map swing)=0:=by simp[sumE,e1]
   clear s1 e1
   go_wp2_with fail
   go_ret2
   exact⟨by first|rfl|rw[e2,e3],by(repeat (first|assumption|exact Below.refl _ _|refine ballc ?_ _|refine bdrew ?_|refine bdrewN ?_ _|refine bset ?_ _ _|refine bsetN ?_ (by omega) _ _|refine bthen ?_ (by assumption)))⟩
theorem right_no {l:List Lay} {j:Nat} {x:Lay} (hx:l[j]?=some x) (h:layOk x=false):rightL l=false:=by
 have:l.all layOk=false:=List.all_eq_false.2 ⟨x,List.mem_of_getElem? hx,by simp[h]⟩
 simp[rightL,this]
theorem rightL_iff {l:List Lay}:rightL l=true↔(l.length:Int)≤30∧l.all layOk=true∧totE l=0∧sumE (l.map swing)=0:=by
 have k:totOk l=decide (totE l=0):=by unfold totE;split<;>simp_all
 have k2:(l.length≤30)↔(l.length:Int)≤30:=by omega
 simp only[rightL,k,Bool.and_eq_true,decide_eq_true_eq,k2,and_assoc]
set_option maxHeartbeats 1000000 in
theorem ref_Right9 (a:Option Addr) (cap:Nat) (l:List Lay) (w:World) (h:Row w 3 a l.length cap (flat l)) (hn:l.length≤1000) :
  Calls Try.prog 53 #[.slice a l.length cap] w fun e w'=>e=.returned (.bool (rightL l))∧Below w.heap.size w w':=by
 have h0:=h
 obtain⟨hl,hcap,hmax,hall,hat⟩:=h
 unfold maxLen at hmax
 go_enter Try.func53,Try.ntmps53
 try simp only[List.append_eq,List.cons_append,List.nil_append]
 go_wp2
 go_loopw [3] (fun i wr=>∃(j:Nat),j≤l.length∧i=.int .i64 j∧(l.take j).all layOk=true∧Below w.heap.size w wr) (fun i _=>l.length-(intOf i).toNat)
 case atStart=>exact⟨0,by omega,rfl,rfl,by(repeat (first|assumption|exact Below.refl _ _|refine ballc ?_ _|refine bdrew ?_|refine bdrewN ?_ _|refine bset ?_ _ _|refine bsetN ?_ (by omega) _ _|refine bthen ?_ (by assumption)))⟩
 case round =>
  obtain⟨j,hj,rfl,T,hbel⟩:=hrel
  have hsz:=hbel.size
  by_cases hlt:j<l.length
  ·obtain⟨b,off,rfl,hb,hc⟩:∃b off,a=some ⟨b,off,none⟩∧b<w.heap.size∧CellsAt w b off (flat l):=by
    rcases hat with h0|h0
    ·omega
    ·exact h0
   obtain⟨x,hx⟩:∃x,l[j]?=some x:=⟨l[j],by simp[hlt]⟩
   obtain⟨c0,c1,c2⟩:=lay_cells hc hx hb hbel
   have hlt':(j:Int)<(l.length:Int):=by omega
   have hx:=Lib.hid hx
   clear hc hat
   go_wp2_with (first|(go_at_call 56;refine(ref_In _ _).mono ?_;rintro e w' ⟨rfl,rfl⟩))
   case' roundEnd =>
    have hno:layOk x=true:=by
     rw[layOk_iff]
     simp_all [inB]
     try omega
    have hx:l[j]?=some x:=hx
    refine⟨⟨j+1,hlt,by simp,by rw[all_take hx,T,hno];rfl,by(repeat (first|assumption|exact Below.refl _ _|refine ballc ?_ _|refine bdrew ?_|refine bdrewN ?_ _|refine bset ?_ _ _|refine bsetN ?_ (by omega) _ _|refine bthen ?_ (by assumption)))⟩,?_⟩
    simp[intOf]
    omega
   all_goals
    have hno:layOk x=false:=by
     cases hh:layOk x
     ·rfl
     ·exfalso
      rw[layOk_iff]at hh
      simp_all [inB]
      try omega
    have hx:l[j]?=some x:=hx
    go_ret
    exact⟨ret_bool (by rw[right_no hx hno]),by(repeat (first|assumption|exact Below.refl _ _|refine ballc ?_ _|refine bdrew ?_|refine bdrewN ?_ _|refine bset ?_ _ _|refine bsetN ?_ (by omega) _ _|refine bthen ?_ (by assumption)))⟩
  ·have ej:j=l.length:=by omega
   subst ej
   have hge:¬ ((l.length:Int)<(l.length:Int)):=by omega
   rw[List.take_length]at T
   have hs:=fun w h=>ref_Swing a cap l w h T
   go_wp2_with (first|(go_at_call 11;refine(ref_Total9 a cap l _ (h0.below (by(repeat (first|assumption|exact Below.refl _ _|refine ballc ?_ _|refine bdrew ?_|refine bdrewN ?_ _|refine bset ?_ _ _|refine bsetN ?_ (by omega) _ _|refine bthen ?_ (by assumption)))))).mono ?_;rintro e w' ⟨rfl,hw1⟩)|(go_at_call 67;refine(hs _ (h0.below (by(repeat (first|assumption|exact Below.refl _ _|refine ballc ?_ _|refine bdrew ?_|refine bdrewN ?_ _|refine bset ?_ _ _|refine bsetN ?_ (by omega) _ _|refine bthen ?_ (by assumption)))))).mono ?_;rintro e w' ⟨rfl,hw2⟩))
   all_goals (go_ret;refine⟨ret_bool ?_,by(repeat (first|assumption|exact Below.refl _ _|refine ballc ?_ _|refine bdrew ?_|refine bdrewN ?_ _|refine bset ?_ _ _|refine bsetN ?_ (by omega) _ _|refine bthen ?_ (by assumption)))⟩;rw[Bool.eq_iff_iff,rightL_iff];simp_all<;>omega)
end Go.Proofs.Ytjccjmmbebiegaa
set_option linter.unusedVariables false
set_option linter.unusedSimpArgs false
namespace Go.Proofs.Ytjccjmmbebiegaa
open Go.RowKit
deriving instance DecidableEq for Lay
end Go.Proofs.Ytjccjmmbebiegaa
set_option linter.unusedVariables false
set_option linter.unusedSimpArgs false
namespace Go.Proofs.Ytjccjmmbebiegaa
open Go.RowKit
theorem sumGo_some_take {l:List Int} {s:Int} (k:Nat) (e:sumGo 0 l=some s):∃t,sumGo 0 (l.take k)=some t:=by
 cases h:sumGo 0 (l.take k)with
 |none=>rw[sumGo_none h]at e;cases e
 |some t=>exact⟨t,rfl⟩
theorem sumGo_sum (l:List Int):∀(n s:Int),sumGo n l=some s→s=n+l.sum:=by
 induction l with
 |nil=>intro n s h;simp[sumGo]at h;simp[h]
 |cons z l ih =>
  intro n s h
  simp only[sumGo]at h
  split at h
  ·have:=ih _ _ h
   rw[this,List.sum_cons]
   omega
  ·cases h
theorem sum_nonneg {l:List Int} (h:∀z,z∈l→0≤z):0≤l.sum:=by
 induction l with
 |nil=>simp
 |cons z l ih =>
  have h1:=h z (by simp)
  have h2:=ih fun y hy=>h y (by simp[hy])
  rw[List.sum_cons]
  omega
theorem take_sum_le {l:List Int} (h:∀z,z∈l→0≤z) (k:Nat):(l.take k).sum≤l.sum:=by
 have e:l.sum=(l.take k).sum+(l.drop k).sum:=by rw[←List.sum_append,List.take_append_drop]
 have:=sum_nonneg (l:=l.drop k) fun z hz=>h z (List.mem_of_mem_drop hz)
 omega
theorem prefix_le {l:List Lay} {f:Lay→Int} {s t:Int} {k:Nat} (h:∀x,x∈l→0≤f x) (hs:sumGo 0 (l.map f)=some s) (ht:sumGo 0 ((l.map f).take k)=some t):t≤s:=by
 have a:=sumGo_sum _ _ _ hs
 have b:=sumGo_sum _ _ _ ht
 have c:=take_sum_le (l:=l.map f) (fun z hz=>by obtain⟨x,hx,rfl⟩:=List.mem_map.1 hz;exact h x hx) k
 omega
theorem next_sum {l:List Lay} {f:Lay→Int} {s t:Int} {j:Nat} {x:Lay} (h:∀x,x∈l→0≤f x) (hs:sumGo 0 (l.map f)=some s) (hx:l[j]?=some x) (ht:sumGo 0 ((l.map f).take j)=some t) :
  sumGo 0 ((l.map f).take (j+1))=some (t+f x)∧t+f x≤s:=by
 have a:=sumGo_lay hx ht
 obtain⟨u,hu⟩:=sumGo_some_take (j+1) hs
 rw[hu]at a
 split at a
 ·cases a
  exact⟨hu,prefix_le h hs hu⟩
 ·cases a
theorem qpos {l:List Lay} (hok:l.all layOk=true):∀x,x∈l→0≤x.q:=fun x hx=>by
 have:=layOk_iff.1 (List.all_eq_true.1 hok x hx);omega
set_option maxHeartbeats 1000000 in
theorem fifo_has (a:Option Addr) (cap:Nat) (l:List Lay) (w:World) (h:Row w 3 a l.length cap (flat l)) (hok:l.all layOk=true) (s:Int) (hs:sumGo 0 (l.map (·.q))=some s) (q0:Int) (hq:1≤q0) (hq':q0≤9223372036854775807) :
  Calls Try.prog 75 #[.slice a l.length cap,.int .i64 q0] w fun e w'=>e=.returned (.bool (decide (q0≤s)))∧Below w.heap.size w w':=by
 obtain⟨hl,hcap,hmax,hall,hat⟩:=h
 unfold maxLen at hmax
 go_enter Try.func75,Try.ntmps75
 go_wp2
 go_loopw [1,9] (fun n i wr=>∃(j:Nat) (t:Int),j≤l.length∧i=.int .i64 j∧n=.int .i64 (q0-t)∧sumGo 0 ((l.map (·.q)).take j)=some t∧0≤t∧t<q0∧Below w.heap.size w wr) (fun _ i _=>l.length-(intOf i).toNat)
 case atStart=>exact⟨0,0,by omega,rfl,by simp,rfl,by omega,by omega,by(repeat (first|assumption|exact Below.refl _ _|refine ballc ?_ _|refine bdrew ?_|refine bdrewN ?_ _|refine bset ?_ _ _|refine bsetN ?_ (by omega) _ _|refine bthen ?_ (by assumption)))⟩
 case round =>
  obtain⟨j,t,hj,rfl,rfl,s1,ht0,ht1,hbel⟩:=hrel
  have hsz:=hbel.size
  by_cases hlt:j<l.length
  ·obtain⟨b,off,rfl,hb,hc⟩:∃b off,a=some ⟨b,off,none⟩∧b<w.heap.size∧CellsAt w b off (flat l):=by
    rcases hat with h0|h0
    ·omega
    ·exact h0
   obtain⟨x,hx⟩:∃x,l[j]?=some x:=⟨l[j],by simp[hlt]⟩
   obtain⟨c0,c1,c2⟩:=lay_cells hc hx hb hbel
   have hlt':(j:Int)<(l.length:Int):=by omega
   obtain⟨t1,t2⟩:=next_sum (f:=(·.q)) (qpos hok) hs hx s1
   obtain⟨k1,k2,-,-,-,-⟩:=layOk_iff.1 (all_at hok hx)
   have hx:=Lib.hid hx
   clear hc hat s1 hok
   have t1:=Lib.hid t1
   have hs:=Lib.hid hs
   go_wp2_with fail
   case' roundEnd =>
    rename_i hh
    have hh:q0-t-min (max x.q 0) (q0-t)≠0:=by simpa using hh
    have e:q0-t-min (max x.q 0) (q0-t)=q0-(t+x.q):=by omega
    refine⟨⟨j+1,t+x.q,hlt,by simp,by rw[e],t1.out,by omega,by omega,by(repeat (first|assumption|exact Below.refl _ _|refine ballc ?_ _|refine bdrew ?_|refine bdrewN ?_ _|refine bset ?_ _ _|refine bsetN ?_ (by omega) _ _|refine bthen ?_ (by assumption)))⟩,?_⟩
    simp[intOf]
    omega
   ·rename_i hh
    have hh:q0-t-min (max x.q 0) (q0-t)=0:=by simpa using hh
    go_ret
    exact⟨ret_bool (by simp;omega),by(repeat (first|assumption|exact Below.refl _ _|refine ballc ?_ _|refine bdrew ?_|refine bdrewN ?_ _|refine bset ?_ _ _|refine bsetN ?_ (by omega) _ _|refine bthen ?_ (by assumption)))⟩
  ·have ej:j=l.length:=by omega
   subst ej
   have hge:¬ ((l.length:Int)<(l.length:Int)):=by omega
   have e1:t=s:=by
    rw[List.take_of_length_le (by simp)]at s1
    rw[s1]at hs
    exact Option.some.inj hs
   subst e1
   clear s1 hs
   go_wp2_with fail
   go_ret
   exact⟨ret_bool (by simp;omega),by(repeat (first|assumption|exact Below.refl _ _|refine ballc ?_ _|refine bdrew ?_|refine bdrewN ?_ _|refine bset ?_ _ _|refine bsetN ?_ (by omega) _ _|refine bthen ?_ (by assumption)))⟩
end Go.Proofs.Ytjccjmmbebiegaa
set_option linter.unusedVariables false
set_option linter.unusedSimpArgs false
namespace Go.Proofs.Ytjccjmmbebiegaa
open Go.RowKit
def cutL (x:Lay) (q:Int):Lay:=⟨q,partS x.v q x.q,partS x.p q x.q⟩
def minusL (x y:Lay):Lay:=⟨x.q-y.q,x.v-y.v,x.p-y.p⟩
def plusL (x y:Lay):Lay:=⟨x.q+y.q,x.v+y.v,x.p+y.p⟩
def outL:List Lay→Lay→Int→List Lay×Lay
 |[],a,_=>([],a)
 |x::r,a,q=>if q≤0 then(x::r,a)else if q<x.q then(minusL x (cutL x q)::r,plusL a (cutL x q))else outL r (plusL a x) (q-x.q)
theorem outL_done {r:List Lay} {a:Lay} {q:Int} (h:q≤0):outL r a q=(r,a):=by
 cases r<;>simp[outL,h]
theorem part_bd_pos {v q n:Int} (hn:1≤n) (hq:0≤q) (hqn:q≤n) (hv:0≤v):0≤v*q/n∧v*q/n≤v:=by
 refine⟨Int.ediv_nonneg (Int.mul_nonneg hv hq) (by omega),Int.ediv_le_of_le_mul (by omega) (Int.mul_le_mul_of_nonneg_left hqn hv)⟩
theorem part_bd {v q n:Int} (hn:1≤n) (hq:0≤q) (hqn:q≤n) (hv:inB v=true):(0≤v→0≤partS v q n∧partS v q n≤v)∧(v<0→v≤partS v q n∧partS v q n≤0):=by
 have h:¬ (n<1∨q<0∨q > n∨inB v=false):=by rw[hv];simp;omega
 refine⟨fun h0=>?_,fun h0=>?_⟩
 ·rw[part_pos h (by omega)]
  exact part_bd_pos hn hq hqn h0
 ·rw[part_neg h h0]
  have:=part_bd_pos (v:=-v) hn hq hqn (by omega)
  omega
structure CutBd (x:Lay) (q:Int):Prop where
 v0:0≤partS x.v q x.q
 v1:partS x.v q x.q≤x.v
 p0:-288230376151711744≤partS x.p q x.q
 p1:partS x.p q x.q≤288230376151711744
 d0:-288230376151711744≤x.p-partS x.p q x.q
 d1:x.p-partS x.p q x.q≤288230376151711744
theorem cut_bd {x:Lay} {q:Int} (h:layOk x=true) (h0:0≤q) (h1:q≤x.q):CutBd x q:=by
 obtain⟨k1,k2,k3,k4,k5,k6⟩:=layOk_iff.1 h
 have a:=part_bd (v:=x.v) k1 h0 h1 (inB_iff.2 ⟨by omega,by omega⟩)
 have b:=part_bd (v:=x.p) k1 h0 h1 (inB_iff.2 ⟨by omega,by omega⟩)
 have a1:=a.1 k3
 refine⟨by omega,by omega,?_,?_,?_,?_⟩ <;>
  (by_cases hp:0≤x.p
   ·have:=b.1 hp;omega
   ·have:=b.2 (by omega);omega)
def outS (l:List Lay) (q:Int):List Lay×Lay×Int :=
 if q<1 then(l,.zero,1)else if(tot l).q<q then(l,.zero,5)else((outL l .zero q).1,(outL l .zero q).2,0)
theorem heads_bd {l:List Lay} {f:Lay→Int} {s t:Int} {j:Nat} (hs:sumGo 0 (l.map f)=some s) (ht:sumGo 0 ((l.map f).take j)=some t) (hf:∀x,x∈l→-288230376151711744≤f x∧f x≤288230376151711744) :
  -288230376151711744≤t∧t≤288230376151711744:=by
 cases j with
 |zero=>simp[sumGo]at ht;subst ht;omega
 |succ j =>
  rcases Nat.lt_or_ge j l.length with h|h
  ·obtain⟨x,hx⟩:∃x,l[j]?=some x:=⟨l[j],by simp[h]⟩
   obtain⟨u,hu⟩:=sumGo_some_take j hs
   have a:=sumGo_lay (f:=f) hx hu
   rw[ht]at a
   split at a
   ·rename_i k
    have:=addOk_bd k
    cases a
    exact this
   ·cases a
  ·have e:(l.map f).take (j+1)=l.map f:=List.take_of_length_le (by simp;omega)
   cases hl:l with
   |nil=>subst hl;simp[sumGo]at ht;subst ht;omega
   |cons y r =>
    have hlen:(l.map f).length=l.length:=by simp
    have hpos:0<l.length:=by rw[hl];simp
    obtain⟨x,hx⟩:∃x,l[l.length-1]?=some x:=⟨l[l.length-1]'(by omega),by simp[show l.length-1<l.length by omega]⟩
    obtain⟨u,hu⟩:=sumGo_some_take (l.length-1) hs
    have a:=sumGo_lay (f:=f) hx hu
    have e2:(l.map f).take (l.length-1+1)=l.map f:=List.take_of_length_le (by simp;omega)
    rw[e2,←e,ht]at a
    split at a
    ·rename_i k
     have:=addOk_bd k
     cases a
     exact this
    ·cases a
theorem next_some {l:List Lay} {f:Lay→Int} {s t:Int} {j:Nat} {x:Lay} (hs:sumGo 0 (l.map f)=some s) (hx:l[j]?=some x) (ht:sumGo 0 ((l.map f).take j)=some t) :
  sumGo 0 ((l.map f).take (j+1))=some (t+f x):=by
 have a:=sumGo_lay hx ht
 obtain⟨u,hu⟩:=sumGo_some_take (j+1) hs
 rw[hu]at a
 split at a
 ·cases a;exact hu
 ·cases a
theorem right_sums {l:List Lay} (h:rightL l=true):∃sq sv sp,sumGo 0 (l.map (·.q))=some sq∧sumGo 0 (l.map (·.v))=some sv∧sumGo 0 (l.map (·.p))=some sp∧tot l=⟨sq,sv,sp⟩:=by
 have hT:totOk l=true:=by
  simp only[rightL,Bool.and_eq_true]at h
  exact h.1.2
 have ht:=(tot_yes hT).1
 simp only[totOk,Bool.and_eq_true,decide_eq_true_eq]at hT
 have some_of:∀zs,sumE zs=0→∃s,sumGo 0 zs=some s∧sumV zs=s:=fun zs hz=>by
  unfold sumE at hz
  cases e:sumGo 0 zs with
  |none=>rw[e]at hz;simp at hz
  |some s=>exact⟨s,rfl,by simp[sumV,e]⟩
 obtain⟨s1,e1,f1⟩:=some_of _ hT.1.1
 obtain⟨s2,e2,f2⟩:=some_of _ hT.1.2
 obtain⟨s3,e3,f3⟩:=some_of _ hT.2
 exact⟨s1,s2,s3,e1,e2,e3,by rw[ht,f1,f2,f3]⟩
theorem lay_bd {l:List Lay} (h:rightL l=true):(∀x,x∈l→-288230376151711744≤x.q∧x.q≤288230376151711744)∧(∀x,x∈l→-288230376151711744≤x.v∧x.v≤288230376151711744)∧(∀x,x∈l→-288230376151711744≤x.p∧x.p≤288230376151711744):=by
 have hok:=(rightL_iff.1 h).2.1
 have H:∀x,x∈l→_:=fun x hx=>layOk_iff.1 (List.all_eq_true.1 hok x hx)
 exact⟨fun x hx=>by have:=H x hx;omega,fun x hx=>by have:=H x hx;omega,fun x hx=>by have:=H x hx;omega⟩
structure Heads (a x:Lay):Prop where
 q0:-288230376151711744≤a.q
 q1:a.q≤288230376151711744
 v0:-288230376151711744≤a.v
 v1:a.v≤288230376151711744
 p0:-288230376151711744≤a.p
 p1:a.p≤288230376151711744
 q2:-288230376151711744≤a.q+x.q
 q3:a.q+x.q≤288230376151711744
 v2:-288230376151711744≤a.v+x.v
 v3:a.v+x.v≤288230376151711744
 p2:-288230376151711744≤a.p+x.p
 p3:a.p+x.p≤288230376151711744
theorem heads {l:List Lay} {j:Nat} {a x:Lay} (h:rightL l=true) (hx:l[j]?=some x) (h1:sumGo 0 ((l.map (·.q)).take j)=some a.q) (h2:sumGo 0 ((l.map (·.v)).take j)=some a.v) (h3:sumGo 0 ((l.map (·.p)).take j)=some a.p):Heads a x:=by
 obtain⟨sq,sv,sp,e1,e2,e3,-⟩:=right_sums h
 obtain⟨b1,b2,b3⟩:=lay_bd h
 have k1:=heads_bd e1 h1 b1
 have k2:=heads_bd e2 h2 b2
 have k3:=heads_bd e3 h3 b3
 have m1:=heads_bd e1 (next_some e1 hx h1) b1
 have m2:=heads_bd e2 (next_some e2 hx h2) b2
 have m3:=heads_bd e3 (next_some e3 hx h3) b3
 exact⟨k1.1,k1.2,k2.1,k2.2,k3.1,k3.2,m1.1,m1.2,m2.1,m2.2,m3.1,m3.2⟩
theorem OwnI.set {w:World} {base:Nat} {e:TypeId} {k:Nat} {v:Value} {n:Nat} {zs:List Int} (h:OwnI w base e k v n zs) {b:Nat} (hb:b<base) (i:Nat) (u:Value):OwnI (w.setCell ⟨b,i,none⟩ u) base e k v n zs:=by
 refine h.kept (r:=some b) ⟨rfl,rfl,rfl,by simp[World.setCell],fun j _ hne=>Below.heap_setCell _ _ _ _ (fun e=>hne (by rw[e]))⟩ ?_
 cases ho:v.ownBlock with
 |none=>exact .inl rfl
 |some g =>
  right
  have:=World.ownsRow.lt h g ho
  intro e
  cases e
  omega
end Go.Proofs.Ytjccjmmbebiegaa
set_option linter.unusedVariables false
set_option linter.unusedSimpArgs false
namespace Go.Proofs.Ytjccjmmbebiegaa
open Go.RowKit
def absum (l:List Int):Int:=(l.map fun z=>max z (-z)).sum
theorem absum_cons (z:Int) (l:List Int):absum (z::l)=max z (-z)+absum l:=by simp[absum]
theorem absum_nonneg (l:List Int):0≤absum l:=by
 induction l with
 |nil=>simp[absum]
 |cons z l ih=>rw[absum_cons];omega
theorem absum_pos {l:List Int} (h:∀z,z∈l→0≤z):absum l=l.sum:=by
 induction l with
 |nil=>rfl
 |cons z l ih =>
  rw[absum_cons,List.sum_cons,ih fun y hy=>h y (by simp[hy])]
  have:=h z (by simp)
  omega
theorem sum_le_absum (l:List Int):-absum l≤l.sum∧l.sum≤absum l:=by
 induction l with
 |nil=>simp[absum]
 |cons z l ih=>rw[absum_cons,List.sum_cons];omega
theorem sumGo_abs (l:List Int):∀n:Int,max n (-n)+absum l≤288230376151711744→sumGo n l=some (n+l.sum):=by
 induction l with
 |nil=>intro n _;simp[sumGo]
 |cons z l ih =>
  intro n h
  rw[absum_cons]at h
  have:=absum_nonneg l
  have hok:addOk n z=true:=addOk_iff.2 ⟨inB_iff.2 ⟨by omega,by omega⟩,inB_iff.2 ⟨by omega,by omega⟩,inB_iff.2 ⟨by omega,by omega⟩⟩
  simp only[sumGo,hok,if_true]
  rw[ih _ (by omega),List.sum_cons]
  congr 1
  omega
theorem sumGo_le (l:List Int):∀n s:Int,inB n=true→sumGo n l=some s→inB s=true:=by
 induction l with
 |nil=>intro n s hn h;simp[sumGo]at h;subst h;exact hn
 |cons z l ih =>
  intro n s hn h
  simp only[sumGo]at h
  split at h
  ·rename_i k;exact ih _ _ (addOk_iff.1 k).2.2 h
  ·cases h
theorem sumE_zero {l:List Int} (h:sumE l=0):sumGo 0 l=some l.sum∧inB l.sum=true:=by
 unfold sumE at h
 cases e:sumGo 0 l with
 |none=>rw[e]at h;simp at h
 |some s =>
  have a:=sumGo_sum _ _ _ e
  have b:=sumGo_le l 0 s (by decide +kernel) e
  have:s=l.sum:=by omega
  subst this
  exact⟨rfl,b⟩
def qs (l:List Lay):Int:=(l.map (·.q)).sum
def vs (l:List Lay):Int:=(l.map (·.v)).sum
def ps (l:List Lay):Int:=(l.map (·.p)).sum
def aps (l:List Lay):Int:=absum (l.map (·.p))
theorem qs_cons (x:Lay) (l:List Lay):qs (x::l)=x.q+qs l:=by simp[qs]
theorem vs_cons (x:Lay) (l:List Lay):vs (x::l)=x.v+vs l:=by simp[vs]
theorem ps_cons (x:Lay) (l:List Lay):ps (x::l)=x.p+ps l:=by simp[ps]
theorem aps_cons (x:Lay) (l:List Lay):aps (x::l)=max x.p (-x.p)+aps l:=by simp[aps,absum_cons]
theorem aps_nonneg (l:List Lay):0≤aps l:=absum_nonneg _
theorem ps_le (l:List Lay):-aps l≤ps l∧ps l≤aps l:=sum_le_absum _
structure LR (l:List Lay):Prop where
 len:l.length≤30
 ok:∀x,x∈l→layOk x=true
 q:qs l≤288230376151711744
 v:vs l≤288230376151711744
 p:aps l≤288230376151711744
theorem LR.at_ {l:List Lay} (h:LR l) {x:Lay} (hx:x∈l):1≤x.q∧x.q≤288230376151711744∧0≤x.v∧x.v≤288230376151711744∧-288230376151711744≤x.p∧x.p≤288230376151711744:=layOk_iff.1 (h.ok x hx)
theorem LR.tail {x:Lay} {l:List Lay} (h:LR (x::l)):LR l:=by
 obtain⟨a,b,c,d,e⟩:=h
 have:=layOk_iff.1 (b x (by simp))
 rw[qs_cons]at c;rw[vs_cons]at d;rw[aps_cons]at e
 simp only[List.length_cons]at a
 exact⟨by omega,fun y hy=>b y (by simp[hy]),by omega,by omega,by omega⟩
theorem qs_pos {l:List Lay} (h:∀x,x∈l→layOk x=true):0≤qs l∧0≤vs l∧(l.length:Int)≤qs l:=by
 induction l with
 |nil=>simp[qs,vs]
 |cons x l ih =>
  have:=layOk_iff.1 (h x (by simp))
  have:=ih fun y hy=>h y (by simp[hy])
  rw[qs_cons,vs_cons,List.length_cons]
  omega
theorem LR.sums {l:List Lay} (h:LR l):sumGo 0 (l.map (·.q))=some (qs l)∧sumGo 0 (l.map (·.v))=some (vs l)∧sumGo 0 (l.map (·.p))=some (ps l)∧sumGo 0 (l.map swing)=some (aps l):=by
 have e1:absum (l.map (·.q))=qs l:=absum_pos fun z hz=>by obtain⟨x,hx,rfl⟩:=List.mem_map.1 hz;have:=h.at_ hx;omega
 have e2:absum (l.map (·.v))=vs l:=absum_pos fun z hz=>by obtain⟨x,hx,rfl⟩:=List.mem_map.1 hz;have:=h.at_ hx;omega
 have e3:(l.map swing).sum=aps l:=by simp only[aps,absum,List.map_map];rfl
 have e4:absum (l.map swing)=aps l:=by rw[absum_pos,e3];intro z hz;obtain⟨x,hx,rfl⟩:=List.mem_map.1 hz;unfold swing;omega
 have hq:=h.q;have hv:=h.v;have hp:=h.p
 have f1:=sumGo_abs (l.map (·.q)) 0 (by omega)
 have f2:=sumGo_abs (l.map (·.v)) 0 (by omega)
 have f3:=sumGo_abs (l.map (·.p)) 0 (by unfold aps at hp;omega)
 have f4:=sumGo_abs (l.map swing) 0 (by omega)
 rw[e3]at f4
 simp only[Int.zero_add]at f1 f2 f3 f4
 exact⟨f1,f2,f3,f4⟩
theorem LR.tot {l:List Lay} (h:LR l):tot l=⟨qs l,vs l,ps l⟩∧totE l=0:=by
 obtain⟨a,b,c,-⟩:=h.sums
 have ht:totOk l=true:=by simp[totOk,sumE,a,b,c]
 rw[(tot_yes ht).1,(tot_yes ht).2]
 simp[sumV,a,b,c]
theorem LR.right {l:List Lay} (h:LR l):rightL l=true:=by
 obtain⟨-,-,-,d⟩:=h.sums
 have hl:=h.len
 exact rightL_iff.2 ⟨by omega,List.all_eq_true.2 h.ok,h.tot.2,by simp[sumE,d]⟩
theorem LR.of {l:List Lay} (h:rightL l=true):LR l:=by
 obtain⟨a,b,c,d⟩:=rightL_iff.1 h
 obtain⟨sq,sv,sp,e1,e2,e3,e4⟩:=right_sums h
 have k1:=inB_iff.1 (sumGo_le _ 0 _ (by decide +kernel) e1)
 have k2:=inB_iff.1 (sumGo_le _ 0 _ (by decide +kernel) e2)
 have m1:=sumGo_sum _ _ _ e1
 have m2:=sumGo_sum _ _ _ e2
 have m3:=(sumE_zero d).2
 have m4:(l.map swing).sum=aps l:=by simp only[aps,absum,List.map_map];rfl
 rw[m4]at m3
 have m3:=inB_iff.1 m3
 exact⟨by omega,List.all_eq_true.1 b,by unfold qs;omega,by unfold vs;omega,by omega⟩
theorem LR.nil:LR []:=⟨by simp,fun x hx=>by simp at hx,by simp[qs],by simp[vs],by simp[aps,absum]⟩
theorem LR.one {x:Lay} (h:layOk x=true):LR [x]:=by
 have k:=layOk_iff.1 h
 refine⟨by simp,fun y hy=>?_,by simp[qs];omega,by simp[vs];omega,by simp[aps,absum];omega⟩
 rw[List.mem_singleton.1 hy];exact h
theorem cut_p {x:Lay} {q:Int} (h:layOk x=true) (h0:0≤q) (h1:q≤x.q) :
  max (x.p-partS x.p q x.q) (-(x.p-partS x.p q x.q))≤max x.p (-x.p)∧max (partS x.p q x.q) (-partS x.p q x.q)≤max x.p (-x.p):=by
 obtain⟨k1,k2,k3,k4,k5,k6⟩:=layOk_iff.1 h
 have b:=part_bd (v:=x.p) k1 h0 h1 (inB_iff.2 ⟨by omega,by omega⟩)
 by_cases hp:0≤x.p
 ·have:=b.1 hp;omega
 ·have:=b.2 (by omega);omega
theorem cut_p2 {x:Lay} {q:Int} (h:layOk x=true) (h0:0≤q) (h1:q≤x.q) :
  max (x.p-partS x.p q x.q) (-(x.p-partS x.p q x.q))+max (partS x.p q x.q) (-partS x.p q x.q)=max x.p (-x.p):=by
 obtain⟨k1,k2,k3,k4,k5,k6⟩:=layOk_iff.1 h
 have b:=part_bd (v:=x.p) k1 h0 h1 (inB_iff.2 ⟨by omega,by omega⟩)
 by_cases hp:0≤x.p
 ·have:=b.1 hp;omega
 ·have:=b.2 (by omega);omega
theorem cut_ok {x:Lay} {q:Int} (h:layOk x=true) (h0:1≤q) (h1:q<x.q):layOk (minusL x (cutL x q))=true∧layOk (cutL x q)=true:=by
 obtain⟨k1,k2,k3,k4,k5,k6⟩:=layOk_iff.1 h
 have b:=cut_bd h (q:=q) (by omega) (by omega)
 have:=b.v0;have:=b.v1;have:=b.p0;have:=b.p1;have:=b.d0;have:=b.d1
 simp only[layOk_iff,minusL,cutL]
 omega
theorem outL_LR (l:List Lay):∀(a:Lay) (q:Int),LR l→LR (outL l a q).1∧qs (outL l a q).1≤qs l∧vs (outL l a q).1≤vs l∧aps (outL l a q).1≤aps l:=by
 induction l with
 |nil=>intro a q h;exact⟨h,Int.le_refl _,Int.le_refl _,Int.le_refl _⟩
 |cons x r ih =>
  intro a q h
  simp only[outL]
  have hx:=h.ok x (by simp)
  have hk:=layOk_iff.1 hx
  split
  ·exact⟨h,Int.le_refl _,Int.le_refl _,Int.le_refl _⟩
  ·split
   ·have c:=cut_ok hx (q:=q) (by omega) (by omega)
    have cp:=cut_p hx (q:=q) (by omega) (by omega)
    have cb:=cut_bd hx (q:=q) (by omega) (by omega)
    have e1:qs (minusL x (cutL x q)::r)=qs (x::r)-q:=by rw[qs_cons,qs_cons];simp only[minusL,cutL];omega
    have e2:vs (minusL x (cutL x q)::r)=vs (x::r)-partS x.v q x.q:=by rw[vs_cons,vs_cons];simp only[minusL,cutL];omega
    have e3:aps (minusL x (cutL x q)::r)≤aps (x::r):=by rw[aps_cons,aps_cons];simp only[minusL,cutL];omega
    have:=cb.v0
    have hq:=h.q;have hv:=h.v;have hp:=h.p
    dsimp only
    exact⟨⟨h.len,fun y hy=>by rcases List.mem_cons.1 hy with rfl|hy;exact c.1;exact h.ok y (by simp[hy]),by omega,by omega,by omega⟩,by omega,by omega,e3⟩
   ·obtain⟨i1,i2,i3,i4⟩:=ih (plusL a x) (q-x.q) h.tail
    rw[qs_cons,vs_cons,aps_cons]
    exact⟨i1,by omega,by omega,by omega⟩
theorem outL_sum (l:List Lay):∀(a:Lay) (q:Int),LR l→0≤q→q≤qs l →
  (outL l a q).2.q=a.q+q∧qs (outL l a q).1=qs l-q∧(outL l a q).2.v+vs (outL l a q).1=a.v+vs l∧(outL l a q).2.p+ps (outL l a q).1=a.p+ps l:=by
 induction l with
 |nil=>intro a q h h0 h1;simp[qs]at h1;simp only[outL,qs,vs,ps];simp;omega
 |cons x r ih =>
  intro a q h h0 h1
  simp only[outL]
  have hx:=h.ok x (by simp)
  have hk:=layOk_iff.1 hx
  split
  ·dsimp only;exact⟨by omega,by omega,rfl,rfl⟩
  ·split
   ·dsimp only
    rw[qs_cons,vs_cons,ps_cons,qs_cons,vs_cons,ps_cons]
    dsimp only[plusL,minusL,cutL]
    exact⟨by omega,by omega,by omega,by omega⟩
   ·rw[qs_cons]at h1
    obtain⟨i1,i2,i3,i4⟩:=ih (plusL a x) (q-x.q) h.tail (by omega) (by omega)
    rw[qs_cons,vs_cons,ps_cons,i1,i2,i3,i4]
    simp only[plusL]
    exact⟨by omega,by omega,by omega,by omega⟩
theorem outS_ok {l:List Lay} {q:Int} (h:LR l) (h0:1≤q) (h1:q≤qs l):outS l q=((outL l .zero q).1,(outL l .zero q).2,0):=by
 rw[outS,if_neg (by omega),if_neg (by rw[h.tot.1];simp only;omega)]
theorem outS_short {l:List Lay} {q:Int} (h:LR l) (h0:1≤q) (h1:qs l<q):outS l q=(l,.zero,5):=by
 rw[outS,if_neg (by omega),if_pos (by rw[h.tot.1];simp only;omega)]
theorem outS_LR {l:List Lay} {q:Int} (h:LR l):LR (outS l q).1:=by
 unfold outS
 split
 ·exact h
 ·split
  ·exact h
  ·exact(outL_LR l _ _ h).1
def inS (l:List Lay) (x:Lay):List Lay×Int :=
 if x.q<1∨x.v<0 then(l,1)else if 30≤l.length then(l,6)else if rightL (l++[x])then(l++[x],0)else(l,2)
theorem inS_LR {l:List Lay} {x:Lay} (h:LR l):LR (inS l x).1:=by
 unfold inS
 split
 ·exact h
 ·split
  ·exact h
  ·split
   ·exact LR.of (by assumption)
   ·exact h
theorem qs_append (l m:List Lay):qs (l++m)=qs l+qs m:=by simp[qs]
theorem vs_append (l m:List Lay):vs (l++m)=vs l+vs m:=by simp[vs]
theorem aps_append (l m:List Lay):aps (l++m)=aps l+aps m:=by simp[aps,absum]
theorem LR.snoc {l:List Lay} {x:Lay} (h:LR l) (hx:layOk x=true) (hl:l.length<30) (hq:qs l+x.q≤288230376151711744) (hv:vs l+x.v≤288230376151711744) (hp:aps l+max x.p (-x.p)≤288230376151711744):LR (l++[x]):=by
 refine⟨by simp;omega,fun y hy=>?_,?_,?_,?_⟩
 ·rcases List.mem_append.1 hy with hy|hy
  ·exact h.ok y hy
  ·rw[List.mem_singleton.1 hy];exact hx
 ·rw[qs_append];simpa[qs]using hq
 ·rw[vs_append];simpa[vs]using hv
 ·rw[aps_append];simpa[aps,absum]using hp
theorem flat_ok {l:List Lay} (h:∀x,x∈l→layOk x=true):AllI (flat l):=by
 intro z hz
 obtain⟨x,hx,hz⟩:=List.mem_flatMap.1 hz
 have:=layOk_iff.1 (h x hx)
 simp at hz
 exact⟨by rcases hz with rfl|rfl|rfl<;>omega,by rcases hz with rfl|rfl|rfl<;>omega⟩
end Go.Proofs.Ytjccjmmbebiegaa
