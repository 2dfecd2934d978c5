/-
  Three appends in one statement, as a region that draws its order: proved once.
-/
import Derived.Test.YtgahhifedgmicaaApp3
import Derived.Test.YtgahhifedgmicaaClone
set_option linter.unusedVariables false
namespace Go.Proofs.Ytgahhifedgmicaa
open Go.RowKit

/-- 's1, s2, s3 = append(s1, x.f0), append(s2, x.f1), append(s3, x.f2)'. -/
def app3Ops (T S I f0 f1 f2 xs s1 s2 s3 t : Nat) (pos : String) : List Oper :=
  [{ dst := some t, op := Op.move (Operand.tmp s1), type := S, pos := pos, after := #[], guard := none },
    { dst := some (t + 1), op := Op.fieldAddr T (Operand.tmp xs) f0, type := 0, pos := pos, after := #[], guard := none },
    { dst := some (t + 2), op := Op.load I (Operand.tmp (t + 1)), type := I, pos := pos, after := #[{ on := 1, ground := Ground.data }], guard := none },
    { dst := some (t + 3), op := Op.buildSlice S 1 #[(0, Operand.tmp (t + 2))], type := S, pos := pos, after := #[{ on := 2, ground := Ground.data }], guard := none },
    { dst := some (t + 4), op := Op.call { callee := Callee.builtin Builtin.append, args := #[Operand.tmp t, Operand.tmp (t + 3)], argTypes := #[S, S] }, type := S, pos := pos, after := #[{ on := 0, ground := Ground.data }, { on := 3, ground := Ground.data }], guard := none },
    { dst := some (t + 5), op := Op.move (Operand.tmp s2), type := S, pos := pos, after := #[], guard := none },
    { dst := some (t + 6), op := Op.fieldAddr T (Operand.tmp xs) f1, type := 0, pos := pos, after := #[], guard := none },
    { dst := some (t + 7), op := Op.load I (Operand.tmp (t + 6)), type := I, pos := pos, after := #[{ on := 6, ground := Ground.data }], guard := none },
    { dst := some (t + 8), op := Op.buildSlice S 1 #[(0, Operand.tmp (t + 7))], type := S, pos := pos, after := #[{ on := 7, ground := Ground.data }], guard := none },
    { dst := some (t + 9), op := Op.call { callee := Callee.builtin Builtin.append, args := #[Operand.tmp (t + 5), Operand.tmp (t + 8)], argTypes := #[S, S] }, type := S, pos := pos, after := #[{ on := 5, ground := Ground.data }, { on := 8, ground := Ground.data }, { on := 4, ground := Ground.chain }], guard := none },
    { dst := some (t + 10), op := Op.move (Operand.tmp s3), type := S, pos := pos, after := #[], guard := none },
    { dst := some (t + 11), op := Op.fieldAddr T (Operand.tmp xs) f2, type := 0, pos := pos, after := #[], guard := none },
    { dst := some (t + 12), op := Op.load I (Operand.tmp (t + 11)), type := I, pos := pos, after := #[{ on := 11, ground := Ground.data }], guard := none },
    { dst := some (t + 13), op := Op.buildSlice S 1 #[(0, Operand.tmp (t + 12))], type := S, pos := pos, after := #[{ on := 12, ground := Ground.data }], guard := none },
    { dst := some (t + 14), op := Op.call { callee := Callee.builtin Builtin.append, args := #[Operand.tmp (t + 10), Operand.tmp (t + 13)], argTypes := #[S, S] }, type := S, pos := pos, after := #[{ on := 10, ground := Ground.data }, { on := 13, ground := Ground.data }, { on := 9, ground := Ground.chain }], guard := none },
    { dst := some s1, op := Op.assign (Operand.tmp (t + 4)), type := S, pos := pos, after := #[{ on := 4, ground := Ground.data }, { on := 14, ground := Ground.chain }, { on := 0, ground := Ground.phase }, { on := 1, ground := Ground.phase }, { on := 2, ground := Ground.phase }, { on := 3, ground := Ground.phase }, { on := 4, ground := Ground.phase }, { on := 5, ground := Ground.textOnly Departure.lateStores }, { on := 6, ground := Ground.textOnly Departure.lateStores }, { on := 7, ground := Ground.textOnly Departure.lateStores }, { on := 8, ground := Ground.textOnly Departure.lateStores }, { on := 9, ground := Ground.textOnly Departure.lateStoresUnsure }, { on := 10, ground := Ground.textOnly Departure.lateStores }, { on := 11, ground := Ground.textOnly Departure.lateStores }, { on := 12, ground := Ground.textOnly Departure.lateStores }, { on := 13, ground := Ground.textOnly Departure.lateStores }, { on := 14, ground := Ground.textOnly Departure.lateStoresUnsure }], guard := none },
    { dst := some s2, op := Op.assign (Operand.tmp (t + 9)), type := S, pos := pos, after := #[{ on := 9, ground := Ground.data }, { on := 15, ground := Ground.chain }, { on := 0, ground := Ground.phase }, { on := 1, ground := Ground.phase }, { on := 2, ground := Ground.phase }, { on := 3, ground := Ground.phase }, { on := 4, ground := Ground.phase }, { on := 5, ground := Ground.phase }, { on := 6, ground := Ground.phase }, { on := 7, ground := Ground.phase }, { on := 8, ground := Ground.phase }, { on := 9, ground := Ground.phase }, { on := 10, ground := Ground.textOnly Departure.lateStores }, { on := 11, ground := Ground.textOnly Departure.lateStores }, { on := 12, ground := Ground.textOnly Departure.lateStores }, { on := 13, ground := Ground.textOnly Departure.lateStores }, { on := 14, ground := Ground.textOnly Departure.lateStoresUnsure }, { on := 15, ground := Ground.phase }], guard := none },
    { dst := some s3, op := Op.assign (Operand.tmp (t + 14)), type := S, pos := pos, after := #[{ on := 14, ground := Ground.data }, { on := 16, ground := Ground.chain }, { on := 0, ground := Ground.phase }, { on := 1, ground := Ground.phase }, { on := 2, ground := Ground.phase }, { on := 3, ground := Ground.phase }, { on := 4, ground := Ground.phase }, { on := 5, ground := Ground.phase }, { on := 6, ground := Ground.phase }, { on := 7, ground := Ground.phase }, { on := 8, ground := Ground.phase }, { on := 9, ground := Ground.phase }, { on := 10, ground := Ground.phase }, { on := 11, ground := Ground.phase }, { on := 12, ground := Ground.phase }, { on := 13, ground := Ground.phase }, { on := 14, ground := Ground.phase }, { on := 15, ground := Ground.phase }, { on := 16, ground := Ground.phase }], guard := none }]
def app3Slots (s1 s2 s3 t : Nat) : List (Option Tmp) := [some t, some (t + 1), some (t + 2), some (t + 3), some (t + 4), some (t + 5), some (t + 6), some (t + 7), some (t + 8), some (t + 9), some (t + 10), some (t + 11), some (t + 12), some (t + 13), some (t + 14), some s1, some s2, some s3]

theorem anc_mem {ops : Array Oper} {D i k : Nat} (h : (ancOf ops D i).contains k = true) : k ∈ ancOf ops D i := by simpa using h

set_option maxHeartbeats 2000000 in
theorem region_app3 {Q : Exit → Act → World → Prop} {id : Nat} {A : Act} {w : World} (T f0 f1 f2 o0 o1 o2 xs s1 s2 s3 t : Nat) (pos : String)
    (B H0 X j B0 : Nat) (a b c : Value) (As Bs Cs : List Int) (x y z : Int) (W1 : World)
    (h1 : t + 15 ≤ A.tmps.size) (h2 : s1 < t) (h3 : s2 < t) (h4 : s3 < t) (hd : slotsApart (app3Slots s1 s2 s3 t) = true) (hxs : (app3Slots s1 s2 s3 t).contains (some xs) = false)
    (hx : A.eval (.tmp xs) = .pointer (some ⟨X, 0, none⟩)) (ha0 : A.tmps.getD s1 undef = a) (hb0 : A.tmps.getD s2 undef = b) (hc0 : A.tmps.getD s3 undef = c)
    (hF0 : ∀ ρ w, ρ (.tmp xs) = .pointer (some ⟨X, 0, none⟩) → (execOp ρ { dst := some (t + 1), op := Op.fieldAddr T (Operand.tmp xs) f0, type := 0, pos := pos, after := #[], guard := none }).run Try.prog w = .ok (.value (.pointer (some ⟨X, o0, none⟩))) w)
    (hF1 : ∀ ρ w, ρ (.tmp xs) = .pointer (some ⟨X, 0, none⟩) → (execOp ρ { dst := some (t + 6), op := Op.fieldAddr T (Operand.tmp xs) f1, type := 0, pos := pos, after := #[], guard := none }).run Try.prog w = .ok (.value (.pointer (some ⟨X, o1, none⟩))) w)
    (hF2 : ∀ ρ w, ρ (.tmp xs) = .pointer (some ⟨X, 0, none⟩) → (execOp ρ { dst := some (t + 11), op := Op.fieldAddr T (Operand.tmp xs) f2, type := 0, pos := pos, after := #[], guard := none }).run Try.prog w = .ok (.value (.pointer (some ⟨X, o2, none⟩))) w)
    (hR : App3R B H0 X a b c) (hB0 : B0 ≤ H0) (hBB : B0 ≤ B) (hBX : B ≤ X) (hj : (j + 1) * 8 ≤ 140737488355328)
    (hs : App3S B 3 H0 X o0 o1 o2 j a b c As Bs Cs x y z B0 W1 (fun _ => false) w.drew)
    (fin : ∀ u w' L, App3S B 3 H0 X o0 o1 o2 j a b c As Bs Cs x y z B0 W1 L w' → (∀ i, i < 18 → App3Φ B 3 H0 X o0 o1 o2 j a b c As Bs Cs x y z i u w') → Q .normal (puts A (app3Slots s1 s2 s3 t) 0 u) w') :
    (Code.region id (app3Ops T 35 3 f0 f1 f2 xs s1 s2 s3 t pos).toArray true).wp Try.prog Q A w := by
  refine wp_region_all 3 (app3Slots s1 s2 s3 t) (App3Φ B 3 H0 X o0 o1 o2 j a b c As Bs Cs x y z) (App3S B 3 H0 X o0 o1 o2 j a b c As Bs Cs x y z B0 W1)
    (by kernel_rfl) rfl rfl hd hs (App3.dep (anc_mem rfl) (anc_mem rfl) (anc_mem rfl) (anc_mem rfl) (anc_mem rfl) (anc_mem rfl)) ?_ (fun u w L h1 _ h2 => fin u w L h1 h2)
  refine ⟨?d0, ?d1, ?d2, ?d3, ?d4, ?d5, ?d6, ?d7, ?d8, ?d9, ?d10, ?d11, ?d12, ?d13, ?d14, ?d15, ?d16, ?d17, trivial⟩
  case d0 =>
      change DutyO _ _ _ _ _ _ _ _ 0 _
      intro u ww L hS hL _ hpre hpost K hK
      have hk := hK (a) (ww) (by simp [App3Φ, upd]) (hS.idle (grown_refl _ _) hR.x hB0) (fun j x _ h => h)
      unfold Oper.wp
      rw [(?h : Sem.run Try.prog (execOp _ _) ww = .ok (.value (a)) (ww))]
      · exact hk
      case h =>
        have r15 : (puts A (app3Slots s1 s2 s3 t) 0 u).eval (.tmp s1) = a := (puts_eval_in _ A 0 u 15 s1 hd rfl (by omega)).trans ((hpost 15 (by simp [app3Ops]) (anc_mem rfl)).trans ha0)
        clear hK hpost hS
        generalize (puts _ _ _ u).eval = ρ at *
        simp [execOp, r15]
  case d1 =>
      change DutyO _ _ _ _ _ _ _ _ 1 _
      intro u ww L hS hL _ hpre hpost K hK
      have hk := hK (.pointer (some ⟨X, o0, none⟩)) (ww) (by simp [App3Φ, upd]) (hS.idle (grown_refl _ _) hR.x hB0) (fun j x _ h => h)
      unfold Oper.wp
      rw [(?h : Sem.run Try.prog (execOp _ _) ww = .ok (.value (.pointer (some ⟨X, o0, none⟩))) (ww))]
      · exact hk
      case h =>
        have rx : (puts A (app3Slots s1 s2 s3 t) 0 u).eval (.tmp xs) = .pointer (some ⟨X, 0, none⟩) := (puts_eval_out _ A 0 u xs hxs).trans hx
        exact hF0 _ _ rx
  case d2 =>
      change DutyO _ _ _ _ _ _ _ _ 2 _
      intro u ww L hS hL _ hpre hpost K hK
      have hk := hK (.int .i64 x) (ww) (by simp [App3Φ, upd]) (hS.idle (grown_refl _ _) hR.x hB0) (fun j x _ h => h)
      unfold Oper.wp
      rw [(?h : Sem.run Try.prog (execOp _ _) ww = .ok (.value (.int .i64 x)) (ww))]
      · exact hk
      case h =>
        have r1 : (puts A (app3Slots s1 s2 s3 t) 0 u).eval (.tmp (t + 1)) = .pointer (some ⟨X, o0, none⟩) := (puts_eval_in _ A 0 u 1 (t + 1) hd rfl (by omega)).trans (hpre 1 (anc_mem rfl))
        have c1 := hS.cx
        clear hK hpost hS
        generalize (puts _ _ _ u).eval = ρ at *
        simp [execOp, go_sem, r1, c1]
  case d3 =>
      change DutyO _ _ _ _ _ _ _ _ 3 _
      intro u ww L hS hL _ hpre hpost K hK
      have hk := hK (.slice (some ⟨ww.heap.size, 0, none⟩) 1 1) (ww.alloc (.cells #[.int .i64 x] 3)) (by
          simp only [App3Φ, upd, if_true]
          exact ⟨_, rfl, hS.h0, by simp, CellsAt.new ww [x] _⟩) (hS.idle (grown_alloc _ _ _) hR.x hB0) (App3.stab (grown_alloc _ _ _) (touch_idle _ _ _ _ _))
      unfold Oper.wp
      rw [(?h : Sem.run Try.prog (execOp _ _) ww = .ok (.value (.slice (some ⟨ww.heap.size, 0, none⟩) 1 1)) (ww.alloc (.cells #[.int .i64 x] 3)))]
      · exact hk
      case h =>
        have r2 : (puts A (app3Slots s1 s2 s3 t) 0 u).eval (.tmp (t + 2)) = .int .i64 x := (puts_eval_in _ A 0 u 2 (t + 2) hd rfl (by omega)).trans (hpre 2 (anc_mem rfl))
        clear hK hpost hS
        generalize (puts _ _ _ u).eval = ρ at *
        simp [execOp, go_sem, r2]
  case d4 =>
      change DutyO _ _ _ _ _ _ _ _ 4 _
      intro u ww L hS hL _ hpre hpost K hK
      have hl := hpre 3 (anc_mem rfl)
      have r0 : (puts A (app3Slots s1 s2 s3 t) 0 u).eval (.tmp t) = a := (puts_eval_in _ A 0 u 0 t hd rfl (by omega)).trans (hpre 0 (anc_mem rfl))
      have r3 : (puts A (app3Slots s1 s2 s3 t) 0 u).eval (.tmp (t + 3)) = u 3 := (puts_eval_in _ A 0 u 3 (t + 3) hd rfl (by omega)).trans (rfl)
      refine wp_push ww _ _ 35 rfl B 3 H0 elem_Int a j _ r0 (hS.a hL) (u 3) x r3 hl (by omega) (by have := hS.h0; have := hR.x; omega) hS.h0 ?_
      intro v' w' hG hg hg'
      refine hK v' w' ?_ (hS.kept hg hR.t4 (fun k hk => by have := hR.ra k hk; omega) hR.x hB0) (App3.stab hg hR.t4)
      simp only [App3Φ, upd, if_true, Nat.reduceEqDiff, if_false]
      exact hG
  case d5 =>
      change DutyO _ _ _ _ _ _ _ _ 5 _
      intro u ww L hS hL _ hpre hpost K hK
      have hk := hK (b) (ww) (by simp [App3Φ, upd]) (hS.idle (grown_refl _ _) hR.x hB0) (fun j x _ h => h)
      unfold Oper.wp
      rw [(?h : Sem.run Try.prog (execOp _ _) ww = .ok (.value (b)) (ww))]
      · exact hk
      case h =>
        have r16 : (puts A (app3Slots s1 s2 s3 t) 0 u).eval (.tmp s2) = b := (puts_eval_in _ A 0 u 16 s2 hd rfl (by omega)).trans ((hpost 16 (by simp [app3Ops]) (anc_mem rfl)).trans hb0)
        clear hK hpost hS
        generalize (puts _ _ _ u).eval = ρ at *
        simp [execOp, r16]
  case d6 =>
      change DutyO _ _ _ _ _ _ _ _ 6 _
      intro u ww L hS hL _ hpre hpost K hK
      have hk := hK (.pointer (some ⟨X, o1, none⟩)) (ww) (by simp [App3Φ, upd]) (hS.idle (grown_refl _ _) hR.x hB0) (fun j x _ h => h)
      unfold Oper.wp
      rw [(?h : Sem.run Try.prog (execOp _ _) ww = .ok (.value (.pointer (some ⟨X, o1, none⟩))) (ww))]
      · exact hk
      case h =>
        have rx : (puts A (app3Slots s1 s2 s3 t) 0 u).eval (.tmp xs) = .pointer (some ⟨X, 0, none⟩) := (puts_eval_out _ A 0 u xs hxs).trans hx
        exact hF1 _ _ rx
  case d7 =>
      change DutyO _ _ _ _ _ _ _ _ 7 _
      intro u ww L hS hL _ hpre hpost K hK
      have hk := hK (.int .i64 y) (ww) (by simp [App3Φ, upd]) (hS.idle (grown_refl _ _) hR.x hB0) (fun j x _ h => h)
      unfold Oper.wp
      rw [(?h : Sem.run Try.prog (execOp _ _) ww = .ok (.value (.int .i64 y)) (ww))]
      · exact hk
      case h =>
        have r6 : (puts A (app3Slots s1 s2 s3 t) 0 u).eval (.tmp (t + 6)) = .pointer (some ⟨X, o1, none⟩) := (puts_eval_in _ A 0 u 6 (t + 6) hd rfl (by omega)).trans (hpre 6 (anc_mem rfl))
        have c1 := hS.cy
        clear hK hpost hS
        generalize (puts _ _ _ u).eval = ρ at *
        simp [execOp, go_sem, r6, c1]
  case d8 =>
      change DutyO _ _ _ _ _ _ _ _ 8 _
      intro u ww L hS hL _ hpre hpost K hK
      have hk := hK (.slice (some ⟨ww.heap.size, 0, none⟩) 1 1) (ww.alloc (.cells #[.int .i64 y] 3)) (by
          simp only [App3Φ, upd, if_true]
          exact ⟨_, rfl, hS.h0, by simp, CellsAt.new ww [y] _⟩) (hS.idle (grown_alloc _ _ _) hR.x hB0) (App3.stab (grown_alloc _ _ _) (touch_idle _ _ _ _ _))
      unfold Oper.wp
      rw [(?h : Sem.run Try.prog (execOp _ _) ww = .ok (.value (.slice (some ⟨ww.heap.size, 0, none⟩) 1 1)) (ww.alloc (.cells #[.int .i64 y] 3)))]
      · exact hk
      case h =>
        have r7 : (puts A (app3Slots s1 s2 s3 t) 0 u).eval (.tmp (t + 7)) = .int .i64 y := (puts_eval_in _ A 0 u 7 (t + 7) hd rfl (by omega)).trans (hpre 7 (anc_mem rfl))
        clear hK hpost hS
        generalize (puts _ _ _ u).eval = ρ at *
        simp [execOp, go_sem, r7]
  case d9 =>
      change DutyO _ _ _ _ _ _ _ _ 9 _
      intro u ww L hS hL _ hpre hpost K hK
      have hl := hpre 8 (anc_mem rfl)
      have r5 : (puts A (app3Slots s1 s2 s3 t) 0 u).eval (.tmp (t + 5)) = b := (puts_eval_in _ A 0 u 5 (t + 5) hd rfl (by omega)).trans (hpre 5 (anc_mem rfl))
      have r8 : (puts A (app3Slots s1 s2 s3 t) 0 u).eval (.tmp (t + 8)) = u 8 := (puts_eval_in _ A 0 u 8 (t + 8) hd rfl (by omega)).trans (rfl)
      refine wp_push ww _ _ 35 rfl B 3 H0 elem_Int b j _ r5 (hS.b hL) (u 8) y r8 hl (by omega) (by have := hS.h0; have := hR.x; omega) hS.h0 ?_
      intro v' w' hG hg hg'
      refine hK v' w' ?_ (hS.kept hg hR.t9 (fun k hk => by have := hR.rb k hk; omega) hR.x hB0) (App3.stab hg hR.t9)
      simp only [App3Φ, upd, if_true, Nat.reduceEqDiff, if_false]
      refine ⟨hG, ?_⟩
      have g4 := hpre 4 (anc_mem rfl)
      exact grew_apart (w1 := ww) (m := 0) (ys := []) g4 hg' hR.ab (fun k hk => by have := hR.rb k hk; have := hR.x; omega)
  case d10 =>
      change DutyO _ _ _ _ _ _ _ _ 10 _
      intro u ww L hS hL _ hpre hpost K hK
      have hk := hK (c) (ww) (by simp [App3Φ, upd]) (hS.idle (grown_refl _ _) hR.x hB0) (fun j x _ h => h)
      unfold Oper.wp
      rw [(?h : Sem.run Try.prog (execOp _ _) ww = .ok (.value (c)) (ww))]
      · exact hk
      case h =>
        have r17 : (puts A (app3Slots s1 s2 s3 t) 0 u).eval (.tmp s3) = c := (puts_eval_in _ A 0 u 17 s3 hd rfl (by omega)).trans ((hpost 17 (by simp [app3Ops]) (anc_mem rfl)).trans hc0)
        clear hK hpost hS
        generalize (puts _ _ _ u).eval = ρ at *
        simp [execOp, r17]
  case d11 =>
      change DutyO _ _ _ _ _ _ _ _ 11 _
      intro u ww L hS hL _ hpre hpost K hK
      have hk := hK (.pointer (some ⟨X, o2, none⟩)) (ww) (by simp [App3Φ, upd]) (hS.idle (grown_refl _ _) hR.x hB0) (fun j x _ h => h)
      unfold Oper.wp
      rw [(?h : Sem.run Try.prog (execOp _ _) ww = .ok (.value (.pointer (some ⟨X, o2, none⟩))) (ww))]
      · exact hk
      case h =>
        have rx : (puts A (app3Slots s1 s2 s3 t) 0 u).eval (.tmp xs) = .pointer (some ⟨X, 0, none⟩) := (puts_eval_out _ A 0 u xs hxs).trans hx
        exact hF2 _ _ rx
  case d12 =>
      change DutyO _ _ _ _ _ _ _ _ 12 _
      intro u ww L hS hL _ hpre hpost K hK
      have hk := hK (.int .i64 z) (ww) (by simp [App3Φ, upd]) (hS.idle (grown_refl _ _) hR.x hB0) (fun j x _ h => h)
      unfold Oper.wp
      rw [(?h : Sem.run Try.prog (execOp _ _) ww = .ok (.value (.int .i64 z)) (ww))]
      · exact hk
      case h =>
        have r11 : (puts A (app3Slots s1 s2 s3 t) 0 u).eval (.tmp (t + 11)) = .pointer (some ⟨X, o2, none⟩) := (puts_eval_in _ A 0 u 11 (t + 11) hd rfl (by omega)).trans (hpre 11 (anc_mem rfl))
        have c1 := hS.cz
        clear hK hpost hS
        generalize (puts _ _ _ u).eval = ρ at *
        simp [execOp, go_sem, r11, c1]
  case d13 =>
      change DutyO _ _ _ _ _ _ _ _ 13 _
      intro u ww L hS hL _ hpre hpost K hK
      have hk := hK (.slice (some ⟨ww.heap.size, 0, none⟩) 1 1) (ww.alloc (.cells #[.int .i64 z] 3)) (by
          simp only [App3Φ, upd, if_true]
          exact ⟨_, rfl, hS.h0, by simp, CellsAt.new ww [z] _⟩) (hS.idle (grown_alloc _ _ _) hR.x hB0) (App3.stab (grown_alloc _ _ _) (touch_idle _ _ _ _ _))
      unfold Oper.wp
      rw [(?h : Sem.run Try.prog (execOp _ _) ww = .ok (.value (.slice (some ⟨ww.heap.size, 0, none⟩) 1 1)) (ww.alloc (.cells #[.int .i64 z] 3)))]
      · exact hk
      case h =>
        have r12 : (puts A (app3Slots s1 s2 s3 t) 0 u).eval (.tmp (t + 12)) = .int .i64 z := (puts_eval_in _ A 0 u 12 (t + 12) hd rfl (by omega)).trans (hpre 12 (anc_mem rfl))
        clear hK hpost hS
        generalize (puts _ _ _ u).eval = ρ at *
        simp [execOp, go_sem, r12]
  case d14 =>
      change DutyO _ _ _ _ _ _ _ _ 14 _
      intro u ww L hS hL _ hpre hpost K hK
      have hl := hpre 13 (anc_mem rfl)
      have r10 : (puts A (app3Slots s1 s2 s3 t) 0 u).eval (.tmp (t + 10)) = c := (puts_eval_in _ A 0 u 10 (t + 10) hd rfl (by omega)).trans (hpre 10 (anc_mem rfl))
      have r13 : (puts A (app3Slots s1 s2 s3 t) 0 u).eval (.tmp (t + 13)) = u 13 := (puts_eval_in _ A 0 u 13 (t + 13) hd rfl (by omega)).trans (rfl)
      refine wp_push ww _ _ 35 rfl B 3 H0 elem_Int c j _ r10 (hS.c hL) (u 13) z r13 hl (by omega) (by have := hS.h0; have := hR.x; omega) hS.h0 ?_
      intro v' w' hG hg hg'
      refine hK v' w' ?_ (hS.kept hg hR.t14 (fun k hk => by have := hR.rc k hk; omega) hR.x hB0) (App3.stab hg hR.t14)
      simp only [App3Φ, upd, if_true, Nat.reduceEqDiff, if_false]
      refine ⟨hG, ?_, ?_⟩
      · have g4 := hpre 4 (anc_mem rfl)
        exact grew_apart (w1 := ww) (m := 0) (ys := []) g4 hg' hR.ac (fun k hk => by have := hR.rc k hk; have := hR.x; omega)
      · have g9 := hpre 9 (anc_mem rfl)
        exact grew_apart (w1 := ww) (m := 0) (ys := []) g9.1 hg' hR.bc (fun k hk => by have := hR.rc k hk; have := hR.x; omega)
  case d15 =>
      change DutyO _ _ _ _ _ _ _ _ 15 _
      intro u ww L hS hL _ hpre hpost K hK
      have hk := hK (u 4) (ww) (by simp [App3Φ, upd]) (hS.idle (grown_refl _ _) hR.x hB0) (fun j x _ h => h)
      unfold Oper.wp
      rw [(?h : Sem.run Try.prog (execOp _ _) ww = .ok (.value (u 4)) (ww))]
      · exact hk
      case h =>
        have r4 : (puts A (app3Slots s1 s2 s3 t) 0 u).eval (.tmp (t + 4)) = u 4 := (puts_eval_in _ A 0 u 4 (t + 4) hd rfl (by omega)).trans (rfl)
        clear hK hpost hS
        generalize (puts _ _ _ u).eval = ρ at *
        simp [execOp, r4]
  case d16 =>
      change DutyO _ _ _ _ _ _ _ _ 16 _
      intro u ww L hS hL _ hpre hpost K hK
      have hk := hK (u 9) (ww) (by simp [App3Φ, upd]) (hS.idle (grown_refl _ _) hR.x hB0) (fun j x _ h => h)
      unfold Oper.wp
      rw [(?h : Sem.run Try.prog (execOp _ _) ww = .ok (.value (u 9)) (ww))]
      · exact hk
      case h =>
        have r9 : (puts A (app3Slots s1 s2 s3 t) 0 u).eval (.tmp (t + 9)) = u 9 := (puts_eval_in _ A 0 u 9 (t + 9) hd rfl (by omega)).trans (rfl)
        clear hK hpost hS
        generalize (puts _ _ _ u).eval = ρ at *
        simp [execOp, r9]
  case d17 =>
      change DutyO _ _ _ _ _ _ _ _ 17 _
      intro u ww L hS hL _ hpre hpost K hK
      have hk := hK (u 14) (ww) (by simp [App3Φ, upd]) (hS.idle (grown_refl _ _) hR.x hB0) (fun j x _ h => h)
      unfold Oper.wp
      rw [(?h : Sem.run Try.prog (execOp _ _) ww = .ok (.value (u 14)) (ww))]
      · exact hk
      case h =>
        have r14 : (puts A (app3Slots s1 s2 s3 t) 0 u).eval (.tmp (t + 14)) = u 14 := (puts_eval_in _ A 0 u 14 (t + 14) hd rfl (by omega)).trans (rfl)
        clear hK hpost hS
        generalize (puts _ _ _ u).eval = ρ at *
        simp [execOp, r14]
end Go.Proofs.Ytgahhifedgmicaa
