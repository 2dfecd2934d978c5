/-
  The document's Same, of lines. Its walk.
-/
import Derived.Test.YtnkdbjmfpebcgaaVou8
set_option linter.unusedVariables false
set_option linter.unusedSimpArgs false
namespace Go.Proofs.Ytnkdbjmfpebcgaa
open Go.RowKit

theorem lin_ext {x y : Lin} (h1 : x.a = y.a) (h2 : x.n = y.n) : x = y := by cases x; cases y; simp only at h1 h2; rw [h1, h2]
instance : DecidableEq Lin := fun x y => if h : x.a = y.a ∧ x.n = y.n then .isTrue (lin_ext h.1 h.2) else .isFalse fun e => h (by subst e; exact ⟨rfl, rfl⟩)

set_option maxRecDepth 20000 in
set_option maxHeartbeats 2000000 in
theorem same_lines (a b : Option Addr) (c1 c2 : Nat) (xs ys : List Lin) (w : World) (h1 : Row w 2 a xs.length c1 (flat2 xs)) (h2 : Row w 2 b ys.length c2 (flat2 ys)) :
    Calls Try.prog 16 #[.slice a xs.length c1, .slice b ys.length c2] w fun e w' => e = .returned (.bool (decide (xs = ys))) ∧ Below w.heap.size w w' := by
  obtain ⟨n, hn1⟩ : ∃ n, xs.length = n := ⟨_, rfl⟩
  obtain ⟨k, hn2⟩ : ∃ k, ys.length = k := ⟨_, rfl⟩
  have hm1 := h1.max
  have hm2 := h2.max
  have hl1 := h1.le
  have hl2 := h2.le
  have hat1 := h1.at_
  have hat2 := h2.at_
  clear h1 h2
  rw [hn1] at hl1 hat1 ⊢
  rw [hn2] at hl2 hat2 ⊢
  unfold maxLen at hm1 hm2
  obtain ⟨r, hr⟩ : ∃ r, decide (xs = ys) = r := ⟨_, rfl⟩
  rw [hr]
  have hrh := Lib.hid hr
  have hx := Lib.hid hn1
  have hy := Lib.hid hn2
  clear hr hn1 hn2
  go_enter Try.func16, Try.ntmps16
  by_cases hnk : n = k
  · subst hnk
    go_wp2_with fail
    go_loopw [5] (fun i wr => ∃ j : Nat, j ≤ n ∧ i = .int .i64 (j : Int) ∧ Hid (xs.take j = ys.take j) ∧ Below w.heap.size w wr) (fun i _ => n - (intOf i).toNat)
    case atStart => exact ⟨0, by omega, rfl, rfl, Below.refl _ _⟩
    case round =>
      obtain ⟨j, hj, rfl, T, hbel⟩ := hrel
      by_cases hlt : j < n
      · obtain ⟨b1, o1, rfl, hb1, hc1⟩ : ∃ b off, a = some ⟨b, off, none⟩ ∧ b < w.heap.size ∧ CellsAt w b off (flat2 xs) := by
          rcases hat1 with h0 | h0
          · omega
          · exact h0
        obtain ⟨b2, o2, rfl, hb2, hc2⟩ : ∃ b' off, b = some ⟨b', off, none⟩ ∧ b' < w.heap.size ∧ CellsAt w b' off (flat2 ys) := by
          rcases hat2 with h0 | h0
          · omega
          · exact h0
        obtain ⟨x, hxj⟩ : ∃ x, xs[j]? = some x := ⟨xs[j]'(by rw [hx.out]; exact hlt), by simp [hx.out, hlt]⟩
        obtain ⟨y, hyj⟩ : ∃ y, ys[j]? = some y := ⟨ys[j]'(by rw [hy.out]; exact hlt), by simp [hy.out, hlt]⟩
        obtain ⟨x0, x1⟩ := (hc1.below hb1 hbel).line hxj
        obtain ⟨y0, y1⟩ := (hc2.below hb2 hbel).line hyj
        have hltI : (j : Int) < (n : Int) := by omega
        have hj0 : (0 : Int) ≤ (j : Int) := by omega
        have hstep : x.a = y.a → x.n = y.n → xs.take (j + 1) = ys.take (j + 1) := fun e1 e2 => by
          rw [List.take_add_one, List.take_add_one, hxj, hyj, T.out, lin_ext e1 e2]
        have hne : x ≠ y → r = false := fun h => by
          rw [← hrh.out]
          refine decide_eq_false fun e => h ?_
          rw [e, hyj] at hxj
          injection hxj with e; exact e.symm
        have hsh := Lib.hid hstep
        have hnh := Lib.hid hne
        clear hc1 hc2 hat1 hat2 hstep hne hxj hyj
        obtain ⟨xa, xn⟩ := x
        obtain ⟨ya, yn⟩ := y
        simp only at x0 x1 y0 y1
        have hsh2 : Hid (xa = ya → xn = yn → xs.take (j + 1) = ys.take (j + 1)) := hsh
        clear hsh
        by_cases e1 : xa = ya
        · subst e1
          by_cases e2 : xn = yn
          · subst e2
            go_wp2_with fail
            go_quiet (fail)
            go_wp2_with fail
            case' roundEnd =>
              refine ⟨⟨j + 1, by omega, by go_num, hsh2.out (by trivial) (by trivial), by (repeat (first | assumption | exact Below.refl _ _ | refine ballc ?_ _ | refine bdrew ?_ | refine bdrewN ?_ _ | refine bset ?_ _ _ | refine bsetN ?_ (by omega) _ _ | refine bthen ?_ (by assumption)))⟩, ?_⟩
              simp [intOf]
              omega
          · have hf := hnh.out (fun e => e2 (by injection e))
            subst hf
            have e3 : (xn == yn) = false := by simpa using e2
            clear hnh hsh2
            go_wp2_with fail
            go_quiet (fail)
            go_wp2_with fail
            go_ret
            exact ⟨rfl, by (repeat (first | assumption | exact Below.refl _ _ | refine ballc ?_ _ | refine bdrew ?_ | refine bdrewN ?_ _ | refine bset ?_ _ _ | refine bsetN ?_ (by omega) _ _ | refine bthen ?_ (by assumption)))⟩
        · have hf := hnh.out (fun e => e1 (by injection e))
          subst hf
          have e3 : (xa == ya) = false := by simpa using e1
          clear hnh hsh2
          go_wp2_with fail
          go_quiet (fail)
          go_wp2_with fail
          go_ret
          exact ⟨rfl, by (repeat (first | assumption | exact Below.refl _ _ | refine ballc ?_ _ | refine bdrew ?_ | refine bdrewN ?_ _ | refine bset ?_ _ _ | refine bsetN ?_ (by omega) _ _ | refine bthen ?_ (by assumption)))⟩
      · have ej : j = n := by omega
        subst ej
        have hr : r = true := by
          rw [← hrh.out]
          have := T.out
          rw [List.take_of_length_le (Nat.le_of_eq hx.out), List.take_of_length_le (Nat.le_of_eq hy.out)] at this
          exact decide_eq_true this
        subst hr
        have hge : ¬ ((j : Int) < (j : Int)) := by omega
        go_wp2_with fail
        go_ret
        exact ⟨rfl, hbel⟩
  · have hf : r = false := by
      rw [← hrh.out]
      exact decide_eq_false fun e => hnk (by rw [← hx.out, ← hy.out, e])
    subst hf
    have hnI : ¬ (n : Int) = (k : Int) := by omega
    have hnB : ((n : Int) == (k : Int)) = false := by rw [beq_eq_false_iff_ne]; exact hnI
    go_wp2_with fail
    go_ret
    exact ⟨rfl, by (repeat (first | assumption | exact Below.refl _ _ | refine ballc ?_ _ | refine bdrew ?_ | refine bdrewN ?_ _ | refine bset ?_ _ _ | refine bsetN ?_ (by omega) _ _ | refine bthen ?_ (by assumption)))⟩
end Go.Proofs.Ytnkdbjmfpebcgaa
