/-
  The same numbers? The walk.
-/
import Derived.Test.YtnkdbjmfpebcgaaMoney5
import Derived.Deep.QuietTactic
import Derived.BigQuiet
set_option linter.unusedVariables false
set_option linter.unusedSimpArgs false
namespace Go.Proofs.Ytnkdbjmfpebcgaa
open Go.RowKit

theorem take_eq_succ {xs ys : List Int} {j : Nat} (hx : j < xs.length) (hy : j < ys.length) (h : xs.take j = ys.take j) (he : xs.getD j 0 = ys.getD j 0) : xs.take (j + 1) = ys.take (j + 1) := by
  rw [take_snoc hx, take_snoc hy, h, he]
set_option maxHeartbeats 1000000 in
theorem same_ints (a b : Option Addr) (n c1 k c2 : Nat) (xs ys : List Int) (w : World) (h1 : Row w 1 a n c1 xs) (h2 : Row w 1 b k c2 ys) :
    Calls Try.prog 21 #[.slice a n c1, .slice b k c2] w fun e w' => e = .returned (.bool (decide (xs = ys))) ∧ Below w.heap.size w w' := by
  have hn1 : xs.length = n := by have := h1.len; omega
  have hn2 : ys.length = k := by have := h2.len; omega
  have hm1 := h1.max
  have hm2 := h2.max
  have hl1 := h1.le
  have hl2 := h2.le
  unfold maxLen at hm1 hm2
  obtain ⟨r, hr⟩ : ∃ r, decide (xs = ys) = r := ⟨_, rfl⟩
  rw [hr]
  have hrh := Lib.hid hr
  have hx := Lib.hid hn1
  have hy := Lib.hid hn2
  clear hr hn1 hn2
  go_enter Try.func21, Try.ntmps21
  by_cases hnk : n = k
  · subst hnk
    have hat1 := h1.at_
    have hat2 := h2.at_
    clear h1 h2
    go_wp2_with fail
    go_loopw [5] (fun i wr => ∃ j : Nat, j ≤ n ∧ i = .int .i64 (j : Int) ∧ Hid (xs.take j = ys.take j) ∧ Below w.heap.size w wr) (fun i _ => n - (intOf i).toNat)
    case atStart => exact ⟨0, by omega, rfl, rfl, Below.refl _ _⟩
    case round =>
      obtain ⟨j, hj, rfl, T, hbel⟩ := hrel
      by_cases hlt : j < n
      · obtain ⟨b1, o1, rfl, hb1, hc1⟩ : ∃ b off, a = some ⟨b, off, none⟩ ∧ b < w.heap.size ∧ CellsAt w b off xs := by
          rcases hat1 with h0 | h0
          · omega
          · exact h0
        obtain ⟨b2, o2, rfl, hb2, hc2⟩ : ∃ b' off, b = some ⟨b', off, none⟩ ∧ b' < w.heap.size ∧ CellsAt w b' off ys := by
          rcases hat2 with h0 | h0
          · omega
          · exact h0
        have x0 := (hbel.cell (p := ⟨b1, o1 + j, none⟩) hb1).trans (hc1 j (by rw [hx.out]; exact hlt))
        have y0 := (hbel.cell (p := ⟨b2, o2 + j, none⟩) hb2).trans (hc2 j (by rw [hy.out]; exact hlt))
        have hltI : (j : Int) < (n : Int) := by omega
        have hj0 : (0 : Int) ≤ (j : Int) := by omega
        have hstep := fun h => take_eq_succ (xs := xs) (ys := ys) (j := j) (by rw [hx.out]; exact hlt) (by rw [hy.out]; exact hlt) T.out h
        have hne : xs.getD j 0 ≠ ys.getD j 0 → r = false := fun h => by
          rw [← hrh.out]
          exact decide_eq_false fun e => h (by rw [e])
        obtain ⟨u, hu⟩ : ∃ u, xs.getD j 0 = u := ⟨_, rfl⟩
        obtain ⟨v, hv⟩ : ∃ v, ys.getD j 0 = v := ⟨_, rfl⟩
        rw [hu] at x0
        rw [hv] at y0
        rw [hu, hv] at hstep hne
        have hsh := Lib.hid hstep
        have hnh := Lib.hid hne
        clear hu hv hc1 hc2 hat1 hat2 hstep hne
        by_cases e : u = v
        · subst e
          go_wp2_with fail
          go_quiet (fail)
          go_wp2_with fail
          case' roundEnd =>
            refine ⟨⟨j + 1, by omega, by go_num, by first | exact hsh.out rfl | exact hsh.out trivial, by (repeat (first | assumption | exact Below.refl _ _ | refine ballc ?_ _ | refine bdrew ?_ | refine bdrewN ?_ _ | refine bset ?_ _ _ | refine bsetN ?_ (by omega) _ _ | refine bthen ?_ (by assumption)))⟩, ?_⟩
            simp [intOf]
            omega
        · have hf := hnh.out e
          subst hf
          have e2 : (u == v) = false := by simpa using e
          go_wp2_with fail
          go_quiet (fail)
          go_wp2_with fail
          go_ret
          exact ⟨rfl, by (repeat (first | assumption | exact Below.refl _ _ | refine ballc ?_ _ | refine bdrew ?_ | refine bdrewN ?_ _ | refine bset ?_ _ _ | refine bsetN ?_ (by omega) _ _ | refine bthen ?_ (by assumption)))⟩
      · have ej : j = n := by omega
        subst ej
        have hge : ¬ (j : Int) < (j : Int) := by omega
        have T := T.out
        rw [List.take_of_length_le (by rw [hx.out]; omega), List.take_of_length_le (by rw [hy.out]; omega)] at T
        have hr : r = true := by rw [← hrh.out]; exact decide_eq_true T
        subst hr
        clear T
        go_wp2_with fail
        go_ret
        exact ⟨rfl, hbel⟩
  · have hr : r = false := by
      rw [← hrh.out]
      exact decide_eq_false fun e => hnk (by rw [← hx.out, ← hy.out, e])
    subst hr
    have hnkI : ¬ (n : Int) = (k : Int) := by omega
    have hnkB : ((n : Int) == (k : Int)) = false := by rw [beq_eq_false_iff_ne]; exact hnkI
    go_wp2_with fail
    go_ret
    exact ⟨rfl, Below.refl _ _⟩

end Go.Proofs.Ytnkdbjmfpebcgaa
