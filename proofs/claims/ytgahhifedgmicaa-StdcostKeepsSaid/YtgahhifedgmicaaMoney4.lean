/-
  Part and Sum, of the program and of the reference.
-/
import Derived.Test.YtgahhifedgmicaaMoney3
import Derived.Lib.Hide
namespace Go.Proofs.Ytgahhifedgmicaa
open Go.RowKit

theorem part_fits {v q n : Int} (hv : 0 ≤ v) (hv' : v ≤ 288230376151711744) (hq : 0 ≤ q) (hqn : q ≤ n) (hn : 1 ≤ n) :
    mdQ v q n = v * q / n ∧ 0 ≤ v * q / n ∧ v * q / n ≤ v := by
  have h0 := Int.mul_nonneg hv hq
  have h1 : v * q / n ≤ v := by
    apply Int.ediv_le_of_le_mul (by omega)
    exact Int.mul_le_mul_of_nonneg_left hqn hv
  have h2 := Int.ediv_nonneg h0 (show 0 ≤ n by omega)
  exact ⟨(md_ok (by omega) (by omega)).1, h2, h1⟩
theorem part_none {v q n : Int} (h : n < 1 ∨ q < 0 ∨ q > n ∨ inB v = false) : partS v q n = 0 := by simp only [partS, if_pos h]
theorem part_neg {v q n : Int} (h : ¬ (n < 1 ∨ q < 0 ∨ q > n ∨ inB v = false)) (hv : v < 0) : partS v q n = -(-v * q / n) := by simp only [partS, if_neg h, if_pos hv]
theorem part_pos {v q n : Int} (h : ¬ (n < 1 ∨ q < 0 ∨ q > n ∨ inB v = false)) (hv : ¬ v < 0) : partS v q n = v * q / n := by simp only [partS, if_neg h, if_neg hv]
theorem part_whole {v q n : Int} (h : ¬ (n < 1 ∨ q < 0 ∨ q > n ∨ inB v = false)) (hq : q = n) : partS v q n = v := by
  subst hq
  have hn : q ≠ 0 := by omega
  by_cases hv : v < 0
  · rw [part_neg h hv, Int.mul_ediv_cancel _ hn]; omega
  · rw [part_pos h hv, Int.mul_ediv_cancel _ hn]

set_option maxHeartbeats 800000 in
theorem money_Part (v q n : Int) (w : World) (hv : I64 v) (hq : I64 q) (hn : I64 n) :
    Calls Try.prog 38 #[.int .i64 v, .int .i64 q, .int .i64 n] w fun e w' => e = .returned (.int .i64 (partS v q n)) ∧ Below w.heap.size w w' := by
  by_cases h : n < 1 ∨ q < 0 ∨ q > n ∨ inB v = false
  · rw [part_none h]
    by_cases h1 : n < 1
    · clear h
      go_enter Try.func38, Try.ntmps38
      go_wp2_with (go_at_call 46; refine (money_in _ _).mono ?_; rintro e w' ⟨rfl, rfl⟩)
      go_ret
      exact ⟨rfl, Below.refl _ _⟩
    · by_cases h2 : q < 0
      · clear h
        go_enter Try.func38, Try.ntmps38
        go_wp2_with (go_at_call 46; refine (money_in _ _).mono ?_; rintro e w' ⟨rfl, rfl⟩)
        go_ret
        exact ⟨rfl, Below.refl _ _⟩
      · by_cases h3 : n < q
        · clear h
          go_enter Try.func38, Try.ntmps38
          go_wp2_with (go_at_call 46; refine (money_in _ _).mono ?_; rintro e w' ⟨rfl, rfl⟩)
          go_ret
          exact ⟨rfl, Below.refl _ _⟩
        · have h4 : inB v = false := by rcases h with h | h | h | h <;> first | exact h | omega
          clear h
          go_enter Try.func38, Try.ntmps38
          go_wp2_with (go_at_call 46; refine (money_in _ _).mono ?_; rintro e w' ⟨rfl, rfl⟩)
          go_ret
          exact ⟨rfl, Below.refl _ _⟩
  · have h1 : ¬ n < 1 := by omega
    have h2 : ¬ q < 0 := by omega
    have h3 : ¬ n < q := by omega
    have h4 : inB v = true := by cases g : inB v with | true => rfl | false => exact absurd (Or.inr (Or.inr (Or.inr g))) h
    have b := inB_iff.1 h4
    by_cases hqn : q = n
    · rw [part_whole h hqn]
      have hq1 : (q == n) = true := by simpa using hqn
      clear h
      subst hqn
      go_enter Try.func38, Try.ntmps38
      go_wp2_with (go_at_call 46; refine (money_in _ _).mono ?_; rintro e w' ⟨rfl, rfl⟩)
      go_ret
      exact ⟨rfl, Below.refl _ _⟩
    · have hq1 : (q == n) = false := by simpa using hqn
      by_cases hneg : v < 0
      · rw [part_neg h hneg]
        have P := part_fits (show 0 ≤ -v by omega) (show -v ≤ 288230376151711744 by omega) (show 0 ≤ q by omega) (show q ≤ n by omega) (by omega)
        obtain ⟨P1, P2, P3⟩ := P
        have P1 := Lib.hid P1
        clear h hqn
        have hv1 := hv.lo; have hv2 := hv.hi
        go_enter Try.func38, Try.ntmps38
        go_wp2_with (first | (go_at_call 46; refine (money_in _ _).mono ?_; rintro e w' ⟨rfl, rfl⟩) | (go_at_call 35; refine (money_MulDiv _ _ _ _ ⟨by omega, by omega⟩ hq hn).mono ?_; rw [P1.out]; rintro e w' ⟨rfl, hw⟩))
        go_ret
        exact ⟨rfl, hw⟩
      · rw [part_pos h hneg]
        have P := part_fits (show 0 ≤ v by omega) b.2 (show 0 ≤ q by omega) (show q ≤ n by omega) (by omega)
        obtain ⟨P1, P2, P3⟩ := P
        have P1 := Lib.hid P1
        clear h hqn
        go_enter Try.func38, Try.ntmps38
        go_wp2_with (first | (go_at_call 46; refine (money_in _ _).mono ?_; rintro e w' ⟨rfl, rfl⟩) | (go_at_call 35; refine (money_MulDiv _ _ _ _ hv hq hn).mono ?_; rw [P1.out]; rintro e w' ⟨rfl, hw⟩))
        go_ret
        exact ⟨rfl, hw⟩

set_option maxHeartbeats 800000 in
theorem ref_Part (v q n : Int) (w : World) (hv : I64 v) (hq : I64 q) (hn : I64 n) :
    Calls Try.prog 34 #[.int .i64 v, .int .i64 q, .int .i64 n] w fun e w' => e = .returned (.int .i64 (partS v q n)) ∧ w = w' := by
  by_cases h : n < 1 ∨ q < 0 ∨ q > n ∨ inB v = false
  · rw [part_none h]
    by_cases h1 : n < 1
    · clear h
      go_enter Try.func34, Try.ntmps34
      go_wp2_with (go_at_call 23; refine (ref_In _ _).mono ?_; rintro e w' ⟨rfl, rfl⟩)
      go_ret
      exact ⟨rfl, by first | rfl | trivial⟩
    · by_cases h2 : q < 0
      · clear h
        go_enter Try.func34, Try.ntmps34
        go_wp2_with (go_at_call 23; refine (ref_In _ _).mono ?_; rintro e w' ⟨rfl, rfl⟩)
        go_ret
        exact ⟨rfl, by first | rfl | trivial⟩
      · by_cases h3 : n < q
        · clear h
          go_enter Try.func34, Try.ntmps34
          go_wp2_with (go_at_call 23; refine (ref_In _ _).mono ?_; rintro e w' ⟨rfl, rfl⟩)
          go_ret
          exact ⟨rfl, by first | rfl | trivial⟩
        · have h4 : inB v = false := by rcases h with h | h | h | h <;> first | exact h | omega
          clear h
          go_enter Try.func34, Try.ntmps34
          go_wp2_with (go_at_call 23; refine (ref_In _ _).mono ?_; rintro e w' ⟨rfl, rfl⟩)
          go_ret
          exact ⟨rfl, by first | rfl | trivial⟩
  · have h1 : ¬ n < 1 := by omega
    have h2 : ¬ q < 0 := by omega
    have h3 : ¬ n < q := by omega
    have h4 : inB v = true := by cases g : inB v with | true => rfl | false => exact absurd (Or.inr (Or.inr (Or.inr g))) h
    have b := inB_iff.1 h4
    by_cases hneg : v < 0
    · rw [part_neg h hneg]
      have P := part_fits (show 0 ≤ -v by omega) (show -v ≤ 288230376151711744 by omega) (show 0 ≤ q by omega) (show q ≤ n by omega) (by omega)
      obtain ⟨P1, P2, P3⟩ := P
      have P1 := Lib.hid P1
      clear h
      have hv1 := hv.lo; have hv2 := hv.hi
      go_enter Try.func34, Try.ntmps34
      go_wp2_with (first | (go_at_call 23; refine (ref_In _ _).mono ?_; rintro e w' ⟨rfl, rfl⟩) | (go_at_call 40; refine (ref_MulDiv _ _ _ _ ⟨by omega, by omega⟩ hq hn).mono ?_; rw [P1.out]; rintro e w' ⟨rfl, rfl⟩))
      go_ret
      exact ⟨rfl, by first | rfl | trivial⟩
    · rw [part_pos h hneg]
      have P := part_fits (show 0 ≤ v by omega) b.2 (show 0 ≤ q by omega) (show q ≤ n by omega) (by omega)
      obtain ⟨P1, P2, P3⟩ := P
      have P1 := Lib.hid P1
      clear h
      go_enter Try.func34, Try.ntmps34
      go_wp2_with (first | (go_at_call 23; refine (ref_In _ _).mono ?_; rintro e w' ⟨rfl, rfl⟩) | (go_at_call 40; refine (ref_MulDiv _ _ _ _ hv hq hn).mono ?_; rw [P1.out]; rintro e w' ⟨rfl, rfl⟩))
      go_ret
      exact ⟨rfl, by first | rfl | trivial⟩
end Go.Proofs.Ytgahhifedgmicaa
