/-
  Part and Sum, of the program and of the reference.
-/
import Derived.Test.YtnkdbjmfpebcgaaMoney3
import Derived.Lib.Hide
namespace Go.Proofs.Ytnkdbjmfpebcgaa
open Go.RowKit

theorem part_fits {v q n : Int} (hv : 0 ≤ v) (hv' : v ≤ 288230376151711744) (hq : 0 ≤ q) (hqn : q ≤ n) (hn : 1 ≤ n) :
    mdQ v q n = v * q / n ∧ 0 ≤ v * q / n ∧ v * q / n ≤ v := by
  have h0 := Int.mul_nonneg hv hq
  have h1 : v * q / n ≤ v := by
    apply Int.ediv_le_of_le_mul (by omega)
    exact Int.mul_le_mul_of_nonneg_left hqn hv
  have h2 := Int.ediv_nonneg h0 (show 0 ≤ n by omega)
  exact ⟨(md_ok (by omega) (by omega)).1, h2, h1⟩
theorem part_none {v q n : Int} (h : n < 1 ∨ q < 0 ∨ q > n ∨ inB v = false) : partS v q n = 0 := by simp only [partS, if_pos h]
theorem part_neg {v q n : Int} (h : ¬ (n < 1 ∨ q < 0 ∨ q > n ∨ inB v = false)) (hv : v < 0) : partS v q n = -(-v * q / n) := by simp only [partS, if_neg h, if_pos hv]
theorem part_pos {v q n : Int} (h : ¬ (n < 1 ∨ q < 0 ∨ q > n ∨ inB v = false)) (hv : ¬ v < 0) : partS v q n = v * q / n := by simp only [partS, if_neg h, if_neg hv]
theorem part_whole {v q n : Int} (h : ¬ (n < 1 ∨ q < 0 ∨ q > n ∨ inB v = false)) (hq : q = n) : partS v q n = v := by
  subst hq
  have hn : q ≠ 0 := by omega
  by_cases hv : v < 0
  · rw [part_neg h hv, Int.mul_ediv_cancel _ hn]; omega
  · rw [part_pos h hv, Int.mul_ediv_cancel _ hn]

end Go.Proofs.Ytnkdbjmfpebcgaa