/-
  MoneyParts: the parts of what is split in two are all of it, but for one. Its walk.
-/
import Derived.Test.YtoepflomapoidaaMoneyLaw2
set_option linter.unusedVariables false
namespace Go.Proofs.Ytoepflomapoidaa
open Go.RowKit

theorem parts_pos {v p m : Int} (hv : 0 ≤ v) (hp : 0 ≤ p) (hpm : p ≤ m) (hm : 1 ≤ m) :
    0 ≤ v * p / m ∧ v * p / m ≤ v ∧ (v - v * p / m - v * (m - p) / m = 0 ∨ v - v * p / m - v * (m - p) / m = 1) := by
  have e : v * (m - p) = v * m - v * p := Int.mul_sub v m p
  have h0 := Int.mul_nonneg hv hp
  have h1 : v * p / m ≤ v := by
    apply Int.ediv_le_of_le_mul (by omega)
    exact Int.mul_le_mul_of_nonneg_left hpm hv
  have h2 := Int.ediv_nonneg h0 (show 0 ≤ m by omega)
  refine ⟨h2, h1, ?_⟩
  have d := Int.mul_ediv_add_emod (v * p) m
  have r0 := Int.emod_nonneg (v * p) (show m ≠ 0 by omega)
  have r1 := Int.emod_lt_of_pos (v * p) (show 0 < m by omega)
  have e2 : v * (m - p) = -(v * p % m) + m * (v - v * p / m) := by
    rw [e, Int.mul_sub, Int.mul_comm m v]; omega
  rw [e2, Int.add_mul_ediv_left _ _ (by omega)]
  by_cases hr : v * p % m = 0
  · rw [hr]
    left
    simp
  · right
    have : -(v * p % m) / m = -1 := by
      rw [show -(v * p % m) = m - v * p % m + m * (-1) by omega, Int.add_mul_ediv_left _ _ (by omega), Int.ediv_eq_zero_of_lt (by omega) (by omega)]
      rfl
    rw [this]
    omega

structure PartsLaw (k p m : Int) : Prop where
  pos : 0 ≤ k → 0 ≤ partS k p m ∧ partS k p m ≤ k ∧ (k - partS k p m - partS k (m - p) m = 0 ∨ k - partS k p m - partS k (m - p) m = 1)
  neg : k < 0 → partS k p m ≤ 0 ∧ k ≤ partS k p m ∧ (k - partS k p m - partS k (m - p) m = 0 ∨ k - partS k p m - partS k (m - p) m = -1)
  whole : partS k m m = k
  none0 : partS k 0 m = 0
  more : partS k (m + 1) m = 0
  zero : partS k 1 0 = 0

theorem parts_law {k p m : Int} (hk : inB k = true) (hp : 0 ≤ p) (hpm : p ≤ m) (hm : 1 ≤ m) : PartsLaw k p m := by
  have c (q : Int) (h0 : 0 ≤ q) (h1 : q ≤ m) : ¬ (m < 1 ∨ q < 0 ∨ q > m ∨ inB k = false) := by
    rw [hk]; simp; omega
  refine ⟨fun h => ?_, fun h => ?_, part_whole (c m (by omega) (by omega)) rfl, ?_, part_none (by omega), part_none (by omega)⟩
  · rw [part_pos (c p hp hpm) (by omega), part_pos (c (m - p) (by omega) (by omega)) (by omega)]
    exact parts_pos h hp hpm hm
  · rw [part_neg (c p hp hpm) h, part_neg (c (m - p) (by omega) (by omega)) h]
    have := parts_pos (show 0 ≤ -k by omega) hp hpm hm
    omega
  · by_cases h : k < 0
    · rw [part_neg (c 0 (by omega) (by omega)) h]; simp
    · rw [part_pos (c 0 (by omega) (by omega)) h]; simp

set_option maxHeartbeats 1000000 in
theorem MoneyParts_walk (v q n : Int) (w : World) (hv : I64 v) (hq : I64 q) (hn : I64 n) :
    Calls Try.prog 5 #[.int .i64 v, .int .i64 q, .int .i64 n] w fun e w' => e = .returned (.bool true) ∧ Below w.heap.size w w' := by
  obtain ⟨k, hk⟩ : ∃ k, v % 576460752303423489 - 288230376151711744 = k := ⟨_, rfl⟩
  obtain ⟨m, hm⟩ : ∃ m, 1 + n % 288230376151711744 = m := ⟨_, rfl⟩
  have k0 : -288230376151711744 ≤ k ∧ k ≤ 288230376151711744 := by omega
  have m0 : 1 ≤ m ∧ m ≤ 288230376151711744 := by omega
  obtain ⟨p, hp⟩ : ∃ p, q % (m + 1) = p := ⟨_, rfl⟩
  have p0 : 0 ≤ p ∧ p ≤ m := by
    have := Int.emod_nonneg q (show m + 1 ≠ 0 by omega)
    have := Int.emod_lt_of_pos q (show 0 < m + 1 by omega)
    omega
  have L := parts_law (inB_iff.2 k0) p0.1 p0.2 m0.1
  obtain ⟨L1, L2, L3, L4, L5, L6⟩ := L
  obtain ⟨A, hA⟩ : ∃ A, partS k p m = A := ⟨_, rfl⟩
  obtain ⟨B, hB⟩ : ∃ B, partS k (m - p) m = B := ⟨_, rfl⟩
  rw [hA, hB] at L1 L2
  have A0 : 0 ≤ k → -288230376151711744 ≤ B ∧ B ≤ 288230376151711744 := fun h => by have := L1 h; omega
  have A1 : k < 0 → -288230376151711744 ≤ B ∧ B ≤ 288230376151711744 := fun h => by have := L2 h; omega
  by_cases h : 0 ≤ k
  · have L := L1 h
    have BB := A0 h
    clear L1 L2 A0 A1
    obtain ⟨a1, a2, a3⟩ := L
    by_cases d : k - A - B = 0
    · have d1 : (k - A - B == 0) = true := by rw [beq_iff_eq]; exact d
      clear a3 d
      go_enter Try.func5, Try.ntmps5
      simp only [List.append_eq, List.cons_append, List.nil_append]
      go_wp2_with (first | (go_at_call 19; refine (Place_calls _ _ _ (by omega) (by omega)).mono ?_; rintro e w' ⟨rfl, rfl⟩) | (go_at_call 17; refine (money_Part _ _ _ _ (by first | assumption | exact ⟨by omega, by omega⟩) (by first | assumption | exact ⟨by omega, by omega⟩) (by first | assumption | exact ⟨by omega, by omega⟩)).mono ?_; rintro e w' ⟨rfl, hwp⟩) | (go_at_call 8; refine (money_awake _).mono ?_; rintro e w' ⟨rfl, hwa⟩))
      go_ret
      exact ⟨rfl, by (repeat (first | assumption | exact Below.refl _ _ | refine ballc ?_ _ | refine bdrew ?_ | refine bdrewN ?_ _ | refine bthen ?_ (by assumption)))⟩
    · have d1 : (k - A - B == 0) = false := by rw [beq_eq_false_iff_ne]; exact d
      have d2 : (k - A - B == 1) = true := by rw [beq_iff_eq]; omega
      clear a3 d
      go_enter Try.func5, Try.ntmps5
      simp only [List.append_eq, List.cons_append, List.nil_append]
      go_wp2_with (first | (go_at_call 19; refine (Place_calls _ _ _ (by omega) (by omega)).mono ?_; rintro e w' ⟨rfl, rfl⟩) | (go_at_call 17; refine (money_Part _ _ _ _ (by first | assumption | exact ⟨by omega, by omega⟩) (by first | assumption | exact ⟨by omega, by omega⟩) (by first | assumption | exact ⟨by omega, by omega⟩)).mono ?_; rintro e w' ⟨rfl, hwp⟩) | (go_at_call 8; refine (money_awake _).mono ?_; rintro e w' ⟨rfl, hwa⟩))
      go_ret
      exact ⟨rfl, by (repeat (first | assumption | exact Below.refl _ _ | refine ballc ?_ _ | refine bdrew ?_ | refine bdrewN ?_ _ | refine bthen ?_ (by assumption)))⟩
  · have h' : k < 0 := by omega
    have L := L2 h'
    have BB := A1 h'
    clear L1 L2 A0 A1
    obtain ⟨a1, a2, a3⟩ := L
    by_cases d : k - A - B = 0
    · have d1 : (k - A - B == 0) = true := by rw [beq_iff_eq]; exact d
      clear a3 d
      go_enter Try.func5, Try.ntmps5
      simp only [List.append_eq, List.cons_append, List.nil_append]
      go_wp2_with (first | (go_at_call 19; refine (Place_calls _ _ _ (by omega) (by omega)).mono ?_; rintro e w' ⟨rfl, rfl⟩) | (go_at_call 17; refine (money_Part _ _ _ _ (by first | assumption | exact ⟨by omega, by omega⟩) (by first | assumption | exact ⟨by omega, by omega⟩) (by first | assumption | exact ⟨by omega, by omega⟩)).mono ?_; rintro e w' ⟨rfl, hwp⟩) | (go_at_call 8; refine (money_awake _).mono ?_; rintro e w' ⟨rfl, hwa⟩))
      go_ret
      exact ⟨rfl, by (repeat (first | assumption | exact Below.refl _ _ | refine ballc ?_ _ | refine bdrew ?_ | refine bdrewN ?_ _ | refine bthen ?_ (by assumption)))⟩
    · have d1 : (k - A - B == 0) = false := by rw [beq_eq_false_iff_ne]; exact d
      have d2 : (k - A - B == -1) = true := by rw [beq_iff_eq]; omega
      clear a3 d
      go_enter Try.func5, Try.ntmps5
      simp only [List.append_eq, List.cons_append, List.nil_append]
      go_wp2_with (first | (go_at_call 19; refine (Place_calls _ _ _ (by omega) (by omega)).mono ?_; rintro e w' ⟨rfl, rfl⟩) | (go_at_call 17; refine (money_Part _ _ _ _ (by first | assumption | exact ⟨by omega, by omega⟩) (by first | assumption | exact ⟨by omega, by omega⟩) (by first | assumption | exact ⟨by omega, by omega⟩)).mono ?_; rintro e w' ⟨rfl, hwp⟩) | (go_at_call 8; refine (money_awake _).mono ?_; rintro e w' ⟨rfl, hwa⟩))
      go_ret
      exact ⟨rfl, by (repeat (first | assumption | exact Below.refl _ _ | refine ballc ?_ _ | refine bdrew ?_ | refine bdrewN ?_ _ | refine bthen ?_ (by assumption)))⟩
end Go.Proofs.Ytoepflomapoidaa
