/-
  MoneyWide: products of powers of two. Its walk.
-/
import Derived.Test.YtoepflomapoidaaMoneyLaw3
set_option linter.unusedVariables false
namespace Go.Proofs.Ytoepflomapoidaa
open Go.RowKit

theorem two_pow_le (i : Nat) (h : i < 63) : (0 : Int) < 2 ^ i ∧ (2 : Int) ^ i ≤ 4611686018427387904 := by
  refine ⟨Int.pow_pos (by omega), ?_⟩
  have e : (2 : Int) ^ i * 2 ^ (62 - i) = 4611686018427387904 := by rw [← Int.pow_add, show i + (62 - i) = 62 by omega]; rfl
  have p : (0 : Int) < 2 ^ (62 - i) := Int.pow_pos (by omega)
  have q : (0 : Int) < 2 ^ i := Int.pow_pos (by omega)
  have m := Int.mul_le_mul_of_nonneg_left (show (1 : Int) ≤ 2 ^ (62 - i) by omega) (show (0 : Int) ≤ 2 ^ i by omega)
  omega
theorem wrap_pow (i : Nat) (h : i < 63) : wrap64 ((2 : Int) ^ i) = 2 ^ i := by
  have := two_pow_le i h
  unfold wrap64; omega
theorem wide_pow (i j : Nat) (hi : i < 63) (hj : j < 63) : u64 (wrap64 (2 ^ i)) * u64 (wrap64 (2 ^ j)) = 2 ^ (i + j) := by
  have h1 := two_pow_le i hi
  have h2 := two_pow_le j hj
  rw [wrap_pow i hi, wrap_pow j hj, u64_same (by omega) (by omega), u64_same (by omega) (by omega), ← Int.pow_add]
theorem wide_pow_high (i j : Nat) (hi : i < 63) (hj : j < 63) (t : 64 ≤ i + j) :
    wideHi (wrap64 (2 ^ i)) (wrap64 (2 ^ j)) = IntKind.u64.wrap (2 ^ (i + j - 64)) ∧ wideLo (wrap64 (2 ^ i)) (wrap64 (2 ^ j)) = 0 := by
  have e : (2 : Int) ^ (i + j) = 2 ^ (i + j - 64) * 18446744073709551616 := by
    conv => lhs; rw [show i + j = (i + j - 64) + 64 by omega, Int.pow_add]
    rfl
  have b := two_pow_le (i + j - 64) (by omega)
  unfold wideHi wideLo
  rw [wide_pow i j hi hj, e, IntKind.wrap_u64]
  omega
theorem wide_pow_low (i j : Nat) (hi : i < 63) (hj : j < 63) (t : ¬ 64 ≤ i + j) :
    wideHi (wrap64 (2 ^ i)) (wrap64 (2 ^ j)) = 0 ∧ wideLo (wrap64 (2 ^ i)) (wrap64 (2 ^ j)) = IntKind.u64.wrap (2 ^ (i + j)) := by
  have b : (0 : Int) < 2 ^ (i + j) ∧ (2 : Int) ^ (i + j) < 18446744073709551616 := by
    refine ⟨Int.pow_pos (by omega), ?_⟩
    have e : (2 : Int) ^ (i + j) * 2 ^ (63 - (i + j)) = 9223372036854775808 := by rw [← Int.pow_add, show i + j + (63 - (i + j)) = 63 by omega]; rfl
    have p : (0 : Int) < 2 ^ (63 - (i + j)) := Int.pow_pos (by omega)
    have q : (0 : Int) < 2 ^ (i + j) := Int.pow_pos (by omega)
    have m := Int.mul_le_mul_of_nonneg_left (show (1 : Int) ≤ 2 ^ (63 - (i + j)) by omega) (show (0 : Int) ≤ 2 ^ (i + j) by omega)
    omega
  unfold wideHi wideLo
  rw [wide_pow i j hi hj, IntKind.wrap_u64]
  omega
theorem wide_turn (a b : Int) : wideHi b a = wideHi a b ∧ wideLo b a = wideLo a b := by unfold wideHi wideLo; rw [Int.mul_comm]; exact ⟨rfl, rfl⟩
theorem wide_one (a : Int) : wideHi a 1 = 0 ∧ wideLo a 1 = IntKind.u64.wrap a := by
  have := u64_bd a
  unfold wideHi wideLo
  rw [IntKind.wrap_u64, show u64 1 = 1 from rfl, Int.mul_one]
  refine ⟨by omega, ?_⟩
  show u64 a % 18446744073709551616 = u64 a
  omega
theorem wide_low (a b : Int) : IntKind.u64.wrap (IntKind.u64.wrap a * IntKind.u64.wrap b) = wideLo a b := by
  simp only [IntKind.wrap_u64]; rfl

set_option maxHeartbeats 1000000 in
theorem MoneyWide_walk (a b : Int) (w : World) (ha : I64 a) (hb : I64 b) :
    Calls Try.prog 7 #[.int .i64 a, .int .i64 b] w fun e w' => e = .returned (.bool true) ∧ Below w.heap.size w w' := by
  obtain ⟨i, hi, i0⟩ : ∃ i : Nat, a % 63 = (i : Int) ∧ i < 63 := ⟨(a % 63).toNat, by omega, by omega⟩
  obtain ⟨j, hj, j0⟩ : ∃ j : Nat, b % 63 = (j : Int) ∧ j < 63 := ⟨(b % 63).toNat, by omega, by omega⟩
  obtain ⟨t1, t2⟩ := wide_turn a b
  obtain ⟨o1, o2⟩ := wide_one a
  have lo := wide_low a b
  by_cases t : 64 ≤ i + j
  · obtain ⟨p1, p2⟩ := wide_pow_high i j i0 j0 t
    go_enter Try.func7, Try.ntmps7
    try simp only [List.append_eq, List.cons_append, List.nil_append]
    go_wp2_with (first | (go_at_call 19; refine (Place_calls _ _ _ (by omega) (by omega)).mono ?_; rintro e w' ⟨rfl, rfl⟩) | (go_at_call 15; refine (money_Wide _ _ _).mono ?_; rintro e w' ⟨rfl, hww⟩) | (go_at_call 8; refine (money_awake _).mono ?_; rintro e w' ⟨rfl, hwa⟩))
    go_ret
    exact ⟨rfl, by (repeat (first | assumption | exact Below.refl _ _ | refine ballc ?_ _ | refine bdrew ?_ | refine bdrewN ?_ _ | refine bthen ?_ (by assumption)))⟩
  · obtain ⟨p1, p2⟩ := wide_pow_low i j i0 j0 t
    go_enter Try.func7, Try.ntmps7
    try simp only [List.append_eq, List.cons_append, List.nil_append]
    go_wp2_with (first | (go_at_call 19; refine (Place_calls _ _ _ (by omega) (by omega)).mono ?_; rintro e w' ⟨rfl, rfl⟩) | (go_at_call 15; refine (money_Wide _ _ _).mono ?_; rintro e w' ⟨rfl, hww⟩) | (go_at_call 8; refine (money_awake _).mono ?_; rintro e w' ⟨rfl, hwa⟩))
    go_ret
    exact ⟨rfl, by (repeat (first | assumption | exact Below.refl _ _ | refine ballc ?_ _ | refine bdrew ?_ | refine bdrewN ?_ _ | refine bthen ?_ (by assumption)))⟩
end Go.Proofs.Ytoepflomapoidaa
