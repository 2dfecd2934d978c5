/-
  MulDiv and Part, of the program and of the reference: a product, cut by a number.
-/
import Derived.Test.YtnkdbjmfpebcgaaDiv
import Derived.Test.YtnkdbjmfpebcgaaRow
namespace Go.Proofs.Ytnkdbjmfpebcgaa
open Go.RowKit

/-- The product and its halves. -/
theorem wide_nat {a b : Int} (ha : 0 ≤ a) (ha' : a ≤ 9223372036854775807) (hb : 0 ≤ b) (hb' : b ≤ 9223372036854775807) : wideHi a b * 18446744073709551616 + wideLo a b = a * b := by
  rw [wide_all, u64_same ha (by omega), u64_same hb (by omega)]

theorem md_arg {a b c : Int} (h : a < 0 ∨ b < 0 ∨ c < 1) : mdQ a b c = 0 ∧ mdR a b c = 0 ∧ mdE a b c = 1 := by simp [mdQ, mdR, mdE, h]
theorem md_big {a b c : Int} (h : ¬ (a < 0 ∨ b < 0 ∨ c < 1)) (g : 288230376151711744 < a * b / c) : mdQ a b c = 0 ∧ mdR a b c = 0 ∧ mdE a b c = 2 := by simp [mdQ, mdR, mdE, h, g]
theorem md_ok {a b c : Int} (h : ¬ (a < 0 ∨ b < 0 ∨ c < 1)) (g : ¬ 288230376151711744 < a * b / c) : mdQ a b c = a * b / c ∧ mdR a b c = a * b % c ∧ mdE a b c = 0 := by simp [mdQ, mdR, mdE, h, g]
theorem md_high {a b c : Int} (hc : 0 < c) (e : wideHi a b * 18446744073709551616 + wideLo a b = a * b) (g : c ≤ wideHi a b) : 288230376151711744 < a * b / c := by
  have l := (wideLo_bd a b).1
  have h1 : c * 18446744073709551616 ≤ a * b := by omega
  have := Int.le_ediv_of_mul_le hc (show 18446744073709551616 * c ≤ a * b by omega)
  omega

/-- q times c and r are N. -/
structure Dv (N c q r : Int) : Prop where
  e : q * c + r = N
  r : 0 ≤ r ∧ r < c
  q : 0 ≤ q ∧ q < 18446744073709551616
theorem dv_start {a b c : Int} (e : wideHi a b * 18446744073709551616 + wideLo a b = a * b) (g : wideHi a b < c) (h : 0 ≤ wideHi a b ∧ wideHi a b < 18446744073709551616) (l : 0 ≤ wideLo a b ∧ wideLo a b < 18446744073709551616) :
    Dv (a * b / 2 ^ 64) c 0 (wideHi a b) := by
  have p : (2 : Int) ^ 64 = 18446744073709551616 := rfl
  refine ⟨?_, by omega, by omega⟩
  rw [p, ← e]
  omega
theorem dv_end {T c q r : Int} (D : Dv (T / 2 ^ 0) c q r) : T / c = q ∧ T % c = r := by
  obtain ⟨e, hr, -⟩ := D
  rw [show T / 2 ^ 0 = T by simp] at e
  rw [← e, Int.mul_comm]
  constructor
  · rw [Int.mul_add_ediv_left _ _ (by omega), Int.ediv_eq_zero_of_lt hr.1 hr.2]; omega
  · rw [Int.mul_add_emod_self_left, Int.emod_eq_of_lt hr.1 hr.2]
theorem or_one (x : Int) (h : 0 ≤ x) (h' : x < 9223372036854775808) (b : Int) (hb : b = 0 ∨ b = 1) : bits BinOp.or IntKind.u64 (x * 2) b = x * 2 + b := by
  have e := bits_or_u64_nat (x * 2).toNat b.toNat (by omega) (by omega)
  rw [Int.toNat_of_nonneg (by omega), Int.toNat_of_nonneg (by omega)] at e
  refine e.trans ?_
  rw [show (x * 2).toNat = 2 ^ 1 * x.toNat by omega, ← Nat.two_pow_add_eq_or_of_lt (by omega)]
  omega
theorem dv_step {T c q r hi lo : Int} {j : Nat} (D : Dv (T / 2 ^ (j + 1)) c q r) (e : hi * 18446744073709551616 + lo = T) (h0 : 0 ≤ T) (g : hi < c) (hl : 0 ≤ lo ∧ lo < 18446744073709551616) (hj : j ≤ 63) (hc : c ≤ 9223372036854775807) :
    (c ≤ bits BinOp.or IntKind.u64 (r * 2) (bits BinOp.and IntKind.u64 (lo / 2 ^ j) 1) →
      Dv (T / 2 ^ j) c (bits BinOp.or IntKind.u64 (IntKind.u64.wrap (q * 2)) 1) (IntKind.u64.wrap (bits BinOp.or IntKind.u64 (r * 2) (bits BinOp.and IntKind.u64 (lo / 2 ^ j) 1) - c))) ∧
    (bits BinOp.or IntKind.u64 (r * 2) (bits BinOp.and IntKind.u64 (lo / 2 ^ j) 1) < c →
      Dv (T / 2 ^ j) c (IntKind.u64.wrap (q * 2)) (bits BinOp.or IntKind.u64 (r * 2) (bits BinOp.and IntKind.u64 (lo / 2 ^ j) 1))) := by
  obtain ⟨D1, D2, D3⟩ := D
  have pj : (0 : Int) < 2 ^ j := Int.pow_pos (by omega)
  have pj1 : (0 : Int) < 2 ^ (j + 1) := Int.pow_pos (by omega)
  have pq : (2 : Int) ^ j * 2 ^ (63 - j) = 9223372036854775808 := by rw [← Int.pow_add, show j + (63 - j) = 63 by omega]; rfl
  have q63 : q < 9223372036854775808 := by
    rcases Int.lt_or_le q 9223372036854775808 with h | h
    · exact h
    · exfalso
      have m := Int.mul_le_mul_of_nonneg_right h (show 0 ≤ c by omega)
      have n := Int.mul_ediv_add_emod T (2 ^ (j + 1))
      have n0 := Int.emod_nonneg T (show (2 : Int) ^ (j + 1) ≠ 0 by omega)
      have pm : (2 : Int) ^ (j + 1) = 2 ^ j * 2 := by rw [Int.pow_succ]
      have k := Int.mul_le_mul_of_nonneg_right (show (2 : Int) ≤ 2 ^ (j + 1) by omega) (show 0 ≤ T / 2 ^ (j + 1) by omega)
      omega
  have lo0 : 0 ≤ lo / 2 ^ j := Int.ediv_nonneg hl.1 (by omega)
  have lo1 : lo / 2 ^ j ≤ lo := Int.ediv_le_self _ hl.1
  have bit : bits BinOp.and IntKind.u64 (lo / 2 ^ j) 1 = lo / 2 ^ j % 2 := and_one_u64 _ lo0 (by omega)
  have N : T / 2 ^ j = 2 * (T / 2 ^ (j + 1)) + lo / 2 ^ j % 2 := by
    have a1 : T / 2 ^ (j + 1) = T / 2 ^ j / 2 := by rw [Int.pow_succ, Int.ediv_ediv_of_nonneg (by omega)]
    have a2 : T / 2 ^ j % 2 = lo / 2 ^ j % 2 := by
      rw [← e, show hi * 18446744073709551616 + lo = lo + 2 ^ j * (2 ^ (63 - j) * 2 * hi) by
        rw [← Int.mul_assoc, ← Int.mul_assoc, pq]; omega]
      rw [Int.add_mul_ediv_left _ _ (by omega)]
      rw [show (2 : Int) ^ (63 - j) * 2 * hi = 2 * (2 ^ (63 - j) * hi) by rw [Int.mul_comm _ 2, Int.mul_assoc]]
      rw [Int.add_mul_emod_self_left]
    rw [a1, ← a2]
    omega
  rw [bit, or_one r D2.1 (by omega) _ (by omega), wrap_small (x := q * 2) (by omega) (by omega), or_one q D3.1 q63 1 (.inr rfl), N, ← D1]
  have hm1 : (q * 2 + 1) * c = q * c * 2 + c := by rw [Int.add_mul, Int.one_mul, Int.mul_assoc, Int.mul_comm 2 c, ← Int.mul_assoc]
  have hm2 : q * 2 * c = q * c * 2 := by rw [Int.mul_assoc, Int.mul_comm 2 c, ← Int.mul_assoc]
  constructor
  · intro h
    rw [wrap_small (by omega) (by omega)]
    refine ⟨?_, by omega, by omega⟩
    rw [hm1]
    omega
  · intro h
    refine ⟨?_, by omega, by omega⟩
    rw [hm2]
    omega

end Go.Proofs.Ytnkdbjmfpebcgaa