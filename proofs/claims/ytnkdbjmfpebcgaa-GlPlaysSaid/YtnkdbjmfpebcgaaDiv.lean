/-
  math/bits.Div64: the quotient and what is left of 128 bits by a number greater than the high half. The world is as it was, but for draws.
-/
import Derived.Test.YtnkdbjmfpebcgaaMoney2
import Derived.Test.YtnkdbjmfpebcgaaKnuth
import Derived.Lib.Hide
namespace Go.Proofs.Ytnkdbjmfpebcgaa
open Go.RowKit

theorem or_shift (x z : Int) (k : Nat) (hk : k ≤ 63) (h : 0 ≤ x) (h' : x * 2 ^ k < 18446744073709551616) (hz : 0 ≤ z) (hz' : z < 18446744073709551616) :
    bits BinOp.or IntKind.u64 (IntKind.u64.wrap (x * 2 ^ k)) (z / 2 ^ (64 - k)) = x * 2 ^ k + z / 2 ^ (64 - k) := by
  obtain ⟨n, rfl⟩ : ∃ n : Nat, x = n := ⟨x.toNat, by omega⟩
  obtain ⟨m, rfl⟩ : ∃ m : Nat, z = m := ⟨z.toNat, by omega⟩
  have c1 : ((n : Int) * 2 ^ k) = ((n * 2 ^ k : Nat) : Int) := by push_cast; rfl
  have c2 : ((m : Int) / 2 ^ (64 - k)) = ((m / 2 ^ (64 - k) : Nat) : Int) := by push_cast; rfl
  have hm : m / 2 ^ (64 - k) < 2 ^ k := by
    apply Nat.div_lt_of_lt_mul
    rw [← Nat.pow_add, show 64 - k + k = 64 by omega]
    omega
  have hm2 : m / 2 ^ (64 - k) ≤ m := Nat.div_le_self _ _
  rw [c1] at h' ⊢
  rw [wrap_small (by omega) h', c2, bits_or_u64_nat _ _ (by omega) (by omega)]
  rw [Nat.mul_comm n, ← Nat.two_pow_add_eq_or_of_lt hm]
  push_cast; rfl

/-- What is shifted: the high half, the low half. -/
theorem shift_parts (hi lo y : Int) (k : Nat) (hk : k ≤ 63) (h : 0 ≤ hi) (h' : hi < y) (hl : 0 ≤ lo) (hl' : lo < 18446744073709551616) (hY : y * 2 ^ k < 18446744073709551616) :
    bits BinOp.or IntKind.u64 (IntKind.u64.wrap (hi * 2 ^ k)) (lo / 2 ^ (64 - k)) * 18446744073709551616 + IntKind.u64.wrap (lo * 2 ^ k) = (hi * 18446744073709551616 + lo) * 2 ^ k ∧
    0 ≤ bits BinOp.or IntKind.u64 (IntKind.u64.wrap (hi * 2 ^ k)) (lo / 2 ^ (64 - k)) ∧ bits BinOp.or IntKind.u64 (IntKind.u64.wrap (hi * 2 ^ k)) (lo / 2 ^ (64 - k)) < y * 2 ^ k := by
  have pp : (0 : Int) < 2 ^ k := Int.pow_pos (by omega)
  have hh : hi * 2 ^ k < y * 2 ^ k := Int.mul_lt_mul_of_pos_right h' pp
  rw [or_shift hi lo k hk h (by omega) hl hl']
  have qp : (0 : Int) < 2 ^ (64 - k) := Int.pow_pos (by omega)
  have pq : (2 : Int) ^ (64 - k) * 2 ^ k = 18446744073709551616 := by
    rw [← Int.pow_add, show 64 - k + k = 64 by omega]; rfl
  have d := Int.mul_ediv_add_emod lo (2 ^ (64 - k))
  have r0 := Int.emod_nonneg lo (show (2 : Int) ^ (64 - k) ≠ 0 by omega)
  have r1 := Int.emod_lt_of_pos lo qp
  have z0 : 0 ≤ lo / 2 ^ (64 - k) := Int.ediv_nonneg hl (by omega)
  have e : lo * 2 ^ k = lo / 2 ^ (64 - k) * 18446744073709551616 + lo % 2 ^ (64 - k) * 2 ^ k := by
    conv => lhs; rw [← d]
    rw [Int.add_mul, Int.mul_comm (2 ^ (64 - k)) (lo / 2 ^ (64 - k)), Int.mul_assoc, pq]
  have b1 : lo % 2 ^ (64 - k) * 2 ^ k < 18446744073709551616 := by
    rw [← pq]; exact Int.mul_lt_mul_of_pos_right r1 pp
  have b0 : 0 ≤ lo % 2 ^ (64 - k) * 2 ^ k := Int.mul_nonneg r0 (by omega)
  have w1 : IntKind.u64.wrap (lo * 2 ^ k) = lo % 2 ^ (64 - k) * 2 ^ k := by
    rw [IntKind.wrap_u64, e]
    generalize lo % 2 ^ (64 - k) * 2 ^ k = t at *
    generalize lo / 2 ^ (64 - k) = v at *
    omega
  rw [w1]
  have lt1 : lo / 2 ^ (64 - k) < 2 ^ k := by
    apply Int.ediv_lt_of_lt_mul qp
    rw [Int.mul_comm, pq]; exact hl'
  have hn : 0 ≤ hi * 2 ^ k := Int.mul_nonneg h (by omega)
  refine ⟨?_, by omega, ?_⟩
  · rw [Int.add_mul (hi * 18446744073709551616), e]
    rw [show hi * 18446744073709551616 * 2 ^ k = hi * 2 ^ k * 18446744073709551616 by rw [Int.mul_assoc, Int.mul_comm 18446744073709551616, ← Int.mul_assoc]]
    generalize lo % 2 ^ (64 - k) * 2 ^ k = t at *
    generalize lo / 2 ^ (64 - k) = v at *
    generalize hi * 2 ^ k = u at *
    omega
  · have h1 := Int.mul_le_mul_of_nonneg_right (show hi + 1 ≤ y by omega) (show (0 : Int) ≤ 2 ^ k by omega)
    rw [Int.add_mul, Int.one_mul] at h1
    omega

theorem start_wrap {U Y : Int} (hY : 9223372036854775808 ≤ Y ∧ Y < 18446744073709551616) (h0 : 0 ≤ U) (h1 : U < Y) :
    IntKind.u64.wrap (U - IntKind.u64.wrap (U / (Y / 4294967296) * (Y / 4294967296))) = U - U / (Y / 4294967296) * (Y / 4294967296) := by
  have E := @est_start U 0 Y hY ⟨h0, h1⟩ (by omega)
  have := E.rb
  have := E.e
  have m := Int.mul_nonneg E.qb.1 (show 0 ≤ Y / 4294967296 by omega)
  simp only [IntKind.wrap_u64]
  omega

end Go.Proofs.Ytnkdbjmfpebcgaa