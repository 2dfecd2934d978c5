/-
  The reference's Wide: the 128 bits of a product, by shifts and masks. The world is as it was.
-/
import Derived.Test.YtnkdbjmfpebcgaaMoney
namespace Go.Proofs.Ytnkdbjmfpebcgaa
open Go.RowKit

theorem and_mask32 (x : Int) (h : 0 ≤ x) (h' : x < 18446744073709551616) : bits BinOp.and IntKind.u64 x 4294967295 = x % 4294967296 := by
  have e := bits_and_u64_nat x.toNat 4294967295 (by omega) (by omega)
  rw [show (4294967295 : Nat) = 2 ^ 32 - 1 from rfl, Nat.and_two_pow_sub_one_eq_mod] at e
  rw [Int.toNat_of_nonneg h] at e
  refine e.trans ?_
  omega
theorem or_shift32 (x y : Int) (h : 0 ≤ x) (h' : x < 18446744073709551616) (hd : x % 4294967296 = 0) (hy : 0 ≤ y) (hy' : y < 4294967296) : bits BinOp.or IntKind.u64 x y = x + y := by
  have e := bits_or_u64_nat x.toNat y.toNat (by omega) (by omega)
  rw [Int.toNat_of_nonneg h, Int.toNat_of_nonneg hy] at e
  refine e.trans ?_
  obtain ⟨k, hk⟩ : ∃ k : Nat, x.toNat = 2 ^ 32 * k := ⟨x.toNat / 4294967296, by omega⟩
  rw [hk, ← Nat.two_pow_add_eq_or_of_lt (by omega)]
  omega

end Go.Proofs.Ytnkdbjmfpebcgaa