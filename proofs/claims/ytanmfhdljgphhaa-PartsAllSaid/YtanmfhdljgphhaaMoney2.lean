/-
  The reference's Wide: the 128 bits of a product, by shifts and masks. The world is as it was.
-/
import Derived.Test.YtanmfhdljgphhaaMoney
namespace Go.Proofs.Ytanmfhdljgphhaa
open Go.RowKit

theorem and_mask32 (x : Int) (h : 0 ≤ x) (h' : x < 18446744073709551616) : bits BinOp.and IntKind.u64 x 4294967295 = x % 4294967296 := by
  have e := bits_and_u64_nat x.toNat 4294967295 (by omega) (by omega)
  rw [show (4294967295 : Nat) = 2 ^ 32 - 1 from rfl, Nat.and_two_pow_sub_one_eq_mod] at e
  rw [Int.toNat_of_nonneg h] at e
  refine e.trans ?_
  omega
theorem or_shift32 (x y : Int) (h : 0 ≤ x) (h' : x < 18446744073709551616) (hd : x % 4294967296 = 0) (hy : 0 ≤ y) (hy' : y < 4294967296) : bits BinOp.or IntKind.u64 x y = x + y := by
  have e := bits_or_u64_nat x.toNat y.toNat (by omega) (by omega)
  rw [Int.toNat_of_nonneg h, Int.toNat_of_nonneg hy] at e
  refine e.trans ?_
  obtain ⟨k, hk⟩ : ∃ k : Nat, x.toNat = 2 ^ 32 * k := ⟨x.toNat / 4294967296, by omega⟩
  rw [hk, ← Nat.two_pow_add_eq_or_of_lt (by omega)]
  omega

set_option maxHeartbeats 400000 in
theorem ref_Wide (a b : Int) (w : World) :
    Calls Try.prog 29 #[.int .i64 a, .int .i64 b] w fun e w' => e = .returned (.tuple #[.int .u64 (wideHi a b), .int .u64 (wideLo a b)]) ∧ w = w' := by
  go_enter Try.func29, Try.ntmps29
  go_wp2
  go_ret2
  have hx := u64_bd a
  have hy := u64_bd b
  have H := halves (u64 a) (u64 b) hx.1 hx.2 hy.1 hy.2
  have e1 := wide_hi_law H
  have e2 := wide_lo_law H
  refine ⟨ret_ii ?_ ?_, by first | rfl | trivial⟩
  all_goals
    rw [show IntKind.u64.wrap a = u64 a from IntKind.wrap_u64 a, show IntKind.u64.wrap b = u64 b from IntKind.wrap_u64 b]
    rw [and_mask32 (u64 a) hx.1 hx.2, and_mask32 (u64 b) hy.1 hy.2]
    first | unfold wideHi; rw [← e1] | unfold wideLo; rw [← e2]
    clear e1 e2
    obtain ⟨-, b0, b1, b2, b3⟩ := H
    generalize u64 a % 4294967296 * (u64 b % 4294967296) = l0 at *
    generalize u64 a / 4294967296 * (u64 b % 4294967296) = l1 at *
    generalize u64 a % 4294967296 * (u64 b / 4294967296) = l2 at *
    generalize u64 a / 4294967296 * (u64 b / 4294967296) = l3 at *
    simp only [wrap_small b0.1 (by omega), wrap_small b1.1 (by omega), wrap_small b2.1 (by omega), wrap_small b3.1 (by omega), and_mask32 l0 b0.1 (by omega), and_mask32 l1 b1.1 (by omega), and_mask32 l2 b2.1 (by omega)]
  · rw [wrap_small (x := l0 / 4294967296 + l2 % 4294967296) (by omega) (by omega), wrap_small (x := l0 / 4294967296 + l2 % 4294967296 + l1 % 4294967296) (by omega) (by omega)]
    rw [wrap_small (x := l3 + l2 / 4294967296) (by omega) (by omega)]
    rw [wrap_small (x := l3 + l2 / 4294967296 + l1 / 4294967296) (by omega) (by omega)]
    rw [wrap_small (by omega) (by omega)]
    omega
  · rw [wrap_small (x := l0 / 4294967296 + l2 % 4294967296) (by omega) (by omega), wrap_small (x := l0 / 4294967296 + l2 % 4294967296 + l1 % 4294967296) (by omega) (by omega)]
    rw [IntKind.wrap_u64, or_shift32 _ _ (by omega) (by omega) (by omega) (by omega) (by omega)]
    omega
end Go.Proofs.Ytanmfhdljgphhaa
