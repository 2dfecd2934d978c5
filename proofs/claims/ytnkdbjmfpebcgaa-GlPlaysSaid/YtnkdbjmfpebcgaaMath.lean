/-
  Plain arithmetic of money: sums within the limit, the 128 bits of a product, a product cut by a number. No program in sight.
-/
import Derived.WalkKit
namespace Go.Proofs.Ytnkdbjmfpebcgaa
open Go.RowKit

def maxA : Int := 288230376151711744
def inB (v : Int) : Bool := decide (-288230376151711744 ≤ v) && decide (v ≤ 288230376151711744)
theorem inB_iff {v : Int} : inB v = true ↔ -288230376151711744 ≤ v ∧ v ≤ 288230376151711744 := by simp [inB]
theorem inB_no {v : Int} : inB v = false ↔ ¬ (-288230376151711744 ≤ v ∧ v ≤ 288230376151711744) := by
  rw [← inB_iff]; cases inB v <;> simp

/-- A number that fits int. -/
structure I64 (v : Int) : Prop where
  lo : -9223372036854775808 ≤ v
  hi : v ≤ 9223372036854775807
theorem i64_wf {v : Int} (h : (Lit.int .i64 v).wf = true) : I64 v := by
  simp [Lit.wf, IntKind.min, IntKind.max, IntKind.signed, IntKind.bits] at h
  exact ⟨by omega, by omega⟩

def addOk (a b : Int) : Bool := inB a && inB b && inB (wrap64 (a + b))
theorem addOk_iff {a b : Int} : addOk a b = true ↔ inB a = true ∧ inB b = true ∧ inB (a + b) = true := by
  simp only [addOk, Bool.and_eq_true, inB_iff]
  unfold wrap64
  omega
def addV (a b : Int) : Int := if addOk a b then a + b else 0
def addE (a b : Int) : Int := if addOk a b then 0 else 2

/-- All together, from n on; none: a sum on the way is too great. -/
def sumGo (n : Int) : List Int → Option Int
  | [] => some n
  | z :: zs => if addOk n z then sumGo (n + z) zs else none
def sumV (l : List Int) : Int := (sumGo 0 l).getD 0
def sumE (l : List Int) : Int := if (sumGo 0 l).isSome then 0 else 2

theorem mul_bd {a b n m : Int} (h0 : 0 ≤ a) (h1 : a ≤ n) (h2 : 0 ≤ b) (h3 : b ≤ m) : 0 ≤ a * b ∧ a * b ≤ n * m :=
  ⟨Int.mul_nonneg h0 h2, Int.mul_le_mul h1 h3 h2 (by omega)⟩

theorem mul_split (xh xl yh yl : Int) : (xh * 4294967296 + xl) * (yh * 4294967296 + yl) = xh * yh * 18446744073709551616 + (xh * yl + xl * yh) * 4294967296 + xl * yl := by
  rw [Int.add_mul, Int.mul_add, Int.mul_add]
  have e1 : xh * 4294967296 * (yh * 4294967296) = xh * yh * 18446744073709551616 := by
    rw [Int.mul_assoc, Int.mul_comm 4294967296 (yh * 4294967296), Int.mul_assoc, ← Int.mul_assoc xh yh]; rfl
  have e2 : xh * 4294967296 * yl = xh * yl * 4294967296 := by
    rw [Int.mul_assoc, Int.mul_comm 4294967296 yl, ← Int.mul_assoc]
  have e3 : xl * (yh * 4294967296) = xl * yh * 4294967296 := by rw [← Int.mul_assoc]
  rw [e1, e2, e3, Int.add_mul]
  omega

/-- The halves of a product of two numbers of 64 bits. -/
structure Halves (x y l0 l1 l2 l3 : Int) : Prop where
  e : x * y = l3 * 18446744073709551616 + (l1 + l2) * 4294967296 + l0
  b0 : 0 ≤ l0 ∧ l0 ≤ 18446744065119617025
  b1 : 0 ≤ l1 ∧ l1 ≤ 18446744065119617025
  b2 : 0 ≤ l2 ∧ l2 ≤ 18446744065119617025
  b3 : 0 ≤ l3 ∧ l3 ≤ 18446744065119617025

theorem halves (x y : Int) (hx : 0 ≤ x) (hx' : x < 18446744073709551616) (hy : 0 ≤ y) (hy' : y < 18446744073709551616) :
    Halves x y (x % 4294967296 * (y % 4294967296)) (x / 4294967296 * (y % 4294967296)) (x % 4294967296 * (y / 4294967296)) (x / 4294967296 * (y / 4294967296)) := by
  have b (a c : Int) (h0 : 0 ≤ a) (h1 : a ≤ 4294967295) (h2 : 0 ≤ c) (h3 : c ≤ 4294967295) : 0 ≤ a * c ∧ a * c ≤ 18446744065119617025 := mul_bd h0 h1 h2 h3
  refine ⟨?_, b _ _ (by omega) (by omega) (by omega) (by omega), b _ _ (by omega) (by omega) (by omega) (by omega), b _ _ (by omega) (by omega) (by omega) (by omega), b _ _ (by omega) (by omega) (by omega) (by omega)⟩
  rw [← mul_split]
  congr 1 <;> omega

def u64 (v : Int) : Int := v % 18446744073709551616
def wideHi (a b : Int) : Int := u64 a * u64 b / 18446744073709551616
def wideLo (a b : Int) : Int := u64 a * u64 b % 18446744073709551616
theorem u64_bd (v : Int) : 0 ≤ u64 v ∧ u64 v < 18446744073709551616 := by unfold u64; omega
theorem u64_same {v : Int} (h : 0 ≤ v) (h' : v < 18446744073709551616) : u64 v = v := by unfold u64; omega
theorem wideHi_bd (a b : Int) : 0 ≤ wideHi a b ∧ wideHi a b < 18446744073709551616 := by
  have h := mul_bd (u64_bd a).1 (show u64 a ≤ 18446744073709551615 by have := (u64_bd a).2; omega) (u64_bd b).1 (show u64 b ≤ 18446744073709551615 by have := (u64_bd b).2; omega)
  unfold wideHi; omega
theorem wideLo_bd (a b : Int) : 0 ≤ wideLo a b ∧ wideLo a b < 18446744073709551616 := by unfold wideLo; omega
theorem wide_all (a b : Int) : wideHi a b * 18446744073709551616 + wideLo a b = u64 a * u64 b := by unfold wideHi wideLo; omega

theorem wide_hi_law {x y l0 l1 l2 l3 : Int} (h : Halves x y l0 l1 l2 l3) :
    l3 + l1 / 4294967296 + l2 / 4294967296 + (l0 / 4294967296 + l1 % 4294967296 + l2 % 4294967296) / 4294967296 = x * y / 18446744073709551616 := by
  obtain ⟨e, b0, b1, b2, b3⟩ := h
  generalize x * y = t at *
  omega
theorem wide_lo_law {x y l0 l1 l2 l3 : Int} (h : Halves x y l0 l1 l2 l3) :
    (l0 / 4294967296 + l1 % 4294967296 + l2 % 4294967296) * 4294967296 % 18446744073709551616 + l0 % 4294967296 = x * y % 18446744073709551616 := by
  obtain ⟨e, b0, b1, b2, b3⟩ := h
  generalize x * y = t at *
  omega

/-- A product, cut by a number; an error: an argument that may not be, more than there may be. -/
def mdE (a b c : Int) : Int := if a < 0 ∨ b < 0 ∨ c < 1 then 1 else if a * b / c > 288230376151711744 then 2 else 0
def mdQ (a b c : Int) : Int := if a < 0 ∨ b < 0 ∨ c < 1 then 0 else if a * b / c > 288230376151711744 then 0 else a * b / c
def mdR (a b c : Int) : Int := if a < 0 ∨ b < 0 ∨ c < 1 then 0 else if a * b / c > 288230376151711744 then 0 else a * b % c

def partS (v q n : Int) : Int :=
  if n < 1 ∨ q < 0 ∨ q > n ∨ inB v = false then 0 else if v < 0 then -(-v * q / n) else v * q / n

theorem ret_bool {a b : Bool} (h : a = b) : Ending.returned (.bool a) = .returned (.bool b) := by rw [h]
theorem ret_int {k : IntKind} {a b : Int} (h : a = b) : Ending.returned (.int k a) = .returned (.int k b) := by rw [h]
theorem ret_ii {k j : IntKind} {a b c d : Int} (h1 : a = c) (h2 : b = d) : Ending.returned (.tuple #[.int k a, .int j b]) = .returned (.tuple #[.int k c, .int j d]) := by rw [h1, h2]
theorem ret_iii {k j i : IntKind} {a b c d e f : Int} (h1 : a = c) (h2 : b = d) (h3 : e = f) : Ending.returned (.tuple #[.int k a, .int j b, .int i e]) = .returned (.tuple #[.int k c, .int j d, .int i f]) := by rw [h1, h2, h3]
end Go.Proofs.Ytnkdbjmfpebcgaa
