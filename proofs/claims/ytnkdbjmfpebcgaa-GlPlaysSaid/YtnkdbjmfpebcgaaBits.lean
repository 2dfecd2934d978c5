/-
  math/bits: how many leading zeros a number has. The world is as it was.
-/
import Derived.Test.YtnkdbjmfpebcgaaMath
import Derived.Test.YtnkdbjmfpebcgaaProg
import Derived.Lib.BitFns
import Derived.Lib.ItoaNum
import Derived.Lib.Small
import Derived.Lib.Strings
import Derived.Lib.Slices
import Derived.Lib.Walk
import Derived.WalkSpells
import Derived.WalkLawsBesides
namespace Go.Proofs.Ytnkdbjmfpebcgaa
open Go.RowKit

set_option maxRecDepth 100000 in
theorem len8_size : (255 : Int) < (Lib.len8tab.size : Int) := by
  have : Lib.len8tab.size = 256 := by decide
  omega
theorem len8_fin : ∀ n : Fin 256, (Lib.len8tab[n.val]?.map (·.toNat)) = some (Lib.bitLen n.val) := by decide +kernel
theorem len8_at (y : Int) (h0 : 0 ≤ y) (h1 : y ≤ 255) (h : y.toNat < Lib.len8tab.size) : wrap64 ((Lib.len8tab[y.toNat]'h).toNat : Int) = (Lib.bitLen y.toNat : Int) := by
  have e := len8_fin ⟨y.toNat, by omega⟩
  have b : Lib.bitLen y.toNat ≤ 8 := Lib.bitLen_le8' y h0 h1
  simp only [getElem?_pos Lib.len8tab y.toNat h, Option.map_some, Option.some.injEq] at e
  rw [e]; unfold wrap64; omega
theorem len8_way (x y j : Int) (k : Nat) (hj : j = k) (hk : k ≤ 56) (h0 : 0 ≤ y) (h1 : y ≤ 255) (h : y.toNat < Lib.len8tab.size) (e : Lib.bitLen x.toNat = k + Lib.bitLen y.toNat) :
    wrap64 (j + wrap64 ((Lib.len8tab[y.toNat]'h).toNat : Int)) = (Lib.bitLen x.toNat : Int) := by
  have b : Lib.bitLen y.toNat ≤ 8 := Lib.bitLen_le8' y h0 h1
  rw [len8_at y h0 h1 h, e]; unfold wrap64; omega
theorem len8_way0 (x : Int) (h0 : 0 ≤ x) (h1 : x ≤ 255) (h : x.toNat < Lib.len8tab.size) : wrap64 (wrap64 ((Lib.len8tab[x.toNat]'h).toNat : Int)) = (Lib.bitLen x.toNat : Int) := by
  have b : Lib.bitLen x.toNat ≤ 8 := Lib.bitLen_le8' x h0 h1
  rw [len8_at x h0 h1 h]; unfold wrap64; omega
theorem shift_56 (x : Int) (h0 : 72057594037927936 ≤ x) (h1 : x ≤ 18446744073709551615) : Lib.bitLen x.toNat = 56 + Lib.bitLen (x / 4294967296 / 65536 / 256).toNat := by
  rw [show (x / 4294967296 / 65536 / 256).toNat = x.toNat / 72057594037927936 from by omega]
  exact Lib.bitLen_shift56 x.toNat (by omega) (by omega)
theorem shift_48 (x : Int) (h0 : 281474976710656 ≤ x) (h1 : x ≤ 18446744073709551615) : Lib.bitLen x.toNat = 48 + Lib.bitLen (x / 4294967296 / 65536).toNat := by
  rw [show (x / 4294967296 / 65536).toNat = x.toNat / 281474976710656 from by omega]
  exact Lib.bitLen_shift48 x.toNat (by omega) (by omega)
theorem shift_40 (x : Int) (h0 : 1099511627776 ≤ x) (h1 : x ≤ 18446744073709551615) : Lib.bitLen x.toNat = 40 + Lib.bitLen (x / 4294967296 / 256).toNat := by
  rw [show (x / 4294967296 / 256).toNat = x.toNat / 1099511627776 from by omega]
  exact Lib.bitLen_shift40 x.toNat (by omega) (by omega)
theorem shift_32 (x : Int) (h0 : 4294967296 ≤ x) (h1 : x ≤ 18446744073709551615) : Lib.bitLen x.toNat = 32 + Lib.bitLen (x / 4294967296).toNat := by
  rw [show (x / 4294967296).toNat = x.toNat / 4294967296 from by omega]
  exact Lib.bitLen_shift32 x.toNat (by omega) (by omega)
theorem shift_24 (x : Int) (h0 : 16777216 ≤ x) (h1 : x ≤ 18446744073709551615) : Lib.bitLen x.toNat = 24 + Lib.bitLen (x / 65536 / 256).toNat := by
  rw [show (x / 65536 / 256).toNat = x.toNat / 16777216 from by omega]
  exact Lib.bitLen_shift24 x.toNat (by omega) (by omega)
theorem shift_16 (x : Int) (h0 : 65536 ≤ x) (h1 : x ≤ 18446744073709551615) : Lib.bitLen x.toNat = 16 + Lib.bitLen (x / 65536).toNat := by
  rw [show (x / 65536).toNat = x.toNat / 65536 from by omega]
  exact Lib.bitLen_shift16 x.toNat (by omega) (by omega)
theorem shift_8 (x : Int) (h0 : 256 ≤ x) (h1 : x ≤ 18446744073709551615) : Lib.bitLen x.toNat = 8 + Lib.bitLen (x / 256).toNat := by
  rw [show (x / 256).toNat = x.toNat / 256 from by omega]
  exact Lib.bitLen_shift8 x.toNat (by omega) (by omega)

/-- How far y may be shifted: its first bit is then the first of 64. -/
def shiftOf (y : Int) : Nat := 64 - Lib.bitLen y.toNat
theorem shiftOf_law (y : Int) (h0 : 0 < y) (h1 : y ≤ 18446744073709551615) :
    shiftOf y ≤ 63 ∧ 9223372036854775808 ≤ y * 2 ^ shiftOf y ∧ y * 2 ^ shiftOf y < 18446744073709551616 := by
  have hb := Lib.bitLenAux_bounds 64 y.toNat (by omega) (by omega)
  obtain ⟨a, b, c⟩ := hb
  change 1 ≤ Lib.bitLen y.toNat at a
  change 2 ^ (Lib.bitLen y.toNat - 1) ≤ y.toNat at b
  change y.toNat < 2 ^ Lib.bitLen y.toNat at c
  have d : Lib.bitLen y.toNat ≤ 64 := Lib.bitLen_le y.toNat 64 (by omega) (by omega)
  unfold shiftOf
  generalize Lib.bitLen y.toNat = n at *
  obtain ⟨m, rfl⟩ : ∃ m : Nat, y = m := ⟨y.toNat, by omega⟩
  simp only [Int.toNat_natCast] at b c
  have e1 : 2 ^ (n - 1) * 2 ^ (64 - n) = 2 ^ 63 := by rw [← Nat.pow_add]; congr 1; omega
  have e2 : 2 ^ n * 2 ^ (64 - n) = 2 ^ 64 := by rw [← Nat.pow_add]; congr 1; omega
  have hp : 0 < 2 ^ (64 - n) := Nat.pow_pos (by omega)
  have f1 := Nat.mul_le_mul_right (2 ^ (64 - n)) b
  have f2 := Nat.mul_lt_mul_of_pos_right c hp
  rw [e1] at f1
  rw [e2] at f2
  have g : ((m : Int) * 2 ^ (64 - n)) = ((m * 2 ^ (64 - n) : Nat) : Int) := by push_cast; rfl
  rw [g]
  refine ⟨by omega, ?_, ?_⟩
  · have : (2:Nat) ^ 63 = 9223372036854775808 := by decide
    omega
  · have : (2:Nat) ^ 64 = 18446744073709551616 := by decide
    omega

end Go.Proofs.Ytnkdbjmfpebcgaa