/-
  A digit of a long division: the estimate is lowered until it is right. Plain arithmetic.
-/
import Derived.Test.YtnkdbjmfpebcgaaMath
namespace Go.Proofs.Ytnkdbjmfpebcgaa
/-- An estimate q of (u * B + d) / Y, what is left r: not too small; r is below B. -/
structure Est (u d Y q r : Int) : Prop where
  y : 9223372036854775808 ≤ Y ∧ Y < 18446744073709551616
  ub : 0 ≤ u ∧ u < Y
  db : 0 ≤ d ∧ d < 4294967296
  e : q * (Y / 4294967296) + r = u
  qb : 0 ≤ q ∧ q ≤ 4294967297
  rb : 0 ≤ r ∧ r < 4294967296
  big : u * 4294967296 + d < (q + 1) * Y

theorem part_mul (q Y : Int) : q * Y = q * (Y / 4294967296) * 4294967296 + q * (Y % 4294967296) := by
  have h : Y = Y / 4294967296 * 4294967296 + Y % 4294967296 := by omega
  have h2 : q * Y = q * (Y / 4294967296 * 4294967296 + Y % 4294967296) := by rw [← h]
  rw [h2, Int.mul_add, ← Int.mul_assoc]

theorem est_start {u d Y : Int} (hY : 9223372036854775808 ≤ Y ∧ Y < 18446744073709551616) (hu : 0 ≤ u ∧ u < Y) (hd : 0 ≤ d ∧ d < 4294967296) :
    Est u d Y (u / (Y / 4294967296)) (u - u / (Y / 4294967296) * (Y / 4294967296)) := by
  have hy1 : 2147483648 ≤ Y / 4294967296 ∧ Y / 4294967296 ≤ 4294967295 := by omega
  have e := Int.mul_ediv_add_emod u (Y / 4294967296)
  have r0 := Int.emod_nonneg u (show Y / 4294967296 ≠ 0 by omega)
  have r1 := Int.emod_lt_of_pos u (show 0 < Y / 4294967296 by omega)
  have q0 : 0 ≤ u / (Y / 4294967296) := Int.ediv_nonneg hu.1 (by omega)
  have q1 : u / (Y / 4294967296) < 4294967298 := by
    apply Int.ediv_lt_of_lt_mul (by omega)
    omega
  rw [Int.mul_comm] at e
  have p := part_mul (u / (Y / 4294967296) + 1) Y
  have m := Int.mul_nonneg (show 0 ≤ u / (Y / 4294967296) + 1 by omega) (show 0 ≤ Y % 4294967296 by omega)
  rw [Int.add_mul, Int.one_mul] at p
  rw [show (u / (Y / 4294967296) + 1) * (Y / 4294967296) = u / (Y / 4294967296) * (Y / 4294967296) + Y / 4294967296 by rw [Int.add_mul, Int.one_mul]] at p
  refine ⟨hY, hu, hd, by omega, ⟨q0, by omega⟩, by omega, ?_⟩
  rw [Int.add_mul, Int.one_mul]
  generalize u / (Y / 4294967296) * (Y / 4294967296) = a at *
  generalize u / (Y / 4294967296) * Y = b at *
  generalize (u / (Y / 4294967296) + 1) * (Y % 4294967296) = c at *
  generalize u % (Y / 4294967296) = r at *
  omega

theorem est_stop {u d Y q r : Int} (h : Est u d Y q r) (hq : q * (Y % 4294967296) ≤ 4294967296 * r + d) : q * Y ≤ u * 4294967296 + d := by
  have p := part_mul q Y
  have e := h.e
  generalize q * (Y / 4294967296) = a at *
  generalize q * Y = b at *
  generalize q * (Y % 4294967296) = c at *
  omega

/-- The test says yes: one less is still not too small. -/
theorem est_low {u d Y q r : Int} (h : Est u d Y q r) (ht : 4294967296 ≤ q ∨ 4294967296 * r + d < q * (Y % 4294967296)) :
    0 < q ∧ q - 1 ≤ 4294967296 ∧ (q - 1) * (Y / 4294967296) + (r + Y / 4294967296) = u ∧ u * 4294967296 + d < q * Y := by
  obtain ⟨hY, hu, hd, e, hq, hr, big⟩ := h
  have p := part_mul q Y
  have hy1 : 2147483648 ≤ Y / 4294967296 ∧ Y / 4294967296 ≤ 4294967295 := by omega
  have key : u * 4294967296 + d < q * Y := by
    rcases ht with ht | ht
    · have m := Int.mul_le_mul_of_nonneg_right ht (show 0 ≤ Y by omega)
      generalize q * Y = b at *
      omega
    · generalize q * (Y / 4294967296) = a at *
      generalize q * Y = b at *
      generalize q * (Y % 4294967296) = c at *
      omega
  have q0 : 0 < q := by
    rcases Int.lt_or_le 0 q with h | h
    · exact h
    · exfalso
      obtain rfl : q = 0 := by omega
      rw [Int.zero_mul] at key
      omega
  refine ⟨q0, by omega, ?_, key⟩
  rw [Int.sub_mul, Int.one_mul]
  omega

theorem est_next {u d Y q r : Int} (h : Est u d Y q r) (ht : 4294967296 ≤ q ∨ 4294967296 * r + d < q * (Y % 4294967296)) (hr : r + Y / 4294967296 < 4294967296) :
    Est u d Y (q - 1) (r + Y / 4294967296) := by
  obtain ⟨q0, q1, e, k⟩ := est_low h ht
  have := h.y
  have := h.rb
  exact ⟨h.y, h.ub, h.db, e, by omega, by omega, by rw [show q - 1 + 1 = q by omega]; exact k⟩

theorem est_break {u d Y q r : Int} (h : Est u d Y q r) (ht : 4294967296 ≤ q ∨ 4294967296 * r + d < q * (Y % 4294967296)) (hr : 4294967296 ≤ r + Y / 4294967296) :
    (q - 1) * Y ≤ u * 4294967296 + d := by
  obtain ⟨q0, q1, e, k⟩ := est_low h ht
  have p := part_mul (q - 1) Y
  have hd := h.db
  have m := mul_bd (show 0 ≤ q - 1 by omega) q1 (show 0 ≤ Y % 4294967296 by omega) (show Y % 4294967296 ≤ 4294967295 by omega)
  generalize (q - 1) * (Y / 4294967296) = a at *
  generalize (q - 1) * Y = b at *
  generalize (q - 1) * (Y % 4294967296) = c at *
  omega

/-- A digit that is right: not too great, one more is too great; it is below B. -/
structure Digit (u d Y q : Int) : Prop where
  le : q * Y ≤ u * 4294967296 + d
  lt : u * 4294967296 + d < q * Y + Y
  b : 0 ≤ q ∧ q < 4294967296

theorem digit_stop {u d Y q r : Int} (h : Est u d Y q r) (hb : q < 4294967296) (hq : q * (Y % 4294967296) ≤ 4294967296 * r + d) : Digit u d Y q := by
  have := h.big
  rw [Int.add_mul, Int.one_mul] at this
  exact ⟨est_stop h hq, this, h.qb.1, hb⟩
theorem digit_break {u d Y q r : Int} (h : Est u d Y q r) (ht : 4294967296 ≤ q ∨ 4294967296 * r + d < q * (Y % 4294967296)) (hr : 4294967296 ≤ r + Y / 4294967296) : Digit u d Y (q - 1) := by
  have a := est_break h ht hr
  obtain ⟨q0, q1, e, k⟩ := est_low h ht
  have hu := h.ub; have hd := h.db; have hY := h.y
  refine ⟨a, by rw [Int.sub_mul, Int.one_mul]; omega, by omega, ?_⟩
  rcases Int.lt_or_le (q - 1) 4294967296 with g | g
  · exact g
  · exfalso
    have m := Int.mul_le_mul_of_nonneg_right g (show 0 ≤ Y by omega)
    omega

/-- What is left of a digit, as the machine reckons it. -/
theorem left_law {u d Y q : Int} (h : Digit u d Y q) (hY : Y < 18446744073709551616) :
    IntKind.u64.wrap (IntKind.u64.wrap (IntKind.u64.wrap (u * 4294967296) + d) - IntKind.u64.wrap (q * Y)) = u * 4294967296 + d - q * Y := by
  obtain ⟨a, b, -⟩ := h
  simp only [IntKind.wrap_u64]
  generalize q * Y = t at *
  omega

theorem digit_left {u d Y q : Int} (h : Digit u d Y q) (hY : Y < 18446744073709551616) :
    ∃ V, IntKind.u64.wrap (IntKind.u64.wrap (IntKind.u64.wrap (u * 4294967296) + d) - IntKind.u64.wrap (q * Y)) = V ∧ V = u * 4294967296 + d - q * Y ∧ 0 ≤ V ∧ V < Y := by
  refine ⟨_, left_law h hY, rfl, ?_, ?_⟩
  · have := h.le; omega
  · have := h.lt; omega

/-- Two digits, and what is left, of a number that was shifted. -/
theorem two_digits {u d1 d0 Y q1 q0 : Int} (h1 : Digit u d1 Y q1) (h0 : Digit (u * 4294967296 + d1 - q1 * Y) d0 Y q0) (hY : 0 < Y) :
    (u * 18446744073709551616 + (d1 * 4294967296 + d0)) / Y = q1 * 4294967296 + q0 ∧
    (u * 18446744073709551616 + (d1 * 4294967296 + d0)) % Y = (u * 4294967296 + d1 - q1 * Y) * 4294967296 + d0 - q0 * Y := by
  obtain ⟨a1, b1, -⟩ := h1
  obtain ⟨a0, b0, -⟩ := h0
  have e : u * 18446744073709551616 + (d1 * 4294967296 + d0) = (u * 4294967296 + d1 - q1 * Y) * 4294967296 + d0 - q0 * Y + Y * (q1 * 4294967296 + q0) := by
    rw [Int.mul_add, ← Int.mul_assoc, Int.mul_comm Y q1, Int.mul_comm Y q0]
    generalize q1 * Y = t at *
    generalize q0 * Y = s at *
    omega
  rw [e]
  constructor
  · rw [Int.add_mul_ediv_left _ _ (by omega), Int.ediv_eq_zero_of_lt (by omega) (by omega)]; omega
  · rw [Int.add_mul_emod_self_left, Int.emod_eq_of_lt (by omega) (by omega)]

theorem shifted {H y P : Int} (hP : 0 < P) : H * P / (y * P) = H / y ∧ H * P % (y * P) = H % y * P := by
  constructor
  · exact Int.mul_ediv_mul_of_pos_left H y hP
  · rw [Int.mul_comm H P, Int.mul_comm y P, Int.mul_emod_mul_of_pos H y hP, Int.mul_comm]
/-- What the end of the division hands back. -/
theorem div_end {U L Y q1 q0 V H y P : Int} {s : Nat} (hP : P = 2 ^ s) (hY : Y = y * P) (hy : 0 < y) (hyy : Y < 18446744073709551616)
    (hU : U * 18446744073709551616 + L = H * P) (hq : H / y < 18446744073709551616) (d1 : Digit U (L / 4294967296) Y q1) (hV : V = U * 4294967296 + L / 4294967296 - q1 * Y) (d0 : Digit V (L % 4294967296) Y q0) :
    IntKind.u64.wrap (IntKind.u64.wrap (q1 * 4294967296) + q0) = H / y ∧ q1 * 4294967296 + q0 = H / y ∧
    IntKind.u64.wrap (IntKind.u64.wrap (IntKind.u64.wrap (V * 4294967296) + L % 4294967296) - IntKind.u64.wrap (q0 * Y)) / P = H % y := by
  have hPp : 0 < P := by rw [hP]; exact Int.pow_pos (by omega)
  have hYp : 0 < Y := by rw [hY]; exact Int.mul_pos hy hPp
  rw [left_law d0 hyy]
  rw [hV] at d0 ⊢
  have t := two_digits d1 d0 hYp
  rw [show L / 4294967296 * 4294967296 + L % 4294967296 = L by omega, hU, hY] at t
  have sh := @shifted H y P hPp
  rw [sh.1, sh.2] at t
  refine ⟨?_, t.1.symm, ?_⟩
  · rw [t.1] at hq ⊢
    have := d1.b
    have := d0.b
    simp only [IntKind.wrap_u64]
    omega
  · rw [hY, ← t.2]
    exact Int.mul_ediv_cancel _ (by omega)

end Go.Proofs.Ytnkdbjmfpebcgaa
