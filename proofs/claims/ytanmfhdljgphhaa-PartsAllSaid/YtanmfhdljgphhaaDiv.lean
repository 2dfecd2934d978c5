/-
  math/bits.Div64: the quotient and what is left of 128 bits by a number greater than the high half. The world is as it was, but for draws.
-/
import Derived.Test.YtanmfhdljgphhaaMoney2
import Derived.Test.YtanmfhdljgphhaaKnuth
import Derived.Lib.Hide
namespace Go.Proofs.Ytanmfhdljgphhaa
open Go.RowKit

set_option maxHeartbeats 400000 in
theorem Div64_zero (lo y : Int) (w : World) (hl : 0 ≤ lo) (hl' : lo < 18446744073709551616) (hy : 0 < y) :
    Calls Try.prog 24 #[.int .u64 0, .int .u64 lo, .int .u64 y] w fun e w' => e = .returned (.tuple #[.int .u64 (lo / y), .int .u64 (lo % y)]) ∧ Below w.heap.size w w' := by
  have hy0 : (y == 0) = false := by simp; omega
  go_enter Try.func24, Try.ntmps24
  go_wp2
  go_quiet (fail)
  go_wp2
  go_ret2
  have e0 := Int.ediv_nonneg hl (show 0 ≤ y by omega)
  have e1 := Int.ediv_le_self y hl
  refine ⟨ret_ii ?_ ?_, below_drewN (Below.refl _ _) _⟩
  · rfl
  · rfl

theorem or_shift (x z : Int) (k : Nat) (hk : k ≤ 63) (h : 0 ≤ x) (h' : x * 2 ^ k < 18446744073709551616) (hz : 0 ≤ z) (hz' : z < 18446744073709551616) :
    bits BinOp.or IntKind.u64 (IntKind.u64.wrap (x * 2 ^ k)) (z / 2 ^ (64 - k)) = x * 2 ^ k + z / 2 ^ (64 - k) := by
  obtain ⟨n, rfl⟩ : ∃ n : Nat, x = n := ⟨x.toNat, by omega⟩
  obtain ⟨m, rfl⟩ : ∃ m : Nat, z = m := ⟨z.toNat, by omega⟩
  have c1 : ((n : Int) * 2 ^ k) = ((n * 2 ^ k : Nat) : Int) := by push_cast; rfl
  have c2 : ((m : Int) / 2 ^ (64 - k)) = ((m / 2 ^ (64 - k) : Nat) : Int) := by push_cast; rfl
  have hm : m / 2 ^ (64 - k) < 2 ^ k := by
    apply Nat.div_lt_of_lt_mul
    rw [← Nat.pow_add, show 64 - k + k = 64 by omega]
    omega
  have hm2 : m / 2 ^ (64 - k) ≤ m := Nat.div_le_self _ _
  rw [c1] at h' ⊢
  rw [wrap_small (by omega) h', c2, bits_or_u64_nat _ _ (by omega) (by omega)]
  rw [Nat.mul_comm n, ← Nat.two_pow_add_eq_or_of_lt hm]
  push_cast; rfl

/-- What is shifted: the high half, the low half. -/
theorem shift_parts (hi lo y : Int) (k : Nat) (hk : k ≤ 63) (h : 0 ≤ hi) (h' : hi < y) (hl : 0 ≤ lo) (hl' : lo < 18446744073709551616) (hY : y * 2 ^ k < 18446744073709551616) :
    bits BinOp.or IntKind.u64 (IntKind.u64.wrap (hi * 2 ^ k)) (lo / 2 ^ (64 - k)) * 18446744073709551616 + IntKind.u64.wrap (lo * 2 ^ k) = (hi * 18446744073709551616 + lo) * 2 ^ k ∧
    0 ≤ bits BinOp.or IntKind.u64 (IntKind.u64.wrap (hi * 2 ^ k)) (lo / 2 ^ (64 - k)) ∧ bits BinOp.or IntKind.u64 (IntKind.u64.wrap (hi * 2 ^ k)) (lo / 2 ^ (64 - k)) < y * 2 ^ k := by
  have pp : (0 : Int) < 2 ^ k := Int.pow_pos (by omega)
  have hh : hi * 2 ^ k < y * 2 ^ k := Int.mul_lt_mul_of_pos_right h' pp
  rw [or_shift hi lo k hk h (by omega) hl hl']
  have qp : (0 : Int) < 2 ^ (64 - k) := Int.pow_pos (by omega)
  have pq : (2 : Int) ^ (64 - k) * 2 ^ k = 18446744073709551616 := by
    rw [← Int.pow_add, show 64 - k + k = 64 by omega]; rfl
  have d := Int.mul_ediv_add_emod lo (2 ^ (64 - k))
  have r0 := Int.emod_nonneg lo (show (2 : Int) ^ (64 - k) ≠ 0 by omega)
  have r1 := Int.emod_lt_of_pos lo qp
  have z0 : 0 ≤ lo / 2 ^ (64 - k) := Int.ediv_nonneg hl (by omega)
  have e : lo * 2 ^ k = lo / 2 ^ (64 - k) * 18446744073709551616 + lo % 2 ^ (64 - k) * 2 ^ k := by
    conv => lhs; rw [← d]
    rw [Int.add_mul, Int.mul_comm (2 ^ (64 - k)) (lo / 2 ^ (64 - k)), Int.mul_assoc, pq]
  have b1 : lo % 2 ^ (64 - k) * 2 ^ k < 18446744073709551616 := by
    rw [← pq]; exact Int.mul_lt_mul_of_pos_right r1 pp
  have b0 : 0 ≤ lo % 2 ^ (64 - k) * 2 ^ k := Int.mul_nonneg r0 (by omega)
  have w1 : IntKind.u64.wrap (lo * 2 ^ k) = lo % 2 ^ (64 - k) * 2 ^ k := by
    rw [IntKind.wrap_u64, e]
    generalize lo % 2 ^ (64 - k) * 2 ^ k = t at *
    generalize lo / 2 ^ (64 - k) = v at *
    omega
  rw [w1]
  have lt1 : lo / 2 ^ (64 - k) < 2 ^ k := by
    apply Int.ediv_lt_of_lt_mul qp
    rw [Int.mul_comm, pq]; exact hl'
  have hn : 0 ≤ hi * 2 ^ k := Int.mul_nonneg h (by omega)
  refine ⟨?_, by omega, ?_⟩
  · rw [Int.add_mul (hi * 18446744073709551616), e]
    rw [show hi * 18446744073709551616 * 2 ^ k = hi * 2 ^ k * 18446744073709551616 by rw [Int.mul_assoc, Int.mul_comm 18446744073709551616, ← Int.mul_assoc]]
    generalize lo % 2 ^ (64 - k) * 2 ^ k = t at *
    generalize lo / 2 ^ (64 - k) = v at *
    generalize hi * 2 ^ k = u at *
    omega
  · have h1 := Int.mul_le_mul_of_nonneg_right (show hi + 1 ≤ y by omega) (show (0 : Int) ≤ 2 ^ k by omega)
    rw [Int.add_mul, Int.one_mul] at h1
    omega

theorem start_wrap {U Y : Int} (hY : 9223372036854775808 ≤ Y ∧ Y < 18446744073709551616) (h0 : 0 ≤ U) (h1 : U < Y) :
    IntKind.u64.wrap (U - IntKind.u64.wrap (U / (Y / 4294967296) * (Y / 4294967296))) = U - U / (Y / 4294967296) * (Y / 4294967296) := by
  have E := @est_start U 0 Y hY ⟨h0, h1⟩ (by omega)
  have := E.rb
  have := E.e
  have m := Int.mul_nonneg E.qb.1 (show 0 ≤ Y / 4294967296 by omega)
  simp only [IntKind.wrap_u64]
  omega

set_option maxHeartbeats 1000000 in
theorem Div64_more (hi lo y : Int) (w : World) (h : 0 < hi) (h' : hi < y) (hl : 0 ≤ lo) (hl' : lo < 18446744073709551616) (hy' : y < 18446744073709551616) :
    Calls Try.prog 24 #[.int .u64 hi, .int .u64 lo, .int .u64 y] w fun e w' => e = .returned (.tuple #[.int .u64 ((hi * 18446744073709551616 + lo) / y), .int .u64 ((hi * 18446744073709551616 + lo) % y)]) ∧ Below w.heap.size w w' := by
  have hy0 : (y == 0) = false := by simp; omega
  have hy : 0 < y := by omega
  have hH : (hi * 18446744073709551616 + lo) / y < 18446744073709551616 := by
    apply Int.ediv_lt_of_lt_mul hy
    omega
  obtain ⟨s63, y1, y2⟩ := shiftOf_law y (by omega) (by omega)
  have k1 : IntKind.u64.wrap ↑(shiftOf y) = ((shiftOf y : Nat) : Int) := wrap_small (by omega) (by omega)
  have k2 : min (IntKind.u64.wrap ↑(shiftOf y)).toNat 64 = shiftOf y := by rw [k1]; omega
  have k3 : min (IntKind.u64.wrap (64 - IntKind.u64.wrap ↑(shiftOf y))).toNat 64 = 64 - shiftOf y := by
    rw [k1, wrap_small (by omega) (by omega)]; omega
  have K1 := Lib.hid k1; have K2 := Lib.hid k2; have K3 := Lib.hid k3; clear k1 k2 k3
  have S := shift_parts hi lo y (shiftOf y) s63 (by omega) h' hl hl' y2
  have T := @shifted (hi * 18446744073709551616 + lo) y (2 ^ shiftOf y) (Int.pow_pos (by omega))
  have HY : IntKind.u64.wrap (y * 2 ^ shiftOf y) = y * 2 ^ shiftOf y := wrap_small (by omega) y2
  obtain ⟨S1, S2, S3⟩ := S
  have HS1 := Lib.hid S1; have HT := Lib.hid T; have HY := Lib.hid HY; clear S1 T
  go_enter Try.func24, Try.ntmps24
  go_wp2_with (go_at_call 31; refine (bits_LeadingZeros64 _ _ (by omega) (by omega)).mono ?_; rintro e w' ⟨rfl, rfl⟩)
  generalize hgu : bits BinOp.or IntKind.u64 (IntKind.u64.wrap (hi * 2 ^ shiftOf y)) (lo / 2 ^ (64 - shiftOf y)) = U at *
  generalize hgl : IntKind.u64.wrap (lo * 2 ^ shiftOf y) = L at *
  have L0 : 0 ≤ L ∧ L < 18446744073709551616 := by rw [← hgl, IntKind.wrap_u64]; omega
  rw [and_mask32 L L0.1 L0.2]
  have hyy := y2
  generalize hgy : y * 2 ^ shiftOf y = Y at *
  rw [and_mask32 Y (by omega) (by omega)]
  clear hgu hgl
  have Hgy := Lib.hid hgy; clear hgy
  have Hs : IntKind.u64.wrap ↑(shiftOf y) = ((shiftOf y : Nat) : Int) := K1.out
  have E := @est_start U (L / 4294967296) Y ⟨y1, y2⟩ ⟨S2, S3⟩ (by omega)
  have e16 := start_wrap ⟨y1, y2⟩ S2 S3
  rw [e16]
  clear Hs e16
  go_loop [15, 16] (fun q r => ∃ a b : Int, q = .int .u64 a ∧ r = .int .u64 b ∧ Est U (L / 4294967296) Y a b) (fun q _ => (intOf q).toNat)
  case atStart => exact ⟨_, _, rfl, rfl, E⟩
  case round =>
    obtain ⟨q, r, rfl, rfl, E⟩ := hrel
    have E' := E
    obtain ⟨-, -, hd, He, hq, hr, Hbig⟩ := E'
    have He := Lib.hid He
    have hw : q < 4294967296 → IntKind.u64.wrap (q * (Y % 4294967296)) = q * (Y % 4294967296) := fun g => by
      have m := mul_bd hq.1 (show q ≤ 4294967295 by omega) (show 0 ≤ Y % 4294967296 by omega) (show Y % 4294967296 ≤ 4294967295 by omega)
      exact wrap_small m.1 (by omega)
    have hw := Lib.hid hw
    by_cases t : 4294967296 ≤ q ∨ 4294967296 * r + L / 4294967296 < q * (Y % 4294967296)
    · have low := est_low E t
      obtain ⟨q0, q1, -, -⟩ := low
      by_cases c : r + Y / 4294967296 < 4294967296
      · have N := est_next E t c
        clear Hbig
        by_cases c2 : 4294967296 ≤ q
        · clear t
          go_wp2
          go_round
          case rel => exact ⟨_, _, rfl, rfl, N⟩
          case measure => simp [intOf]; omega
        · have t2 : 4294967296 * r + L / 4294967296 < IntKind.u64.wrap (q * (Y % 4294967296)) := by rw [hw.out (by omega)]; omega
          clear t
          go_wp2
          go_round
          case rel => exact ⟨_, _, rfl, rfl, N⟩
          case measure => simp [intOf]; omega
      · have D := digit_break E t (by omega)
        obtain ⟨V, hV1, hV2, V0, V1⟩ := digit_left D y2
        have HV2 := Lib.hid hV2
        clear hV2 Hbig
        by_cases c2 : 4294967296 ≤ q
        · clear t
          go_wp2
          have e16 : IntKind.u64.wrap (V - IntKind.u64.wrap (V / (Y / 4294967296) * (Y / 4294967296))) = V - V / (Y / 4294967296) * (Y / 4294967296) := start_wrap ⟨y1, y2⟩ V0 V1
          have E0 := @est_start V (L % 4294967296) Y ⟨y1, y2⟩ ⟨V0, V1⟩ (by omega)
          rw [e16]
          clear e16 E hw He hV1
          go_loop [18, 16] (fun q r => ∃ a b : Int, q = .int .u64 a ∧ r = .int .u64 b ∧ Est V (L % 4294967296) Y a b) (fun q _ => (intOf q).toNat)
          case atStart => exact ⟨_, _, rfl, rfl, E0⟩
          case round =>
            clear E0
            obtain ⟨p, o, rfl, rfl, E⟩ := hrel
            have E' := E
            obtain ⟨-, -, gd, Ge, gq, gr, Gbig⟩ := E'
            have Ge := Lib.hid Ge
            have gw : p < 4294967296 → IntKind.u64.wrap (p * (Y % 4294967296)) = p * (Y % 4294967296) := fun g => by
              have m := mul_bd gq.1 (show p ≤ 4294967295 by omega) (show 0 ≤ Y % 4294967296 by omega) (show Y % 4294967296 ≤ 4294967295 by omega)
              exact wrap_small m.1 (by omega)
            have gw := Lib.hid gw
            by_cases s : 4294967296 ≤ p ∨ 4294967296 * o + L % 4294967296 < p * (Y % 4294967296)
            · have low := est_low E s
              obtain ⟨p0, p1, -, -⟩ := low
              by_cases c : o + Y / 4294967296 < 4294967296
              · have N := est_next E s c
                clear Gbig
                by_cases c2 : 4294967296 ≤ p
                · clear s
                  go_wp2
                  go_round
                  case rel => exact ⟨_, _, rfl, rfl, N⟩
                  case measure => simp [intOf]; omega
                · have s2 : 4294967296 * o + L % 4294967296 < IntKind.u64.wrap (p * (Y % 4294967296)) := by rw [gw.out (by omega)]; omega
                  clear s
                  go_wp2
                  go_round
                  case rel => exact ⟨_, _, rfl, rfl, N⟩
                  case measure => simp [intOf]; omega
              · have D0 := digit_break E s (by omega)
                have R := div_end rfl Hgy.out.symm hy hyy HS1.out hH D HV2.out D0
                clear Gbig
                by_cases c2 : 4294967296 ≤ p
                · clear s
                  go_wp2
                  go_ret2
                  exact ⟨by first | rfl | trivial, Below.refl _ _⟩
                · have s2 : 4294967296 * o + L % 4294967296 < IntKind.u64.wrap (p * (Y % 4294967296)) := by rw [gw.out (by omega)]; omega
                  clear s
                  go_wp2
                  go_ret2
                  exact ⟨by first | rfl | trivial, Below.refl _ _⟩
            · have D0 := digit_stop E (by omega) (by omega)
              have R := div_end rfl Hgy.out.symm hy hyy HS1.out hH D HV2.out D0
              clear Gbig
              have s2 : ¬ 4294967296 * o + L % 4294967296 < IntKind.u64.wrap (p * (Y % 4294967296)) := by rw [gw.out (by omega)]; omega
              have s3 : ¬ 4294967296 ≤ p := by omega
              clear s
              go_wp2
              go_ret2
              exact ⟨by first | rfl | trivial, Below.refl _ _⟩
        · have t2 : 4294967296 * r + L / 4294967296 < IntKind.u64.wrap (q * (Y % 4294967296)) := by rw [hw.out (by omega)]; omega
          clear t
          go_wp2
          have e16 : IntKind.u64.wrap (V - IntKind.u64.wrap (V / (Y / 4294967296) * (Y / 4294967296))) = V - V / (Y / 4294967296) * (Y / 4294967296) := start_wrap ⟨y1, y2⟩ V0 V1
          have E0 := @est_start V (L % 4294967296) Y ⟨y1, y2⟩ ⟨V0, V1⟩ (by omega)
          rw [e16]
          clear e16 E hw He hV1
          go_loop [18, 16] (fun q r => ∃ a b : Int, q = .int .u64 a ∧ r = .int .u64 b ∧ Est V (L % 4294967296) Y a b) (fun q _ => (intOf q).toNat)
          case atStart => exact ⟨_, _, rfl, rfl, E0⟩
          case round =>
            clear E0
            obtain ⟨p, o, rfl, rfl, E⟩ := hrel
            have E' := E
            obtain ⟨-, -, gd, Ge, gq, gr, Gbig⟩ := E'
            have Ge := Lib.hid Ge
            have gw : p < 4294967296 → IntKind.u64.wrap (p * (Y % 4294967296)) = p * (Y % 4294967296) := fun g => by
              have m := mul_bd gq.1 (show p ≤ 4294967295 by omega) (show 0 ≤ Y % 4294967296 by omega) (show Y % 4294967296 ≤ 4294967295 by omega)
              exact wrap_small m.1 (by omega)
            have gw := Lib.hid gw
            by_cases s : 4294967296 ≤ p ∨ 4294967296 * o + L % 4294967296 < p * (Y % 4294967296)
            · have low := est_low E s
              obtain ⟨p0, p1, -, -⟩ := low
              by_cases c : o + Y / 4294967296 < 4294967296
              · have N := est_next E s c
                clear Gbig
                by_cases c2 : 4294967296 ≤ p
                · clear s
                  go_wp2
                  go_round
                  case rel => exact ⟨_, _, rfl, rfl, N⟩
                  case measure => simp [intOf]; omega
                · have s2 : 4294967296 * o + L % 4294967296 < IntKind.u64.wrap (p * (Y % 4294967296)) := by rw [gw.out (by omega)]; omega
                  clear s
                  go_wp2
                  go_round
                  case rel => exact ⟨_, _, rfl, rfl, N⟩
                  case measure => simp [intOf]; omega
              · have D0 := digit_break E s (by omega)
                have R := div_end rfl Hgy.out.symm hy hyy HS1.out hH D HV2.out D0
                clear Gbig
                by_cases c2 : 4294967296 ≤ p
                · clear s
                  go_wp2
                  go_ret2
                  exact ⟨by first | rfl | trivial, Below.refl _ _⟩
                · have s2 : 4294967296 * o + L % 4294967296 < IntKind.u64.wrap (p * (Y % 4294967296)) := by rw [gw.out (by omega)]; omega
                  clear s
                  go_wp2
                  go_ret2
                  exact ⟨by first | rfl | trivial, Below.refl _ _⟩
            · have D0 := digit_stop E (by omega) (by omega)
              have R := div_end rfl Hgy.out.symm hy hyy HS1.out hH D HV2.out D0
              clear Gbig
              have s2 : ¬ 4294967296 * o + L % 4294967296 < IntKind.u64.wrap (p * (Y % 4294967296)) := by rw [gw.out (by omega)]; omega
              have s3 : ¬ 4294967296 ≤ p := by omega
              clear s
              go_wp2
              go_ret2
              exact ⟨by first | rfl | trivial, Below.refl _ _⟩
    · have D := digit_stop E (by omega) (by omega)
      obtain ⟨V, hV1, hV2, V0, V1⟩ := digit_left D y2
      have HV2 := Lib.hid hV2
      clear hV2 Hbig
      have t2 : ¬ 4294967296 * r + L / 4294967296 < IntKind.u64.wrap (q * (Y % 4294967296)) := by rw [hw.out (by omega)]; omega
      have t3 : ¬ 4294967296 ≤ q := by omega
      clear t
      go_wp2
      have e16 : IntKind.u64.wrap (V - IntKind.u64.wrap (V / (Y / 4294967296) * (Y / 4294967296))) = V - V / (Y / 4294967296) * (Y / 4294967296) := start_wrap ⟨y1, y2⟩ V0 V1
      have E0 := @est_start V (L % 4294967296) Y ⟨y1, y2⟩ ⟨V0, V1⟩ (by omega)
      rw [e16]
      clear e16 E hw He hV1
      go_loop [18, 16] (fun q r => ∃ a b : Int, q = .int .u64 a ∧ r = .int .u64 b ∧ Est V (L % 4294967296) Y a b) (fun q _ => (intOf q).toNat)
      case atStart => exact ⟨_, _, rfl, rfl, E0⟩
      case round =>
        clear E0
        obtain ⟨p, o, rfl, rfl, E⟩ := hrel
        have E' := E
        obtain ⟨-, -, gd, Ge, gq, gr, Gbig⟩ := E'
        have Ge := Lib.hid Ge
        have gw : p < 4294967296 → IntKind.u64.wrap (p * (Y % 4294967296)) = p * (Y % 4294967296) := fun g => by
          have m := mul_bd gq.1 (show p ≤ 4294967295 by omega) (show 0 ≤ Y % 4294967296 by omega) (show Y % 4294967296 ≤ 4294967295 by omega)
          exact wrap_small m.1 (by omega)
        have gw := Lib.hid gw
        by_cases s : 4294967296 ≤ p ∨ 4294967296 * o + L % 4294967296 < p * (Y % 4294967296)
        · have low := est_low E s
          obtain ⟨p0, p1, -, -⟩ := low
          by_cases c : o + Y / 4294967296 < 4294967296
          · have N := est_next E s c
            clear Gbig
            by_cases c2 : 4294967296 ≤ p
            · clear s
              go_wp2
              go_round
              case rel => exact ⟨_, _, rfl, rfl, N⟩
              case measure => simp [intOf]; omega
            · have s2 : 4294967296 * o + L % 4294967296 < IntKind.u64.wrap (p * (Y % 4294967296)) := by rw [gw.out (by omega)]; omega
              clear s
              go_wp2
              go_round
              case rel => exact ⟨_, _, rfl, rfl, N⟩
              case measure => simp [intOf]; omega
          · have D0 := digit_break E s (by omega)
            have R := div_end rfl Hgy.out.symm hy hyy HS1.out hH D HV2.out D0
            clear Gbig
            by_cases c2 : 4294967296 ≤ p
            · clear s
              go_wp2
              go_ret2
              exact ⟨by first | rfl | trivial, Below.refl _ _⟩
            · have s2 : 4294967296 * o + L % 4294967296 < IntKind.u64.wrap (p * (Y % 4294967296)) := by rw [gw.out (by omega)]; omega
              clear s
              go_wp2
              go_ret2
              exact ⟨by first | rfl | trivial, Below.refl _ _⟩
        · have D0 := digit_stop E (by omega) (by omega)
          have R := div_end rfl Hgy.out.symm hy hyy HS1.out hH D HV2.out D0
          clear Gbig
          have s2 : ¬ 4294967296 * o + L % 4294967296 < IntKind.u64.wrap (p * (Y % 4294967296)) := by rw [gw.out (by omega)]; omega
          have s3 : ¬ 4294967296 ≤ p := by omega
          clear s
          go_wp2
          go_ret2
          exact ⟨by first | rfl | trivial, Below.refl _ _⟩
end Go.Proofs.Ytanmfhdljgphhaa
