/-
  MoneyBack: a product cut and put together again. Its walk.
-/
import Derived.Test.YtoepflomapoidaaMoneyLaw
namespace Go.Proofs.Ytoepflomapoidaa
open Go.RowKit

theorem back_big {a b c : Int} (ha : 0 ≤ a) (ha' : a ≤ 9223372036854775807) (hb : 0 ≤ b) (hb' : b ≤ 9223372036854775807) (hc : 1 ≤ c) (hc' : c ≤ 9223372036854775807) (h : 288230376151711744 < a * b / c) :
    wideHi c 288230376151711744 ≤ wideHi a b := by
  unfold wideHi
  rw [u64_same ha (by omega), u64_same hb (by omega), u64_same (show 0 ≤ c by omega) (by omega), u64_same (show (0 : Int) ≤ 288230376151711744 by omega) (by omega)]
  have h1 := Int.mul_ediv_add_emod (a * b) c
  have h2 := Int.emod_nonneg (a * b) (show c ≠ 0 by omega)
  have h3 := Int.mul_le_mul_of_nonneg_left (show (288230376151711744 : Int) ≤ a * b / c by omega) (show 0 ≤ c by omega)
  apply Int.ediv_le_ediv (by omega)
  omega
theorem back_ok {a b c : Int} (ha : 0 ≤ a) (ha' : a ≤ 9223372036854775807) (hb : 0 ≤ b) (hb' : b ≤ 9223372036854775807) (hc : 1 ≤ c) (hc' : c ≤ 9223372036854775807) (h : ¬ 288230376151711744 < a * b / c) :
    0 ≤ a * b / c ∧ 0 ≤ a * b % c ∧ a * b % c < c ∧
    wideHi (a * b / c) c * 18446744073709551616 + wideLo (a * b / c) c + a * b % c = wideHi a b * 18446744073709551616 + wideLo a b := by
  have p0 := Int.mul_nonneg ha hb
  have q0 := Int.ediv_nonneg p0 (show 0 ≤ c by omega)
  have r0 := Int.emod_nonneg (a * b) (show c ≠ 0 by omega)
  have r1 := Int.emod_lt_of_pos (a * b) (show 0 < c by omega)
  refine ⟨q0, r0, r1, ?_⟩
  rw [wide_nat ha ha' hb hb', wide_nat q0 (by omega) (by omega) hc']
  have h1 := Int.mul_ediv_add_emod (a * b) c
  rw [Int.mul_comm] at h1
  exact h1
theorem back_sum {h l H L r : Int} (e : h * 18446744073709551616 + l + r = H * 18446744073709551616 + L) (hl : 0 ≤ l ∧ l < 18446744073709551616) (hL : 0 ≤ L ∧ L < 18446744073709551616) (hr : 0 ≤ r) (hr' : r < 9223372036854775808) :
    IntKind.u64.wrap (l + r) = L ∧ (L < l → h + 1 = H) ∧ (¬ L < l → h = H) := by
  rw [IntKind.wrap_u64]
  omega

set_option maxHeartbeats 1000000 in
theorem MoneyBack_walk (a b c : Int) (w : World) (ha : I64 a) (hb : I64 b) (hc : I64 c) :
    Calls Try.prog 4 #[.int .i64 a, .int .i64 b, .int .i64 c] w fun e w' => e = .returned (.bool true) ∧ Below w.heap.size w w' := by
  have hha := ha; have hhb := hb; have hhc := hc
  obtain ⟨ha, ha'⟩ := ha; obtain ⟨hb, hb'⟩ := hb; obtain ⟨hc, hc'⟩ := hc
  by_cases hn : a < 0 ∨ b < 0 ∨ c < 1
  · have m := (md_arg hn).2.2
    by_cases h1 : a < 0
    · clear hn
      go_enter Try.func4, Try.ntmps4
      go_wp2_with (first | (go_at_call 13; refine (money_MulDiv _ _ _ _ (by first | assumption | exact ⟨by omega, by omega⟩) (by first | assumption | exact ⟨by omega, by omega⟩) (by first | assumption | exact ⟨by omega, by omega⟩)).mono ?_; rintro e w' ⟨rfl, hwm⟩) | (go_at_call 8; refine (money_awake _).mono ?_; rintro e w' ⟨rfl, hwa⟩))
      go_ret
      exact ⟨rfl, by (repeat (first | assumption | exact Below.refl _ _ | refine ballc ?_ _ | refine bdrew ?_ | refine bdrewN ?_ _ | refine bthen ?_ (by assumption)))⟩
    · by_cases h2 : b < 0
      · clear hn
        go_enter Try.func4, Try.ntmps4
        go_wp2_with (first | (go_at_call 13; refine (money_MulDiv _ _ _ _ (by first | assumption | exact ⟨by omega, by omega⟩) (by first | assumption | exact ⟨by omega, by omega⟩) (by first | assumption | exact ⟨by omega, by omega⟩)).mono ?_; rintro e w' ⟨rfl, hwm⟩) | (go_at_call 8; refine (money_awake _).mono ?_; rintro e w' ⟨rfl, hwa⟩))
        go_ret
        exact ⟨rfl, by (repeat (first | assumption | exact Below.refl _ _ | refine ballc ?_ _ | refine bdrew ?_ | refine bdrewN ?_ _ | refine bthen ?_ (by assumption)))⟩
      · have h3 : c < 1 := by omega
        clear hn
        go_enter Try.func4, Try.ntmps4
        go_wp2_with (first | (go_at_call 13; refine (money_MulDiv _ _ _ _ (by first | assumption | exact ⟨by omega, by omega⟩) (by first | assumption | exact ⟨by omega, by omega⟩) (by first | assumption | exact ⟨by omega, by omega⟩)).mono ?_; rintro e w' ⟨rfl, hwm⟩) | (go_at_call 8; refine (money_awake _).mono ?_; rintro e w' ⟨rfl, hwa⟩))
        go_ret
        exact ⟨rfl, by (repeat (first | assumption | exact Below.refl _ _ | refine ballc ?_ _ | refine bdrew ?_ | refine bdrewN ?_ _ | refine bthen ?_ (by assumption)))⟩
  · have a0 : 0 ≤ a := by omega
    have b0 : 0 ≤ b := by omega
    have c0 : 1 ≤ c := by omega
    by_cases g : 288230376151711744 < a * b / c
    · have m := md_big hn g
      have k := back_big a0 ha' b0 hb' c0 hc' g
      obtain ⟨m1, m2, m3⟩ := m
      clear hn
      go_enter Try.func4, Try.ntmps4
      go_wp2_with (first | (go_at_call 13; refine (money_MulDiv _ _ _ _ (by first | assumption | exact ⟨by omega, by omega⟩) (by first | assumption | exact ⟨by omega, by omega⟩) (by first | assumption | exact ⟨by omega, by omega⟩)).mono ?_; rintro e w' ⟨rfl, hwm⟩) | (go_at_call 15; refine (money_Wide _ _ _).mono ?_; rintro e w' ⟨rfl, hww⟩) | (go_at_call 8; refine (money_awake _).mono ?_; rintro e w' ⟨rfl, hwa⟩))
      go_ret
      exact ⟨rfl, by (repeat (first | assumption | exact Below.refl _ _ | refine ballc ?_ _ | refine bdrew ?_ | refine bdrewN ?_ _ | refine bthen ?_ (by assumption)))⟩
    · obtain ⟨m1, m2, m3⟩ := md_ok hn g
      obtain ⟨q0, r0, r1, e⟩ := back_ok a0 ha' b0 hb' c0 hc' g
      have lb := wideLo_bd (a * b / c) c
      have Lb := wideLo_bd a b
      have S := back_sum e lb Lb r0 (by omega)
      obtain ⟨s1, s2, s3⟩ := S
      have hb1 := wideHi_bd (a * b / c) c
      have hb2 := wideHi_bd a b
      clear hn e
      generalize hgq : a * b / c = q at *
      generalize hgr : a * b % c = r at *
      clear hgq hgr
      by_cases t : wideLo a b < wideLo q c
      · have e1 := s2 t
        clear s2 s3
        go_enter Try.func4, Try.ntmps4
        go_wp2_with (first | (go_at_call 13; refine (money_MulDiv _ _ _ _ (by first | assumption | exact ⟨by omega, by omega⟩) (by first | assumption | exact ⟨by omega, by omega⟩) (by first | assumption | exact ⟨by omega, by omega⟩)).mono ?_; rintro e w' ⟨rfl, hwm⟩) | (go_at_call 15; refine (money_Wide _ _ _).mono ?_; rintro e w' ⟨rfl, hww⟩) | (go_at_call 8; refine (money_awake _).mono ?_; rintro e w' ⟨rfl, hwa⟩))
        go_ret
        exact ⟨rfl, by (repeat (first | assumption | exact Below.refl _ _ | refine ballc ?_ _ | refine bdrew ?_ | refine bdrewN ?_ _ | refine bthen ?_ (by assumption)))⟩
      · have e1 := s3 t
        clear s2 s3
        go_enter Try.func4, Try.ntmps4
        go_wp2_with (first | (go_at_call 13; refine (money_MulDiv _ _ _ _ (by first | assumption | exact ⟨by omega, by omega⟩) (by first | assumption | exact ⟨by omega, by omega⟩) (by first | assumption | exact ⟨by omega, by omega⟩)).mono ?_; rintro e w' ⟨rfl, hwm⟩) | (go_at_call 15; refine (money_Wide _ _ _).mono ?_; rintro e w' ⟨rfl, hww⟩) | (go_at_call 8; refine (money_awake _).mono ?_; rintro e w' ⟨rfl, hwa⟩))
        go_ret
        exact ⟨rfl, by (repeat (first | assumption | exact Below.refl _ _ | refine ballc ?_ _ | refine bdrew ?_ | refine bdrewN ?_ _ | refine bthen ?_ (by assumption)))⟩
end Go.Proofs.Ytoepflomapoidaa
