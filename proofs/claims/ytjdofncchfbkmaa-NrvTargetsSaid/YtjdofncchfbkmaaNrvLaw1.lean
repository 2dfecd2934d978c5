/-
  The document's Target; the law NrvTargets.
-/
import Derived.Test.YtjdofncchfbkmaaNrv1
import Derived.Test.YtjdofncchfbkmaaNrvAwake
set_option linter.unusedVariables false
set_option linter.unusedSimpArgs false
namespace Go.Proofs.Ytjdofncchfbkmaa
open Go.RowKit

set_option maxHeartbeats 800000 in
theorem ref21_Target (v q p : Int) (w : World) (iv : I64 v) (iq : I64 q) (ip : I64 p) :
    Calls Try.prog 8 #[.int .i64 v, .int .i64 q, .int .i64 p] w fun e w' => e = .returned (.int .i64 (tgtS v q p)) ∧ Below w.heap.size w w' := by
  by_cases hv : v < 0
  · have e : tgtS v q p = 0 := by simp [tgtS, hv]
    rw [e]
    go_enter Try.func8, Try.ntmps8
    go_wp2_with fail
    go_ret; exact ⟨rfl, by (repeat (first | assumption | exact Below.refl _ _ | refine ballc ?_ _ | refine bdrew ?_ | refine bdrewN ?_ _ | refine bset ?_ _ _ | refine bsetN ?_ (by omega) _ _ | refine bthen ?_ (by assumption)))⟩
  by_cases hq : q < 0
  · have e : tgtS v q p = 0 := by simp [tgtS, hq]
    rw [e]
    go_enter Try.func8, Try.ntmps8
    go_wp2_with fail
    go_ret; exact ⟨rfl, by (repeat (first | assumption | exact Below.refl _ _ | refine ballc ?_ _ | refine bdrew ?_ | refine bdrewN ?_ _ | refine bset ?_ _ _ | refine bsetN ?_ (by omega) _ _ | refine bthen ?_ (by assumption)))⟩
  by_cases hp : p < 0
  · have e : tgtS v q p = 0 := by simp [tgtS, hp]
    rw [e]
    go_enter Try.func8, Try.ntmps8
    go_wp2_with fail
    go_ret; exact ⟨rfl, by (repeat (first | assumption | exact Below.refl _ _ | refine ballc ?_ _ | refine bdrew ?_ | refine bdrewN ?_ _ | refine bset ?_ _ _ | refine bsetN ?_ (by omega) _ _ | refine bthen ?_ (by assumption)))⟩
  obtain ⟨ht, hb⟩ := tgt_way hv hq hp iv iq ip
  have h3 := wideLo_bd q p
  have h2 := wideHi_bd q p
  have hvb := iv.hi
  have e1 : IntKind.u64.wrap v = v := wrap_small (by omega) (by omega)
  rw [e1] at ht hb
  by_cases hh : wideHi q p > 0
  · have e : tgtS v q p = 0 := by rw [ht, if_pos (.inl hh)]
    rw [e]
    clear ht hb
    go_enter Try.func8, Try.ntmps8
    go_wp2_with (go_at_call 14; refine (ref_Wide _ _ _).mono ?_; rintro e w' ⟨rfl, rfl⟩)
    go_ret; exact ⟨rfl, by (repeat (first | assumption | exact Below.refl _ _ | refine ballc ?_ _ | refine bdrew ?_ | refine bdrewN ?_ _ | refine bset ?_ _ _ | refine bsetN ?_ (by omega) _ _ | refine bthen ?_ (by assumption)))⟩
  by_cases hl : wideLo q p ≥ v
  · have e : tgtS v q p = 0 := by rw [ht, if_pos (.inr hl)]
    rw [e]
    clear ht hb
    go_enter Try.func8, Try.ntmps8
    go_wp2_with (go_at_call 14; refine (ref_Wide _ _ _).mono ?_; rintro e w' ⟨rfl, rfl⟩)
    go_ret; exact ⟨rfl, by (repeat (first | assumption | exact Below.refl _ _ | refine ballc ?_ _ | refine bdrew ?_ | refine bdrewN ?_ _ | refine bset ?_ _ _ | refine bsetN ?_ (by omega) _ _ | refine bthen ?_ (by assumption)))⟩
  · have e : tgtS v q p = v - wideLo q p := by rw [ht, if_neg (by omega)]
    obtain ⟨b1, b2⟩ := hb hh hl
    rw [e]
    clear ht
    go_enter Try.func8, Try.ntmps8
    go_wp2_with (go_at_call 14; refine (ref_Wide _ _ _).mono ?_; rintro e w' ⟨rfl, rfl⟩)
    go_ret; exact ⟨rfl, by (repeat (first | assumption | exact Below.refl _ _ | refine ballc ?_ _ | refine bdrew ?_ | refine bdrewN ?_ _ | refine bset ?_ _ _ | refine bsetN ?_ (by omega) _ _ | refine bthen ?_ (by assumption)))⟩

theorem tgt_max {v n p : Int} (hv : 0 ≤ v) (hn : 0 ≤ n) (hp : 0 ≤ p) : tgtS v n p = if 0 > v - n * p then 0 else v - n * p := by
  unfold tgtS
  rw [if_neg (by omega)]
  generalize n * p = x
  split <;> split <;> omega

theorem tgt_fit (value q price : Int) : tgtS (value % 1099511627776) (q % 1048576) (price % 1048576) = max (wrap64 (value % 1099511627776 - wrap64 (q % 1048576 * (price % 1048576)))) 0 := by
  obtain ⟨v, hve⟩ : ∃ v, v = value % 1099511627776 := ⟨_, rfl⟩
  obtain ⟨n, hne⟩ : ∃ n, n = q % 1048576 := ⟨_, rfl⟩
  obtain ⟨p, hpe⟩ : ∃ p, p = price % 1048576 := ⟨_, rfl⟩
  have v0 : 0 ≤ v := by omega
  have v1 : v < 1099511627776 := by omega
  have n0 : 0 ≤ n := by omega
  have n1 : n < 1048576 := by omega
  have p0 : 0 ≤ p := by omega
  have p1 : p < 1048576 := by omega
  have np0 : 0 ≤ n * p := Int.mul_nonneg n0 p0
  have np1 : n * p ≤ 1099511627776 := Int.le_trans (Int.mul_le_mul (show n ≤ 1048576 by omega) (show p ≤ 1048576 by omega) p0 (by omega)) (by omega)
  have ht := tgt_max v0 n0 p0
  rw [← hve, ← hne, ← hpe, ht]
  generalize n * p = x at *
  unfold wrap64
  split <;> omega

set_option maxHeartbeats 800000 in
theorem NrvTargets_walk (value q price : Int) (w : World) (hv : I64 value) (hq : I64 q) (hp : I64 price) :
    Calls Try.prog 3 #[.int .i64 value, .int .i64 q, .int .i64 price] w fun e w' => e = .returned (.bool true) ∧ Below w.heap.size w w' := by
  have hfin := tgt_fit value q price
  go_enter Try.func3, Try.ntmps3
  go_wp2_with (first | (go_at_call 6; refine (Place_calls _ _ _ (by omega) (by omega)).mono ?_; rintro e w' ⟨rfl, rfl⟩) | (go_at_call 7; refine (nrv_Target _ _ _ _ (by first | assumption | exact ⟨by omega, by omega⟩) (by first | assumption | exact ⟨by omega, by omega⟩) (by first | assumption | exact ⟨by omega, by omega⟩)).mono ?_; rintro e w' ⟨rfl, hw1⟩) | (go_at_call 8; refine (ref21_Target _ _ _ _ (by first | assumption | exact ⟨by omega, by omega⟩) (by first | assumption | exact ⟨by omega, by omega⟩) (by first | assumption | exact ⟨by omega, by omega⟩)).mono ?_; rintro e w' ⟨rfl, hw2⟩) | (go_at_call 9; refine (nrv_awake _).mono ?_; rintro e w' ⟨rfl, hwa⟩))

  all_goals (go_ret; exact ⟨rfl, by (repeat (first | assumption | exact Below.refl _ _ | refine ballc ?_ _ | refine bdrew ?_ | refine bdrewN ?_ _ | refine bset ?_ _ _ | refine bsetN ?_ (by omega) _ _ | refine bthen ?_ (by assumption)))⟩)
end Go.Proofs.Ytjdofncchfbkmaa
