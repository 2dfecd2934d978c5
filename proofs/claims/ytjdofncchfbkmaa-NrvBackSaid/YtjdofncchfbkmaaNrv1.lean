/-
  nrv.Target and the document's. The walk.
-/
import Derived.Test.YtjdofncchfbkmaaBase
set_option linter.unusedVariables false
set_option linter.unusedSimpArgs false
namespace Go.Proofs.Ytjdofncchfbkmaa
open Go.RowKit

/-- How much is to be written down. -/
def tgtS (v q p : Int) : Int := if v < 0 ∨ q < 0 ∨ p < 0 then 0 else if v ≤ q * p then 0 else v - q * p
theorem tgt_way {v q p : Int} (hv : ¬ v < 0) (hq : ¬ q < 0) (hp : ¬ p < 0) (iv : I64 v) (iq : I64 q) (ip : I64 p) :
    tgtS v q p = (if wideHi q p > 0 ∨ wideLo q p ≥ IntKind.u64.wrap v then 0 else v - wideLo q p) ∧ (¬ wideHi q p > 0 → ¬ wideLo q p ≥ IntKind.u64.wrap v → 0 ≤ wideLo q p ∧ wideLo q p < v) := by
  have h1 := wide_nat (a := q) (b := p) (by omega) iq.hi (by omega) ip.hi
  have h2 := wideHi_bd q p
  have h3 := wideLo_bd q p
  have e : IntKind.u64.wrap v = v := wrap_small (by omega) (by have := iv.hi; omega)
  rw [e]
  unfold tgtS
  rw [if_neg (by omega)]
  have hvb := iv.hi
  generalize wideHi q p = hi at *
  generalize wideLo q p = lo at *
  generalize q * p = qp at *
  refine ⟨?_, fun a b => ⟨by omega, by omega⟩⟩
  split
  · rw [if_pos]; omega
  · rw [if_neg (by omega)]; omega

set_option maxHeartbeats 800000 in
theorem nrv_Target (v q p : Int) (w : World) (iv : I64 v) (iq : I64 q) (ip : I64 p) :
    Calls Try.prog 7 #[.int .i64 v, .int .i64 q, .int .i64 p] w fun e w' => e = .returned (.int .i64 (tgtS v q p)) ∧ Below w.heap.size w w' := by
  by_cases hv : v < 0
  · have e : tgtS v q p = 0 := by simp [tgtS, hv]
    rw [e]
    go_enter Try.func7, Try.ntmps7
    go_wp2_with fail
    go_ret; exact ⟨rfl, by (repeat (first | assumption | exact Below.refl _ _ | refine ballc ?_ _ | refine bdrew ?_ | refine bdrewN ?_ _ | refine bset ?_ _ _ | refine bsetN ?_ (by omega) _ _ | refine bthen ?_ (by assumption)))⟩
  by_cases hq : q < 0
  · have e : tgtS v q p = 0 := by simp [tgtS, hq]
    rw [e]
    go_enter Try.func7, Try.ntmps7
    go_wp2_with fail
    go_ret; exact ⟨rfl, by (repeat (first | assumption | exact Below.refl _ _ | refine ballc ?_ _ | refine bdrew ?_ | refine bdrewN ?_ _ | refine bset ?_ _ _ | refine bsetN ?_ (by omega) _ _ | refine bthen ?_ (by assumption)))⟩
  by_cases hp : p < 0
  · have e : tgtS v q p = 0 := by simp [tgtS, hp]
    rw [e]
    go_enter Try.func7, Try.ntmps7
    go_wp2_with fail
    go_ret; exact ⟨rfl, by (repeat (first | assumption | exact Below.refl _ _ | refine ballc ?_ _ | refine bdrew ?_ | refine bdrewN ?_ _ | refine bset ?_ _ _ | refine bsetN ?_ (by omega) _ _ | refine bthen ?_ (by assumption)))⟩
  obtain ⟨ht, hb⟩ := tgt_way hv hq hp iv iq ip
  have h3 := wideLo_bd q p
  have h2 := wideHi_bd q p
  have hvb := iv.hi
  have e1 : IntKind.u64.wrap v = v := wrap_small (by omega) (by omega)
  rw [e1] at ht hb
  by_cases hh : wideHi q p > 0
  · have e : tgtS v q p = 0 := by rw [ht, if_pos (.inl hh)]
    rw [e]
    clear ht hb
    go_enter Try.func7, Try.ntmps7
    go_wp2_with (go_at_call 13; refine (money_Wide _ _ _).mono ?_; rintro e w' ⟨rfl, hw1⟩)
    go_ret; exact ⟨rfl, by (repeat (first | assumption | exact Below.refl _ _ | refine ballc ?_ _ | refine bdrew ?_ | refine bdrewN ?_ _ | refine bset ?_ _ _ | refine bsetN ?_ (by omega) _ _ | refine bthen ?_ (by assumption)))⟩
  by_cases hl : wideLo q p ≥ v
  · have e : tgtS v q p = 0 := by rw [ht, if_pos (.inr hl)]
    rw [e]
    clear ht hb
    go_enter Try.func7, Try.ntmps7
    go_wp2_with (go_at_call 13; refine (money_Wide _ _ _).mono ?_; rintro e w' ⟨rfl, hw1⟩)
    go_ret; exact ⟨rfl, by (repeat (first | assumption | exact Below.refl _ _ | refine ballc ?_ _ | refine bdrew ?_ | refine bdrewN ?_ _ | refine bset ?_ _ _ | refine bsetN ?_ (by omega) _ _ | refine bthen ?_ (by assumption)))⟩
  · have e : tgtS v q p = v - wideLo q p := by rw [ht, if_neg (by omega)]
    obtain ⟨b1, b2⟩ := hb hh hl
    rw [e]
    clear ht
    go_enter Try.func7, Try.ntmps7
    go_wp2_with (go_at_call 13; refine (money_Wide _ _ _).mono ?_; rintro e w' ⟨rfl, hw1⟩)

    go_ret; exact ⟨rfl, by (repeat (first | assumption | exact Below.refl _ _ | refine ballc ?_ _ | refine bdrew ?_ | refine bdrewN ?_ _ | refine bset ?_ _ _ | refine bsetN ?_ (by omega) _ _ | refine bthen ?_ (by assumption)))⟩
end Go.Proofs.Ytjdofncchfbkmaa
