/-
  The document's Target at numbers.
-/
import Derived.Test.YtglcnlkojlfheaaGreatCalls
import Derived.Test.YtglcnlkojlfheaaGreatNrv1
set_option linter.unusedVariables false
set_option linter.unusedSimpArgs false
namespace Go.Proofs.YtglcnlkojlfheaaGreat
open Go.RowKit Mc

set_option maxHeartbeats 800000 in
theorem ref21_Target (v q p : Int) (w : World) (iv : I64 v) (iq : I64 q) (ip : I64 p) :
    Calls Tryz.prog 72 #[.int .i64 v, .int .i64 q, .int .i64 p] w fun e w' => e = .returned (.int .i64 (tgtS v q p)) ∧ Below w.heap.size w w' := by
  by_cases hv : v < 0
  · have e : tgtS v q p = 0 := by simp [tgtS, hv]
    rw [e]
    go_enter Tryz.func72, Tryz.ntmps72
    go_wp2_with fail
    go_ret; exact ⟨rfl, by (repeat (first | assumption | exact Below.refl _ _ | refine ballc ?_ _ | refine bdrew ?_ | refine bdrewN ?_ _ | refine bset ?_ _ _ | refine bsetN ?_ (by omega) _ _ | refine bthen ?_ (by assumption)))⟩
  by_cases hq : q < 0
  · have e : tgtS v q p = 0 := by simp [tgtS, hq]
    rw [e]
    go_enter Tryz.func72, Tryz.ntmps72
    go_wp2_with fail
    go_ret; exact ⟨rfl, by (repeat (first | assumption | exact Below.refl _ _ | refine ballc ?_ _ | refine bdrew ?_ | refine bdrewN ?_ _ | refine bset ?_ _ _ | refine bsetN ?_ (by omega) _ _ | refine bthen ?_ (by assumption)))⟩
  by_cases hp : p < 0
  · have e : tgtS v q p = 0 := by simp [tgtS, hp]
    rw [e]
    go_enter Tryz.func72, Tryz.ntmps72
    go_wp2_with fail
    go_ret; exact ⟨rfl, by (repeat (first | assumption | exact Below.refl _ _ | refine ballc ?_ _ | refine bdrew ?_ | refine bdrewN ?_ _ | refine bset ?_ _ _ | refine bsetN ?_ (by omega) _ _ | refine bthen ?_ (by assumption)))⟩
  obtain ⟨ht, hb⟩ := tgt_way hv hq hp iv iq ip
  have h3 := wideLo_bd q p
  have h2 := wideHi_bd q p
  have hvb := iv.hi
  have e1 : IntKind.u64.wrap v = v := wrap_small (by omega) (by omega)
  rw [e1] at ht hb
  by_cases hh : wideHi q p > 0
  · have e : tgtS v q p = 0 := by rw [ht, if_pos (.inl hh)]
    rw [e]
    clear ht hb
    go_enter Tryz.func72, Tryz.ntmps72
    go_wp2_with (go_at_call 104; refine (ref_Wide _ _ _).mono ?_; rintro e w' ⟨rfl, rfl⟩)
    go_ret; exact ⟨rfl, by (repeat (first | assumption | exact Below.refl _ _ | refine ballc ?_ _ | refine bdrew ?_ | refine bdrewN ?_ _ | refine bset ?_ _ _ | refine bsetN ?_ (by omega) _ _ | refine bthen ?_ (by assumption)))⟩
  by_cases hl : wideLo q p ≥ v
  · have e : tgtS v q p = 0 := by rw [ht, if_pos (.inr hl)]
    rw [e]
    clear ht hb
    go_enter Tryz.func72, Tryz.ntmps72
    go_wp2_with (go_at_call 104; refine (ref_Wide _ _ _).mono ?_; rintro e w' ⟨rfl, rfl⟩)
    go_ret; exact ⟨rfl, by (repeat (first | assumption | exact Below.refl _ _ | refine ballc ?_ _ | refine bdrew ?_ | refine bdrewN ?_ _ | refine bset ?_ _ _ | refine bsetN ?_ (by omega) _ _ | refine bthen ?_ (by assumption)))⟩
  · have e : tgtS v q p = v - wideLo q p := by rw [ht, if_neg (by omega)]
    obtain ⟨b1, b2⟩ := hb hh hl
    rw [e]
    clear ht
    go_enter Tryz.func72, Tryz.ntmps72
    go_wp2_with (go_at_call 104; refine (ref_Wide _ _ _).mono ?_; rintro e w' ⟨rfl, rfl⟩)
    go_ret; exact ⟨rfl, by (repeat (first | assumption | exact Below.refl _ _ | refine ballc ?_ _ | refine bdrew ?_ | refine bdrewN ?_ _ | refine bset ?_ _ _ | refine bsetN ?_ (by omega) _ _ | refine bthen ?_ (by assumption)))⟩

theorem target21_b {v q p t : Int} (w : World) (hv : 0 ≤ v) (hv' : v ≤ 288230376151711744) (hq : 0 ≤ q) (hq' : q ≤ 288230376151711744) (hp : 0 ≤ p) (hp' : p ≤ 288230376151711744) (ht : tgtS v q p = t) :
    Calls Tryz.prog 72 #[.int .i64 v, .int .i64 q, .int .i64 p] w fun e w' => e = .returned (.int .i64 t) ∧ Below w.heap.size w w' :=
  ht ▸ ref21_Target v q p w ⟨by omega, by omega⟩ ⟨by omega, by omega⟩ ⟨by omega, by omega⟩
end Go.Proofs.YtglcnlkojlfheaaGreat
