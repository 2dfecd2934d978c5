/-
  fifo: Right, has; the document's Total, Swing, Right, SameLayer, Same.
-/
import Derived.Test.YtgahhifedgmicaaFifo3
set_option linter.unusedVariables false
set_option linter.unusedSimpArgs false
namespace Go.Proofs.Ytgahhifedgmicaa
open Go.RowKit

def rightL (l : List Lay) : Bool := decide (l.length ≤ 30) && l.all layOk && totOk l && decide (sumE (l.map swing) = 0)

set_option maxHeartbeats 1000000 in
theorem fifo_Right (a : Option Addr) (cap : Nat) (l : List Lay) (w : World) (h : Row w 3 a l.length cap (flat l)) (hn : l.length ≤ 1000) :
    Calls Try.prog 36 #[.slice a l.length cap] w fun e w' => e = .returned (.bool (rightL l)) ∧ Below w.heap.size w w' := by
  have h0 := h
  obtain ⟨hl, hcap, hmax, hall, hat⟩ := h
  unfold maxLen at hmax
  go_enter Try.func36, Try.ntmps36
  have hlen : rightL l = true → l.length ≤ 30 := by simp [rightL]; intros; assumption
  by_cases hL : l.length ≤ 30
  · have hL' : ¬ (30 < (l.length : Int)) := by omega
    cases hok : l.all layOk
    · go_wp2_with (first | (go_at_call 43; refine (slices_ContainsFunc_Layer a cap l _ h0).mono ?_; rintro e w' ⟨rfl, hw1⟩))
      go_ret
      exact ⟨ret_bool (by simp [rightL, hok]), by (repeat (first | assumption | exact Below.refl _ _ | refine ballc ?_ _ | refine bdrew ?_ | refine bdrewN ?_ _ | refine bset ?_ _ _ | refine bsetN ?_ (by omega) _ _ | refine bthen ?_ (by assumption)))⟩
    · have hs := fun w h => fifo_steady a cap l w h hn hok
      cases ht : totOk l
      · have ht' := tot_no ht
        go_wp2_with (first | (go_at_call 43; refine (slices_ContainsFunc_Layer a cap l _ h0).mono ?_; rintro e w' ⟨rfl, hw1⟩) | (go_at_call 33; refine (fifo_Total a cap l _ (h0.below (by (repeat (first | assumption | exact Below.refl _ _ | refine ballc ?_ _ | refine bdrew ?_ | refine bdrewN ?_ _ | refine bset ?_ _ _ | refine bsetN ?_ (by omega) _ _ | refine bthen ?_ (by assumption))))) hn).mono ?_; rintro e w' ⟨rfl, hw2⟩) | (go_at_call 45; refine (hs _ (h0.below (by (repeat (first | assumption | exact Below.refl _ _ | refine ballc ?_ _ | refine bdrew ?_ | refine bdrewN ?_ _ | refine bset ?_ _ _ | refine bsetN ?_ (by omega) _ _ | refine bthen ?_ (by assumption)))))).mono ?_; rintro e w' ⟨rfl, hw3⟩))
        all_goals (go_ret; exact ⟨ret_bool (by simp [rightL, hok, ht, hL]), by (repeat (first | assumption | exact Below.refl _ _ | refine ballc ?_ _ | refine bdrew ?_ | refine bdrewN ?_ _ | refine bset ?_ _ _ | refine bsetN ?_ (by omega) _ _ | refine bthen ?_ (by assumption)))⟩)
      · have ht' := tot_yes ht
        go_wp2_with (first | (go_at_call 43; refine (slices_ContainsFunc_Layer a cap l _ h0).mono ?_; rintro e w' ⟨rfl, hw1⟩) | (go_at_call 33; refine (fifo_Total a cap l _ (h0.below (by (repeat (first | assumption | exact Below.refl _ _ | refine ballc ?_ _ | refine bdrew ?_ | refine bdrewN ?_ _ | refine bset ?_ _ _ | refine bsetN ?_ (by omega) _ _ | refine bthen ?_ (by assumption))))) hn).mono ?_; rintro e w' ⟨rfl, hw2⟩) | (go_at_call 45; refine (hs _ (h0.below (by (repeat (first | assumption | exact Below.refl _ _ | refine ballc ?_ _ | refine bdrew ?_ | refine bdrewN ?_ _ | refine bset ?_ _ _ | refine bsetN ?_ (by omega) _ _ | refine bthen ?_ (by assumption)))))).mono ?_; rintro e w' ⟨rfl, hw3⟩))
        all_goals (go_ret; exact ⟨ret_bool (by simp [rightL, hok, ht, hL]), by (repeat (first | assumption | exact Below.refl _ _ | refine ballc ?_ _ | refine bdrew ?_ | refine bdrewN ?_ _ | refine bset ?_ _ _ | refine bsetN ?_ (by omega) _ _ | refine bthen ?_ (by assumption)))⟩)
  · have hL' : 30 < (l.length : Int) := by omega
    go_wp2_with fail
    go_ret
    exact ⟨ret_bool (by simp [rightL, hL]), by (repeat (first | assumption | exact Below.refl _ _ | refine ballc ?_ _ | refine bdrew ?_ | refine bdrewN ?_ _ | refine bset ?_ _ _ | refine bsetN ?_ (by omega) _ _ | refine bthen ?_ (by assumption)))⟩
end Go.Proofs.Ytgahhifedgmicaa
