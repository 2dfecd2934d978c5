/-
  voucher.Check, voucher.Total; the document's example.
-/
import Derived.Test.YtnalblnmplnhmaaGreatVou4
set_option linter.unusedVariables false
set_option linter.unusedSimpArgs false
namespace Go.Proofs.YtnalblnmplnhmaaGreat
open Go.RowKit

def checkL (l : List Lin) : Bool := decide (1 ≤ l.length) && decide (l.length ≤ 12) && !(l.any badC) && decide (sumV (amts l) = 0) && decide (sumE (amts l) = 0)
def totL (l : List Lin) : Int × Int := if l.any badT then (0, 2) else (sumV (amts (l.filter fun x => !noDeb x)), sumE (amts (l.filter fun x => !noDeb x)))

set_option maxHeartbeats 1000000 in
theorem vou_Check (a : Option Addr) (cap : Nat) (l : List Lin) (w : World) (h : Row w 2 a l.length cap (flat2 l)) :
    Calls Tryz.prog 152 #[.slice a l.length cap] w fun e w' => e = .returned (.bool (checkL l)) ∧ Below w.heap.size w w' := by
  generalize hr : checkL l = r
  have hrh := Lib.hid hr
  clear hr
  go_enter Tryz.func152, Tryz.ntmps152
  by_cases h0 : l.length < 1 ∨ 12 < l.length
  · have hr : r = false := by rw [← hrh.out]; rcases h0 with h0 | h0 <;> simp [checkL] <;> omega
    subst hr
    clear hrh
    rcases h0 with h0 | h0
    · have h0' : (l.length : Int) < 1 := by omega
      go_wp2_with fail
      go_ret
      exact ⟨rfl, Below.refl _ _⟩
    · have h0' : (12 : Int) < (l.length : Int) := by omega
      have h1' : ¬ (l.length : Int) < 1 := by omega
      go_wp2_with fail
      go_ret
      exact ⟨rfl, Below.refl _ _⟩
  have h1 : ¬ (l.length : Int) < 1 := by omega
  have h2 : ¬ (12 : Int) < (l.length : Int) := by omega
  have h3 : l.length ≤ 12 := by omega
  have h4 : 1 ≤ l.length := by omega
  have hc : r = (!(l.any badC) && decide (sumV (amts l) = 0) && decide (sumE (amts l) = 0)) := by rw [← hrh.out]; simp [checkL, h3, h4]
  have hch := Lib.hid hc
  clear hrh hc h0 h4
  go_wp2_with fail
  refine (vou_sum a cap l _ h (by omega)).mono ?_
  rintro e w1 ⟨rfl, hw1⟩
  go_wp2_with fail
  refine (contains_func pred_C1 a cap l _ (h.below hw1)).mono ?_
  rintro e w2 ⟨rfl, hw2⟩
  have hb : Below w.heap.size w w2 := by (repeat (first | assumption | exact Below.refl _ _ | refine ballc ?_ _ | refine bdrew ?_ | refine bdrewN ?_ _ | refine bset ?_ _ _ | refine bsetN ?_ (by omega) _ _ | refine bthen ?_ (by assumption)))
  cases hbad : l.any badC
  all_goals
    by_cases hv : sumV (amts l) = 0
    all_goals
      by_cases he : sumE (amts l) = 0
      all_goals
        have hr : r = (!(l.any badC) && decide (sumV (amts l) = 0) && decide (sumE (amts l) = 0)) := hch.out
        simp only [hbad, hv, he] at hr
        simp at hr
        subst hr
        clear hch
        go_wp2_with fail
        go_ret
        first | exact ⟨rfl, hb⟩ | exact ⟨ret_bool (by simp [he]), hb⟩ | exact ⟨ret_bool (by simp [hv]), hb⟩

end Go.Proofs.YtnalblnmplnhmaaGreat