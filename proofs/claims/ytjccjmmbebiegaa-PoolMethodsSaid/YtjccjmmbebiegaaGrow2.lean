/-
  A region that has one order, that only reads what lay there before it and calls what makes memory: its calls' worlds need not be told apart.
-/
import Derived.Test.YtjccjmmbebiegaaBase
set_option linter.unusedVariables false
namespace Go.Proofs.Ytjccjmmbebiegaa
open Go.RowKit

theorem wpList_of_quiet {P : Program} {ops : Array Oper} {C : World → Prop} {Q : Act → Prop} {Q' : Exit → Act → World → Prop} (hQ : ∀ a w, C w → Q a → Q' .normal a w) : ∀ (l : List Oper) (a : Act) (w : World), C w → wpQuiet P ops C Q l a → wpList P ops Q' l a w
  | [], a, w, hC, h => hQ a w hC h
  | o :: l, a, w, hC, h => by
    unfold wpQuiet at h
    unfold wpList
    split
    · rw [if_pos ‹_›] at h
      exact .inl (Oper.wp_of_quiet hC (fun a' w' hw' h' => wpList_of_quiet hQ l a' w' hw' h') h)
    · rw [if_neg ‹_›] at h
      exact wpList_of_quiet hQ l _ w hC h
theorem wp_region_grow1 {P : Program} {id : Nat} {Q : Exit → Act → World → Prop} {a : Act} {w : World} {l : List Oper}
    (h : wpQuiet P l.toArray (fun w' => ∃ x : After w, w' = x.w) (fun a' => ∀ w', (∃ x : After w, w' = x.w) → Q .normal a' w') l a) : (Code.region id l.toArray false).wp P Q a w := by
  refine wp_region_list ?_
  have := wpList_of_quiet (C := fun w' => ∃ x : After w, w' = x.w) (Q' := Q) (fun a w hw h => h w hw) l a w ⟨⟨w, Below.refl _ _⟩, rfl⟩ h
  simpa using this
end Go.Proofs.Ytjccjmmbebiegaa
