/-
  A list in blocks that rise. No program in sight.
-/
import Derived.Test.YtnalblnmplnhmaaGreatSortR
set_option linter.unusedVariables false
set_option linter.unusedSimpArgs false
namespace Go.Proofs.YtnalblnmplnhmaaGreat
section
variable {α : Type} {key : α → Int}
/-- Each block of B rises. -/
def Blk (key : α → Int) (B : Nat) (l : List α) : Prop := ∀ k, Rises key ((l.drop (k * B)).take B)
theorem Blk.nil {B : Nat} : Blk key B ([] : List α) := fun k => by simp; exact Rises.nil
theorem Rises.sub {l m : List α} (h : Rises key l) (s : List.Sublist m l) : Rises key m := List.Pairwise.sublist s h
theorem Blk.snoc {B j : Nat} {Q z : List α} (h : Blk key B Q) (hQ : Q.length = j * B) (hz : Rises key z) : Blk key B (Q ++ z) := by
  intro k
  rcases Nat.lt_or_ge k j with hk | hk
  · have hle : k * B + B ≤ j * B := by rw [← Nat.succ_mul]; exact Nat.mul_le_mul_right B hk
    rw [List.drop_append_of_le_length (by omega), List.take_append_of_le_length (by rw [List.length_drop]; omega)]
    exact h k
  · have hle : j * B ≤ k * B := Nat.mul_le_mul_right B hk
    rw [List.drop_append, List.drop_eq_nil_of_le (by omega), List.nil_append]
    exact hz.sub ((List.take_sublist _ _).trans (List.drop_sublist _ _))
theorem Blk.head {B : Nat} {R : List α} (h : Blk key B R) : Rises key (R.take B) := by simpa using h 0
theorem Blk.tail {B : Nat} {R : List α} (h : Blk key B R) : Blk key B (R.drop B) := by
  intro k
  have := h (k + 1)
  rw [List.drop_drop, show B + k * B = (k + 1) * B by rw [Nat.succ_mul, Nat.add_comm]]
  exact this
theorem Blk.whole {B : Nat} {l : List α} (h : Blk key B l) (hl : l.length ≤ B) : Rises key l := by
  have := h.head
  rwa [List.take_of_length_le hl] at this
end
end Go.Proofs.YtnalblnmplnhmaaGreat
