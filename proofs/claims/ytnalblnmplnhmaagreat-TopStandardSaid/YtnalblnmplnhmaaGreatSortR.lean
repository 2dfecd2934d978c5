/-
  Two parts that rise, merged. No program in sight.
-/
import Derived.Test.YtnalblnmplnhmaaGreatSortQ
set_option linter.unusedVariables false
set_option linter.unusedSimpArgs false
namespace Go.Proofs.YtnalblnmplnhmaaGreat
section
variable {α : Type} {key : α → Int}
theorem rise_before {l : List α} {i : Nat} {u : α} (hr : Rises key l) (hu : l[i]? = some u) : ∀ y, y ∈ l.take (i + 1) → key y ≤ key u := by
  intro y hy
  obtain ⟨hi, rfl⟩ := List.getElem?_eq_some_iff.1 hu
  obtain ⟨k, hk, rfl⟩ := List.mem_take_iff_getElem.1 hy
  rcases Nat.lt_or_ge k i with h | h
  · exact List.pairwise_iff_getElem.1 hr k i (by omega) hi h
  · have : k = i := by omega
    subst this; exact Int.le_refl _
theorem rise_behind {l : List α} {i : Nat} {u : α} (hr : Rises key l) (hu : l[i]? = some u) : ∀ y, y ∈ l.drop i → key u ≤ key y := by
  intro y hy
  obtain ⟨hi, rfl⟩ := List.getElem?_eq_some_iff.1 hu
  obtain ⟨k, hk, rfl⟩ := List.mem_iff_getElem.1 hy
  rw [List.getElem_drop]
  rcases Nat.eq_zero_or_pos k with h | h
  · subst h; exact Int.le_refl _
  · exact List.pairwise_iff_getElem.1 hr i (i + k) hi (by simp at hk; omega) (by omega)
theorem merge_one {Y1 Y2 : List α} {x : α} (hr : Rises key (Y1 ++ Y2)) (h1 : ∀ y, y ∈ Y1 → key y < key x) (h2 : ∀ y, y ∈ Y2 → key x ≤ key y) :
    Rises key (Y1 ++ x :: Y2) ∧ Stab key ([x] ++ (Y1 ++ Y2)) (Y1 ++ x :: Y2) := by
  have a := Rises.app.1 hr
  constructor
  · refine Rises.app.2 ⟨a.1, List.pairwise_cons.2 ⟨h2, a.2.1⟩, fun z hz u hu => ?_⟩
    rcases List.mem_cons.1 hu with rfl | hu
    · exact Int.le_of_lt (h1 z hz)
    · exact a.2.2 z hz u hu
  · have s : Stab key ([x] ++ Y1) (Y1 ++ [x]) := Stab.swap fun z hz y hy => by simp at hz; subst hz; have := h1 y hy; omega
    have := s.app (Stab.refl (key := key) Y2)
    simpa using this
/-- Behind the rotation, and both halves merged. -/
theorem merge_two {X1 X2 Y1 Y2 Z1 Z2 : List α} (hX : Rises key (X1 ++ X2)) (hY : Rises key (Y1 ++ Y2)) (h1 : ∀ y, y ∈ Y1 → ∀ x, x ∈ X2 → key y < key x) (h2 : ∀ x, x ∈ X1 → ∀ y, y ∈ Y2 → key x ≤ key y)
    (r1 : Rises key Z1) (s1 : Stab key (X1 ++ Y1) Z1) (r2 : Rises key Z2) (s2 : Stab key (X2 ++ Y2) Z2) : Rises key (Z1 ++ Z2) ∧ Stab key ((X1 ++ X2) ++ (Y1 ++ Y2)) (Z1 ++ Z2) := by
  have a := Rises.app.1 hX
  have b := Rises.app.1 hY
  constructor
  · refine Rises.app.2 ⟨r1, r2, fun z hz u hu => ?_⟩
    rcases List.mem_append.1 ((Stab.mem s1).1 hz) with hz | hz
    · rcases List.mem_append.1 ((Stab.mem s2).1 hu) with hu | hu
      · exact a.2.2 z hz u hu
      · exact h2 z hz u hu
    · rcases List.mem_append.1 ((Stab.mem s2).1 hu) with hu | hu
      · exact Int.le_of_lt (h1 z hz u hu)
      · exact b.2.2 z hz u hu
  · have s : Stab key (X2 ++ Y1) (Y1 ++ X2) := Stab.swap fun x hx y hy => by have := h1 y hy x hx; omega
    have t := ((Stab.refl (key := key) X1).app (s.app (Stab.refl (key := key) Y2)))
    have u := s1.app s2
    intro k
    have t := t k
    have u := u k
    simp only [List.append_assoc] at t u ⊢
    rw [u, t]
/-- A part goes one place to the right, past an element. -/
def shiftL (pre : List α) (x : α) (Y post : List α) (k : Nat) : List α := (pre ++ Y.take k) ++ x :: (Y.drop k ++ post)
theorem shiftL_step {pre Y post : List α} {x y : α} {k : Nat} (hy : Y[k]? = some y) :
    shiftL pre x Y post k = (pre ++ Y.take k) ++ x :: y :: (Y.drop (k + 1) ++ post) ∧ shiftL pre x Y post (k + 1) = (pre ++ Y.take k) ++ y :: x :: (Y.drop (k + 1) ++ post) := by
  obtain ⟨hi, ey⟩ := List.getElem?_eq_some_iff.1 hy
  have d : Y.drop k = y :: Y.drop (k + 1) := by rw [List.drop_eq_getElem_cons hi, ey]
  have t : Y.take (k + 1) = Y.take k ++ [y] := by rw [List.take_succ_eq_append_getElem hi, ey]
  constructor
  · unfold shiftL; rw [d]; rfl
  · unfold shiftL; rw [t]; simp only [List.append_assoc, List.cons_append, List.nil_append]
end
end Go.Proofs.YtnalblnmplnhmaaGreat
