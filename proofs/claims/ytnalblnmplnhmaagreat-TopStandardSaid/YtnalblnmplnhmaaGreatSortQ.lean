/-
  Parts of a list that change places. No program in sight.
-/
import Derived.Test.YtnalblnmplnhmaaGreatSortP
set_option linter.unusedVariables false
set_option linter.unusedSimpArgs false
namespace Go.Proofs.YtnalblnmplnhmaaGreat
section
variable {α : Type}
/-- Two elements change places. -/
theorem swap_far {A B C : List α} {x y : α} {i j : Nat} (hi : A.length = i) (hj : i + 1 + B.length = j) : ((A ++ x :: (B ++ y :: C)).set i y).set j x = A ++ y :: (B ++ x :: C) := by
  subst hi; subst hj
  rw [List.set_append, if_neg (by omega), Nat.sub_self, List.set_cons_zero, List.set_append, if_neg (by omega)]
  rw [show A.length + 1 + B.length - A.length = B.length + 1 by omega, List.set_cons_succ, List.set_append, if_neg (by omega), Nat.sub_self, List.set_cons_zero]
theorem get_near {A B C : List α} {x y : α} {i : Nat} (hi : A.length = i) : (A ++ x :: (B ++ y :: C))[i]? = some x := by
  subst hi; simp
theorem get_far {A B C : List α} {x y : α} {i j : Nat} (hi : A.length = i) (hj : i + 1 + B.length = j) : (A ++ x :: (B ++ y :: C))[j]? = some y := by
  subst hi; subst hj
  rw [List.getElem?_append_right (by omega), show A.length + 1 + B.length - A.length = B.length + 1 by omega, List.getElem?_cons_succ, List.getElem?_append_right (by omega), Nat.sub_self]
  rfl
/-- In the midst of an exchange of two parts. -/
def exch (pre X M Y post : List α) (i : Nat) : List α := (pre ++ Y.take i) ++ (X.drop i ++ (M ++ (X.take i ++ (Y.drop i ++ post))))
theorem exch_zero (pre X M Y post : List α) : exch pre X M Y post 0 = pre ++ (X ++ (M ++ (Y ++ post))) := by simp [exch]
theorem exch_end {pre X M Y post : List α} {n : Nat} (hX : X.length = n) (hY : Y.length = n) : exch pre X M Y post n = pre ++ (Y ++ (M ++ (X ++ post))) := by
  simp [exch, List.take_of_length_le (Nat.le_of_eq hX), List.take_of_length_le (Nat.le_of_eq hY), List.drop_eq_nil_of_le (Nat.le_of_eq hX), List.drop_eq_nil_of_le (Nat.le_of_eq hY)]
theorem exch_form {pre X M Y post : List α} {i : Nat} {x y : α} (hx : X[i]? = some x) (hy : Y[i]? = some y) :
    exch pre X M Y post i = (pre ++ Y.take i) ++ x :: ((X.drop (i + 1) ++ (M ++ X.take i)) ++ y :: (Y.drop (i + 1) ++ post)) ∧
    exch pre X M Y post (i + 1) = (pre ++ Y.take i) ++ y :: ((X.drop (i + 1) ++ (M ++ X.take i)) ++ x :: (Y.drop (i + 1) ++ post)) := by
  obtain ⟨hi, ex⟩ := List.getElem?_eq_some_iff.1 hx
  obtain ⟨hj, ey⟩ := List.getElem?_eq_some_iff.1 hy
  have d1 : X.drop i = x :: X.drop (i + 1) := by rw [List.drop_eq_getElem_cons hi, ex]
  have d2 : Y.drop i = y :: Y.drop (i + 1) := by rw [List.drop_eq_getElem_cons hj, ey]
  have t1 : X.take (i + 1) = X.take i ++ [x] := by rw [List.take_succ_eq_append_getElem hi, ex]
  have t2 : Y.take (i + 1) = Y.take i ++ [y] := by rw [List.take_succ_eq_append_getElem hj, ey]
  constructor
  · unfold exch
    rw [d1, d2]
    simp only [List.append_assoc, List.cons_append]
  · unfold exch
    rw [t1, t2]
    simp only [List.append_assoc, List.cons_append, List.nil_append]
end
end Go.Proofs.YtnalblnmplnhmaaGreat
