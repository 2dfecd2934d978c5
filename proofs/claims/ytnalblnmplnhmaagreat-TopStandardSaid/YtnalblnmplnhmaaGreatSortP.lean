/-
  What a stable sort makes: it rises, and what is alike stands as it stood. No program in sight.
-/
import Derived.Test.YtnalblnmplnhmaaGreatBase
set_option linter.unusedVariables false
set_option linter.unusedSimpArgs false
namespace Go.Proofs.YtnalblnmplnhmaaGreat
section
variable {α : Type} (key : α → Int)
def Rises (l : List α) : Prop := l.Pairwise fun x y => key x ≤ key y
/-- Of each key the same, in the same order. -/
def Stab (l m : List α) : Prop := ∀ k, m.filter (fun x => key x == k) = l.filter (fun x => key x == k)
end
section
variable {α : Type} {key : α → Int}
theorem Stab.refl (l : List α) : Stab key l l := fun _ => rfl
theorem Stab.trans {a b c : List α} (h : Stab key a b) (k : Stab key b c) : Stab key a c := fun i => (k i).trans (h i)
theorem Stab.app {a b c d : List α} (h : Stab key a b) (k : Stab key c d) : Stab key (a ++ c) (b ++ d) := fun i => by rw [List.filter_append, List.filter_append, h i, k i]
/-- Two parts that share no key change places. -/
theorem Stab.swap {a b : List α} (h : ∀ x, x ∈ a → ∀ y, y ∈ b → key x ≠ key y) : Stab key (a ++ b) (b ++ a) := by
  intro k
  rw [List.filter_append, List.filter_append]
  by_cases ha : a.filter (fun x => key x == k) = []
  · rw [ha]; simp
  · obtain ⟨x, hx⟩ := List.exists_mem_of_ne_nil _ ha
    rw [List.mem_filter] at hx
    have hb : b.filter (fun x => key x == k) = [] := by
      rw [List.filter_eq_nil_iff]
      intro y hy
      have e1 : key x = k := by simpa using hx.2
      have := h x hx.1 y hy
      simp
      omega
    rw [hb]; simp
theorem Stab.mem {a b : List α} (h : Stab key a b) {x : α} : x ∈ b ↔ x ∈ a := by
  have := h (key x)
  constructor
  · intro hx
    have : x ∈ b.filter (fun y => key y == key x) := List.mem_filter.2 ⟨hx, by simp⟩
    rw [h (key x)] at this
    exact (List.mem_filter.1 this).1
  · intro hx
    have : x ∈ a.filter (fun y => key y == key x) := List.mem_filter.2 ⟨hx, by simp⟩
    rw [← h (key x)] at this
    exact (List.mem_filter.1 this).1
theorem Rises.app {a b : List α} : Rises key (a ++ b) ↔ Rises key a ∧ Rises key b ∧ ∀ x, x ∈ a → ∀ y, y ∈ b → key x ≤ key y := List.pairwise_append
theorem Rises.one (x : α) : Rises key [x] := by simp [Rises]
theorem Rises.nil : Rises key ([] : List α) := List.Pairwise.nil
/-- All before the last are no more than it. -/
theorem Rises.last {a : List α} {y : α} (h : Rises key (a ++ [y])) : ∀ x, x ∈ a ++ [y] → key x ≤ key y := by
  intro x hx
  rcases List.mem_append.1 hx with hx | hx
  · exact (Rises.app.1 h).2.2 x hx y (by simp)
  · simp at hx; subst hx; exact Int.le_refl _
/-- A step of insertion: x goes before y. -/
theorem ins_step {P1 P2 : List α} {x y : α} (h2 : ∀ z, z ∈ P2 → key x < key z) (h : key x < key y) : ∀ z, z ∈ y :: P2 → key x < key z := by
  intro z hz
  rcases List.mem_cons.1 hz with rfl | hz
  · exact h
  · exact h2 z hz
/-- x has found its place. -/
theorem ins_done {P1 P2 : List α} {x : α} (hr : Rises key (P1 ++ P2)) (h2 : ∀ z, z ∈ P2 → key x < key z) (h1 : ∀ z, z ∈ P1 → key z ≤ key x) :
    Rises key (P1 ++ x :: P2) ∧ Stab key (P1 ++ P2 ++ [x]) (P1 ++ x :: P2) := by
  have a := Rises.app.1 hr
  constructor
  · refine Rises.app.2 ⟨a.1, List.pairwise_cons.2 ⟨fun z hz => Int.le_of_lt (h2 z hz), a.2.1⟩, fun z hz u hu => ?_⟩
    rcases List.mem_cons.1 hu with rfl | hu
    · exact h1 z hz
    · exact a.2.2 z hz u hu
  · have : Stab key (P2 ++ [x]) ([x] ++ P2) := Stab.swap fun z hz y hy => by simp at hy; subst hy; have := h2 z hz; omega
    have := (Stab.refl (key := key) P1).app this
    simpa using this
end

section
variable {α : Type} {key : α → Int}
theorem ins_round {seg P P1 P2 R : List α} {k : Nat} {x : α} (hx : seg.drop k = x :: R) (hP : P.length = k) (hR : Rises key P) (hS : Stab key (seg.take k) P) (e : P = P1 ++ P2) (h2 : ∀ z, z ∈ P2 → key x < key z) (h1 : ∀ z, z ∈ P1 → key z ≤ key x) :
    (P1 ++ x :: P2).length = k + 1 ∧ Rises key (P1 ++ x :: P2) ∧ Stab key (seg.take (k + 1)) (P1 ++ x :: P2) ∧ seg.drop (k + 1) = R ∧ k + 1 ≤ seg.length := by
  subst e
  have d := ins_done hR h2 h1
  have hk : k < seg.length := by
    rcases Nat.lt_or_ge k seg.length with h | h
    · exact h
    · rw [List.drop_eq_nil_of_le h] at hx; cases hx
  have hg : seg[k] = x := by
    have := List.drop_eq_getElem_cons hk
    rw [hx] at this
    exact (List.cons.inj this).1.symm
  have hd : seg.drop (k + 1) = R := by
    have := List.drop_eq_getElem_cons hk
    rw [hx] at this
    exact (List.cons.inj this).2.symm
  refine ⟨by simp at hP ⊢; omega, d.1, ?_, hd, hk⟩
  rw [List.take_succ_eq_append_getElem hk, hg]
  exact (hS.app (Stab.refl [x])).trans d.2
end
section
variable {α : Type}
/-- Two neighbours change places. -/
theorem swap_next {A B : List α} {x y : α} {j : Nat} (hj : A.length + 1 = j) : ((A ++ y :: x :: B).set j y).set (j - 1) x = A ++ x :: y :: B := by
  subst hj
  simp [List.set_append]
theorem split_last (l : List α) : l = [] ∨ ∃ A y, l = A ++ [y] := by
  induction l with
  | nil => exact .inl rfl
  | cons x l ih =>
    right
    rcases ih with rfl | ⟨A, y, rfl⟩
    · exact ⟨[], x, rfl⟩
    · exact ⟨x :: A, y, rfl⟩
theorem get_snd {A B : List α} {x y : α} {j : Nat} (hj : A.length + 1 = j) : (A ++ y :: x :: B)[j]? = some x := by
  subst hj; simp
theorem get_fst {A B : List α} {x y : α} {j : Nat} (hj : A.length + 1 = j) : (A ++ y :: x :: B)[j - 1]? = some y := by
  subst hj; simp
end
end Go.Proofs.YtnalblnmplnhmaaGreat
