/-
  The document's own split: always the greatest that is left, of the same the first. No program in sight.
-/
import Derived.Test.YtanmfhdljgphhaaPartS
set_option linter.unusedVariables false
set_option linter.unusedSimpArgs false
namespace Go.Proofs.Ytanmfhdljgphhaa

/-- What is struck out. -/
def strike (l : List Int) (ps : List Nat) : List Int := ps.foldl (fun l i => l.set i (-1)) l
theorem strike_snoc (l : List Int) (ps : List Nat) (i : Nat) : strike l (ps ++ [i]) = (strike l ps).set i (-1) := by simp [strike, List.foldl_append]
theorem strike_len (l : List Int) (ps : List Nat) : (strike l ps).length = l.length := by
  induction ps generalizing l with
  | nil => rfl
  | cons i ps ih => simp only [strike, List.foldl_cons] at ih ⊢; rw [ih]; simp
theorem strike_get : ∀ (ps : List Nat) (l : List Int) (i : Nat), i < l.length → (strike l ps).getD i 0 = if i ∈ ps then -1 else l.getD i 0
  | [], l, i, h => by simp [strike]
  | p :: ps, l, i, h => by
    have ih := strike_get ps (l.set p (-1)) i (by rw [List.length_set]; exact h)
    have e : strike l (p :: ps) = strike (l.set p (-1)) ps := rfl
    rw [e, ih]
    by_cases hi : i ∈ ps
    · simp [hi]
    · rw [if_neg hi]
      by_cases hpi : p = i
      · subst hpi
        rw [getD_set _ _ _ _ h]
        simp
      · have : i ∉ p :: ps := by simp [hi]; exact fun e => hpi e.symm
        rw [if_neg this, List.getD_eq_getElem?_getD, List.getElem?_set_ne hpi, ← List.getD_eq_getElem?_getD]
/-- The greatest that is left, the first of these, is the next place. -/
theorem best_of {rem : List Int} {m : List Nat} {i B : Nat} (hr : Rises (keyN rem) m) (hs : Stab (keyN rem) (List.range rem.length) m) (hpos : ∀ z, z ∈ rem → 0 ≤ z) (hi : i < rem.length) (hB : B < rem.length)
    (h1 : ∀ k, k < rem.length → (strike rem (m.take i)).getD k 0 ≤ (strike rem (m.take i)).getD B 0) (h2 : ∀ k, k < B → (strike rem (m.take i)).getD k 0 < (strike rem (m.take i)).getD B 0) : m[i]? = some B := by
  obtain ⟨nd, mem⟩ := stab_range hs
  have hml : m.length = rem.length := by
    have := (List.perm_ext_iff_of_nodup nd List.nodup_range).2 fun i => (mem i).trans List.mem_range.symm
    rw [this.length_eq, List.length_range]
  obtain ⟨x, hx⟩ : ∃ x, m[i]? = some x := ⟨m[i]'(by omega), List.getElem?_eq_getElem _⟩
  rw [hx]
  have hxm : x ∈ m := List.mem_of_getElem? hx
  have hxn : x < rem.length := (mem x).1 hxm
  have htk : m.take (i + 1) = m.take i ++ [x] := by rw [List.take_add_one, hx]; rfl
  have hxt : x ∉ m.take i := by
    intro h
    have := nd.sublist (List.take_sublist (i + 1) m)
    rw [htk] at this
    exact (List.nodup_append.1 this).2.2 x h x (by simp) rfl
  have posD : ∀ k, k < rem.length → 0 ≤ rem.getD k 0 := fun k hk => hpos _ (by rw [List.getD_eq_getElem?_getD, List.getElem?_eq_getElem hk]; exact List.getElem_mem hk)
  have e1 := h1 x hxn
  rw [strike_get _ _ _ hxn, if_neg hxt, strike_get _ _ _ hB] at e1
  have hBt : B ∉ m.take i := fun h => by rw [if_pos h] at e1; have := posD x hxn; omega
  rw [if_neg hBt] at e1
  have hd : B = x := by
    have key : B ∈ m.take (i + 1) → B = x := fun h => by
      rw [htk] at h
      rcases List.mem_append.1 h with h | h
      · exact absurd h hBt
      · simpa using h
    have hxt1 : x ∈ m.take (i + 1) := by rw [htk]; simp
    rcases Int.lt_or_le (rem.getD x 0) (rem.getD B 0) with g | g
    · exact key (first_of hr hs hxt1 hB (.inl (by unfold keyN; omega)))
    · rcases Nat.lt_trichotomy B x with g2 | g2 | g2
      · exact key (first_of hr hs hxt1 hB (.inr ⟨by unfold keyN; omega, g2⟩))
      · exact g2
      · have := h2 x g2
        rw [strike_get _ _ _ hxn, if_neg hxt, strike_get _ _ _ hB, if_neg hBt] at this
        omega
  rw [hd]
end Go.Proofs.Ytanmfhdljgphhaa
