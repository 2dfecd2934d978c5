/-
  Vouchers: the document's example; so many lines, amounts at the limit. The walks.
-/
import Derived.Test.YtnalblnmplnhmaaGreatVou5
set_option linter.unusedVariables false
set_option linter.unusedSimpArgs false
namespace Go.Proofs.YtnalblnmplnhmaaGreat
open Go.RowKit

theorem sumV_in (l : List Int) : -288230376151711744 ≤ sumV l ∧ sumV l ≤ 288230376151711744 := by
  unfold sumV
  cases h : sumGo 0 l with
  | none => exact ⟨by simp, by simp⟩
  | some s => exact inB_iff.1 (sumGo_in l 0 s (by decide +kernel) h)
theorem plain_all (l : List Lin) : ∀ x, x ∈ (plainS l).1 → 0 ≤ x.a ∧ x.a < 17 ∧ -288230376151711744 ≤ x.n ∧ x.n ≤ 288230376151711744 := by
  intro x hx
  unfold plainS at hx
  split at hx
  · simp at hx
  · split at hx
    · simp at hx
    · obtain ⟨hx, -⟩ := List.mem_filter.1 hx
      obtain ⟨a, ha, rfl⟩ := List.mem_map.1 hx
      have := sumV_in (accA l (a : Int))
      have := List.mem_range.1 ha
      exact ⟨by simp only; omega, by simp only; omega, by simp only; omega, by simp only; omega⟩
theorem plain_I (l : List Lin) : AllI (flat2 (plainS l).1) := flat2_of fun x hx => by
  have := plain_all l x hx
  exact ⟨⟨by omega, by omega⟩, ⟨by omega, by omega⟩⟩
theorem Row.cut {w : World} {a : Option Addr} {n cap k : Nat} {l : List Lin} (h : Row w 2 a n cap (flat2 l)) (hn : l.length = n) (hk : k ≤ n) : Row w 2 a k cap (flat2 (l.take k)) := by
  refine ⟨by rw [flat2_len, List.length_take]; omega, by have := h.le; omega, h.max, flat2_of fun x hx => flat2_all h.all (List.mem_of_mem_take hx), ?_⟩
  by_cases h0 : k = 0
  · exact .inl h0
  · rcases h.at_ with h1 | ⟨b, off, e, hb, hc⟩
    · omega
    · refine .inr ⟨b, off, e, hb, CellsAt.of_lines fun j x hx => hc.line ?_⟩
      have hj : j < k := by
        rcases Nat.lt_or_ge j k with h | h
        · exact h
        · rw [List.getElem?_eq_none (by rw [List.length_take]; omega)] at hx; cases hx
      rwa [List.getElem?_take_of_lt hj] at hx

end Go.Proofs.YtnalblnmplnhmaaGreat