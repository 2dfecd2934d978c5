/-
  A slice of slices of ints that came in.
-/
import Derived.Test.YtnkdbjmfpebcgaaGl7
import Derived.Deep.Matrix
set_option linter.unusedVariables false
set_option linter.unusedSimpArgs false
namespace Go.Proofs.Ytnkdbjmfpebcgaa
open Go.RowKit Go.ChangeShapes Go.WideShapes Go.Deep

section
variable {H : Type} {enc : TypeId × Value → H} {w : World} {base : Nat} {held : Bool}
theorem add_plain (b off i : Nat) : (⟨b, off, none⟩ : Addr).add i = ⟨b, off + i, none⟩ := by
  unfold Addr.add
  by_cases h : i = 0
  · subst h; simp
  · simp [h]
set_option maxRecDepth 100000 in
theorem open_mat {fuel : Nat} {cs : List Value} {x : DataW H × List MemPlace} (h : DataW.trod enc Try.prog w base (fun _ => true) held fuel 39 cs = some x) :
    ∃ (a : Option Addr) (n cap : Nat), cs = [.slice a n cap] ∧ MatRow w a n cap := by
  rcases open_int_rows Try.underlying39 Try.underlying36 Try.underlying3 (by kernel_rfl) (by kernel_rfl) h with ⟨rfl, -⟩ | ⟨a, len, cap, A, L, C, Z, rfl, -, hl, hm, -, hi⟩
  · exact ⟨none, 0, 0, rfl, Nat.le_refl _, by unfold maxLen; omega, fun i h => by omega⟩
  · refine ⟨some a, len, cap, rfl, hl, hm, fun i hil => ?_⟩
    obtain ⟨c0, h1, h2, h3, h4, h5, h6⟩ := hi i (by omega)
    obtain ⟨b, off, spot⟩ := a
    have hs : spot = none := by
      have h0 := (hi 0 (by omega)).1
      simpa [Addr.add] using World.cell?_spot h0
    subst hs
    rw [add_plain] at c0
    have hb := World.block_lt_of_cell? _ _ c0
    have hlen : ((Z i).take (L i)).length = L i := by rw [List.length_take]; omega
    refine ⟨b, off, A i, C i, (Z i).take (L i), rfl, hb, by rw [hlen]; exact c0, ?_⟩
    rw [hlen]
    refine Row.of_open ?_
    cases hA : A i with
    | none =>
      have hc := h5 hA
      exact .inl ⟨rfl, by omega, hc, List.eq_nil_of_length_eq_zero (by omega)⟩
    | some a' =>
      obtain ⟨-, h7⟩ := h6 a' hA
      exact .inr ⟨a', rfl, h1, h2, h3, fun c hc => h7 c (by omega), h4⟩
end
end Go.Proofs.Ytnkdbjmfpebcgaa
