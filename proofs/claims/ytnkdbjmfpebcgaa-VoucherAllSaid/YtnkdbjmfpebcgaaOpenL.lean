/-
  A slice of lines that came in.
-/
import Derived.Test.YtnkdbjmfpebcgaaLine
import Derived.Lib.SmallJoins
import Derived.Deep.Slices
import Derived.Deep.Fields
set_option linter.unusedVariables false
set_option linter.unusedSimpArgs false
namespace Go.Proofs.Ytnkdbjmfpebcgaa
open Go.RowKit Go.Joins Go.ChangeShapes Go.WideShapes Go.Deep

section
variable {H : Type} {enc : TypeId × Value → H} {w : World} {base : Nat} {spare : Nat → Bool} {held : Bool}
theorem cells_Line : Try.prog.cellsOf 25 = 2 := by kernel_rfl
theorem cells_int : Try.prog.cellsOf 3 = 1 := by kernel_rfl

set_option maxRecDepth 100000 in
/-- A layer's cells. -/
theorem open_line_cells {fuel : Nat} {cs : List Value} {x : DataW H × List MemPlace} (h : DataW.trod enc Try.prog w base spare held fuel 25 cs = some x) :
    ∃ y : Lin, cs = [.int .i64 y.a, .int .i64 y.n] ∧ I64 y.a ∧ I64 y.n := by
  obtain ⟨ys, n', -, -, hlen, hyl, hf⟩ := DataW.trod_struct Try.underlying25 h
  rw [cells_Line] at hlen
  have hyl : ys.length = 2 := hyl
  obtain ⟨v0, v1, rfl⟩ : ∃ v0 v1, cs = [v0, v1] := by
    match cs, hlen with
    | [v0, v1], _ => exact ⟨v0, v1, rfl⟩
  obtain ⟨y0, y1, rfl⟩ : ∃ v0 v1, ys = [v0, v1] := by
    match ys, hyl with
    | [v0, v1], _ => exact ⟨v0, v1, rfl⟩
  have f0 := hf 0 _ rfl
  have f1 := hf 1 _ rfl
  simp only [cells_int, List.drop_succ_cons, List.drop_zero, List.take_succ_cons, List.take_zero, List.getElem?_cons_zero, List.getElem?_cons_succ] at f0 f1
  obtain ⟨q, e0, -, w0⟩ := DataW.trod_int Try.underlying3 f0
  obtain ⟨v, e1, -, w1⟩ := DataW.trod_int Try.underlying3 f1
  cases e0; cases e1
  exact ⟨⟨q, v⟩, rfl, i64_wf w0, i64_wf w1⟩

set_option maxRecDepth 100000 in
theorem open_lines {fuel : Nat} {cs : List Value} {x : DataW H × List MemPlace} (h : DataW.trod enc Try.prog w base spare held fuel 23 cs = some x) :
    ∃ (a : Option Addr) (cap : Nat) (l : List Lin), cs = [.slice a l.length cap] ∧ Row w 2 a l.length cap (flat2 l) := by
  rcases open_slice Try.underlying23 h with ⟨rfl, -⟩ | ⟨a, len, cap, m, n, D, Pl, rfl, hb, hl, hm, hmm, -, hi⟩
  · exact ⟨none, 0, [], rfl, Row.nil _ _⟩
  · have hle : len ≤ m := by rw [hmm]; split <;> omega
    have key : ∀ i, ∃ y : Lin, i < m → (w.cell? ((a.add (i * 2)).add 0) = some (.int .i64 y.a) ∧ w.cell? ((a.add (i * 2)).add 1) = some (.int .i64 y.n)) ∧ I64 y.a ∧ I64 y.n := by
      intro i
      by_cases him : i < m
      · obtain ⟨cs', hc, ht⟩ := hi i him
        rw [cells_Line] at hc
        obtain ⟨-, -, hat⟩ := World.cells?_some hc
        obtain ⟨y, rfl, h0, h1⟩ := open_line_cells ht
        exact ⟨y, fun _ => ⟨⟨hat 0 (by omega), hat 1 (by omega)⟩, h0, h1⟩⟩
      · exact ⟨Lin.zero, fun h => absurd h him⟩
    obtain ⟨f, hf⟩ := Classical.axiomOfChoice key
    have hlen : ((List.range len).map f).length = len := by simp
    have hget : ∀ i y, ((List.range len).map f)[i]? = some y → i < len ∧ y = f i := by
      intro i y hy
      rw [List.getElem?_map] at hy
      rcases Nat.lt_or_ge i len with h | h
      · rw [List.getElem?_range h] at hy
        simp at hy
        exact ⟨h, hy.symm⟩
      · rw [List.getElem?_eq_none (by simpa using h)] at hy; cases hy
    have hall : AllI (flat2 ((List.range len).map f)) := by
      intro z hz
      obtain ⟨y, hy, hz⟩ := List.mem_flatMap.1 hz
      obtain ⟨i, hi2⟩ := List.getElem?_of_mem hy
      obtain ⟨h1, rfl⟩ := hget i y hi2
      obtain ⟨-, k0, k1⟩ := hf i (by omega)
      simp at hz
      rcases hz with rfl | rfl
      · exact k0
      · exact k1
    refine ⟨some a, cap, (List.range len).map f, by rw [hlen], ?_⟩
    refine ⟨flat2_len _, by omega, hm, hall, ?_⟩
    by_cases h0 : len = 0
    · left; omega
    · right
      obtain ⟨⟨c0, -⟩, -⟩ := hf 0 (by omega)
      obtain ⟨b, off, spot⟩ := a
      have hs : spot = none := by simpa [Addr.add] using World.cell?_spot c0
      subst hs
      refine ⟨b, off, rfl, ?_, ?_⟩
      · have := World.block_lt_of_cell? _ _ c0
        simpa [Addr.add] using this
      · intro i hi2
        rw [flat2_len, hlen] at hi2
        have hq : i / 2 < len := by omega
        have hx : ((List.range len).map f)[i / 2]? = some (f (i / 2)) := by rw [List.getElem?_map, List.getElem?_range hq]; rfl
        obtain ⟨g0, g1⟩ := flat2_get _ _ _ hx
        obtain ⟨⟨d0, d1⟩, -⟩ := hf (i / 2) (by omega)
        have add2 : ∀ j k : Nat, ((⟨b, off, none⟩ : Addr).add j).add k = ⟨b, off + (j + k), none⟩ := by
          intro j k
          unfold Addr.add
          by_cases hj : j = 0
          · subst hj
            by_cases hk : k = 0
            · subst hk; simp
            · simp [hk]
          · by_cases hk : k = 0
            · subst hk; simp [hj]
            · simp [hj, hk]; omega
        rw [add2] at d0 d1
        have h3 : i % 2 = 0 ∨ i % 2 = 1 := by omega
        rcases h3 with h3 | h3
        · have e : i = i / 2 * 2 := by omega
          rw [← e] at g0; rw [Nat.add_zero, ← e] at d0
          rw [g0]; exact d0
        · have e : i = i / 2 * 2 + 1 := by omega
          rw [← e] at g1 d1
          rw [g1]; exact d1
end
end Go.Proofs.Ytnkdbjmfpebcgaa
