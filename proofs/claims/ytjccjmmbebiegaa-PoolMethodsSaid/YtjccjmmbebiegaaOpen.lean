/-
  A slice of layers, a layer, that came in.
-/
import Derived.Test.YtjccjmmbebiegaaFifoB
import Derived.Lib.SmallJoins
import Derived.Deep.Slices
import Derived.Deep.Fields
set_option linter.unusedVariables false
set_option linter.unusedSimpArgs false
namespace Go.Proofs.Ytjccjmmbebiegaa
open Go.RowKit Go.Joins Go.ChangeShapes Go.WideShapes Go.Deep

section
variable {H : Type} {enc : TypeId × Value → H} {w : World} {base : Nat} {spare : Nat → Bool} {held : Bool}
theorem cells_Layer : Try.prog.cellsOf 32 = 3 := by kernel_rfl
theorem cells_int : Try.prog.cellsOf 3 = 1 := by kernel_rfl

set_option maxRecDepth 100000 in
/-- A layer's cells. -/
theorem open_layer_cells {fuel : Nat} {cs : List Value} {x : DataW H × List MemPlace} (h : DataW.trod enc Try.prog w base spare held fuel 32 cs = some x) :
    ∃ y : Lay, cs = [.int .i64 y.q, .int .i64 y.v, .int .i64 y.p] ∧ I64 y.q ∧ I64 y.v ∧ I64 y.p := by
  obtain ⟨ys, n', -, -, hlen, hyl, hf⟩ := DataW.trod_struct Try.underlying32 h
  rw [cells_Layer] at hlen
  have hyl : ys.length = 3 := hyl
  obtain ⟨v0, v1, v2, rfl⟩ : ∃ v0 v1 v2, cs = [v0, v1, v2] := by
    match cs, hlen with
    | [v0, v1, v2], _ => exact ⟨v0, v1, v2, rfl⟩
  obtain ⟨y0, y1, y2, rfl⟩ : ∃ v0 v1 v2, ys = [v0, v1, v2] := by
    match ys, hyl with
    | [v0, v1, v2], _ => exact ⟨v0, v1, v2, rfl⟩
  have f0 := hf 0 _ rfl
  have f1 := hf 1 _ rfl
  have f2 := hf 2 _ rfl
  simp only [cells_int, List.drop_succ_cons, List.drop_zero, List.take_succ_cons, List.take_zero, List.getElem?_cons_zero, List.getElem?_cons_succ] at f0 f1 f2
  obtain ⟨q, e0, -, w0⟩ := DataW.trod_int Try.underlying3 f0
  obtain ⟨v, e1, -, w1⟩ := DataW.trod_int Try.underlying3 f1
  obtain ⟨p, e2, -, w2⟩ := DataW.trod_int Try.underlying3 f2
  cases e0; cases e1; cases e2
  exact ⟨⟨q, v, p⟩, rfl, i64_wf w0, i64_wf w1, i64_wf w2⟩

set_option maxRecDepth 100000 in
theorem open_layer {v : Value} {d : DataW H} {p : List MemPlace} {r : Reach} {b0 : Nat} (hv : Value.okWide Try.prog w r b0 32 v) (h : DataW.Trod enc Try.prog w base spare held 32 v d p) :
    ∃ y : Lay, v = y.val ∧ AllI [y.q, y.v, y.p] := by
  obtain ⟨cs, rfl, hsz⟩ := okWide_struct Try.underlying32 hv
  obtain ⟨fuel, hf⟩ := h
  obtain ⟨y, hy, h0, h1, h2⟩ := open_layer_cells hf
  refine ⟨y, ?_, fun z hz => ?_⟩
  · have e : cs.toList = [.int .i64 y.q, .int .i64 y.v, .int .i64 y.p] := hy
    rw [Lay.val, ← Array.toArray_toList (xs := cs), e]
  · simp at hz
    rcases hz with rfl | rfl | rfl
    · exact h0
    · exact h1
    · exact h2

set_option maxRecDepth 100000 in
theorem open_layers {fuel : Nat} {cs : List Value} {x : DataW H × List MemPlace} (h : DataW.trod enc Try.prog w base spare held fuel 23 cs = some x) :
    ∃ (a : Option Addr) (cap : Nat) (l : List Lay), cs = [.slice a l.length cap] ∧ Row w 3 a l.length cap (flat l) := by
  rcases open_slice Try.underlying23 h with ⟨rfl, -⟩ | ⟨a, len, cap, m, n, D, Pl, rfl, hb, hl, hm, hmm, -, hi⟩
  · exact ⟨none, 0, [], rfl, Row.nil _ _⟩
  · have hle : len ≤ m := by rw [hmm]; split <;> omega
    have key : ∀ i, ∃ y : Lay, i < m → (w.cell? ((a.add (i * 3)).add 0) = some (.int .i64 y.q) ∧ w.cell? ((a.add (i * 3)).add 1) = some (.int .i64 y.v) ∧ w.cell? ((a.add (i * 3)).add 2) = some (.int .i64 y.p)) ∧ I64 y.q ∧ I64 y.v ∧ I64 y.p := by
      intro i
      by_cases him : i < m
      · obtain ⟨cs', hc, ht⟩ := hi i him
        rw [cells_Layer] at hc
        obtain ⟨-, -, hat⟩ := World.cells?_some hc
        obtain ⟨y, rfl, h0, h1, h2⟩ := open_layer_cells ht
        exact ⟨y, fun _ => ⟨⟨hat 0 (by omega), hat 1 (by omega), hat 2 (by omega)⟩, h0, h1, h2⟩⟩
      · exact ⟨.zero, fun h => absurd h him⟩
    obtain ⟨f, hf⟩ := Classical.axiomOfChoice key
    have hlen : ((List.range len).map f).length = len := by simp
    have hget : ∀ i y, ((List.range len).map f)[i]? = some y → i < len ∧ y = f i := by
      intro i y hy
      rw [List.getElem?_map] at hy
      rcases Nat.lt_or_ge i len with h | h
      · rw [List.getElem?_range h] at hy
        simp at hy
        exact ⟨h, hy.symm⟩
      · rw [List.getElem?_eq_none (by simpa using h)] at hy; cases hy
    have hall : AllI (flat ((List.range len).map f)) := by
      intro z hz
      obtain ⟨y, hy, hz⟩ := List.mem_flatMap.1 hz
      obtain ⟨i, hi2⟩ := List.getElem?_of_mem hy
      obtain ⟨h1, rfl⟩ := hget i y hi2
      obtain ⟨-, k0, k1, k2⟩ := hf i (by omega)
      simp at hz
      rcases hz with rfl | rfl | rfl
      · exact k0
      · exact k1
      · exact k2
    refine ⟨some a, cap, (List.range len).map f, by rw [hlen], ?_⟩
    refine ⟨flat_len _, by omega, hm, hall, ?_⟩
    by_cases h0 : len = 0
    · left; omega
    · right
      obtain ⟨⟨c0, -, -⟩, -⟩ := hf 0 (by omega)
      obtain ⟨b, off, spot⟩ := a
      have hs : spot = none := by simpa [Addr.add] using World.cell?_spot c0
      subst hs
      refine ⟨b, off, rfl, ?_, ?_⟩
      · have := World.block_lt_of_cell? _ _ c0
        simpa [Addr.add] using this
      · intro i hi2
        rw [flat_len, hlen] at hi2
        have hq : i / 3 < len := by omega
        have hx : ((List.range len).map f)[i / 3]? = some (f (i / 3)) := by rw [List.getElem?_map, List.getElem?_range hq]; rfl
        obtain ⟨g0, g1, g2⟩ := flat_get _ _ _ hx
        obtain ⟨⟨d0, d1, d2⟩, -⟩ := hf (i / 3) (by omega)
        have add2 : ∀ j k : Nat, ((⟨b, off, none⟩ : Addr).add j).add k = ⟨b, off + (j + k), none⟩ := by
          intro j k
          unfold Addr.add
          by_cases hj : j = 0
          · subst hj
            by_cases hk : k = 0
            · subst hk; simp
            · simp [hk]
          · by_cases hk : k = 0
            · subst hk; simp [hj]
            · simp [hj, hk]; omega
        rw [add2] at d0 d1 d2
        have h3 : i % 3 = 0 ∨ i % 3 = 1 ∨ i % 3 = 2 := by omega
        rcases h3 with h3 | h3 | h3
        · have e : i = i / 3 * 3 := by omega
          rw [← e] at g0; rw [Nat.add_zero, ← e] at d0
          rw [g0]; exact d0
        · have e : i = i / 3 * 3 + 1 := by omega
          rw [← e] at g1 d1
          rw [g1]; exact d1
        · have e : i = i / 3 * 3 + 2 := by omega
          rw [← e] at g2 d2
          rw [g2]; exact d2
end
end Go.Proofs.Ytjccjmmbebiegaa
