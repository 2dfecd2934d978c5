/-
  A slice of layers that the call itself has made; fifo.In.
-/
import Derived.Test.YtnalblnmplnhmaaGreatFifoA
import Derived.Deep.RegionHeld3
import Derived.Test.YtnalblnmplnhmaaGreatBase
import Derived.IntWalk
import Derived.StillTailTactics
import Derived.WalkLawsBesides
set_option linter.unusedVariables false
set_option linter.unusedSimpArgs false
set_option linter.unnecessarySimpa false

/- MavgP -/

set_option linter.unusedVariables false
set_option linter.unusedSimpArgs false
namespace Go.Proofs.YtnalblnmplnhmaaGreat
open Go.RowKit

/-- One layer, with more. -/
def inM (l : List Lay) (x : Lay) : List Lay × Int := if (inS l x).2 = 0 then ([tot (inS l x).1], 0) else (l, (inS l x).2)
/-- Two prices mixed. -/
structure Mix (n m p r k : Int) : Prop where
  lo : k * p ≤ (n * p + m * r) * k / (n + m)
  hi : (n * p + m * r) * k / (n + m) ≤ k * r
  left : (n + m - k) * p ≤ n * p + m * r - (n * p + m * r) * k / (n + m)
end Go.Proofs.YtnalblnmplnhmaaGreat

/- Hold -/

set_option linter.unusedVariables false
set_option linter.unusedSimpArgs false
namespace Go.Proofs.YtnalblnmplnhmaaGreat
open Go.RowKit

/-- A slice of layers. -/
def LayRow (w : World) (v : Value) (l : List Lay) : Prop := ∃ a cap, v = .slice a l.length cap ∧ Row w 3 a l.length cap (flat l)
theorem LayRow.below {w w' : World} {v : Value} {l : List Lay} (h : LayRow w v l) (g : Below w.heap.size w w') : LayRow w' v l := by
  obtain ⟨a, c, e, r⟩ := h; exact ⟨a, c, e, r.below g⟩

/-- From block number base on; its cells may be written. -/
def Hold (w : World) (base : Nat) (v : Value) (l : List Lay) : Prop :=
  ∃ a cap, v = .slice a l.length cap ∧ l.length ≤ cap ∧ cap ≤ maxLen ∧ (l.length = 0 ∨ ∃ b off, a = some ⟨b, off, none⟩ ∧ base ≤ b ∧ b < w.heap.size ∧ CellsAt w b off (flat l) ∧ ∀ i, w.frozen? ⟨b, i, none⟩ = false)

theorem Hold.row {w : World} {base : Nat} {v : Value} {l : List Lay} (h : Hold w base v l) (ha : AllI (flat l)) : LayRow w v l := by
  obtain ⟨a, cap, rfl, h1, h2, h3⟩ := h
  refine ⟨a, cap, rfl, flat_len l, h1, h2, ha, ?_⟩
  rcases h3 with h3 | ⟨b, off, rfl, -, h4, h5, -⟩
  · exact .inl h3
  · exact .inr ⟨b, off, rfl, h4, h5⟩
theorem Hold.below {w w' : World} {base : Nat} {v : Value} {l : List Lay} (h : Hold w base v l) (g : Below w.heap.size w w') : Hold w' base v l := by
  obtain ⟨a, cap, rfl, h1, h2, h3⟩ := h
  refine ⟨a, cap, rfl, h1, h2, ?_⟩
  rcases h3 with h3 | ⟨b, off, rfl, hb, h4, h5, h6⟩
  · exact .inl h3
  · exact .inr ⟨b, off, rfl, hb, Nat.lt_of_lt_of_le h4 g.size, h5.below h4 g, fun i => (g.frozen (p := ⟨b, i, none⟩) h4).trans (h6 i)⟩
theorem Hold.mono {w : World} {base base' : Nat} {v : Value} {l : List Lay} (h : Hold w base v l) (g : base' ≤ base) : Hold w base' v l := by
  obtain ⟨a, cap, rfl, h1, h2, h3⟩ := h
  refine ⟨a, cap, rfl, h1, h2, ?_⟩
  rcases h3 with h3 | ⟨b, off, rfl, hb, h4⟩
  · exact .inl h3
  · exact .inr ⟨b, off, rfl, Nat.le_trans g hb, h4⟩
theorem Hold.nil {w : World} {base : Nat} {a : Option Addr} {cap : Nat} (h : cap ≤ maxLen) : Hold w base (.slice a 0 cap) [] := ⟨a, cap, rfl, by simp, h, .inl rfl⟩
/-- A store into another block. -/
theorem Hold.set {w : World} {base : Nat} {v : Value} {l : List Lay} (h : Hold w base v l) {b : Nat} (hb : b < base) (i : Nat) (u : Value) : Hold (w.setCell ⟨b, i, none⟩ u) base v l := by
  obtain ⟨a, cap, rfl, h1, h2, h3⟩ := h
  refine ⟨a, cap, rfl, h1, h2, ?_⟩
  rcases h3 with h3 | ⟨g, off, rfl, hg, h4, h5, h6⟩
  · exact .inl h3
  · refine .inr ⟨g, off, rfl, hg, by simpa [World.setCell] using h4, fun j hj => ?_, fun j => by simpa using h6 j⟩
    exact (World.cell?_of_block (w := w) (Below.heap_setCell _ _ _ _ (show g ≠ b by omega))).trans (h5 j hj)
theorem OwnI.mono {w : World} {base base' : Nat} {e : TypeId} {k : Nat} {v : Value} {n : Nat} {zs : List Int} (h : OwnI w base e k v n zs) (g : base' ≤ base) : OwnI w base' e k v n zs := by
  obtain ⟨h1, h2⟩ := h
  refine ⟨h1, ?_⟩
  rcases h2 with h2 | ⟨b, cap, cur, hv, hb, r⟩
  · exact .inl h2
  · exact .inr ⟨b, cap, cur, hv, Nat.le_trans g hb, r⟩
theorem flat_cons (x : Lay) (l : List Lay) : flat (x :: l) = x.q :: x.v :: x.p :: flat l := rfl
theorem CellsAt.tail {w : World} {b off : Nat} {x : Lay} {l : List Lay} (h : CellsAt w b off (flat (x :: l))) : CellsAt w b (off + 3) (flat l) := by
  intro i hi
  have := h (3 + i) (by simp only [flat_cons, List.length_cons]; omega)
  rw [show off + (3 + i) = off + 3 + i by omega] at this
  rw [this, flat_cons]
  simp [List.getD_eq_getElem?_getD, show 3 + i = i + 1 + 1 + 1 by omega]
theorem CellsAt.head {w : World} {b off : Nat} {x : Lay} {l : List Lay} (h : CellsAt w b off (flat (x :: l))) : w.cell? ⟨b, off, none⟩ = some (.int .i64 x.q) ∧ w.cell? ⟨b, off + 1, none⟩ = some (.int .i64 x.v) ∧ w.cell? ⟨b, off + 2, none⟩ = some (.int .i64 x.p) :=
  ⟨h 0 (by simp [flat_cons]), h 1 (by simp [flat_cons]), h 2 (by simp [flat_cons])⟩
theorem CellsAt.cons {w : World} {b off : Nat} {x : Lay} {l : List Lay} (h0 : w.cell? ⟨b, off, none⟩ = some (.int .i64 x.q)) (h1 : w.cell? ⟨b, off + 1, none⟩ = some (.int .i64 x.v)) (h2 : w.cell? ⟨b, off + 2, none⟩ = some (.int .i64 x.p)) (h : CellsAt w b (off + 3) (flat l)) : CellsAt w b off (flat (x :: l)) := by
  intro i hi
  match i with
  | 0 => exact h0
  | 1 => exact h1
  | 2 => exact h2
  | i + 3 =>
    have := h i (by simp only [flat_cons, List.length_cons] at hi; omega)
    rw [show off + (i + 3) = off + 3 + i by omega, this]
    rfl
theorem Cell3.behind {w w' : World} {o : Obj} {b B : Nat} {x y z : Int} (h : Cell3 w b x y z) (hb : b < w.heap.size) (hB : b < B) (g : Below B (w.alloc o) w') : Cell3 w' b x y z := by
  have k : ∀ i, (w.alloc o).cell? ⟨b, i, none⟩ = w.cell? ⟨b, i, none⟩ := fun i => World.cell?_alloc_lt _ _ _ hb
  have kf : ∀ i, (w.alloc o).frozen? ⟨b, i, none⟩ = w.frozen? ⟨b, i, none⟩ := fun i => World.frozen?_alloc_old _ _ _ (Nat.ne_of_lt hb)
  exact ⟨(g.cell hB).trans ((k 0).trans h.c0), (g.cell hB).trans ((k 1).trans h.c1), (g.cell hB).trans ((k 2).trans h.c2), (g.frozen hB).trans ((kf 0).trans h.f0), (g.frozen hB).trans ((kf 1).trans h.f1), (g.frozen hB).trans ((kf 2).trans h.f2)⟩
theorem Cell3.next {w w' : World} {b : Nat} {x y z : Int} (h : Cell3 w b x y z) (hb : b < w.heap.size) (g : Below w.heap.size w w') :
    Cell3 w' b x y z ∧ b < w'.heap.size ∧ b < w'.heap.size + 1 ∧ b < w'.heap.size + 1 + 1 ∧ b < w'.heap.size + 1 + 1 + 1 := by
  have hs := g.size
  exact ⟨⟨(g.cell hb).trans h.c0, (g.cell hb).trans h.c1, (g.cell hb).trans h.c2, (g.frozen hb).trans h.f0, (g.frozen hb).trans h.f1, (g.frozen hb).trans h.f2⟩, by omega, by omega, by omega, by omega⟩
end Go.Proofs.YtnalblnmplnhmaaGreat

/- FifoIn -/

set_option linter.unusedVariables false
set_option linter.unusedSimpArgs false
namespace Go.Proofs.YtnalblnmplnhmaaGreat
open Go.RowKit

theorem OwnI.same {w : World} {base : Nat} {e : TypeId} {k : Nat} {v : Value} {n m : Nat} {zs ys : List Int} (h : OwnI w base e k v n zs) (hn : n = m) (hz : zs = ys) : OwnI w base e k v m ys := by
  subst hn; subst hz; exact h
/-- Layers of the call's own, and an error. -/
def HoldE (w : World) (r : List Lay × Int) (e : Ending) (w' : World) : Prop := ∃ v, e = .returned (.tuple #[v, .int .i64 r.2]) ∧ Hold w' w.heap.size v r.1 ∧ Below w.heap.size w w'

end Go.Proofs.YtnalblnmplnhmaaGreat
