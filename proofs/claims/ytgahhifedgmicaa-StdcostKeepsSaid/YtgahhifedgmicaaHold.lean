/-
  A slice of layers that the call itself has made.
-/
import Derived.Test.YtgahhifedgmicaaFifoR
set_option linter.unusedVariables false
set_option linter.unusedSimpArgs false
namespace Go.Proofs.Ytgahhifedgmicaa
open Go.RowKit

/-- A slice of layers. -/
def LayRow (w : World) (v : Value) (l : List Lay) : Prop := ∃ a cap, v = .slice a l.length cap ∧ Row w 3 a l.length cap (flat l)
theorem LayRow.below {w w' : World} {v : Value} {l : List Lay} (h : LayRow w v l) (g : Below w.heap.size w w') : LayRow w' v l := by
  obtain ⟨a, c, e, r⟩ := h; exact ⟨a, c, e, r.below g⟩

/-- From block number base on; its cells may be written. -/
def Hold (w : World) (base : Nat) (v : Value) (l : List Lay) : Prop :=
  ∃ a cap, v = .slice a l.length cap ∧ l.length ≤ cap ∧ cap ≤ maxLen ∧ (l.length = 0 ∨ ∃ b off, a = some ⟨b, off, none⟩ ∧ base ≤ b ∧ b < w.heap.size ∧ CellsAt w b off (flat l) ∧ ∀ i, w.frozen? ⟨b, i, none⟩ = false)

theorem Hold.row {w : World} {base : Nat} {v : Value} {l : List Lay} (h : Hold w base v l) (ha : AllI (flat l)) : LayRow w v l := by
  obtain ⟨a, cap, rfl, h1, h2, h3⟩ := h
  refine ⟨a, cap, rfl, flat_len l, h1, h2, ha, ?_⟩
  rcases h3 with h3 | ⟨b, off, rfl, -, h4, h5, -⟩
  · exact .inl h3
  · exact .inr ⟨b, off, rfl, h4, h5⟩
theorem Hold.below {w w' : World} {base : Nat} {v : Value} {l : List Lay} (h : Hold w base v l) (g : Below w.heap.size w w') : Hold w' base v l := by
  obtain ⟨a, cap, rfl, h1, h2, h3⟩ := h
  refine ⟨a, cap, rfl, h1, h2, ?_⟩
  rcases h3 with h3 | ⟨b, off, rfl, hb, h4, h5, h6⟩
  · exact .inl h3
  · exact .inr ⟨b, off, rfl, hb, Nat.lt_of_lt_of_le h4 g.size, h5.below h4 g, fun i => (g.frozen (p := ⟨b, i, none⟩) h4).trans (h6 i)⟩
theorem Hold.mono {w : World} {base base' : Nat} {v : Value} {l : List Lay} (h : Hold w base v l) (g : base' ≤ base) : Hold w base' v l := by
  obtain ⟨a, cap, rfl, h1, h2, h3⟩ := h
  refine ⟨a, cap, rfl, h1, h2, ?_⟩
  rcases h3 with h3 | ⟨b, off, rfl, hb, h4⟩
  · exact .inl h3
  · exact .inr ⟨b, off, rfl, Nat.le_trans g hb, h4⟩
theorem Hold.of_own {w : World} {base base' : Nat} {e : TypeId} {v : Value} {n : Nat} {l : List Lay} (h : OwnI w base e 3 v n (flat l)) (g : base' ≤ base) : Hold w base' v l := by
  have hl := h.len
  rw [flat_len] at hl
  obtain rfl : n = l.length := by omega
  obtain ⟨h1, h2⟩ := id h
  rcases h2 with ⟨rfl, h0⟩ | ⟨b, cap, cur, rfl, hb, hh, hn, hc, hs, ht⟩
  · exact ⟨none, 0, by rw [h0], by omega, by unfold maxLen; omega, .inl h0⟩
  · refine ⟨_, cap, rfl, hn, hc, .inr ⟨b, 0, rfl, by omega, (Array.getElem?_eq_some_iff.1 hh).1, ?_, ?_⟩⟩
    · intro i hi
      have c := World.ownsRow.cellAt (w := w) (base := base) (e := e) (size := 3) (g := b) (n := l.length) (cap := cap) (xs := ints (flat l)) ⟨h1, .inr ⟨b, cap, cur, rfl, hb, hh, hn, hc, hs, ht⟩⟩ i (by rw [flat_len] at hi; omega)
      rw [Nat.zero_add, c, ints_get, List.getElem?_eq_getElem hi, List.getD_eq_getElem?_getD, List.getElem?_eq_getElem hi]
      rfl
    · intro i
      unfold World.frozen?
      simp only [hh]
      simp
theorem Hold.nil {w : World} {base : Nat} {a : Option Addr} {cap : Nat} (h : cap ≤ maxLen) : Hold w base (.slice a 0 cap) [] := ⟨a, cap, rfl, by simp, h, .inl rfl⟩
/-- A store into another block. -/
theorem Hold.set {w : World} {base : Nat} {v : Value} {l : List Lay} (h : Hold w base v l) {b : Nat} (hb : b < base) (i : Nat) (u : Value) : Hold (w.setCell ⟨b, i, none⟩ u) base v l := by
  obtain ⟨a, cap, rfl, h1, h2, h3⟩ := h
  refine ⟨a, cap, rfl, h1, h2, ?_⟩
  rcases h3 with h3 | ⟨g, off, rfl, hg, h4, h5, h6⟩
  · exact .inl h3
  · refine .inr ⟨g, off, rfl, hg, by simpa [World.setCell] using h4, fun j hj => ?_, fun j => by simpa using h6 j⟩
    exact (World.cell?_of_block (w := w) (Below.heap_setCell _ _ _ _ (show g ≠ b by omega))).trans (h5 j hj)
theorem OwnI.mono {w : World} {base base' : Nat} {e : TypeId} {k : Nat} {v : Value} {n : Nat} {zs : List Int} (h : OwnI w base e k v n zs) (g : base' ≤ base) : OwnI w base' e k v n zs := by
  obtain ⟨h1, h2⟩ := h
  refine ⟨h1, ?_⟩
  rcases h2 with h2 | ⟨b, cap, cur, hv, hb, r⟩
  · exact .inl h2
  · exact .inr ⟨b, cap, cur, hv, Nat.le_trans g hb, r⟩
/-- 'append(l, x)', at a step of a region that draws its order. -/
theorem step_push {P : Program} {w : World} {ops : Array Oper} {o : Oper} {a : Act} {K : Act → World → Prop} {Q : Exit → Act → World → Prop} {F : Prop} (hgd : o.guard = none) (s x : Operand) (t : TypeId)
    (ho : o.op = .call { callee := .builtin .append, args := #[s, x], argTypes := #[t, t] })
    (base : Nat) (e : TypeId) (size : Nat) (E : Elem P t e size)
    (v : Value) (n : Nat) (zs : List Int) (hs : a.eval s = v) (hown : OwnI w base e size v n zs)
    (b off c : Nat) (ns : List Int) (hx : a.eval x = .slice (some ⟨b, off, none⟩) 1 c) (hl : ns.length = size) (hc : CellsAt w b off ns)
    (hn : (n + 1) * (size * 8) ≤ 140737488355328) (hbase : base ≤ w.heap.size)
    (h : ∀ v' w', OwnI w' base e size v' (n + 1) (zs ++ ns) → Below base w w' → K (a.put o.dst v') w') :
    if Region.wanted o (yielded ops a.tmps) = true then Oper.wp P o a w K Q else F := by
  have hw : Region.wanted o (yielded ops a.tmps) = true := by simp [Region.wanted, hgd]
  rw [if_pos hw]
  obtain ⟨ht, ⟨i, z, hi, hz, hsize, hby, hzs⟩, hp⟩ := E
  have h8 : n + 1 ≤ (n + 1) * (size * 8) := Nat.le_mul_of_pos_right _ (by omega)
  refine wp_append_own w s x t ho base e i z size (size * 8) ht hi hz hsize hby hzs hp v n (ints zs) hs hown ⟨b, off, none⟩ 1 c (ints ns) hx (by rw [ints_length]; omega) ?_ ?_ (by unfold maxLen; omega) hn hbase ?_
  · intro j u hj
    rw [ints_get] at hj
    have hlt : j < ns.length := by
      rcases Nat.lt_or_ge j ns.length with h | h
      · exact h
      · rw [List.getElem?_eq_none h] at hj; cases hj
    have := hc j hlt
    rw [List.getElem?_eq_getElem hlt] at hj
    rw [List.getD_eq_getElem?_getD, List.getElem?_eq_getElem hlt] at this
    simp only [Option.map_some, Option.some.injEq] at hj
    subst hj
    by_cases h0 : j = 0
    · subst h0; simpa [Addr.add] using this
    · simpa [Addr.add, h0] using this
  · intro u hu
    simp only [ints, List.mem_map] at hu
    obtain ⟨y, -, rfl⟩ := hu
    rfl
  · intro v' w' hown' hg _
    refine h v' w' ?_ ?_
    · rw [OwnI, ints_append]; exact hown'
    · have hlt := World.ownsRow.lt hown
      exact (Below.refl base w).grown hg hbase fun k hk => (hlt k hk).1
theorem flat_cons (x : Lay) (l : List Lay) : flat (x :: l) = x.q :: x.v :: x.p :: flat l := rfl
theorem CellsAt.tail {w : World} {b off : Nat} {x : Lay} {l : List Lay} (h : CellsAt w b off (flat (x :: l))) : CellsAt w b (off + 3) (flat l) := by
  intro i hi
  have := h (3 + i) (by simp only [flat_cons, List.length_cons]; omega)
  rw [show off + (3 + i) = off + 3 + i by omega] at this
  rw [this, flat_cons]
  simp [List.getD_eq_getElem?_getD, show 3 + i = i + 1 + 1 + 1 by omega]
theorem CellsAt.head {w : World} {b off : Nat} {x : Lay} {l : List Lay} (h : CellsAt w b off (flat (x :: l))) : w.cell? ⟨b, off, none⟩ = some (.int .i64 x.q) ∧ w.cell? ⟨b, off + 1, none⟩ = some (.int .i64 x.v) ∧ w.cell? ⟨b, off + 2, none⟩ = some (.int .i64 x.p) :=
  ⟨h 0 (by simp [flat_cons]), h 1 (by simp [flat_cons]), h 2 (by simp [flat_cons])⟩
theorem CellsAt.cons {w : World} {b off : Nat} {x : Lay} {l : List Lay} (h0 : w.cell? ⟨b, off, none⟩ = some (.int .i64 x.q)) (h1 : w.cell? ⟨b, off + 1, none⟩ = some (.int .i64 x.v)) (h2 : w.cell? ⟨b, off + 2, none⟩ = some (.int .i64 x.p)) (h : CellsAt w b (off + 3) (flat l)) : CellsAt w b off (flat (x :: l)) := by
  intro i hi
  match i with
  | 0 => exact h0
  | 1 => exact h1
  | 2 => exact h2
  | i + 3 =>
    have := h i (by simp only [flat_cons, List.length_cons] at hi; omega)
    rw [show off + (i + 3) = off + 3 + i by omega, this]
    rfl
theorem AllI.snoc {l : List Lay} {x : Lay} (h : AllI (flat l)) (hx : AllI [x.q, x.v, x.p]) : AllI (flat (l ++ [x])) := by
  have e1 : flat (l ++ [x]) = flat l ++ [x.q, x.v, x.p] := by simp [flat]
  rw [e1]
  intro z hz
  rcases List.mem_append.1 hz with h' | h'
  · exact h z h'
  · exact hx z h'
theorem allI_one {x : Lay} (h : layOk x = true) : AllI [x.q, x.v, x.p] := by
  have := flat_ok (l := [x]) fun y hy => by rw [List.mem_singleton.1 hy]; exact h
  exact this
/-- The block of a result behind a call. -/
theorem res3 {w w' : World} {x y z : Int} {t : Nat} (h : Below (w.alloc (.cells #[.int .i64 x, .int .i64 y, .int .i64 z] t)).heap.size (w.alloc (.cells #[.int .i64 x, .int .i64 y, .int .i64 z] t)) w') :
    Cell3 w' w.heap.size x y z ∧ w.heap.size < w'.heap.size ∧ w.heap.size < w'.heap.size + 1 ∧ w.heap.size < w'.heap.size + 1 + 1 ∧ w.heap.size < w'.heap.size + 1 + 1 + 1 := by
  have hs := h.size
  simp only [World.size_alloc] at hs
  exact ⟨⟨(h.cell (by simp)).trans (by simp), (h.cell (by simp)).trans (by simp), (h.cell (by simp)).trans (by simp), (h.frozen (by simp)).trans (by simp), (h.frozen (by simp)).trans (by simp), (h.frozen (by simp)).trans (by simp)⟩, by omega, by omega, by omega, by omega⟩

theorem lit3 {w : World} {x y z : Int} {t n : Nat} (hn : n = w.heap.size) : CellsAt (w.alloc (.cells #[.int .i64 x, .int .i64 y, .int .i64 z] t)) n 0 [x, y, z] := by
  subst hn; exact CellsAt.new w [x, y, z] t
theorem Cell3.behind {w w' : World} {o : Obj} {b B : Nat} {x y z : Int} (h : Cell3 w b x y z) (hb : b < w.heap.size) (hB : b < B) (g : Below B (w.alloc o) w') : Cell3 w' b x y z := by
  have k : ∀ i, (w.alloc o).cell? ⟨b, i, none⟩ = w.cell? ⟨b, i, none⟩ := fun i => World.cell?_alloc_lt _ _ _ hb
  have kf : ∀ i, (w.alloc o).frozen? ⟨b, i, none⟩ = w.frozen? ⟨b, i, none⟩ := fun i => World.frozen?_alloc_old _ _ _ (Nat.ne_of_lt hb)
  exact ⟨(g.cell hB).trans ((k 0).trans h.c0), (g.cell hB).trans ((k 1).trans h.c1), (g.cell hB).trans ((k 2).trans h.c2), (g.frozen hB).trans ((kf 0).trans h.f0), (g.frozen hB).trans ((kf 1).trans h.f1), (g.frozen hB).trans ((kf 2).trans h.f2)⟩
theorem Cell3.next {w w' : World} {b : Nat} {x y z : Int} (h : Cell3 w b x y z) (hb : b < w.heap.size) (g : Below w.heap.size w w') :
    Cell3 w' b x y z ∧ b < w'.heap.size ∧ b < w'.heap.size + 1 ∧ b < w'.heap.size + 1 + 1 ∧ b < w'.heap.size + 1 + 1 + 1 := by
  have hs := g.size
  exact ⟨⟨(g.cell hb).trans h.c0, (g.cell hb).trans h.c1, (g.cell hb).trans h.c2, (g.frozen hb).trans h.f0, (g.frozen hb).trans h.f1, (g.frozen hb).trans h.f2⟩, by omega, by omega, by omega, by omega⟩
theorem Hold.set3 {w : World} {b : Nat} {v : Value} {l : List Lay} (h : Hold w (b + 1) v l) (x y z : Value) : Hold (((w.setCell ⟨b, 0, none⟩ x).setCell ⟨b, 1, none⟩ y).setCell ⟨b, 2, none⟩ z) b v l :=
  (((h.set (Nat.lt_succ_self _) 0 x).set (Nat.lt_succ_self _) 1 y).set (Nat.lt_succ_self _) 2 z).mono (Nat.le_succ _)
end Go.Proofs.Ytgahhifedgmicaa
