/-
  Slices of ints (or of structs of ints) that the call itself has made: what one more element does, how they read.
-/
import Derived.Test.YtnkdbjmfpebcgaaRow
set_option linter.unusedVariables false
namespace Go.Proofs.Ytnkdbjmfpebcgaa
open Go.RowKit

def ints (zs : List Int) : List Value := zs.map (Value.int .i64)
theorem ints_append (l m : List Int) : ints (l ++ m) = ints l ++ ints m := List.map_append
theorem ints_length (l : List Int) : (ints l).length = l.length := List.length_map ..
theorem ints_get (l : List Int) (i : Nat) : (ints l)[i]? = (l[i]?).map (Value.int .i64) := List.getElem?_map ..

/-- A slice type t of elements e, each of 'size' cells of 8 bytes. -/
structure Elem (P : Program) (t e : TypeId) (size : Nat) : Prop where
  slice : P.underlying t = some (.slice e)
  info : ∃ (i : TypeInfo) (z : Value), P.info? e = some i ∧ i.zero = some z ∧ i.size = size ∧ i.bytes = size * 8 ∧ z.cells.size = size
  pos : 0 < size

/-- The call's own row: from block number base on. -/
def OwnI (w : World) (base : Nat) (e : TypeId) (k : Nat) (v : Value) (n : Nat) (zs : List Int) : Prop := w.ownsRow base e k v n (ints zs)

theorem OwnI.nil (w : World) (base : Nat) (e : TypeId) (k : Nat) : OwnI w base e k (.slice none 0 0) 0 [] := World.ownsRow_nil _ _ _ _
theorem OwnI.alloc {w : World} {base : Nat} {e : TypeId} {k : Nat} {v : Value} {n : Nat} {zs : List Int} (h : OwnI w base e k v n zs) (o : Obj) : OwnI (w.alloc o) base e k v n zs := World.ownsRow.alloc h o
theorem OwnI.drew {w : World} {base : Nat} {e : TypeId} {k : Nat} {v : Value} {n : Nat} {zs : List Int} (h : OwnI w base e k v n zs) : OwnI w.drew base e k v n zs := h
theorem OwnI.below {w w' : World} {base : Nat} {e : TypeId} {k : Nat} {v : Value} {n : Nat} {zs : List Int} (h : OwnI w base e k v n zs) (g : Below w.heap.size w w') : OwnI w' base e k v n zs := by
  obtain ⟨h1, h2⟩ := h
  refine ⟨h1, ?_⟩
  rcases h2 with h2 | ⟨b, cap, cur, hv, hb, hh, r⟩
  · exact .inl h2
  · refine .inr ⟨b, cap, cur, hv, hb, ?_, r⟩
    have : b < w.heap.size := by
      rcases Nat.lt_or_ge b w.heap.size with h | h
      · exact h
      · rw [Array.getElem?_eq_none h] at hh; cases hh
    rw [g.block b this]; exact hh
theorem OwnI.len {w : World} {base : Nat} {e : TypeId} {k : Nat} {v : Value} {n : Nat} {zs : List Int} (h : OwnI w base e k v n zs) : zs.length = n * k := by
  have := h.1; rwa [ints_length] at this
/-- It reads as a row. -/
theorem OwnI.row {w : World} {base : Nat} {e : TypeId} {k : Nat} {v : Value} {n : Nat} {zs : List Int} (h : OwnI w base e k v n zs) (ha : AllI zs) :
    ∃ a cap, v = .slice a n cap ∧ Row w k a n cap zs := by
  have hl := h.len
  obtain ⟨h1, h2⟩ := h
  rcases h2 with ⟨rfl, rfl⟩ | ⟨b, cap, cur, rfl, hb, hh, hn, hc, hs, ht⟩
  · exact ⟨_, _, rfl, hl, Nat.le_refl _, by omega, ha, .inl rfl⟩
  · refine ⟨_, _, rfl, hl, hn, hc, ha, .inr ⟨b, 0, rfl, ?_, ?_⟩⟩
    · rcases Nat.lt_or_ge b w.heap.size with h | h
      · exact h
      · rw [Array.getElem?_eq_none h] at hh; cases hh
    · intro i hi
      have c := World.ownsRow.cellAt (w := w) (base := base) (e := e) (size := k) (g := b) (n := n) (cap := cap) (xs := ints zs) ⟨h1, .inr ⟨b, cap, cur, rfl, hb, hh, hn, hc, hs, ht⟩⟩ i (by omega)
      rw [Nat.zero_add, c, ints_get, List.getElem?_eq_getElem hi, List.getD_eq_getElem?_getD, List.getElem?_eq_getElem hi]
      rfl

theorem Row.cells {w : World} {k : Nat} {ad : Addr} {n cap : Nat} {zs : List Int} (h : Row w k (some ad) n cap zs) : ∀ j u, (ints zs)[j]? = some u → w.cell? (ad.add j) = some u := by
  intro j u hj
  rw [ints_get] at hj
  have hlt : j < zs.length := by
    rcases Nat.lt_or_ge j zs.length with h | h
    · exact h
    · rw [List.getElem?_eq_none h] at hj; cases hj
  rcases h.at_ with h0 | ⟨b, off, e, hb, hc⟩
  · have := h.len
    rw [h0] at this
    omega
  · cases e
    have := hc j hlt
    rw [List.getElem?_eq_getElem hlt] at hj
    rw [List.getD_eq_getElem?_getD, List.getElem?_eq_getElem hlt] at this
    simp only [Option.map_some, Option.some.injEq] at hj
    subst hj
    by_cases h0 : j = 0
    · subst h0; simpa [Addr.add] using this
    · simpa [Addr.add, h0] using this
/-- A row that is empty lies anywhere. -/
theorem OwnI.empty (w : World) (base : Nat) (e : TypeId) (k : Nat) (h : base ≤ w.heap.size) : OwnI (w.alloc (.cells #[] e)) base e k (.slice (some ⟨w.heap.size, 0, none⟩) 0 0) 0 [] :=
  World.ownsRow_lit w #[] 0 h (by unfold maxLen; omega) (by simp)

section
variable {P : Program}
/-- 'append(l, x)' on a row of the call's own: one element more. -/
theorem wpList_push (w : World) {ops : Array Oper} {rest : List Oper} {o : Oper} {a : Act} {Q : Exit → Act → World → Prop} (hgd : o.guard = none) (s x : Operand) (t : TypeId)
    (ho : o.op = .call { callee := .builtin .append, args := #[s, x], argTypes := #[t, t] })
    (base : Nat) (e : TypeId) (size : Nat) (E : Elem P t e size)
    (v : Value) (n : Nat) (zs : List Int) (hs : a.eval s = v) (hown : OwnI w base e size v n zs)
    (b off c : Nat) (ns : List Int) (hx : a.eval x = .slice (some ⟨b, off, none⟩) 1 c) (hl : ns.length = size) (hc : CellsAt w b off ns)
    (hn : (n + 1) * (size * 8) ≤ 140737488355328) (hbase : base ≤ w.heap.size)
    (h : ∀ v' w', OwnI w' base e size v' (n + 1) (zs ++ ns) → Below base w w' → wpList P ops Q rest (a.put o.dst v') w') : wpList P ops Q (o :: rest) a w := by
  obtain ⟨ht, ⟨i, z, hi, hz, hsize, hby, hzs⟩, hp⟩ := E
  have h8 : n + 1 ≤ (n + 1) * (size * 8) := Nat.le_mul_of_pos_right _ (by omega)
  refine wpList_append_own w hgd s x t ho base e i z size (size * 8) ht hi hz hsize hby hzs hp v n (ints zs) hs hown ⟨b, off, none⟩ 1 c (ints ns) hx (by rw [ints_length]; omega) ?_ ?_ (by unfold maxLen; omega) hn hbase ?_
  · intro j u hj
    rw [ints_get] at hj
    have hlt : j < ns.length := by
      rcases Nat.lt_or_ge j ns.length with h | h
      · exact h
      · rw [List.getElem?_eq_none h] at hj; cases hj
    have := hc j hlt
    rw [List.getElem?_eq_getElem hlt] at hj
    rw [List.getD_eq_getElem?_getD, List.getElem?_eq_getElem hlt] at this
    simp only [Option.map_some, Option.some.injEq] at hj
    subst hj
    by_cases h0 : j = 0
    · subst h0; simpa [Addr.add] using this
    · simpa [Addr.add, h0] using this
  · intro u hu
    simp only [ints, List.mem_map] at hu
    obtain ⟨y, -, rfl⟩ := hu
    rfl
  · intro v' w' hown' hg _
    refine h v' w' ?_ ?_
    · rw [OwnI, ints_append]; exact hown'
    · have hlt := World.ownsRow.lt hown
      exact (Below.refl base w).grown hg hbase fun k hk => (hlt k hk).1
/-- 'append(l, m...)' on a row of the call's own, m not nil. -/
theorem wpList_pushN (w : World) {ops : Array Oper} {rest : List Oper} {o : Oper} {a : Act} {Q : Exit → Act → World → Prop} (hgd : o.guard = none) (s x : Operand) (t : TypeId)
    (ho : o.op = .call { callee := .builtin .append, args := #[s, x], argTypes := #[t, t] })
    (base : Nat) (e : TypeId) (size : Nat) (E : Elem P t e size)
    (v : Value) (n : Nat) (zs : List Int) (hs : a.eval s = v) (hown : OwnI w base e size v n zs)
    (ad : Addr) (m c : Nat) (ns : List Int) (hx : a.eval x = .slice (some ad) m c) (hrow : Row w size (some ad) m c ns)
    (hn : (n + m) * (size * 8) ≤ 140737488355328) (hbase : base ≤ w.heap.size)
    (h : ∀ v' w', OwnI w' base e size v' (n + m) (zs ++ ns) → Below base w w' → wpList P ops Q rest (a.put o.dst v') w') : wpList P ops Q (o :: rest) a w := by
  obtain ⟨ht, ⟨i, z, hi, hz, hsize, hby, hzs⟩, hp⟩ := E
  have h8 : n + m ≤ (n + m) * (size * 8) := Nat.le_mul_of_pos_right _ (by omega)
  refine wpList_append_own w hgd s x t ho base e i z size (size * 8) ht hi hz hsize hby hzs hp v n (ints zs) hs hown ad m c (ints ns) hx (by rw [ints_length]; exact hrow.len) hrow.cells ?_ (by unfold maxLen; omega) hn hbase ?_
  · intro u hu
    simp only [ints, List.mem_map] at hu
    obtain ⟨y, -, rfl⟩ := hu
    rfl
  · intro v' w' hown' hg _
    refine h v' w' ?_ ?_
    · rw [OwnI, ints_append]; exact hown'
    · have hlt := World.ownsRow.lt hown
      exact (Below.refl base w).grown hg hbase fun k hk => (hlt k hk).1
end
end Go.Proofs.Ytnkdbjmfpebcgaa
