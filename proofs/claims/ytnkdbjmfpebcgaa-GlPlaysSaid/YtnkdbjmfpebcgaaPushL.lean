/-
  'append(l, x)' on a row of the call's own: where what comes of it lies, what else stays.
-/
import Derived.Test.YtnkdbjmfpebcgaaOwn
import Derived.Deep.AppendLies
set_option linter.unusedVariables false
set_option linter.unusedSimpArgs false
namespace Go.Proofs.Ytnkdbjmfpebcgaa
open Go.RowKit

theorem OwnI.kept2 {w w' : World} {B : Nat} {e : TypeId} {k : Nat} {v : Value} {n : Nat} {zs : List Int} {r : Option Nat} (h : OwnI w B e k v n zs) (g : w.grownBy w' r) (hne : v.ownBlock = none ∨ v.ownBlock ≠ r) : OwnI w' B e k v n zs := World.ownsRow.kept h g hne
theorem OwnI.lt2 {w : World} {B : Nat} {e : TypeId} {k : Nat} {v : Value} {n : Nat} {zs : List Int} (h : OwnI w B e k v n zs) : ∀ b, v.ownBlock = some b → b < w.heap.size ∧ B ≤ b := fun b hb => by
  have := World.ownsRow.lt h b hb
  exact ⟨by omega, by omega⟩
theorem grown_alloc2 (w : World) (o : Obj) (r : Option Nat) : w.grownBy (w.alloc o) r := ⟨rfl, rfl, rfl, by simp, fun k hk _ => Below.heap_alloc _ _ _ hk⟩
theorem below_grown {B : Nat} {w w' : World} {r : Option Nat} (g : w.grownBy w' r) (hB : B ≤ w.heap.size) (hr : ∀ k, r = some k → B ≤ k) : Below B w w' := (Below.refl B w).grown g hB hr

/-- 'append(l, x)': in its old block, or in one that is new. -/
theorem wpList_pushL {P : Program} (w : World) {ops : Array Oper} {rest : List Oper} {o : Oper} {a : Act} {Q : Exit → Act → World → Prop} (hgd : o.guard = none) (s x : Operand) (t : TypeId)
    (ho : o.op = .call { callee := .builtin .append, args := #[s, x], argTypes := #[t, t] })
    (base : Nat) (e : TypeId) (size : Nat) (E : Elem P t e size)
    (v : Value) (n : Nat) (zs : List Int) (hs : a.eval s = v) (hown : OwnI w base e size v n zs)
    (b off c : Nat) (ns : List Int) (hx : a.eval x = .slice (some ⟨b, off, none⟩) 1 c) (hl : ns.length = size) (hc : CellsAt w b off ns)
    (hn : (n + 1) * (size * 8) ≤ 140737488355328) (hbase : base ≤ w.heap.size)
    (h : ∀ g cap w', OwnI w' base e size (.slice (some ⟨g, 0, none⟩) (n + 1) cap) (n + 1) (zs ++ ns) → w.grownBy w' v.ownBlock → (v.ownBlock = some g ∨ g = w.heap.size) → g < w'.heap.size → wpList P ops Q rest (a.put o.dst (.slice (some ⟨g, 0, none⟩) (n + 1) cap)) w') : wpList P ops Q (o :: rest) a w := by
  obtain ⟨ht, ⟨i, z, hi, hz, hsize, hby, hzs⟩, hp⟩ := E
  have h8 : n + 1 ≤ (n + 1) * (size * 8) := Nat.le_mul_of_pos_right _ (by omega)
  refine wpList_append_lies w hgd s x t ho base e i z size (size * 8) ht hi hz hsize hby hzs hp v n (ints zs) hs hown ⟨b, off, none⟩ 1 c (ints ns) hx (by rw [ints_length]; omega) ?_ ?_ (by omega) (by unfold maxLen; omega) hn hbase w.heap.size rfl ?_
  · intro j u hj
    rw [ints_get] at hj
    have hlt : j < ns.length := by
      rcases Nat.lt_or_ge j ns.length with h | h
      · exact h
      · rw [List.getElem?_eq_none h] at hj; cases hj
    have := hc j hlt
    rw [List.getElem?_eq_getElem hlt] at hj
    rw [List.getD_eq_getElem?_getD, List.getElem?_eq_getElem hlt] at this
    simp only [Option.map_some, Option.some.injEq] at hj
    subst hj
    by_cases h0 : j = 0
    · subst h0; simpa [Addr.add] using this
    · simpa [Addr.add, h0] using this
  · intro u hu
    simp only [ints, List.mem_map] at hu
    obtain ⟨y, -, rfl⟩ := hu
    rfl
  · intro g cap w' hown' hg hl hlt
    exact h g cap w' (by rw [OwnI, ints_append]; exact hown') hg hl hlt
end Go.Proofs.Ytnkdbjmfpebcgaa
