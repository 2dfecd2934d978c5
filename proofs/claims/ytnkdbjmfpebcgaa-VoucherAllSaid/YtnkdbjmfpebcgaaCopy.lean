/-
  A copy by append. (For seats without the fifo chain.)
-/
import Derived.Test.YtnkdbjmfpebcgaaVou6
set_option linter.unusedVariables false
set_option linter.unusedSimpArgs false
namespace Go.Proofs.Ytnkdbjmfpebcgaa
open Go.RowKit

theorem run_append_nil_nil {P : Program} (w : World) (t ty e : TypeId) (i : TypeInfo) (c : Nat) (ht : P.underlying t = some (.slice e)) (hi : P.info? e = some i) :
    (Builtin.append_ #[t, t] ty #[.slice none 0 0, .slice none 0 c]).run P w = .ok (.slice none 0 0) w := by
  simp [Builtin.append_, run_underlying ht, sizeOf, typeInfo, hi, Builtin.lenOf, Builtin.firstCells, loadCells, loadCellsFrom]

/-- 'append([]T(nil), l...)': a row of the call's own that reads as l. -/
theorem step_copy {P : Program} {w : World} {ops : Array Oper} {o : Oper} {fr : Act} {K : Act → World → Prop} {Q : Exit → Act → World → Prop} {F : Prop} (hgd : o.guard = none) (x : Operand) (t : TypeId)
    (ho : o.op = .call { callee := .builtin .append, args := #[.const (.slice none 0 0), x], argTypes := #[t, t] })
    (e : TypeId) (size : Nat) (E : Elem P t e size) (a : Option Addr) (n cap : Nat) (zs : List Int) (hx : fr.eval x = .slice a n cap) (hrow : Row w size a n cap zs) (hn : n * (size * 8) ≤ 140737488355328)
    (h : ∀ v' w', OwnI w' w.heap.size e size v' n zs → Below w.heap.size w w' → K (fr.put o.dst v') w') :
    if Region.wanted o (yielded ops fr.tmps) = true then Oper.wp P o fr w K Q else F := by
  have hw : Region.wanted o (yielded ops fr.tmps) = true := by simp [Region.wanted, hgd]
  rw [if_pos hw]
  obtain ⟨ht, ⟨i, z, hi, hz, hsize, hby, hzs⟩, hp⟩ := E
  have h8 : n ≤ n * (size * 8) := Nat.le_mul_of_pos_right _ (by omega)
  cases a with
  | none =>
    have hz0 : n = 0 := by
      rcases hrow.at_ with h0 | ⟨b, off, e, -⟩
      · exact h0
      · cases e
    subst hz0
    have hzs0 : zs = [] := List.eq_nil_of_length_eq_zero (by have := hrow.len; omega)
    subst hzs0
    have hr := run_append_nil_nil (P := P) w t o.type e i cap ht hi
    unfold Oper.wp execOp
    simp only [ho, resolve, invoke, builtin, Sem.run_bind, Sem.run_pure, Result.andThen_ok, List.map_toArray, List.map_cons, List.map_nil, hx]
    have hc : fr.eval (.const (.slice none 0 0)) = .slice none 0 0 := rfl
    simp only [hc, hr]
    exact h _ _ (OwnI.nil _ _ _ _) (Below.refl _ _)
  | some ad =>
    refine wp_append_own w (.const (.slice none 0 0)) x t ho w.heap.size e i z size (size * 8) ht hi hz hsize hby hzs hp (.slice none 0 0) 0 [] rfl (World.ownsRow_nil _ _ _ _) ad n cap (ints zs) hx (by rw [ints_length]; exact hrow.len) hrow.cells ?_ (by unfold maxLen; omega) (by rw [Nat.zero_add]; exact hn) (Nat.le_refl _) ?_
    · intro u hu
      simp only [ints, List.mem_map] at hu
      obtain ⟨y, -, rfl⟩ := hu
      rfl
    · intro v' w' hown' hg _
      refine h v' w' ?_ ((Below.refl _ w).grown hg (Nat.le_refl _) fun k hk => by simp [Value.ownBlock] at hk)
      rw [Nat.zero_add] at hown'
      exact hown'

/-- 'append([]T(nil), l...)', in the text's order: a row of the call's own that reads as l. -/
theorem wpList_copy {P : Program} (w : World) {ops : Array Oper} {rest : List Oper} {o : Oper} {fr : Act} {Q : Exit → Act → World → Prop} (hgd : o.guard = none) (x : Operand) (t : TypeId)
    (ho : o.op = .call { callee := .builtin .append, args := #[.const (.slice none 0 0), x], argTypes := #[t, t] })
    (e : TypeId) (size : Nat) (E : Elem P t e size) (a : Option Addr) (n cap : Nat) (zs : List Int) (hx : fr.eval x = .slice a n cap) (hrow : Row w size a n cap zs) (hn : n * (size * 8) ≤ 140737488355328)
    (h : ∀ v' w', OwnI w' w.heap.size e size v' n zs → Below w.heap.size w w' → wpList P ops Q rest (fr.put o.dst v') w') : wpList P ops Q (o :: rest) fr w := by
  have hs := step_copy (P := P) (w := w) (ops := ops) (o := o) (fr := fr) (K := fun a' w' => wpList P ops Q rest a' w') (Q := Q) (F := wpList P ops Q rest fr w) hgd x t ho e size E a n cap zs hx hrow hn h
  have hw : Region.wanted o (yielded ops fr.tmps) = true := by simp [Region.wanted, hgd]
  rw [if_pos hw] at hs
  rw [wpList, if_pos hw]
  exact .inl hs

end Go.Proofs.Ytnkdbjmfpebcgaa
