/-
  slices.Clone at lists of layers, of lines, of ints: a row of the call's own that reads as what came in.
-/
import Derived.Test.YtnkdbjmfpebcgaaOwn
import Derived.Test.YtnkdbjmfpebcgaaProg
import Derived.Lib.SliceRun
import Derived.WalkSpells
import Derived.WalkLawsBesides
set_option linter.unusedVariables false
namespace Go.Proofs.Ytnkdbjmfpebcgaa
open Go.RowKit

theorem elem_Line : Elem Try.prog 23 25 2 := by
  refine ⟨by kernel_rfl, ?_, by decide⟩
  obtain ⟨i, h1, h2, h3, h4⟩ := info_parts (P := Try.prog) (e := 25) (z := .agg #[.int .i64 0, .int .i64 0]) (size := 2) (bytes := 16) (by kernel_rfl)
  exact ⟨i, _, h1, h2, h3, h4, rfl⟩

set_option maxHeartbeats 400000 in
theorem Clone_Line (a : Option Addr) (n cap : Nat) (zs : List Int) (w : World) (h : Row w 2 a n cap zs) (hn : n * 16 ≤ 140737488355328) :
    Calls Try.prog 30 #[.slice a n cap] w fun e w' => (∃ v, e = .returned v ∧ OwnI w' w.heap.size 25 2 v n zs) ∧ Below w.heap.size w w' := by
  have hnil := fun (wx : World) (a : Option Addr) (n c : Nat) => Lib.run_eql_slice_nil (P := Try.prog) wx 23 25 a n c 0 0 (by kernel_rfl)
  cases a with
  | none =>
    have hz : n = 0 := by
      rcases h.at_ with h0 | ⟨b, off, e, -⟩
      · exact h0
      · cases e
    subst hz
    have hzs : zs = [] := List.eq_nil_of_length_eq_zero (by have := h.len; omega)
    subst hzs
    go_enter Try.func30, Try.ntmps30
    go_wp2
    go_ret
    exact ⟨⟨_, rfl, OwnI.nil _ _ _ _⟩, Below.refl _ _⟩
  | some ad =>
    go_enter Try.func30, Try.ntmps30
    go_wp2_with (at_builtin; refine wpList_pushN _ rfl _ _ 23 rfl w.heap.size 25 2 elem_Line _ 0 [] rfl (OwnI.empty _ _ _ _ (Nat.le_refl _)) ad n cap zs rfl (h.below ((Below.refl _ _).alloc (Nat.le_refl _) _)) (by omega) (by simp) ?_)
    intro v' w1 hown hb
    have hb1 := ((Below.refl w.heap.size w).alloc (Nat.le_refl _) _).trans hb
    clear hb hnil
    go_wp2
    go_ret
    exact ⟨⟨_, rfl, by simpa using hown⟩, hb1⟩

theorem elem_Int : Elem Try.prog 36 3 1 := by
  refine ⟨by kernel_rfl, ?_, by decide⟩
  obtain ⟨i, h1, h2, h3, h4⟩ := info_parts (P := Try.prog) (e := 3) (z := .int .i64 0) (size := 1) (bytes := 8) (by kernel_rfl)
  exact ⟨i, _, h1, h2, h3, h4, rfl⟩

set_option maxHeartbeats 400000 in
theorem Clone_Int (a : Option Addr) (n cap : Nat) (zs : List Int) (w : World) (h : Row w 1 a n cap zs) (hn : n * 8 ≤ 140737488355328) :
    Calls Try.prog 50 #[.slice a n cap] w fun e w' => (∃ v, e = .returned v ∧ OwnI w' w.heap.size 3 1 v n zs) ∧ Below w.heap.size w w' := by
  have hnil := fun (wx : World) (a : Option Addr) (n c : Nat) => Lib.run_eql_slice_nil (P := Try.prog) wx 36 3 a n c 0 0 (by kernel_rfl)
  cases a with
  | none =>
    have hz : n = 0 := by
      rcases h.at_ with h0 | ⟨b, off, e, -⟩
      · exact h0
      · cases e
    subst hz
    have hzs : zs = [] := List.eq_nil_of_length_eq_zero (by have := h.len; omega)
    subst hzs
    go_enter Try.func50, Try.ntmps50
    go_wp2
    go_ret
    exact ⟨⟨_, rfl, OwnI.nil _ _ _ _⟩, Below.refl _ _⟩
  | some ad =>
    go_enter Try.func50, Try.ntmps50
    go_wp2_with (at_builtin; refine wpList_pushN _ rfl _ _ 36 rfl w.heap.size 3 1 elem_Int _ 0 [] rfl (OwnI.empty _ _ _ _ (Nat.le_refl _)) ad n cap zs rfl (h.below ((Below.refl _ _).alloc (Nat.le_refl _) _)) (by omega) (by simp) ?_)
    intro v' w1 hown hb
    have hb1 := ((Below.refl w.heap.size w).alloc (Nat.le_refl _) _).trans hb
    clear hb hnil
    go_wp2
    go_ret
    exact ⟨⟨_, rfl, by simpa using hown⟩, hb1⟩
end Go.Proofs.Ytnkdbjmfpebcgaa
