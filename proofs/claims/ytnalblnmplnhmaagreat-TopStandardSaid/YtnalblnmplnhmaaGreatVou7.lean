/-
  VoucherLimits. Its walk.
-/
import Derived.Test.YtnalblnmplnhmaaGreatVou6
set_option linter.unusedVariables false
set_option linter.unusedSimpArgs false
namespace Go.Proofs.YtnalblnmplnhmaaGreat
open Go.RowKit

theorem CellsAt.put {w : World} {b off : Nat} {zs : List Int} (h : CellsAt w b off zs) {j : Nat} (hj : j < zs.length) (z : Int) : CellsAt (w.setCell ⟨b, off + j, none⟩ (.int .i64 z)) b off (zs.set j z) := by
  intro i hi
  rw [List.length_set] at hi
  have k := h i hi
  by_cases e : i = j
  · subst e
    rw [World.cell?_setCell_same _ _ _ k, List.getD_eq_getElem?_getD, List.getElem?_set_self hi]
    rfl
  · rw [World.cell?_setCell_other _ _ _ _ (by intro e2; injection e2; omega), k, List.getD_eq_getElem?_getD, List.getD_eq_getElem?_getD, List.getElem?_set_ne (fun e2 => e e2.symm)]

theorem OwnI.lit (w : World) (zs : List Int) (n k : Nat) (e : TypeId) (hl : zs.length = n * k) (hm : n ≤ 4611686018427387904) : OwnI (w.alloc (.cells (zs.map (Value.int .i64)).toArray e)) w.heap.size e k (.slice (some ⟨w.heap.size, 0, none⟩) n n) n zs := by
  have := World.ownsRow_lit (base := w.heap.size) (e := e) (size := k) w (zs.map (Value.int .i64)).toArray n (Nat.le_refl _) (by unfold maxLen; omega) (by simpa using hl)
  exact this
def limL (k : Nat) : List Lin := (List.range k).map fun (i : Nat) => (⟨(i : Int) % 17, 2 * ((i : Int) % 2) - 1⟩ : Lin)
def limF (k : Nat) : List Lin := if k % 2 = 1 then limL k ++ [⟨0, 1⟩] else limL k
end Go.Proofs.YtnalblnmplnhmaaGreat