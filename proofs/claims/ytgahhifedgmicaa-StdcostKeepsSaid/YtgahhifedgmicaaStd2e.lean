/-
  The world behind stdcost.Out: its cells.
-/
import Derived.Test.YtgahhifedgmicaaStd2
set_option linter.unusedVariables false
set_option linter.unusedSimpArgs false
namespace Go.Proofs.Ytgahhifedgmicaa
open Go.RowKit
def outW (W : World) (n0 n1 b off : Nat) (u v yq yp : Int) : World :=
  (((((W.setCell ⟨b, off + 1, none⟩ (.int .i64 u)).setCell ⟨n1, 1, none⟩ (.int .i64 v)).setCell ⟨n0, 0, none⟩ (.int .i64 yq)).setCell ⟨n0, 1, none⟩ (.int .i64 v)).setCell ⟨n0, 2, none⟩ (.int .i64 yp))
theorem outW_cells {W : World} {n0 n1 b off : Nat} {u v yq yp : Int} {z : Lay} {t : List Lay} (g1 : b ≠ n1) (g2 : b ≠ n0) (g3 : n1 ≠ n0)
    (h : CellsAt W b off (flat (z :: t))) (x : Cell3 W n0 0 0 0) :
    CellsAt (outW W n0 n1 b off u v yq yp) b off (flat (⟨z.q, u, z.p⟩ :: t)) ∧ Cell3 (outW W n0 n1 b off u v yq yp) n0 yq v yp ∧ (outW W n0 n1 b off u v yq yp).heap.size = W.heap.size ∧ ∀ p, (outW W n0 n1 b off u v yq yp).frozen? p = W.frozen? p := by
  have hfr : ∀ p, (outW W n0 n1 b off u v yq yp).frozen? p = W.frozen? p := fun p => by unfold outW; simp
  have k := cells_put1 (v := u) h
  refine ⟨fun i hi => ?_, ?_, by unfold outW; simp [World.setCell], hfr⟩
  · unfold outW
    rw [World.cell?_put_far _ g2, World.cell?_put_far _ g2, World.cell?_put_far _ g2, World.cell?_put_far _ g1]
    exact k i hi
  · have g2' : n0 ≠ b := fun e => g2 e.symm
    have g3' : n0 ≠ n1 := fun e => g3 e.symm
    have y : Cell3 ((W.setCell ⟨b, off + 1, none⟩ (.int .i64 u)).setCell ⟨n1, 1, none⟩ (.int .i64 v)) n0 0 0 0 := by
      refine ⟨?_, ?_, ?_, ?_, ?_, ?_⟩
      · rw [World.cell?_put_far _ g3', World.cell?_put_far _ g2']; exact x.c0
      · rw [World.cell?_put_far _ g3', World.cell?_put_far _ g2']; exact x.c1
      · rw [World.cell?_put_far _ g3', World.cell?_put_far _ g2']; exact x.c2
      · rw [World.frozen?_put_far _ g3', World.frozen?_put_far _ g2']; exact x.f0
      · rw [World.frozen?_put_far _ g3', World.frozen?_put_far _ g2']; exact x.f1
      · rw [World.frozen?_put_far _ g3', World.frozen?_put_far _ g2']; exact x.f2
    exact y.put ⟨yq, v, yp⟩
end Go.Proofs.Ytgahhifedgmicaa
