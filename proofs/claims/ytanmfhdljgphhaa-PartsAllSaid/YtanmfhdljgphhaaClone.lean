/-
  slices.Clone at lists of layers, of lines, of ints: a row of the call's own that reads as what came in.
-/
import Derived.Test.YtanmfhdljgphhaaOwn
import Derived.Test.YtanmfhdljgphhaaProg
import Derived.Lib.SliceRun
import Derived.WalkSpells
import Derived.WalkLawsBesides
set_option linter.unusedVariables false
namespace Go.Proofs.Ytanmfhdljgphhaa
open Go.RowKit

theorem elem_Int : Elem Try.prog 22 3 1 := by
  refine ⟨by kernel_rfl, ?_, by decide⟩
  obtain ⟨i, h1, h2, h3, h4⟩ := info_parts (P := Try.prog) (e := 3) (z := .int .i64 0) (size := 1) (bytes := 8) (by kernel_rfl)
  exact ⟨i, _, h1, h2, h3, h4, rfl⟩

end Go.Proofs.Ytanmfhdljgphhaa