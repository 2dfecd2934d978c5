/-
  Standard cost: the document's example; costs that may not be. The walks.
-/
import Derived.Test.YtjccjmmbebiegaaStdA
set_option linter.unusedVariables false
set_option linter.unusedSimpArgs false
namespace Go.Proofs.Ytjccjmmbebiegaa
open Go.RowKit

theorem wrong_rate {c : Int} (h : c < 0 ∨ 1073741824 < c) : fitsR c = false := by
  cases hf : fitsR c
  · rfl
  · have := fitsR_iff.1 hf; omega

end Go.Proofs.Ytjccjmmbebiegaa