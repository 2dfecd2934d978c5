/-
  The law GroupErrors: the runs with 3 entities.
-/
import Derived.Test.YtglcnlkojlfheaaGreatGrLaw1
set_option linter.unusedVariables false
namespace Go.Proofs.YtglcnlkojlfheaaGreat
open Mc

set_option maxRecDepth 1000000 in
theorem ge_10 : geRun 1 0 := by decide +kernel
set_option maxRecDepth 1000000 in
theorem ge_11 : geRun 1 1 := by decide +kernel
set_option maxRecDepth 1000000 in
theorem ge_12 : geRun 1 2 := by decide +kernel
end Go.Proofs.YtglcnlkojlfheaaGreat
