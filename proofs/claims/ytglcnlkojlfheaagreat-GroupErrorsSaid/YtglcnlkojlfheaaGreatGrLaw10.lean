/-
  The law GroupErrors: the runs with 2 entities.
-/
import Derived.Test.YtglcnlkojlfheaaGreatGrLaw1
set_option linter.unusedVariables false
namespace Go.Proofs.YtglcnlkojlfheaaGreat
open Mc

set_option maxRecDepth 1000000 in
theorem ge_00 : geRun 0 0 := by decide +kernel
set_option maxRecDepth 1000000 in
theorem ge_01 : geRun 0 1 := by decide +kernel
end Go.Proofs.YtglcnlkojlfheaaGreat
