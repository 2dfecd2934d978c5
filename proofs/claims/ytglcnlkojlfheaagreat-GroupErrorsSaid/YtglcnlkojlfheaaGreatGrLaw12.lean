/-
  The law GroupErrors: the runs with 4 entities.
-/
import Derived.Test.YtglcnlkojlfheaaGreatGrLaw1
set_option linter.unusedVariables false
namespace Go.Proofs.YtglcnlkojlfheaaGreat
open Mc

set_option maxRecDepth 1000000 in
theorem ge_20 : geRun 2 0 := by decide +kernel
set_option maxRecDepth 1000000 in
theorem ge_21 : geRun 2 1 := by decide +kernel
set_option maxRecDepth 1000000 in
theorem ge_22 : geRun 2 2 := by decide +kernel
set_option maxRecDepth 1000000 in
theorem ge_23 : geRun 2 3 := by decide +kernel
end Go.Proofs.YtglcnlkojlfheaaGreat
