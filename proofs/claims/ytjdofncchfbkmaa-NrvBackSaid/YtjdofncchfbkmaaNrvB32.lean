/-
  The law NrvBack: the runs of the law, by how many prices there are (3).
-/
import Derived.Test.YtjdofncchfbkmaaNrvB1
set_option linter.unusedVariables false
namespace Go.Proofs.Ytjdofncchfbkmaa
open Mc

set_option maxRecDepth 1000000 in
theorem nb_run14 : nbRun 14 := by decide +kernel
set_option maxRecDepth 1000000 in
theorem nb_run15 : nbRun 15 := by decide +kernel
set_option maxRecDepth 1000000 in
theorem nb_run16 : nbRun 16 := by decide +kernel
set_option maxRecDepth 1000000 in
theorem nb_run17 : nbRun 17 := by decide +kernel
end Go.Proofs.Ytjdofncchfbkmaa
