/-
  The law NrvBack: the runs of the law, by how many prices there are (4).
-/
import Derived.Test.YtjdofncchfbkmaaNrvB1
set_option linter.unusedVariables false
namespace Go.Proofs.Ytjdofncchfbkmaa
open Mc

set_option maxRecDepth 1000000 in
theorem nb_run18 : nbRun 18 := by decide +kernel
set_option maxRecDepth 1000000 in
theorem nb_run19 : nbRun 19 := by decide +kernel
set_option maxRecDepth 1000000 in
theorem nb_run20 : nbRun 20 := by decide +kernel
set_option maxRecDepth 1000000 in
theorem nb_run21 : nbRun 21 := by decide +kernel
end Go.Proofs.Ytjdofncchfbkmaa
