/-
  The law NrvBack: the runs of the law, by how many prices there are (2).
-/
import Derived.Test.YtjdofncchfbkmaaNrvB1
set_option linter.unusedVariables false
namespace Go.Proofs.Ytjdofncchfbkmaa
open Mc

set_option maxRecDepth 1000000 in
theorem nb_run9 : nbRun 9 := by decide +kernel
set_option maxRecDepth 1000000 in
theorem nb_run10 : nbRun 10 := by decide +kernel
set_option maxRecDepth 1000000 in
theorem nb_run11 : nbRun 11 := by decide +kernel
set_option maxRecDepth 1000000 in
theorem nb_run12 : nbRun 12 := by decide +kernel
set_option maxRecDepth 1000000 in
theorem nb_run13 : nbRun 13 := by decide +kernel
end Go.Proofs.Ytjdofncchfbkmaa
