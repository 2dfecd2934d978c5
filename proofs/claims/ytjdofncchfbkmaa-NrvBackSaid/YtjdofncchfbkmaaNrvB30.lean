/-
  The law NrvBack: the runs of the law, by how many prices there are (1).
-/
import Derived.Test.YtjdofncchfbkmaaNrvB1
set_option linter.unusedVariables false
namespace Go.Proofs.Ytjdofncchfbkmaa
open Mc

set_option maxRecDepth 1000000 in
theorem nb_run0 : nbRun 0 := by decide +kernel
set_option maxRecDepth 1000000 in
theorem nb_run1 : nbRun 1 := by decide +kernel
set_option maxRecDepth 1000000 in
theorem nb_run2 : nbRun 2 := by decide +kernel
set_option maxRecDepth 1000000 in
theorem nb_run3 : nbRun 3 := by decide +kernel
set_option maxRecDepth 1000000 in
theorem nb_run4 : nbRun 4 := by decide +kernel
set_option maxRecDepth 1000000 in
theorem nb_run5 : nbRun 5 := by decide +kernel
set_option maxRecDepth 1000000 in
theorem nb_run6 : nbRun 6 := by decide +kernel
set_option maxRecDepth 1000000 in
theorem nb_run7 : nbRun 7 := by decide +kernel
set_option maxRecDepth 1000000 in
theorem nb_run8 : nbRun 8 := by decide +kernel
end Go.Proofs.Ytjdofncchfbkmaa
