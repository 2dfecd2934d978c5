/-
  The law ChartNames: its runs (1).
-/
import Derived.Test.YtaocfoahipeboaaDoorCh2
set_option linter.unusedVariables false
namespace Go.Proofs.YtaocfoahipeboaaDoor
open Go.RowKit Mc

set_option maxRecDepth 1000000 in
theorem cn_0_0 : cnRun 0 9 0 := by decide +kernel
set_option maxRecDepth 1000000 in
theorem cn_0_1 : cnRun 0 9 1 := by decide +kernel
set_option maxRecDepth 1000000 in
theorem cn_0_2 : cnRun 0 9 2 := by decide +kernel
set_option maxRecDepth 1000000 in
theorem cn_0_3 : cnRun 0 9 3 := by decide +kernel
set_option maxRecDepth 1000000 in
theorem cn_0_4 : cnRun 0 9 4 := by decide +kernel
set_option maxRecDepth 1000000 in
theorem cn_0_5 : cnRun 0 9 5 := by decide +kernel
set_option maxRecDepth 1000000 in
theorem cn_0_6 : cnRun 0 9 6 := by decide +kernel
set_option maxRecDepth 1000000 in
theorem cn_0_7 : cnRun 0 9 7 := by decide +kernel
set_option maxRecDepth 1000000 in
theorem cn_0_8 : cnRun 0 9 8 := by decide +kernel
set_option maxRecDepth 1000000 in
theorem cn_1_0 : cnRun 1 4 0 := by decide +kernel
set_option maxRecDepth 1000000 in
theorem cn_1_1 : cnRun 1 4 1 := by decide +kernel
set_option maxRecDepth 1000000 in
theorem cn_1_2 : cnRun 1 4 2 := by decide +kernel
set_option maxRecDepth 1000000 in
theorem cn_1_3 : cnRun 1 4 3 := by decide +kernel
set_option maxRecDepth 1000000 in
theorem cn_2_0 : cnRun 2 7 0 := by decide +kernel
set_option maxRecDepth 1000000 in
theorem cn_2_1 : cnRun 2 7 1 := by decide +kernel
set_option maxRecDepth 1000000 in
theorem cn_2_2 : cnRun 2 7 2 := by decide +kernel
set_option maxRecDepth 1000000 in
theorem cn_2_3 : cnRun 2 7 3 := by decide +kernel
set_option maxRecDepth 1000000 in
theorem cn_2_4 : cnRun 2 7 4 := by decide +kernel
set_option maxRecDepth 1000000 in
theorem cn_2_5 : cnRun 2 7 5 := by decide +kernel
set_option maxRecDepth 1000000 in
theorem cn_2_6 : cnRun 2 7 6 := by decide +kernel
set_option maxRecDepth 1000000 in
theorem cn_3_0 : cnRun 3 10 0 := by decide +kernel
set_option maxRecDepth 1000000 in
theorem cn_3_1 : cnRun 3 10 1 := by decide +kernel
set_option maxRecDepth 1000000 in
theorem cn_3_2 : cnRun 3 10 2 := by decide +kernel
set_option maxRecDepth 1000000 in
theorem cn_3_3 : cnRun 3 10 3 := by decide +kernel
set_option maxRecDepth 1000000 in
theorem cn_3_4 : cnRun 3 10 4 := by decide +kernel
set_option maxRecDepth 1000000 in
theorem cn_3_5 : cnRun 3 10 5 := by decide +kernel
set_option maxRecDepth 1000000 in
theorem cn_3_6 : cnRun 3 10 6 := by decide +kernel
set_option maxRecDepth 1000000 in
theorem cn_3_7 : cnRun 3 10 7 := by decide +kernel
set_option maxRecDepth 1000000 in
theorem cn_3_8 : cnRun 3 10 8 := by decide +kernel
set_option maxRecDepth 1000000 in
theorem cn_3_9 : cnRun 3 10 9 := by decide +kernel
set_option maxRecDepth 1000000 in
theorem cn_4_0 : cnRun 4 5 0 := by decide +kernel
set_option maxRecDepth 1000000 in
theorem cn_4_1 : cnRun 4 5 1 := by decide +kernel
set_option maxRecDepth 1000000 in
theorem cn_4_2 : cnRun 4 5 2 := by decide +kernel
set_option maxRecDepth 1000000 in
theorem cn_4_3 : cnRun 4 5 3 := by decide +kernel
set_option maxRecDepth 1000000 in
theorem cn_4_4 : cnRun 4 5 4 := by decide +kernel
set_option maxRecDepth 1000000 in
theorem cn_5_0 : cnRun 5 4 0 := by decide +kernel
set_option maxRecDepth 1000000 in
theorem cn_5_1 : cnRun 5 4 1 := by decide +kernel
set_option maxRecDepth 1000000 in
theorem cn_5_2 : cnRun 5 4 2 := by decide +kernel
set_option maxRecDepth 1000000 in
theorem cn_5_3 : cnRun 5 4 3 := by decide +kernel
end Go.Proofs.YtaocfoahipeboaaDoor
