/-
  The law ChartNames: its runs (2).
-/
import Derived.Test.YtaocfoahipeboaaDoorCh2
set_option linter.unusedVariables false
namespace Go.Proofs.YtaocfoahipeboaaDoor
open Go.RowKit Mc

set_option maxRecDepth 1000000 in
theorem cn_6_0 : cnRun 6 8 0 := by decide +kernel
set_option maxRecDepth 1000000 in
theorem cn_6_1 : cnRun 6 8 1 := by decide +kernel
set_option maxRecDepth 1000000 in
theorem cn_6_2 : cnRun 6 8 2 := by decide +kernel
set_option maxRecDepth 1000000 in
theorem cn_6_3 : cnRun 6 8 3 := by decide +kernel
set_option maxRecDepth 1000000 in
theorem cn_6_4 : cnRun 6 8 4 := by decide +kernel
set_option maxRecDepth 1000000 in
theorem cn_6_5 : cnRun 6 8 5 := by decide +kernel
set_option maxRecDepth 1000000 in
theorem cn_6_6 : cnRun 6 8 6 := by decide +kernel
set_option maxRecDepth 1000000 in
theorem cn_6_7 : cnRun 6 8 7 := by decide +kernel
set_option maxRecDepth 1000000 in
theorem cn_7_0 : cnRun 7 5 0 := by decide +kernel
set_option maxRecDepth 1000000 in
theorem cn_7_1 : cnRun 7 5 1 := by decide +kernel
set_option maxRecDepth 1000000 in
theorem cn_7_2 : cnRun 7 5 2 := by decide +kernel
set_option maxRecDepth 1000000 in
theorem cn_7_3 : cnRun 7 5 3 := by decide +kernel
set_option maxRecDepth 1000000 in
theorem cn_7_4 : cnRun 7 5 4 := by decide +kernel
set_option maxRecDepth 1000000 in
theorem cn_8_0 : cnRun 8 9 0 := by decide +kernel
set_option maxRecDepth 1000000 in
theorem cn_8_1 : cnRun 8 9 1 := by decide +kernel
set_option maxRecDepth 1000000 in
theorem cn_8_2 : cnRun 8 9 2 := by decide +kernel
set_option maxRecDepth 1000000 in
theorem cn_8_3 : cnRun 8 9 3 := by decide +kernel
set_option maxRecDepth 1000000 in
theorem cn_8_4 : cnRun 8 9 4 := by decide +kernel
set_option maxRecDepth 1000000 in
theorem cn_8_5 : cnRun 8 9 5 := by decide +kernel
set_option maxRecDepth 1000000 in
theorem cn_8_6 : cnRun 8 9 6 := by decide +kernel
set_option maxRecDepth 1000000 in
theorem cn_8_7 : cnRun 8 9 7 := by decide +kernel
set_option maxRecDepth 1000000 in
theorem cn_8_8 : cnRun 8 9 8 := by decide +kernel
set_option maxRecDepth 1000000 in
theorem cn_9_0 : cnRun 9 6 0 := by decide +kernel
set_option maxRecDepth 1000000 in
theorem cn_9_1 : cnRun 9 6 1 := by decide +kernel
set_option maxRecDepth 1000000 in
theorem cn_9_2 : cnRun 9 6 2 := by decide +kernel
set_option maxRecDepth 1000000 in
theorem cn_9_3 : cnRun 9 6 3 := by decide +kernel
set_option maxRecDepth 1000000 in
theorem cn_9_4 : cnRun 9 6 4 := by decide +kernel
set_option maxRecDepth 1000000 in
theorem cn_9_5 : cnRun 9 6 5 := by decide +kernel
set_option maxRecDepth 1000000 in
theorem cn_10_0 : cnRun 10 9 0 := by decide +kernel
set_option maxRecDepth 1000000 in
theorem cn_10_1 : cnRun 10 9 1 := by decide +kernel
set_option maxRecDepth 1000000 in
theorem cn_10_2 : cnRun 10 9 2 := by decide +kernel
set_option maxRecDepth 1000000 in
theorem cn_10_3 : cnRun 10 9 3 := by decide +kernel
set_option maxRecDepth 1000000 in
theorem cn_10_4 : cnRun 10 9 4 := by decide +kernel
set_option maxRecDepth 1000000 in
theorem cn_10_5 : cnRun 10 9 5 := by decide +kernel
set_option maxRecDepth 1000000 in
theorem cn_10_6 : cnRun 10 9 6 := by decide +kernel
set_option maxRecDepth 1000000 in
theorem cn_10_7 : cnRun 10 9 7 := by decide +kernel
set_option maxRecDepth 1000000 in
theorem cn_10_8 : cnRun 10 9 8 := by decide +kernel
set_option maxRecDepth 1000000 in
theorem cn_11_0 : cnRun 11 9 0 := by decide +kernel
set_option maxRecDepth 1000000 in
theorem cn_11_1 : cnRun 11 9 1 := by decide +kernel
set_option maxRecDepth 1000000 in
theorem cn_11_2 : cnRun 11 9 2 := by decide +kernel
set_option maxRecDepth 1000000 in
theorem cn_11_3 : cnRun 11 9 3 := by decide +kernel
set_option maxRecDepth 1000000 in
theorem cn_11_4 : cnRun 11 9 4 := by decide +kernel
set_option maxRecDepth 1000000 in
theorem cn_11_5 : cnRun 11 9 5 := by decide +kernel
set_option maxRecDepth 1000000 in
theorem cn_11_6 : cnRun 11 9 6 := by decide +kernel
set_option maxRecDepth 1000000 in
theorem cn_11_7 : cnRun 11 9 7 := by decide +kernel
set_option maxRecDepth 1000000 in
theorem cn_11_8 : cnRun 11 9 8 := by decide +kernel
end Go.Proofs.YtaocfoahipeboaaDoor
