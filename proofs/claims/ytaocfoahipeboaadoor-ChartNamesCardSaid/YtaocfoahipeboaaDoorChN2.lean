/-
  The law ChartNames: its runs (3).
-/
import Derived.Test.YtaocfoahipeboaaDoorCh2
set_option linter.unusedVariables false
namespace Go.Proofs.YtaocfoahipeboaaDoor
open Go.RowKit Mc

set_option maxRecDepth 1000000 in
theorem cn_12_0 : cnRun 12 9 0 := by decide +kernel
set_option maxRecDepth 1000000 in
theorem cn_12_1 : cnRun 12 9 1 := by decide +kernel
set_option maxRecDepth 1000000 in
theorem cn_12_2 : cnRun 12 9 2 := by decide +kernel
set_option maxRecDepth 1000000 in
theorem cn_12_3 : cnRun 12 9 3 := by decide +kernel
set_option maxRecDepth 1000000 in
theorem cn_12_4 : cnRun 12 9 4 := by decide +kernel
set_option maxRecDepth 1000000 in
theorem cn_12_5 : cnRun 12 9 5 := by decide +kernel
set_option maxRecDepth 1000000 in
theorem cn_12_6 : cnRun 12 9 6 := by decide +kernel
set_option maxRecDepth 1000000 in
theorem cn_12_7 : cnRun 12 9 7 := by decide +kernel
set_option maxRecDepth 1000000 in
theorem cn_12_8 : cnRun 12 9 8 := by decide +kernel
set_option maxRecDepth 1000000 in
theorem cn_13_0 : cnRun 13 8 0 := by decide +kernel
set_option maxRecDepth 1000000 in
theorem cn_13_1 : cnRun 13 8 1 := by decide +kernel
set_option maxRecDepth 1000000 in
theorem cn_13_2 : cnRun 13 8 2 := by decide +kernel
set_option maxRecDepth 1000000 in
theorem cn_13_3 : cnRun 13 8 3 := by decide +kernel
set_option maxRecDepth 1000000 in
theorem cn_13_4 : cnRun 13 8 4 := by decide +kernel
set_option maxRecDepth 1000000 in
theorem cn_13_5 : cnRun 13 8 5 := by decide +kernel
set_option maxRecDepth 1000000 in
theorem cn_13_6 : cnRun 13 8 6 := by decide +kernel
set_option maxRecDepth 1000000 in
theorem cn_13_7 : cnRun 13 8 7 := by decide +kernel
set_option maxRecDepth 1000000 in
theorem cn_14_0 : cnRun 14 8 0 := by decide +kernel
set_option maxRecDepth 1000000 in
theorem cn_14_1 : cnRun 14 8 1 := by decide +kernel
set_option maxRecDepth 1000000 in
theorem cn_14_2 : cnRun 14 8 2 := by decide +kernel
set_option maxRecDepth 1000000 in
theorem cn_14_3 : cnRun 14 8 3 := by decide +kernel
set_option maxRecDepth 1000000 in
theorem cn_14_4 : cnRun 14 8 4 := by decide +kernel
set_option maxRecDepth 1000000 in
theorem cn_14_5 : cnRun 14 8 5 := by decide +kernel
set_option maxRecDepth 1000000 in
theorem cn_14_6 : cnRun 14 8 6 := by decide +kernel
set_option maxRecDepth 1000000 in
theorem cn_14_7 : cnRun 14 8 7 := by decide +kernel
set_option maxRecDepth 1000000 in
theorem cn_15_0 : cnRun 15 10 0 := by decide +kernel
set_option maxRecDepth 1000000 in
theorem cn_15_1 : cnRun 15 10 1 := by decide +kernel
set_option maxRecDepth 1000000 in
theorem cn_15_2 : cnRun 15 10 2 := by decide +kernel
set_option maxRecDepth 1000000 in
theorem cn_15_3 : cnRun 15 10 3 := by decide +kernel
set_option maxRecDepth 1000000 in
theorem cn_15_4 : cnRun 15 10 4 := by decide +kernel
set_option maxRecDepth 1000000 in
theorem cn_15_5 : cnRun 15 10 5 := by decide +kernel
set_option maxRecDepth 1000000 in
theorem cn_15_6 : cnRun 15 10 6 := by decide +kernel
set_option maxRecDepth 1000000 in
theorem cn_15_7 : cnRun 15 10 7 := by decide +kernel
set_option maxRecDepth 1000000 in
theorem cn_15_8 : cnRun 15 10 8 := by decide +kernel
set_option maxRecDepth 1000000 in
theorem cn_15_9 : cnRun 15 10 9 := by decide +kernel
set_option maxRecDepth 1000000 in
theorem cn_16_0 : cnRun 16 9 0 := by decide +kernel
set_option maxRecDepth 1000000 in
theorem cn_16_1 : cnRun 16 9 1 := by decide +kernel
set_option maxRecDepth 1000000 in
theorem cn_16_2 : cnRun 16 9 2 := by decide +kernel
set_option maxRecDepth 1000000 in
theorem cn_16_3 : cnRun 16 9 3 := by decide +kernel
set_option maxRecDepth 1000000 in
theorem cn_16_4 : cnRun 16 9 4 := by decide +kernel
set_option maxRecDepth 1000000 in
theorem cn_16_5 : cnRun 16 9 5 := by decide +kernel
set_option maxRecDepth 1000000 in
theorem cn_16_6 : cnRun 16 9 6 := by decide +kernel
set_option maxRecDepth 1000000 in
theorem cn_16_7 : cnRun 16 9 7 := by decide +kernel
set_option maxRecDepth 1000000 in
theorem cn_16_8 : cnRun 16 9 8 := by decide +kernel
end Go.Proofs.YtaocfoahipeboaaDoor
