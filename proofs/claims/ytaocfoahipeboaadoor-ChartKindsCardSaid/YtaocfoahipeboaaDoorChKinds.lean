/-
  The law ChartKinds: its runs; of all numbers.
-/
import Derived.Test.YtaocfoahipeboaaDoorCh2
set_option linter.unusedVariables false
namespace Go.Proofs.YtaocfoahipeboaaDoor
open Go.RowKit Mc

set_option maxRecDepth 1000000 in
theorem ck_0 : ckRun 0 := by decide +kernel
set_option maxRecDepth 1000000 in
theorem ck_1 : ckRun 1 := by decide +kernel
set_option maxRecDepth 1000000 in
theorem ck_2 : ckRun 2 := by decide +kernel
set_option maxRecDepth 1000000 in
theorem ck_3 : ckRun 3 := by decide +kernel
set_option maxRecDepth 1000000 in
theorem ck_4 : ckRun 4 := by decide +kernel
set_option maxRecDepth 1000000 in
theorem ck_5 : ckRun 5 := by decide +kernel
set_option maxRecDepth 1000000 in
theorem ck_6 : ckRun 6 := by decide +kernel
set_option maxRecDepth 1000000 in
theorem ck_7 : ckRun 7 := by decide +kernel
set_option maxRecDepth 1000000 in
theorem ck_8 : ckRun 8 := by decide +kernel
set_option maxRecDepth 1000000 in
theorem ck_9 : ckRun 9 := by decide +kernel
set_option maxRecDepth 1000000 in
theorem ck_10 : ckRun 10 := by decide +kernel
set_option maxRecDepth 1000000 in
theorem ck_11 : ckRun 11 := by decide +kernel
set_option maxRecDepth 1000000 in
theorem ck_12 : ckRun 12 := by decide +kernel
set_option maxRecDepth 1000000 in
theorem ck_13 : ckRun 13 := by decide +kernel
set_option maxRecDepth 1000000 in
theorem ck_14 : ckRun 14 := by decide +kernel
set_option maxRecDepth 1000000 in
theorem ck_15 : ckRun 15 := by decide +kernel
set_option maxRecDepth 1000000 in
theorem ck_16 : ckRun 16 := by decide +kernel

theorem ChartKinds_walk (v : Int) (w : World) (hv : I64 v) (hT : ChTab w) :
    Calls Tryd.prog 4 #[.int .i64 v] w fun e w' => e = .returned (.bool true) ∧ Below w.heap.size w w' :=
  ck_calls hv rfl (lt17 (p := ckRun) ⟨ck_0, ck_1, ck_2, ck_3, ck_4, ck_5, ck_6, ck_7, ck_8, ck_9, ck_10, ck_11, ck_12, ck_13, ck_14, ck_15, ck_16⟩ v) w hT
end Go.Proofs.YtaocfoahipeboaaDoor
