/-
  The law ChartNames, of all numbers.
-/
import Derived.Test.YtaocfoahipeboaaDoorChN0
import Derived.Test.YtaocfoahipeboaaDoorChN1
import Derived.Test.YtaocfoahipeboaaDoorChN2
set_option linter.unusedVariables false
namespace Go.Proofs.YtaocfoahipeboaaDoor
open Go.RowKit Mc

theorem cn_0 (v cut : Int) (hv : I64 v) (hc : I64 cut) (hk : v % 17 = 0) (w : World) (hT : ChTab w) :
    Calls Tryd.prog 5 #[.int .i64 v, .int .i64 cut] w fun e w' => e = .returned (.bool true) ∧ Below w.heap.size w w' := by
  have hd : cut % 9 = 0 ∨ cut % 9 = 1 ∨ cut % 9 = 2 ∨ cut % 9 = 3 ∨ cut % 9 = 4 ∨ cut % 9 = 5 ∨ cut % 9 = 6 ∨ cut % 9 = 7 ∨ cut % 9 = 8 := by omega
  rcases hd with hn | hn | hn | hn | hn | hn | hn | hn | hn
  · exact cn_calls (c := 0) hv hc (by omega) (by omega) hk hn cn_0_0 w hT
  · exact cn_calls (c := 1) hv hc (by omega) (by omega) hk hn cn_0_1 w hT
  · exact cn_calls (c := 2) hv hc (by omega) (by omega) hk hn cn_0_2 w hT
  · exact cn_calls (c := 3) hv hc (by omega) (by omega) hk hn cn_0_3 w hT
  · exact cn_calls (c := 4) hv hc (by omega) (by omega) hk hn cn_0_4 w hT
  · exact cn_calls (c := 5) hv hc (by omega) (by omega) hk hn cn_0_5 w hT
  · exact cn_calls (c := 6) hv hc (by omega) (by omega) hk hn cn_0_6 w hT
  · exact cn_calls (c := 7) hv hc (by omega) (by omega) hk hn cn_0_7 w hT
  · exact cn_calls (c := 8) hv hc (by omega) (by omega) hk hn cn_0_8 w hT
theorem cn_1 (v cut : Int) (hv : I64 v) (hc : I64 cut) (hk : v % 17 = 1) (w : World) (hT : ChTab w) :
    Calls Tryd.prog 5 #[.int .i64 v, .int .i64 cut] w fun e w' => e = .returned (.bool true) ∧ Below w.heap.size w w' := by
  have hd : cut % 4 = 0 ∨ cut % 4 = 1 ∨ cut % 4 = 2 ∨ cut % 4 = 3 := by omega
  rcases hd with hn | hn | hn | hn
  · exact cn_calls (c := 0) hv hc (by omega) (by omega) hk hn cn_1_0 w hT
  · exact cn_calls (c := 1) hv hc (by omega) (by omega) hk hn cn_1_1 w hT
  · exact cn_calls (c := 2) hv hc (by omega) (by omega) hk hn cn_1_2 w hT
  · exact cn_calls (c := 3) hv hc (by omega) (by omega) hk hn cn_1_3 w hT
theorem cn_2 (v cut : Int) (hv : I64 v) (hc : I64 cut) (hk : v % 17 = 2) (w : World) (hT : ChTab w) :
    Calls Tryd.prog 5 #[.int .i64 v, .int .i64 cut] w fun e w' => e = .returned (.bool true) ∧ Below w.heap.size w w' := by
  have hd : cut % 7 = 0 ∨ cut % 7 = 1 ∨ cut % 7 = 2 ∨ cut % 7 = 3 ∨ cut % 7 = 4 ∨ cut % 7 = 5 ∨ cut % 7 = 6 := by omega
  rcases hd with hn | hn | hn | hn | hn | hn | hn
  · exact cn_calls (c := 0) hv hc (by omega) (by omega) hk hn cn_2_0 w hT
  · exact cn_calls (c := 1) hv hc (by omega) (by omega) hk hn cn_2_1 w hT
  · exact cn_calls (c := 2) hv hc (by omega) (by omega) hk hn cn_2_2 w hT
  · exact cn_calls (c := 3) hv hc (by omega) (by omega) hk hn cn_2_3 w hT
  · exact cn_calls (c := 4) hv hc (by omega) (by omega) hk hn cn_2_4 w hT
  · exact cn_calls (c := 5) hv hc (by omega) (by omega) hk hn cn_2_5 w hT
  · exact cn_calls (c := 6) hv hc (by omega) (by omega) hk hn cn_2_6 w hT
theorem cn_3 (v cut : Int) (hv : I64 v) (hc : I64 cut) (hk : v % 17 = 3) (w : World) (hT : ChTab w) :
    Calls Tryd.prog 5 #[.int .i64 v, .int .i64 cut] w fun e w' => e = .returned (.bool true) ∧ Below w.heap.size w w' := by
  have hd : cut % 10 = 0 ∨ cut % 10 = 1 ∨ cut % 10 = 2 ∨ cut % 10 = 3 ∨ cut % 10 = 4 ∨ cut % 10 = 5 ∨ cut % 10 = 6 ∨ cut % 10 = 7 ∨ cut % 10 = 8 ∨ cut % 10 = 9 := by omega
  rcases hd with hn | hn | hn | hn | hn | hn | hn | hn | hn | hn
  · exact cn_calls (c := 0) hv hc (by omega) (by omega) hk hn cn_3_0 w hT
  · exact cn_calls (c := 1) hv hc (by omega) (by omega) hk hn cn_3_1 w hT
  · exact cn_calls (c := 2) hv hc (by omega) (by omega) hk hn cn_3_2 w hT
  · exact cn_calls (c := 3) hv hc (by omega) (by omega) hk hn cn_3_3 w hT
  · exact cn_calls (c := 4) hv hc (by omega) (by omega) hk hn cn_3_4 w hT
  · exact cn_calls (c := 5) hv hc (by omega) (by omega) hk hn cn_3_5 w hT
  · exact cn_calls (c := 6) hv hc (by omega) (by omega) hk hn cn_3_6 w hT
  · exact cn_calls (c := 7) hv hc (by omega) (by omega) hk hn cn_3_7 w hT
  · exact cn_calls (c := 8) hv hc (by omega) (by omega) hk hn cn_3_8 w hT
  · exact cn_calls (c := 9) hv hc (by omega) (by omega) hk hn cn_3_9 w hT
theorem cn_4 (v cut : Int) (hv : I64 v) (hc : I64 cut) (hk : v % 17 = 4) (w : World) (hT : ChTab w) :
    Calls Tryd.prog 5 #[.int .i64 v, .int .i64 cut] w fun e w' => e = .returned (.bool true) ∧ Below w.heap.size w w' := by
  have hd : cut % 5 = 0 ∨ cut % 5 = 1 ∨ cut % 5 = 2 ∨ cut % 5 = 3 ∨ cut % 5 = 4 := by omega
  rcases hd with hn | hn | hn | hn | hn
  · exact cn_calls (c := 0) hv hc (by omega) (by omega) hk hn cn_4_0 w hT
  · exact cn_calls (c := 1) hv hc (by omega) (by omega) hk hn cn_4_1 w hT
  · exact cn_calls (c := 2) hv hc (by omega) (by omega) hk hn cn_4_2 w hT
  · exact cn_calls (c := 3) hv hc (by omega) (by omega) hk hn cn_4_3 w hT
  · exact cn_calls (c := 4) hv hc (by omega) (by omega) hk hn cn_4_4 w hT
theorem cn_5 (v cut : Int) (hv : I64 v) (hc : I64 cut) (hk : v % 17 = 5) (w : World) (hT : ChTab w) :
    Calls Tryd.prog 5 #[.int .i64 v, .int .i64 cut] w fun e w' => e = .returned (.bool true) ∧ Below w.heap.size w w' := by
  have hd : cut % 4 = 0 ∨ cut % 4 = 1 ∨ cut % 4 = 2 ∨ cut % 4 = 3 := by omega
  rcases hd with hn | hn | hn | hn
  · exact cn_calls (c := 0) hv hc (by omega) (by omega) hk hn cn_5_0 w hT
  · exact cn_calls (c := 1) hv hc (by omega) (by omega) hk hn cn_5_1 w hT
  · exact cn_calls (c := 2) hv hc (by omega) (by omega) hk hn cn_5_2 w hT
  · exact cn_calls (c := 3) hv hc (by omega) (by omega) hk hn cn_5_3 w hT
theorem cn_6 (v cut : Int) (hv : I64 v) (hc : I64 cut) (hk : v % 17 = 6) (w : World) (hT : ChTab w) :
    Calls Tryd.prog 5 #[.int .i64 v, .int .i64 cut] w fun e w' => e = .returned (.bool true) ∧ Below w.heap.size w w' := by
  have hd : cut % 8 = 0 ∨ cut % 8 = 1 ∨ cut % 8 = 2 ∨ cut % 8 = 3 ∨ cut % 8 = 4 ∨ cut % 8 = 5 ∨ cut % 8 = 6 ∨ cut % 8 = 7 := by omega
  rcases hd with hn | hn | hn | hn | hn | hn | hn | hn
  · exact cn_calls (c := 0) hv hc (by omega) (by omega) hk hn cn_6_0 w hT
  · exact cn_calls (c := 1) hv hc (by omega) (by omega) hk hn cn_6_1 w hT
  · exact cn_calls (c := 2) hv hc (by omega) (by omega) hk hn cn_6_2 w hT
  · exact cn_calls (c := 3) hv hc (by omega) (by omega) hk hn cn_6_3 w hT
  · exact cn_calls (c := 4) hv hc (by omega) (by omega) hk hn cn_6_4 w hT
  · exact cn_calls (c := 5) hv hc (by omega) (by omega) hk hn cn_6_5 w hT
  · exact cn_calls (c := 6) hv hc (by omega) (by omega) hk hn cn_6_6 w hT
  · exact cn_calls (c := 7) hv hc (by omega) (by omega) hk hn cn_6_7 w hT
theorem cn_7 (v cut : Int) (hv : I64 v) (hc : I64 cut) (hk : v % 17 = 7) (w : World) (hT : ChTab w) :
    Calls Tryd.prog 5 #[.int .i64 v, .int .i64 cut] w fun e w' => e = .returned (.bool true) ∧ Below w.heap.size w w' := by
  have hd : cut % 5 = 0 ∨ cut % 5 = 1 ∨ cut % 5 = 2 ∨ cut % 5 = 3 ∨ cut % 5 = 4 := by omega
  rcases hd with hn | hn | hn | hn | hn
  · exact cn_calls (c := 0) hv hc (by omega) (by omega) hk hn cn_7_0 w hT
  · exact cn_calls (c := 1) hv hc (by omega) (by omega) hk hn cn_7_1 w hT
  · exact cn_calls (c := 2) hv hc (by omega) (by omega) hk hn cn_7_2 w hT
  · exact cn_calls (c := 3) hv hc (by omega) (by omega) hk hn cn_7_3 w hT
  · exact cn_calls (c := 4) hv hc (by omega) (by omega) hk hn cn_7_4 w hT
theorem cn_8 (v cut : Int) (hv : I64 v) (hc : I64 cut) (hk : v % 17 = 8) (w : World) (hT : ChTab w) :
    Calls Tryd.prog 5 #[.int .i64 v, .int .i64 cut] w fun e w' => e = .returned (.bool true) ∧ Below w.heap.size w w' := by
  have hd : cut % 9 = 0 ∨ cut % 9 = 1 ∨ cut % 9 = 2 ∨ cut % 9 = 3 ∨ cut % 9 = 4 ∨ cut % 9 = 5 ∨ cut % 9 = 6 ∨ cut % 9 = 7 ∨ cut % 9 = 8 := by omega
  rcases hd with hn | hn | hn | hn | hn | hn | hn | hn | hn
  · exact cn_calls (c := 0) hv hc (by omega) (by omega) hk hn cn_8_0 w hT
  · exact cn_calls (c := 1) hv hc (by omega) (by omega) hk hn cn_8_1 w hT
  · exact cn_calls (c := 2) hv hc (by omega) (by omega) hk hn cn_8_2 w hT
  · exact cn_calls (c := 3) hv hc (by omega) (by omega) hk hn cn_8_3 w hT
  · exact cn_calls (c := 4) hv hc (by omega) (by omega) hk hn cn_8_4 w hT
  · exact cn_calls (c := 5) hv hc (by omega) (by omega) hk hn cn_8_5 w hT
  · exact cn_calls (c := 6) hv hc (by omega) (by omega) hk hn cn_8_6 w hT
  · exact cn_calls (c := 7) hv hc (by omega) (by omega) hk hn cn_8_7 w hT
  · exact cn_calls (c := 8) hv hc (by omega) (by omega) hk hn cn_8_8 w hT
theorem cn_9 (v cut : Int) (hv : I64 v) (hc : I64 cut) (hk : v % 17 = 9) (w : World) (hT : ChTab w) :
    Calls Tryd.prog 5 #[.int .i64 v, .int .i64 cut] w fun e w' => e = .returned (.bool true) ∧ Below w.heap.size w w' := by
  have hd : cut % 6 = 0 ∨ cut % 6 = 1 ∨ cut % 6 = 2 ∨ cut % 6 = 3 ∨ cut % 6 = 4 ∨ cut % 6 = 5 := by omega
  rcases hd with hn | hn | hn | hn | hn | hn
  · exact cn_calls (c := 0) hv hc (by omega) (by omega) hk hn cn_9_0 w hT
  · exact cn_calls (c := 1) hv hc (by omega) (by omega) hk hn cn_9_1 w hT
  · exact cn_calls (c := 2) hv hc (by omega) (by omega) hk hn cn_9_2 w hT
  · exact cn_calls (c := 3) hv hc (by omega) (by omega) hk hn cn_9_3 w hT
  · exact cn_calls (c := 4) hv hc (by omega) (by omega) hk hn cn_9_4 w hT
  · exact cn_calls (c := 5) hv hc (by omega) (by omega) hk hn cn_9_5 w hT
theorem cn_10 (v cut : Int) (hv : I64 v) (hc : I64 cut) (hk : v % 17 = 10) (w : World) (hT : ChTab w) :
    Calls Tryd.prog 5 #[.int .i64 v, .int .i64 cut] w fun e w' => e = .returned (.bool true) ∧ Below w.heap.size w w' := by
  have hd : cut % 9 = 0 ∨ cut % 9 = 1 ∨ cut % 9 = 2 ∨ cut % 9 = 3 ∨ cut % 9 = 4 ∨ cut % 9 = 5 ∨ cut % 9 = 6 ∨ cut % 9 = 7 ∨ cut % 9 = 8 := by omega
  rcases hd with hn | hn | hn | hn | hn | hn | hn | hn | hn
  · exact cn_calls (c := 0) hv hc (by omega) (by omega) hk hn cn_10_0 w hT
  · exact cn_calls (c := 1) hv hc (by omega) (by omega) hk hn cn_10_1 w hT
  · exact cn_calls (c := 2) hv hc (by omega) (by omega) hk hn cn_10_2 w hT
  · exact cn_calls (c := 3) hv hc (by omega) (by omega) hk hn cn_10_3 w hT
  · exact cn_calls (c := 4) hv hc (by omega) (by omega) hk hn cn_10_4 w hT
  · exact cn_calls (c := 5) hv hc (by omega) (by omega) hk hn cn_10_5 w hT
  · exact cn_calls (c := 6) hv hc (by omega) (by omega) hk hn cn_10_6 w hT
  · exact cn_calls (c := 7) hv hc (by omega) (by omega) hk hn cn_10_7 w hT
  · exact cn_calls (c := 8) hv hc (by omega) (by omega) hk hn cn_10_8 w hT
theorem cn_11 (v cut : Int) (hv : I64 v) (hc : I64 cut) (hk : v % 17 = 11) (w : World) (hT : ChTab w) :
    Calls Tryd.prog 5 #[.int .i64 v, .int .i64 cut] w fun e w' => e = .returned (.bool true) ∧ Below w.heap.size w w' := by
  have hd : cut % 9 = 0 ∨ cut % 9 = 1 ∨ cut % 9 = 2 ∨ cut % 9 = 3 ∨ cut % 9 = 4 ∨ cut % 9 = 5 ∨ cut % 9 = 6 ∨ cut % 9 = 7 ∨ cut % 9 = 8 := by omega
  rcases hd with hn | hn | hn | hn | hn | hn | hn | hn | hn
  · exact cn_calls (c := 0) hv hc (by omega) (by omega) hk hn cn_11_0 w hT
  · exact cn_calls (c := 1) hv hc (by omega) (by omega) hk hn cn_11_1 w hT
  · exact cn_calls (c := 2) hv hc (by omega) (by omega) hk hn cn_11_2 w hT
  · exact cn_calls (c := 3) hv hc (by omega) (by omega) hk hn cn_11_3 w hT
  · exact cn_calls (c := 4) hv hc (by omega) (by omega) hk hn cn_11_4 w hT
  · exact cn_calls (c := 5) hv hc (by omega) (by omega) hk hn cn_11_5 w hT
  · exact cn_calls (c := 6) hv hc (by omega) (by omega) hk hn cn_11_6 w hT
  · exact cn_calls (c := 7) hv hc (by omega) (by omega) hk hn cn_11_7 w hT
  · exact cn_calls (c := 8) hv hc (by omega) (by omega) hk hn cn_11_8 w hT
theorem cn_12 (v cut : Int) (hv : I64 v) (hc : I64 cut) (hk : v % 17 = 12) (w : World) (hT : ChTab w) :
    Calls Tryd.prog 5 #[.int .i64 v, .int .i64 cut] w fun e w' => e = .returned (.bool true) ∧ Below w.heap.size w w' := by
  have hd : cut % 9 = 0 ∨ cut % 9 = 1 ∨ cut % 9 = 2 ∨ cut % 9 = 3 ∨ cut % 9 = 4 ∨ cut % 9 = 5 ∨ cut % 9 = 6 ∨ cut % 9 = 7 ∨ cut % 9 = 8 := by omega
  rcases hd with hn | hn | hn | hn | hn | hn | hn | hn | hn
  · exact cn_calls (c := 0) hv hc (by omega) (by omega) hk hn cn_12_0 w hT
  · exact cn_calls (c := 1) hv hc (by omega) (by omega) hk hn cn_12_1 w hT
  · exact cn_calls (c := 2) hv hc (by omega) (by omega) hk hn cn_12_2 w hT
  · exact cn_calls (c := 3) hv hc (by omega) (by omega) hk hn cn_12_3 w hT
  · exact cn_calls (c := 4) hv hc (by omega) (by omega) hk hn cn_12_4 w hT
  · exact cn_calls (c := 5) hv hc (by omega) (by omega) hk hn cn_12_5 w hT
  · exact cn_calls (c := 6) hv hc (by omega) (by omega) hk hn cn_12_6 w hT
  · exact cn_calls (c := 7) hv hc (by omega) (by omega) hk hn cn_12_7 w hT
  · exact cn_calls (c := 8) hv hc (by omega) (by omega) hk hn cn_12_8 w hT
theorem cn_13 (v cut : Int) (hv : I64 v) (hc : I64 cut) (hk : v % 17 = 13) (w : World) (hT : ChTab w) :
    Calls Tryd.prog 5 #[.int .i64 v, .int .i64 cut] w fun e w' => e = .returned (.bool true) ∧ Below w.heap.size w w' := by
  have hd : cut % 8 = 0 ∨ cut % 8 = 1 ∨ cut % 8 = 2 ∨ cut % 8 = 3 ∨ cut % 8 = 4 ∨ cut % 8 = 5 ∨ cut % 8 = 6 ∨ cut % 8 = 7 := by omega
  rcases hd with hn | hn | hn | hn | hn | hn | hn | hn
  · exact cn_calls (c := 0) hv hc (by omega) (by omega) hk hn cn_13_0 w hT
  · exact cn_calls (c := 1) hv hc (by omega) (by omega) hk hn cn_13_1 w hT
  · exact cn_calls (c := 2) hv hc (by omega) (by omega) hk hn cn_13_2 w hT
  · exact cn_calls (c := 3) hv hc (by omega) (by omega) hk hn cn_13_3 w hT
  · exact cn_calls (c := 4) hv hc (by omega) (by omega) hk hn cn_13_4 w hT
  · exact cn_calls (c := 5) hv hc (by omega) (by omega) hk hn cn_13_5 w hT
  · exact cn_calls (c := 6) hv hc (by omega) (by omega) hk hn cn_13_6 w hT
  · exact cn_calls (c := 7) hv hc (by omega) (by omega) hk hn cn_13_7 w hT
theorem cn_14 (v cut : Int) (hv : I64 v) (hc : I64 cut) (hk : v % 17 = 14) (w : World) (hT : ChTab w) :
    Calls Tryd.prog 5 #[.int .i64 v, .int .i64 cut] w fun e w' => e = .returned (.bool true) ∧ Below w.heap.size w w' := by
  have hd : cut % 8 = 0 ∨ cut % 8 = 1 ∨ cut % 8 = 2 ∨ cut % 8 = 3 ∨ cut % 8 = 4 ∨ cut % 8 = 5 ∨ cut % 8 = 6 ∨ cut % 8 = 7 := by omega
  rcases hd with hn | hn | hn | hn | hn | hn | hn | hn
  · exact cn_calls (c := 0) hv hc (by omega) (by omega) hk hn cn_14_0 w hT
  · exact cn_calls (c := 1) hv hc (by omega) (by omega) hk hn cn_14_1 w hT
  · exact cn_calls (c := 2) hv hc (by omega) (by omega) hk hn cn_14_2 w hT
  · exact cn_calls (c := 3) hv hc (by omega) (by omega) hk hn cn_14_3 w hT
  · exact cn_calls (c := 4) hv hc (by omega) (by omega) hk hn cn_14_4 w hT
  · exact cn_calls (c := 5) hv hc (by omega) (by omega) hk hn cn_14_5 w hT
  · exact cn_calls (c := 6) hv hc (by omega) (by omega) hk hn cn_14_6 w hT
  · exact cn_calls (c := 7) hv hc (by omega) (by omega) hk hn cn_14_7 w hT
theorem cn_15 (v cut : Int) (hv : I64 v) (hc : I64 cut) (hk : v % 17 = 15) (w : World) (hT : ChTab w) :
    Calls Tryd.prog 5 #[.int .i64 v, .int .i64 cut] w fun e w' => e = .returned (.bool true) ∧ Below w.heap.size w w' := by
  have hd : cut % 10 = 0 ∨ cut % 10 = 1 ∨ cut % 10 = 2 ∨ cut % 10 = 3 ∨ cut % 10 = 4 ∨ cut % 10 = 5 ∨ cut % 10 = 6 ∨ cut % 10 = 7 ∨ cut % 10 = 8 ∨ cut % 10 = 9 := by omega
  rcases hd with hn | hn | hn | hn | hn | hn | hn | hn | hn | hn
  · exact cn_calls (c := 0) hv hc (by omega) (by omega) hk hn cn_15_0 w hT
  · exact cn_calls (c := 1) hv hc (by omega) (by omega) hk hn cn_15_1 w hT
  · exact cn_calls (c := 2) hv hc (by omega) (by omega) hk hn cn_15_2 w hT
  · exact cn_calls (c := 3) hv hc (by omega) (by omega) hk hn cn_15_3 w hT
  · exact cn_calls (c := 4) hv hc (by omega) (by omega) hk hn cn_15_4 w hT
  · exact cn_calls (c := 5) hv hc (by omega) (by omega) hk hn cn_15_5 w hT
  · exact cn_calls (c := 6) hv hc (by omega) (by omega) hk hn cn_15_6 w hT
  · exact cn_calls (c := 7) hv hc (by omega) (by omega) hk hn cn_15_7 w hT
  · exact cn_calls (c := 8) hv hc (by omega) (by omega) hk hn cn_15_8 w hT
  · exact cn_calls (c := 9) hv hc (by omega) (by omega) hk hn cn_15_9 w hT
theorem cn_16 (v cut : Int) (hv : I64 v) (hc : I64 cut) (hk : v % 17 = 16) (w : World) (hT : ChTab w) :
    Calls Tryd.prog 5 #[.int .i64 v, .int .i64 cut] w fun e w' => e = .returned (.bool true) ∧ Below w.heap.size w w' := by
  have hd : cut % 9 = 0 ∨ cut % 9 = 1 ∨ cut % 9 = 2 ∨ cut % 9 = 3 ∨ cut % 9 = 4 ∨ cut % 9 = 5 ∨ cut % 9 = 6 ∨ cut % 9 = 7 ∨ cut % 9 = 8 := by omega
  rcases hd with hn | hn | hn | hn | hn | hn | hn | hn | hn
  · exact cn_calls (c := 0) hv hc (by omega) (by omega) hk hn cn_16_0 w hT
  · exact cn_calls (c := 1) hv hc (by omega) (by omega) hk hn cn_16_1 w hT
  · exact cn_calls (c := 2) hv hc (by omega) (by omega) hk hn cn_16_2 w hT
  · exact cn_calls (c := 3) hv hc (by omega) (by omega) hk hn cn_16_3 w hT
  · exact cn_calls (c := 4) hv hc (by omega) (by omega) hk hn cn_16_4 w hT
  · exact cn_calls (c := 5) hv hc (by omega) (by omega) hk hn cn_16_5 w hT
  · exact cn_calls (c := 6) hv hc (by omega) (by omega) hk hn cn_16_6 w hT
  · exact cn_calls (c := 7) hv hc (by omega) (by omega) hk hn cn_16_7 w hT
  · exact cn_calls (c := 8) hv hc (by omega) (by omega) hk hn cn_16_8 w hT
theorem ChartNames_walk (v cut : Int) (w : World) (hv : I64 v) (hc : I64 cut) (hT : ChTab w) :
    Calls Tryd.prog 5 #[.int .i64 v, .int .i64 cut] w fun e w' => e = .returned (.bool true) ∧ Below w.heap.size w w' := by
  have hd : v % 17 = 0 ∨ v % 17 = 1 ∨ v % 17 = 2 ∨ v % 17 = 3 ∨ v % 17 = 4 ∨ v % 17 = 5 ∨ v % 17 = 6 ∨ v % 17 = 7 ∨ v % 17 = 8 ∨ v % 17 = 9 ∨ v % 17 = 10 ∨ v % 17 = 11 ∨ v % 17 = 12 ∨ v % 17 = 13 ∨ v % 17 = 14 ∨ v % 17 = 15 ∨ v % 17 = 16 := by omega
  rcases hd with hk | hk | hk | hk | hk | hk | hk | hk | hk | hk | hk | hk | hk | hk | hk | hk | hk
  · exact cn_0 v cut hv hc hk w hT
  · exact cn_1 v cut hv hc hk w hT
  · exact cn_2 v cut hv hc hk w hT
  · exact cn_3 v cut hv hc hk w hT
  · exact cn_4 v cut hv hc hk w hT
  · exact cn_5 v cut hv hc hk w hT
  · exact cn_6 v cut hv hc hk w hT
  · exact cn_7 v cut hv hc hk w hT
  · exact cn_8 v cut hv hc hk w hT
  · exact cn_9 v cut hv hc hk w hT
  · exact cn_10 v cut hv hc hk w hT
  · exact cn_11 v cut hv hc hk w hT
  · exact cn_12 v cut hv hc hk w hT
  · exact cn_13 v cut hv hc hk w hT
  · exact cn_14 v cut hv hc hk w hT
  · exact cn_15 v cut hv hc hk w hT
  · exact cn_16 v cut hv hc hk w hT
end Go.Proofs.YtaocfoahipeboaaDoor
