/-
  The law GroupErrors, of all numbers.
-/
import Derived.Test.YtglcnlkojlfheaaGreatGrLaw10
import Derived.Test.YtglcnlkojlfheaaGreatGrLaw11
import Derived.Test.YtglcnlkojlfheaaGreatGrLaw12
set_option linter.unusedVariables false
namespace Go.Proofs.YtglcnlkojlfheaaGreat
open Go.RowKit Mc

theorem GroupErrors_walk (n which item : Int) (w : World) (hn : I64 n) (hw : I64 which) (hi : I64 item) :
    Calls Tryz.prog 7 #[.int .i64 n, .int .i64 which, .int .i64 item] w fun e w' => e = .returned (.bool true) ∧ Below w.heap.size w w' := by
  obtain hk | hk | hk : n % 3 = 0 ∨ n % 3 = 1 ∨ n % 3 = 2 := by omega
  · obtain hj | hj : which % (0 + 2) = 0 ∨ which % (0 + 2) = 1 := by omega
    · exact ge_calls hn hw hi (by omega) (by omega) hk hj ge_00 w
    · exact ge_calls hn hw hi (by omega) (by omega) hk hj ge_01 w
  · obtain hj | hj | hj : which % (1 + 2) = 0 ∨ which % (1 + 2) = 1 ∨ which % (1 + 2) = 2 := by omega
    · exact ge_calls hn hw hi (by omega) (by omega) hk hj ge_10 w
    · exact ge_calls hn hw hi (by omega) (by omega) hk hj ge_11 w
    · exact ge_calls hn hw hi (by omega) (by omega) hk hj ge_12 w
  · obtain hj | hj | hj | hj : which % (2 + 2) = 0 ∨ which % (2 + 2) = 1 ∨ which % (2 + 2) = 2 ∨ which % (2 + 2) = 3 := by omega
    · exact ge_calls hn hw hi (by omega) (by omega) hk hj ge_20 w
    · exact ge_calls hn hw hi (by omega) (by omega) hk hj ge_21 w
    · exact ge_calls hn hw hi (by omega) (by omega) hk hj ge_22 w
    · exact ge_calls hn hw hi (by omega) (by omega) hk hj ge_23 w
end Go.Proofs.YtglcnlkojlfheaaGreat
