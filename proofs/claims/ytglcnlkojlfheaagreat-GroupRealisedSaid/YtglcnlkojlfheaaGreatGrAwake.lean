/-
  The law's awake says yes.
-/
import Derived.Test.YtglcnlkojlfheaaGreatProg
import Derived.Test.YtglcnlkojlfheaaGreatM15
set_option linter.unusedVariables false
namespace Go.Proofs.YtglcnlkojlfheaaGreat
open Go.RowKit Mc

set_option maxRecDepth 1000000 in
theorem gr_awake_yes : Mc.saysYes (@Mc.acallF Mc.bk0 Tryz.prog 100000 60 12 [] .leaf 0) = true := by decide +kernel
theorem gr_awake (w : World) : Calls Tryz.prog 12 #[] w fun e w' => e = .returned (.bool true) ∧ Below w.heap.size w w' := Mc.yes_calls gr_awake_yes w
end Go.Proofs.YtglcnlkojlfheaaGreat
