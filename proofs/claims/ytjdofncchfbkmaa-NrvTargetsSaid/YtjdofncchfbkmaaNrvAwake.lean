/-
  The law's awake says yes.
-/
import Derived.Test.YtjdofncchfbkmaaProg
import Derived.Test.YtjdofncchfbkmaaM15
set_option linter.unusedVariables false
namespace Go.Proofs.Ytjdofncchfbkmaa
open Go.RowKit Mc

set_option maxRecDepth 1000000 in
theorem nrv_awake_yes : Mc.saysYes (@Mc.acallF Mc.bk0 Try.prog 100000 60 9 [] .leaf 0) = true := by decide +kernel
theorem nrv_awake (w : World) : Calls Try.prog 9 #[] w fun e w' => e = .returned (.bool true) ∧ Below w.heap.size w w' := Mc.yes_calls nrv_awake_yes w
end Go.Proofs.Ytjdofncchfbkmaa
