/-
  Layers come, quantities go: as the document says. The walk.
-/
import Derived.Test.YtgahhifedgmicaaFifoLaw2
import Derived.Test.YtgahhifedgmicaaFifo11
set_option linter.unusedVariables false
set_option linter.unusedSimpArgs false
namespace Go.Proofs.Ytgahhifedgmicaa
open Go.RowKit

end Go.Proofs.Ytgahhifedgmicaa