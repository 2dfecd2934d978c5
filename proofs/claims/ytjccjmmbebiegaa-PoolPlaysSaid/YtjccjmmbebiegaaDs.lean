/-
 A state as the document turns it: contracts over closed data. (Printed by wip/mkw.py out of wip/src/XDs.src and wip/paths/dst.py.)
-/
import Derived.Test.YtjccjmmbebiegaaSG
import Derived.Test.YtjccjmmbebiegaaDp
import Derived.Test.YtjccjmmbebiegaaVou12
import Derived.Test.YtjccjmmbebiegaaGlA
import Derived.Test.YtjccjmmbebiegaaG0
import Derived.Test.YtjccjmmbebiegaaGop0
set_option linter.unusedVariables false
set_option linter.unusedSimpArgs false
namespace Go.Proofs.Ytjccjmmbebiegaa
open Go.RowKit Mc
set_option maxRecDepth 1000000
section
variable {S:StD} {e item:Int}
end
end Go.Proofs.Ytjccjmmbebiegaa
