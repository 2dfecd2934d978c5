/-
 A machine of plain data beside the model: known calls of several numbers; a contract where less is known of an argument. No program in sight.
-/
import Derived.Test.YtnalblnmplnhmaaGreatMX
set_option linter.unusedVariables false
set_option linter.unusedSimpArgs false
namespace Go.Proofs.YtnalblnmplnhmaaGreat.Mc
open Go.RowKit
end Go.Proofs.YtnalblnmplnhmaaGreat.Mc
