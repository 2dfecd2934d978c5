/-
 A state of one entity and one item, as it begins. (Printed by wip/mkpath.py out of wip/paths/start.py.)
-/
import Derived.Test.YtnalblnmplnhmaaGreatSt3
set_option linter.unusedVariables false
set_option linter.unusedSimpArgs false
namespace Go.Proofs.YtnalblnmplnhmaaGreat
open Go.RowKit Mc
def zeros17:List Int:=[0,0,0,0,0,0,0,0,0,0,0,0,0,0,0,0,0]
def zeros11:List Int:=[0,0,0,0,0,0,0,0,0,0,0]
end Go.Proofs.YtnalblnmplnhmaaGreat
