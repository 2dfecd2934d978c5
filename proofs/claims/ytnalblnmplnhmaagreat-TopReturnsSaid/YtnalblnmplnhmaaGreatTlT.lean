/-
 The operations' bounds of a place to go to, at freight and duties: a map that is made in any order. The walk.
-/
import Derived.Test.YtnalblnmplnhmaaGreatM15
import Derived.Test.YtnalblnmplnhmaaGreatBase
import Derived.Test.YtnalblnmplnhmaaGreatProg
import Derived.Lib.Strings
import Derived.Lib.Slices
import Derived.Lib.Walk
import Derived.RegionTactic
import Derived.Deep.Cut
set_option linter.unusedVariables false
set_option linter.unusedSimpArgs false
namespace Go.Proofs.YtnalblnmplnhmaaGreat
open Go.RowKit Mc
end Go.Proofs.YtnalblnmplnhmaaGreat
