/-
 Known calls: the law's Place, the document's MulDiv and Part, at numbers within bounds.
-/
import Derived.Test.YtjccjmmbebiegaaBase
import Derived.Test.YtjccjmmbebiegaaM15
set_option linter.unusedVariables false
set_option linter.unusedSimpArgs false
namespace Go.Proofs.Ytjccjmmbebiegaa
open Go.RowKit Mc
theorem place_b (v m:Int) (w:World) (h1:0<m) (h2:m≤1099511627776):Calls Try.prog 7 #[.int .i64 v,.int .i64 m] w fun e w'=>e=.returned (.int .i64 (v%m))∧Below w.heap.size w w':=by
 refine(Place_calls v m w h1 (by omega)).mono ?_
 rintro e w' ⟨rfl,rfl⟩
 exact⟨rfl,Below.refl _ _⟩
end Go.Proofs.Ytjccjmmbebiegaa
