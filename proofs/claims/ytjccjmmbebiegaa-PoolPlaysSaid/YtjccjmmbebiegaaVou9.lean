/-
 The document's Same, of lines. Its walk.
-/
import Derived.Test.YtjccjmmbebiegaaVou8
set_option linter.unusedVariables false
set_option linter.unusedSimpArgs false
namespace Go.Proofs.Ytjccjmmbebiegaa
open Go.RowKit
theorem lin_ext {x y:Lin} (h1:x.a=y.a) (h2:x.n=y.n):x=y:=by cases x;cases y;simp only at h1 h2;rw[h1,h2]
instance:DecidableEq Lin:=fun x y=>if h:x.a=y.a∧x.n=y.n then .isTrue (lin_ext h.1 h.2)else .isFalse fun e=>h (by subst e;exact⟨rfl,rfl⟩)
end Go.Proofs.Ytjccjmmbebiegaa
