/-
  TopLanded: what is known of the library and of the operations' bounds; the law's awake says yes; bounds of the numbers.
-/
import Derived.Test.YtnalblnmplnhmaaGreatBase
import Derived.Test.YtnalblnmplnhmaaGreatCalls
import Derived.Test.YtnalblnmplnhmaaGreatTlSh
import Derived.Test.YtnalblnmplnhmaaGreatProg
set_option linter.unusedVariables false
set_option linter.unusedSimpArgs false
namespace Go.Proofs.YtnalblnmplnhmaaGreat
open Go.RowKit Mc

abbrev tlA : Bk := { ext := [(165, [plit 40, plit 1, plit 4], [plit 10]), (155, [plit 40, plit 1, plit 4], [plit 10, plit 0, plit 0]), (165, [plit 0, plit 1, plit 4], [plit 0]), (155, [plit 0, plit 1, plit 4], [plit 0, plit 0, plit 0])], extV := tlSh }
set_option maxRecDepth 1000000 in
theorem tl_awake_yes : saysYes (@acallF tlA Tryz.prog 100000 60 13 [] .leaf 0) = true := by decide +kernel
theorem tl_awake (w : World) : Calls Tryz.prog 13 #[] w fun e w' => e = .returned (.bool true) ∧ Below w.heap.size w w' := by
  let _ : Bk := tlA
  let E : Ev := evOf tlA [] rfl .nil .nil
  refine yes_by tlA E tl_awake_yes (.cons (ext_int fun w => ?_) (.cons (ext_tup (fun w => ?_) (by decide)) (.cons (ext_int fun w => ?_) (.cons (ext_tup (fun w => ?_) (by decide)) .nil)))) .nil (tlSh_ok _ _) [] rfl w .nil
  · simp only [List.map_cons, List.map_nil, pev_plit]
    exact ppart_b w (by omega) (by omega) (by omega) (by omega) (by omega) (by omega) (by omega)
  · simp only [List.map_cons, List.map_nil, pev_plit]
    exact pmuldiv_b w (by omega) (by omega) (by omega) (by omega) (by omega) (by omega) (by omega) (by omega) (by omega) (by omega)
  · simp only [List.map_cons, List.map_nil, pev_plit]
    exact ppart_b w (by omega) (by omega) (by omega) (by omega) (by omega) (by omega) (by omega)
  · simp only [List.map_cons, List.map_nil, pev_plit]
    exact pmuldiv_b w (by omega) (by omega) (by omega) (by omega) (by omega) (by omega) (by omega) (by omega) (by omega) (by omega)
abbrev tlV : List (Int × Int) := [(-9223372036854775808, 9223372036854775807), (-9223372036854775808, 9223372036854775807), (-9223372036854775808, 9223372036854775807), (-9223372036854775808, 9223372036854775807), (-9223372036854775808, 9223372036854775807), (1, 50), (0, 4999), (0, 2999), (1, 50), (0, 7998)]
end Go.Proofs.YtnalblnmplnhmaaGreat
