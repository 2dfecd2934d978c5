/-
  TopLanded: what is known of the library and of the operations' bounds; the law's awake says yes; bounds of the numbers.
-/
import Derived.Test.YtjbgfhafinfjbaaGreatBase
import Derived.Test.YtjbgfhafinfjbaaGreatCalls
import Derived.Test.YtjbgfhafinfjbaaGreatTlSh
import Derived.Test.YtjbgfhafinfjbaaGreatProg
set_option linter.unusedVariables false
set_option linter.unusedSimpArgs false
namespace Go.Proofs.YtjbgfhafinfjbaaGreat
open Go.RowKit Mc

theorem place_e {v m r : Int} (w : World) (h1 : 0 < m) (h2 : m ≤ 1099511627776) (h : v % m = r) : Calls Tryz.prog 5 #[.int .i64 v, .int .i64 m] w fun e w' => e = .returned (.int .i64 r) ∧ Below w.heap.size w w' := h ▸ place_b v m w h1 h2
abbrev tlA : Bk := { ext := [(159, [plit 40, plit 1, plit 4], [plit 10]), (149, [plit 40, plit 1, plit 4], [plit 10, plit 0, plit 0]), (159, [plit 0, plit 1, plit 4], [plit 0]), (149, [plit 0, plit 1, plit 4], [plit 0, plit 0, plit 0])], extV := tlSh }
set_option maxRecDepth 1000000 in
theorem tl_awake_yes : saysYes (@acallF tlA Tryz.prog 100000 60 7 [] .leaf 0) = true := by decide +kernel
theorem tl_awake (w : World) : Calls Tryz.prog 7 #[] w fun e w' => e = .returned (.bool true) ∧ Below w.heap.size w w' := by
  let _ : Bk := tlA
  let E : Ev := evOf tlA [] rfl .nil .nil
  refine yes_by tlA E tl_awake_yes (.cons (ext_int fun w => ?_) (.cons (ext_tup (fun w => ?_) (by decide)) (.cons (ext_int fun w => ?_) (.cons (ext_tup (fun w => ?_) (by decide)) .nil)))) .nil (tlSh_ok _ _) [] rfl w .nil
  · simp only [List.map_cons, List.map_nil, pev_plit]
    exact ppart_b w (by omega) (by omega) (by omega) (by omega) (by omega) (by omega) (by omega)
  · simp only [List.map_cons, List.map_nil, pev_plit]
    exact pmuldiv_b w (by omega) (by omega) (by omega) (by omega) (by omega) (by omega) (by omega) (by omega) (by omega) (by omega)
  · simp only [List.map_cons, List.map_nil, pev_plit]
    exact ppart_b w (by omega) (by omega) (by omega) (by omega) (by omega) (by omega) (by omega)
  · simp only [List.map_cons, List.map_nil, pev_plit]
    exact pmuldiv_b w (by omega) (by omega) (by omega) (by omega) (by omega) (by omega) (by omega) (by omega) (by omega) (by omega)
theorem tl_yes (b : Bk) (e : @Ev b) : @YesL b e Tryz.prog [7] := by
  let _ : Bk := b
  let _ : Ev := e
  exact .cons tl_awake .nil
abbrev tlV : List (Int × Int) := [(-9223372036854775808, 9223372036854775807), (-9223372036854775808, 9223372036854775807), (-9223372036854775808, 9223372036854775807), (-9223372036854775808, 9223372036854775807), (-9223372036854775808, 9223372036854775807), (1, 50), (0, 4999), (0, 2999), (1, 50), (0, 7998)]
theorem tlBnd {x0 x1 x2 x3 x4 n v f k C : Int} (h0 : I64 x0) (h1 : I64 x1) (h2 : I64 x2) (h3 : I64 x3) (h4 : I64 x4) (hn : 1 ≤ n ∧ n ≤ 50) (hv : 0 ≤ v ∧ v ≤ 4999) (hf : 0 ≤ f ∧ f ≤ 2999) (hk : 1 ≤ k ∧ k ≤ 50) (hC : 0 ≤ C ∧ C ≤ 7998) : BndL tlV [x0, x1, x2, x3, x4, n, v, f, k, C] :=
  .cons h0.lo (by have := h0.hi; omega) (.cons h1.lo (by have := h1.hi; omega) (.cons h2.lo (by have := h2.hi; omega) (.cons h3.lo (by have := h3.hi; omega) (.cons h4.lo (by have := h4.hi; omega) (.cons hn.1 hn.2 (.cons hv.1 hv.2 (.cons hf.1 hf.2 (.cons hk.1 hk.2 (.cons hC.1 hC.2 .nil)))))))))
end Go.Proofs.YtjbgfhafinfjbaaGreat
