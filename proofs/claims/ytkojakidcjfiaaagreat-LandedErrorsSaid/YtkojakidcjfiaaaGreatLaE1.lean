/-
  LandedErrors: the bill of number 1.
-/
import Derived.Test.YtkojakidcjfiaaaGreatLa0
set_option linter.unusedVariables false
set_option linter.unusedSimpArgs false
namespace Go.Proofs.YtkojakidcjfiaaaGreat
open Go.RowKit Mc

abbrev le1B : Bk := { vars := [(-9223372036854775808, 9223372036854775807), (-9223372036854775808, 9223372036854775807), (0, 999)], facts := [], defs := [], ext := [(6, [pvar 0, plit 4], [plit 1]),
  (6, [pvar 1, plit 1000], [pvar 2]),
  (77, [plit 5, plit 10, plit 1], [plit 50, plit 0, plit 0])], yes := [12] }
set_option maxRecDepth 1000000 in
theorem le1_run : saysYes (@acallF le1B Tryz.prog 100000 60 5 [.e (pvar 0), .e (pvar 1)] .leaf 0) = true := by decide +kernel
theorem le1_calls {x0 x1 y : Int} (hx0 : I64 x0) (hx1 : I64 x1) (h0 : x0 % 4 = 1) (h1 : x1 % 1000 = y) (w : World) :
    Calls Tryz.prog 5 #[.int .i64 x0, .int .i64 x1] w fun e w' => e = .returned (.bool true) ∧ Below w.heap.size w w' := by
  let _ : Bk := le1B
  let E : Ev := evDef le1B [x0, x1, y] .nil (.cons hx0.lo (by have := hx0.hi; omega) (.cons hx1.lo (by have := hx1.hi; omega) (.cons (by omega) (by omega) .nil))) .nil
  have r0 : pev Ev.rho (pvar 0) = x0 := pev_pvar 0
  have r1 : pev Ev.rho (pvar 1) = x1 := pev_pvar 1
  have r2 : pev Ev.rho (pvar 2) = y := pev_pvar 2
  refine yes_by le1B E le1_run (.cons (ext_int fun w => ?_) (.cons (ext_int fun w => ?_) (.cons (ext_tup (fun w => ?_) (by decide)) .nil))) (.cons la_awake .nil) .nil [.int .i64 x0, .int .i64 x1] rfl w (.cons (.var r0) (.cons (.var r1) (.nil)))
  · simp only [List.map_cons, List.map_nil, pev_padd, pev_psub, pev_pmul, pev_pscale, pev_plit, r0, r1, r2]
    exact place_e w (by omega) (by omega) h0
  · simp only [List.map_cons, List.map_nil, pev_padd, pev_psub, pev_pmul, pev_pscale, pev_plit, r0, r1, r2]
    exact place_e w (by omega) (by omega) h1
  · simp only [List.map_cons, List.map_nil, pev_padd, pev_psub, pev_pmul, pev_pscale, pev_plit, r0, r1, r2]
    exact muldiv_b w (by omega) (by omega) (by omega) (by omega) (by omega) (by omega) (by omega) (by omega) (by omega) (by omega)
end Go.Proofs.YtkojakidcjfiaaaGreat
