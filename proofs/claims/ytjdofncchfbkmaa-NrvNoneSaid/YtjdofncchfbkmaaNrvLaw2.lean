/-
  The law NrvNone: which item is four ways; how many there are is a number by name.
-/
import Derived.Test.YtjdofncchfbkmaaCalls
import Derived.Test.YtjdofncchfbkmaaNrv1
import Derived.Test.YtjdofncchfbkmaaNrvAwake
set_option linter.unusedVariables false
set_option linter.unusedSimpArgs false
namespace Go.Proofs.Ytjdofncchfbkmaa
open Go.RowKit Mc

theorem target_b {v q p t : Int} (w : World) (hv : 0 ≤ v) (hv' : v ≤ 288230376151711744) (hq : 0 ≤ q) (hq' : q ≤ 288230376151711744) (hp : 0 ≤ p) (hp' : p ≤ 288230376151711744) (ht : tgtS v q p = t) :
    Calls Try.prog 7 #[.int .i64 v, .int .i64 q, .int .i64 p] w fun e w' => e = .returned (.int .i64 t) ∧ Below w.heap.size w w' :=
  ht ▸ nrv_Target v q p w ⟨by omega, by omega⟩ ⟨by omega, by omega⟩ ⟨by omega, by omega⟩

/-- Number 2 is n; item is i. -/
abbrev nnB (i : Int) : Bk := { vars := [(-9223372036854775808, 9223372036854775807), (-9223372036854775808, 9223372036854775807), (1, 100)], ext := [(6, [pvar 0, plit 100], [psub (pvar 2) (plit 1)]), (6, [pvar 1, plit 4], [plit i]), (7, [pscale 10 (pvar 2), pvar 2, plit 0], [pscale 10 (pvar 2)]), (88, [pvar 2, plit 10, plit 1], [pscale 10 (pvar 2), plit 0, plit 0])], yes := [9] }
abbrev nnE (i q item : Int) (hq : I64 q) (hi : I64 item) : @Ev (nnB i) :=
  evOf (nnB i) [q, item, q % 100 + 1] rfl (.cons hq.lo (by have := hq.hi; omega) (.cons hi.lo (by have := hi.hi; omega) (.cons (by omega) (by omega) .nil))) .nil
abbrev nnRun (i : Int) : Prop := saysYes (@acallF (nnB i) Try.prog 100000 60 5 [.e (pvar 0), .e (pvar 1)] .leaf 0) = true

theorem nn_calls {i q item : Int} (hq : I64 q) (hi : I64 item) (hj : item % 4 = i) (h : nnRun i) (w : World) :
    Calls Try.prog 5 #[.int .i64 q, .int .i64 item] w fun e w' => e = .returned (.bool true) ∧ Below w.heap.size w w' := by
  let _ : Bk := nnB i
  let _ : Ev := nnE i q item hq hi
  have r0 : pev Ev.rho (pvar 0) = q := pev_pvar 0
  have r1 : pev Ev.rho (pvar 1) = item := pev_pvar 1
  have r2 : pev Ev.rho (pvar 2) = q % 100 + 1 := pev_pvar 2
  refine yes_by (nnB i) (nnE i q item hq hi) h (.cons (ext_int fun w => ?_) (.cons (ext_int fun w => ?_) (.cons (ext_int fun w => ?_) (.cons (ext_tup (fun w => ?_) (by decide)) .nil)))) (.cons nrv_awake .nil) .nil [.int .i64 q, .int .i64 item] rfl w (.cons (.var r0) (.cons (.var r1) .nil))
  · simp only [List.map_cons, List.map_nil, r0, r2, pev_plit, pev_psub, Int.add_sub_cancel]
    exact place_b q 100 w (by omega) (by omega)
  · simp only [List.map_cons, List.map_nil, r1, pev_plit, ← hj]
    exact place_b item 4 w (by omega) (by omega)
  · simp only [List.map_cons, List.map_nil, r2, pev_plit, pev_pscale]
    exact target_b w (by omega) (by omega) (by omega) (by omega) (by omega) (by omega) (by unfold tgtS; rw [if_neg (by omega), if_neg (by omega)]; omega)
  · simp only [List.map_cons, List.map_nil, r2, pev_plit, pev_pscale]
    exact muldiv_b w (by omega) (by omega) (by omega) (by omega) (by omega) (by omega) (by omega) (by omega) (by omega) (by omega)

set_option maxRecDepth 1000000 in
theorem nn_0 : nnRun 0 := by decide +kernel
set_option maxRecDepth 1000000 in
theorem nn_1 : nnRun 1 := by decide +kernel
set_option maxRecDepth 1000000 in
theorem nn_2 : nnRun 2 := by decide +kernel
set_option maxRecDepth 1000000 in
theorem nn_3 : nnRun 3 := by decide +kernel

theorem NrvNone_walk (q item : Int) (w : World) (hq : I64 q) (hi : I64 item) :
    Calls Try.prog 5 #[.int .i64 q, .int .i64 item] w fun e w' => e = .returned (.bool true) ∧ Below w.heap.size w w' := by
  obtain hj | hj | hj | hj : item % 4 = 0 ∨ item % 4 = 1 ∨ item % 4 = 2 ∨ item % 4 = 3 := by omega
  · exact nn_calls hq hi hj nn_0 w
  · exact nn_calls hq hi hj nn_1 w
  · exact nn_calls hq hi hj nn_2 w
  · exact nn_calls hq hi hj nn_3 w
end Go.Proofs.Ytjdofncchfbkmaa
