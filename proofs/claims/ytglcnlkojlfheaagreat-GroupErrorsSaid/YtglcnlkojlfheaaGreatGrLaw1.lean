/-
  The law GroupErrors: how many entities and which one is open are nine ways; the item is a number by name.
-/
import Derived.Test.YtglcnlkojlfheaaGreatBase
import Derived.Test.YtglcnlkojlfheaaGreatGrAwake
set_option linter.unusedVariables false
set_option linter.unusedSimpArgs false
namespace Go.Proofs.YtglcnlkojlfheaaGreat
open Go.RowKit Mc


/-- n is k below its 3, which is i below k + 2; item's hundred by name. -/
abbrev geB (k i : Int) : Bk := { vars := [(-9223372036854775808, 9223372036854775807), (-9223372036854775808, 9223372036854775807), (-9223372036854775808, 9223372036854775807), (0, 99)], ext := [(13, [pvar 0, plit 3], [plit k]), (13, [pvar 1, plit (k + 2)], [plit i]), (13, [pvar 2, plit 100], [pvar 3])], yes := [12] }
abbrev geE (k i n which item : Int) (hn : I64 n) (hw : I64 which) (hi : I64 item) : @Ev (geB k i) :=
  evOf (geB k i) [n, which, item, item % 100] rfl (.cons hn.lo (by have := hn.hi; omega) (.cons hw.lo (by have := hw.hi; omega) (.cons hi.lo (by have := hi.hi; omega) (.cons (by omega) (by omega) .nil)))) .nil
abbrev geRun (k i : Int) : Prop := saysYes (@acallF (geB k i) Tryz.prog 100000 60 7 [.e (pvar 0), .e (pvar 1), .e (pvar 2)] .leaf 0) = true

theorem place_b (v m : Int) (w : World) (h1 : 0 < m) (h2 : m ≤ 1000000) : Calls Tryz.prog 13 #[.int .i64 v, .int .i64 m] w fun e w' => e = .returned (.int .i64 (v % m)) ∧ Below w.heap.size w w' := by
  refine (Place_calls v m w h1 (by omega)).mono ?_
  rintro e w' ⟨rfl, rfl⟩
  exact ⟨rfl, Below.refl _ _⟩

theorem ge_calls {k i n which item : Int} (hn : I64 n) (hw : I64 which) (hi : I64 item) (h0 : 0 ≤ k) (h1 : k ≤ 2) (hk : n % 3 = k) (hj : which % (k + 2) = i) (h : geRun k i) (w : World) :
    Calls Tryz.prog 7 #[.int .i64 n, .int .i64 which, .int .i64 item] w fun e w' => e = .returned (.bool true) ∧ Below w.heap.size w w' := by
  let _ : Bk := geB k i
  let _ : Ev := geE k i n which item hn hw hi
  have r0 : pev Ev.rho (pvar 0) = n := pev_pvar 0
  have r1 : pev Ev.rho (pvar 1) = which := pev_pvar 1
  have r2 : pev Ev.rho (pvar 2) = item := pev_pvar 2
  have r3 : pev Ev.rho (pvar 3) = item % 100 := pev_pvar 3
  refine yes_by (geB k i) (geE k i n which item hn hw hi) h (.cons (ext_int fun w => ?_) (.cons (ext_int fun w => ?_) (.cons (ext_int fun w => ?_) .nil))) (.cons gr_awake .nil) .nil [.int .i64 n, .int .i64 which, .int .i64 item] rfl w (.cons (.var r0) (.cons (.var r1) (.cons (.var r2) .nil)))
  · simp only [List.map_cons, List.map_nil, r0, pev_plit, ← hk]
    exact place_b n 3 w (by omega) (by omega)
  · simp only [List.map_cons, List.map_nil, r1, pev_plit, ← hj]
    exact place_b which (k + 2) w (by omega) (by omega)
  · simp only [List.map_cons, List.map_nil, r2, r3, pev_plit]
    exact place_b item 100 w (by omega) (by omega)
end Go.Proofs.YtglcnlkojlfheaaGreat
