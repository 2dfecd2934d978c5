/-
  The law GroupRealised: the books of its three ways: none is sold, all are sold, some are.
-/
import Derived.Test.YtglcnlkojlfheaaGreatNrvT
import Derived.Test.YtglcnlkojlfheaaGreatGrAwake
set_option linter.unusedVariables false
set_option linter.unusedSimpArgs false
namespace Go.Proofs.YtglcnlkojlfheaaGreat
open Go.RowKit Mc

abbrev grX (k : Poly) (d : List (Nat × List Poly × List Poly)) : List (Nat × List Poly × List Poly) := (13, [pvar 0, plit 60], [psub (pvar 2) (plit 1)]) :: (13, [pvar 1, padd (pvar 2) (plit 1)], [k]) ::
  (139, [pscale 14 (pvar 2), pvar 2, pvar 2], [pscale 14 (pvar 2)]) :: (139, [pscale 4 (pvar 2), pvar 2, pvar 2], [pscale 4 (pvar 2)]) :: (139, [pscale 10 (pvar 2), pvar 2, pvar 2], [pscale 10 (pvar 2)]) :: d
abbrev gaX : List (Nat × List Poly × List Poly) := grX (pvar 3) [(139, [pscale 14 (pvar 2), pvar 3, pvar 2], [pscale 14 (pvar 3)]), (139, [pscale 4 (pvar 2), pvar 3, pvar 2], [pscale 4 (pvar 3)]), (139, [pscale 10 (pvar 2), pvar 3, pvar 2], [pscale 10 (pvar 3)]),
  (72, [psub (pscale 14 (pvar 2)) (pscale 14 (pvar 3)), psub (pvar 2) (pvar 3), plit 12], [psub (pscale 2 (pvar 2)) (pscale 2 (pvar 3))])]
abbrev gbX : List (Nat × List Poly × List Poly) := grX (pvar 2) [(72, [plit 0, plit 0, plit 12], [plit 0])]
abbrev gcX : List (Nat × List Poly × List Poly) := grX (plit 0) [(72, [pscale 14 (pvar 2), pvar 2, plit 12], [pscale 2 (pvar 2)])]
abbrev grV : List (Int × Int) := [(-9223372036854775808, 9223372036854775807), (-9223372036854775808, 9223372036854775807), (1, 60), (0, 60)]
abbrev gaF : List (Poly × Int × Int) := [(pvar 3, 1, 60), (psub (pvar 2) (pvar 3), 1, 59)]
abbrev ga0 : Bk := { vars := grV, facts := gaF, ext := gaX, yes := [12] }
abbrev gb0 : Bk := { vars := grV, ext := gbX, yes := [12] }
abbrev gc0 : Bk := { vars := grV, ext := gcX, yes := [12] }

theorem part_of {a q n : Int} (w : World) (ha : 0 ≤ a) (ha' : a ≤ 14) (hn : 1 ≤ n) (hn' : n ≤ 60) (hq : 0 ≤ q) (hq' : q ≤ n) :
    Calls Tryz.prog 139 #[.int .i64 (a * n), .int .i64 q, .int .i64 n] w fun e w' => e = .returned (.int .i64 (a * q)) ∧ Below w.heap.size w w' := by
  have b1 : 0 ≤ a * n := Int.mul_nonneg ha (by omega)
  have b2 : a * n ≤ 14 * 60 := Int.mul_le_mul ha' hn' (by omega) (by omega)
  refine part_b w b1 (by omega) hq hq' hn (by omega) ?_
  rw [show a * n * q = n * (a * q) by rw [Int.mul_comm a n, Int.mul_assoc]]
  exact Int.mul_ediv_cancel_left _ (by omega)
theorem grX_ok [Bk] [Ev] {q sold n k : Int} {kp : Poly} {d : List (Nat × List Poly × List Poly)} (r0 : pev Ev.rho (pvar 0) = q) (r1 : pev Ev.rho (pvar 1) = sold) (r2 : pev Ev.rho (pvar 2) = n) (rk : pev Ev.rho kp = k) (hn : q % 60 + 1 = n) (hk : sold % (n + 1) = k) (hd : ExtL Tryz.prog d) : ExtL Tryz.prog (grX kp d) := by
  refine .cons (ext_int fun w => ?_) (.cons (ext_int fun w => ?_) (.cons (ext_int fun w => ?_) (.cons (ext_int fun w => ?_) (.cons (ext_int fun w => ?_) hd))))
  · simp only [List.map_cons, List.map_nil, r0, r2, pev_plit, pev_psub, ← hn, Int.add_sub_cancel]
    exact place_b q 60 w (by omega) (by omega)
  · simp only [List.map_cons, List.map_nil, r1, r2, rk, pev_plit, pev_padd, ← hk]
    exact place_b sold (n + 1) w (by omega) (by omega)
  all_goals
    simp only [List.map_cons, List.map_nil, r2, pev_pscale]
    exact part_of w (by omega) (by omega) (by omega) (by omega) (by omega) (by omega)
theorem gaX_ok [Bk] [Ev] {q sold n k : Int} (r0 : pev Ev.rho (pvar 0) = q) (r1 : pev Ev.rho (pvar 1) = sold) (r2 : pev Ev.rho (pvar 2) = n) (r3 : pev Ev.rho (pvar 3) = k) (hn : q % 60 + 1 = n) (hk : sold % (n + 1) = k) (h1 : 1 ≤ k) (h2 : k < n) : ExtL Tryz.prog gaX := by
  refine grX_ok r0 r1 r2 r3 hn hk (.cons (ext_int fun w => ?_) (.cons (ext_int fun w => ?_) (.cons (ext_int fun w => ?_) (.cons (ext_int fun w => ?_) .nil))))
  · simp only [List.map_cons, List.map_nil, r2, r3, pev_pscale]
    exact part_of w (by omega) (by omega) (by omega) (by omega) (by omega) (by omega)
  · simp only [List.map_cons, List.map_nil, r2, r3, pev_pscale]
    exact part_of w (by omega) (by omega) (by omega) (by omega) (by omega) (by omega)
  · simp only [List.map_cons, List.map_nil, r2, r3, pev_pscale]
    exact part_of w (by omega) (by omega) (by omega) (by omega) (by omega) (by omega)
  · simp only [List.map_cons, List.map_nil, r2, r3, pev_plit, pev_psub, pev_pscale]
    exact target21_b w (by omega) (by omega) (by omega) (by omega) (by omega) (by omega) (by unfold tgtS; rw [if_neg (by omega), if_neg (by omega)]; omega)
theorem gbX_ok [Bk] [Ev] {q sold n : Int} (r0 : pev Ev.rho (pvar 0) = q) (r1 : pev Ev.rho (pvar 1) = sold) (r2 : pev Ev.rho (pvar 2) = n) (hn : q % 60 + 1 = n) (hk : sold % (n + 1) = n) : ExtL Tryz.prog gbX := by
  refine grX_ok r0 r1 r2 r2 hn hk (.cons (ext_int fun w => ?_) .nil)
  simp only [List.map_cons, List.map_nil, pev_plit]
  exact target21_b w (by omega) (by omega) (by omega) (by omega) (by omega) (by omega) (by decide +kernel)
theorem gcX_ok [Bk] [Ev] {q sold n : Int} (r0 : pev Ev.rho (pvar 0) = q) (r1 : pev Ev.rho (pvar 1) = sold) (r2 : pev Ev.rho (pvar 2) = n) (hn : q % 60 + 1 = n) (hk : sold % (n + 1) = 0) : ExtL Tryz.prog gcX := by
  refine grX_ok r0 r1 r2 (pev_plit 0) hn hk (.cons (ext_int fun w => ?_) .nil)
  simp only [List.map_cons, List.map_nil, r2, pev_plit, pev_pscale]
  exact target21_b w (by omega) (by omega) (by omega) (by omega) (by omega) (by omega) (by unfold tgtS; rw [if_neg (by omega), if_neg (by omega)]; omega)
end Go.Proofs.YtglcnlkojlfheaaGreat
