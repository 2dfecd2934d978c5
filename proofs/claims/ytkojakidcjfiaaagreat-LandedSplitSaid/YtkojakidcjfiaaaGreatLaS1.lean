/-
  LandedSplit: way 1.
-/
import Derived.Test.YtkojakidcjfiaaaGreatLa0
set_option linter.unusedVariables false
set_option linter.unusedSimpArgs false
namespace Go.Proofs.YtkojakidcjfiaaaGreat
open Go.RowKit Mc

abbrev ls1B : Bk := { vars := laV, facts := [(pvar 4, 1, 59), (pvar 5, 1, 99999), (psub (pvar 3) (pvar 4), 1, 59), (padd (pmul (pvar 6) (psub (pvar 3) (pvar 4))) (pvar 8), 1, 99999), (psub (pvar 5) (padd (pmul (pvar 6) (psub (pvar 3) (pvar 4))) (pvar 8)), 1, 99999), (padd (psub (pscale 10 (pvar 3)) (pscale 10 (pvar 4))) (padd (pmul (pvar 6) (psub (pvar 3) (pvar 4))) (pvar 8)), 0, 101000)], defs := [(0, pvar 5, pvar 3, pvar 6), (1, pvar 5, pvar 3, pvar 7), (0, pmul (pvar 7) (psub (pvar 3) (pvar 4)), pvar 3, pvar 8)], ext := [(6, [pvar 0, plit 60], [psub (pvar 3) (plit 1)]),
  (6, [pvar 1, padd (pvar 3) (plit 1)], [pvar 4]),
  (6, [pvar 2, plit 100000], [pvar 5]),
  (40, [pscale 10 (pvar 3), pvar 4, pvar 3], [pscale 10 (pvar 4)]),
  (40, [plit 0, pvar 4, pvar 3], [plit 0]),
  (47, [pvar 5, pvar 3, pvar 3], [pvar 5, plit 0, plit 0]),
  (51, [pvar 5, psub (pvar 3) (pvar 4), pvar 3], [padd (pmul (pvar 6) (psub (pvar 3) (pvar 4))) (pvar 8)])], yes := [12], extV := laKn }
set_option maxRecDepth 1000000 in
theorem ls1_run : saysYes (@acallF ls1B Tryz.prog 100000 60 3 [.e (pvar 0), .e (pvar 1), .e (pvar 2)] .leaf 0) = true := by decide +kernel
theorem ls1_calls {x0 x1 x2 n k v Q R T : Int} (hx0 : I64 x0) (hx1 : I64 x1) (hx2 : I64 x2) (hn : 1 ≤ n ∧ n ≤ 60) (hk : 0 ≤ k ∧ k ≤ 60) (hv : 0 ≤ v ∧ v ≤ 99999) (hQ : 0 ≤ Q ∧ Q ≤ 99999) (hR : 0 ≤ R ∧ R ≤ 59) (hT : 0 ≤ T ∧ T ≤ 59) (h0 : x0 % 60 = n - 1) (h1 : x1 % (n + 1) = k) (h2 : x2 % 100000 = v) (hk1 : 1 ≤ k ∧ k < n) (hVQ : v / n = Q) (hVR : v % n = R) (hVT : R * (n - k) / n = T) (hC : v * (n - k) / n = Q * (n - k) + T) (hv1 : 1 ≤ v) (hC1 : 1 ≤ Q * (n - k) + T) (hC2 : Q * (n - k) + T < v) (w : World) :
    Calls Tryz.prog 3 #[.int .i64 x0, .int .i64 x1, .int .i64 x2] w fun e w' => e = .returned (.bool true) ∧ Below w.heap.size w w' := by
  let _ : Bk := ls1B
  let E : Ev := evDef ls1B [x0, x1, x2, n, k, v, Q, R, T] (.quo (by simp only [pev_padd, pev_psub, pev_pmul, pev_pscale, pev_plit, pev_pvar, List.getD_cons_zero, List.getD_cons_succ]; rw [Int.tdiv_eq_ediv_of_nonneg (by omega)]; exact (hVQ).symm) (.rem (by simp only [pev_padd, pev_psub, pev_pmul, pev_pscale, pev_plit, pev_pvar, List.getD_cons_zero, List.getD_cons_succ]; rw [Int.tmod_eq_emod_of_nonneg (by omega)]; exact (hVR).symm) (.quo (by simp only [pev_padd, pev_psub, pev_pmul, pev_pscale, pev_plit, pev_pvar, List.getD_cons_zero, List.getD_cons_succ]; rw [Int.tdiv_eq_ediv_of_nonneg (Int.mul_nonneg (by omega) (by omega))]; exact hVT.symm) .nil))) (laBnd hx0 hx1 hx2 hn hk hv hQ hR hT) (.cons (by simp only [pev_padd, pev_psub, pev_pmul, pev_pscale, pev_plit, pev_pvar, List.getD_cons_zero, List.getD_cons_succ]; omega) (by simp only [pev_padd, pev_psub, pev_pmul, pev_pscale, pev_plit, pev_pvar, List.getD_cons_zero, List.getD_cons_succ]; omega) (.cons (by simp only [pev_padd, pev_psub, pev_pmul, pev_pscale, pev_plit, pev_pvar, List.getD_cons_zero, List.getD_cons_succ]; omega) (by simp only [pev_padd, pev_psub, pev_pmul, pev_pscale, pev_plit, pev_pvar, List.getD_cons_zero, List.getD_cons_succ]; omega) (.cons (by simp only [pev_padd, pev_psub, pev_pmul, pev_pscale, pev_plit, pev_pvar, List.getD_cons_zero, List.getD_cons_succ]; omega) (by simp only [pev_padd, pev_psub, pev_pmul, pev_pscale, pev_plit, pev_pvar, List.getD_cons_zero, List.getD_cons_succ]; omega) (.cons (by simp only [pev_padd, pev_psub, pev_pmul, pev_pscale, pev_plit, pev_pvar, List.getD_cons_zero, List.getD_cons_succ]; omega) (by simp only [pev_padd, pev_psub, pev_pmul, pev_pscale, pev_plit, pev_pvar, List.getD_cons_zero, List.getD_cons_succ]; omega) (.cons (by simp only [pev_padd, pev_psub, pev_pmul, pev_pscale, pev_plit, pev_pvar, List.getD_cons_zero, List.getD_cons_succ]; omega) (by simp only [pev_padd, pev_psub, pev_pmul, pev_pscale, pev_plit, pev_pvar, List.getD_cons_zero, List.getD_cons_succ]; omega) (.cons (by simp only [pev_padd, pev_psub, pev_pmul, pev_pscale, pev_plit, pev_pvar, List.getD_cons_zero, List.getD_cons_succ]; omega) (by simp only [pev_padd, pev_psub, pev_pmul, pev_pscale, pev_plit, pev_pvar, List.getD_cons_zero, List.getD_cons_succ]; omega) .nil))))))
  have r0 : pev Ev.rho (pvar 0) = x0 := pev_pvar 0
  have r1 : pev Ev.rho (pvar 1) = x1 := pev_pvar 1
  have r2 : pev Ev.rho (pvar 2) = x2 := pev_pvar 2
  have r3 : pev Ev.rho (pvar 3) = n := pev_pvar 3
  have r4 : pev Ev.rho (pvar 4) = k := pev_pvar 4
  have r5 : pev Ev.rho (pvar 5) = v := pev_pvar 5
  have r6 : pev Ev.rho (pvar 6) = Q := pev_pvar 6
  have r7 : pev Ev.rho (pvar 7) = R := pev_pvar 7
  have r8 : pev Ev.rho (pvar 8) = T := pev_pvar 8
  refine yes_by ls1B E ls1_run (.cons (ext_int fun w => ?_) (.cons (ext_int fun w => ?_) (.cons (ext_int fun w => ?_) (.cons (ext_int fun w => ?_) (.cons (ext_int fun w => ?_) (.cons (ext_tup (fun w => ?_) (by decide)) (.cons (ext_int fun w => ?_) .nil))))))) (.cons la_awake .nil) (.cons (st_kn _ E rfl (laBnd hx0 hx1 hx2 hn hk hv hQ hR hT) hn rfl rfl) .nil) [.int .i64 x0, .int .i64 x1, .int .i64 x2] rfl w (.cons (.var r0) (.cons (.var r1) (.cons (.var r2) (.nil))))
  · simp only [List.map_cons, List.map_nil, pev_padd, pev_psub, pev_pmul, pev_pscale, pev_plit, r0, r1, r2, r3, r4, r5, r6, r7, r8]
    exact place_e w (by omega) (by omega) h0
  · simp only [List.map_cons, List.map_nil, pev_padd, pev_psub, pev_pmul, pev_pscale, pev_plit, r0, r1, r2, r3, r4, r5, r6, r7, r8]
    exact place_e w (by omega) (by omega) h1
  · simp only [List.map_cons, List.map_nil, pev_padd, pev_psub, pev_pmul, pev_pscale, pev_plit, r0, r1, r2, r3, r4, r5, r6, r7, r8]
    exact place_e w (by omega) (by omega) h2
  · simp only [List.map_cons, List.map_nil, pev_padd, pev_psub, pev_pmul, pev_pscale, pev_plit, r0, r1, r2, r3, r4, r5, r6, r7, r8]
    exact part_b w (by omega) (by omega) (by omega) (by omega) (by omega) (by omega) (by rw [show 10 * n * k = n * (10 * k) by grind]; exact Int.mul_ediv_cancel_left _ (by omega))
  · simp only [List.map_cons, List.map_nil, pev_padd, pev_psub, pev_pmul, pev_pscale, pev_plit, r0, r1, r2, r3, r4, r5, r6, r7, r8]
    exact part_b w (by omega) (by omega) (by omega) (by omega) (by omega) (by omega) (by simp)
  · simp only [List.map_cons, List.map_nil, pev_padd, pev_psub, pev_pmul, pev_pscale, pev_plit, r0, r1, r2, r3, r4, r5, r6, r7, r8]
    exact pmuldiv_b w (by omega) (by omega) (by omega) (by omega) (by omega) (by omega) (by grind) (by omega) (by omega) (by omega)
  · simp only [List.map_cons, List.map_nil, pev_padd, pev_psub, pev_pmul, pev_pscale, pev_plit, r0, r1, r2, r3, r4, r5, r6, r7, r8]
    exact ppart_b w (by omega) (by omega) (by omega) (by omega) (by omega) (by omega) (by exact hC)
end Go.Proofs.YtkojakidcjfiaaaGreat
