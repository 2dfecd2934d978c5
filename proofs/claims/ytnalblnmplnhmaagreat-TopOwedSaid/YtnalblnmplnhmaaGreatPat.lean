/-
  stock.At on states of one entity and one item. (Printed by wip/mkpath.py out of wip/paths/at.py.)
-/
import Derived.Test.YtnalblnmplnhmaaGreatSt3
set_option linter.unusedVariables false
set_option linter.unusedSimpArgs false
namespace Go.Proofs.YtnalblnmplnhmaaGreat
open Go.RowKit Mc

@[reducible] def bk_At_one0 : Bk := { vars := [(0, 30), (0, 30)], lens := [(0, [([0], 1)]), (1, [([1], 1)]), (3, [([], 1)])] }
set_option maxRecDepth 1000000 in
theorem run_At_one0 : @runsTo bk_At_one0 Tryz.prog 100000 60 16 [(.agg [(.c (.int .i64 1)), (.c (.int .i64 4)), (.lit 1 [[(.c (.int .i64 1))]]), (.lit 1 [[(.lit 1 [[(.o 0)]])]]), (.lit 1 [[(.lit 1 [[(.o 1)]])]]), (.lit 8 [[(.c (.int .i64 1)), (.c (.bool false)), (.lit 4 [[(.seq 3 0 [] []), (.c (.int .i64 0)), (.c (.int .i64 0)), (.c (.int .i64 0))], [(.seq 3 1 [] []), (.c (.int .i64 0)), (.c (.int .i64 0)), (.c (.int .i64 0))]]), (.seq 1 2 [] []), (.seq 11 3 [] []), (.lit 1 [[(.c (.int .i64 (-1)))]]), (.lit 1 [[(.c (.int .i64 0))]]), (.lit 8 [])]]), (.seq 8 4 [] []), (.seq 9 5 [] []), (.lit 6 []), (.o 2)]), (.c (.int .i64 0)), (.c (.int .i64 0)), (.c (.int .i64 0))] (.agg [(.seq 3 0 [] []), (.c (.int .i64 0)), (.c (.int .i64 0)), (.c (.int .i64 0))]) = true := by decide +kernel
set_option maxRecDepth 100000 in
theorem At_one0 {m c d : Int} {L0 L1 : List Lay} {b r : List Int} {RC SA : List (List AV)} (hB : ClR RC) (hS : ClR SA) (h0 : L0.length ≤ 30) (h1 : L1.length ≤ 30)   :
    CK Tryz.prog 16 [oneA m c [⟨L0, 0, 0, 0⟩, ⟨L1, 0, 0, 0⟩] (intsR b) r RC SA d, .i 0, .i 0, .i 0] (PoolD.av ⟨L0, 0, 0, 0⟩) := by
  have hb : BndL bk_At_one0.vars [(L0.length : Int), (L1.length : Int)] := .cons (by omega) (by omega) (.cons (by omega) (by omega) (.nil))
  have hf : FctL (fun i => ([(L0.length : Int), (L1.length : Int)] : List Int).getD i 0) bk_At_one0.facts := .nil
  let ev : @Ev bk_At_one0 := evSeq bk_At_one0 [(L0.length : Int), (L1.length : Int)] [.int .i64 m, .int .i64 c, .int .i64 d] [laysR L0, laysR L1, intsR b, rollsR [r], RC, SA] (.nil) hb hf (ones_cons rfl (ones_cons rfl (ones_cons rfl (ones_nil))))
    (.cons (by simp [pev, mev, entsR, intsR, poolsR, rcsR, sasR, trsR, linsR, laysR, rollsR, aheadR, intssR]; try omega) (.cons (by simp [pev, mev, entsR, intsR, poolsR, rcsR, sasR, trsR, linsR, laysR, rollsR, aheadR, intssR]; try omega) (.cons (by simp [pev, mev, entsR, intsR, poolsR, rcsR, sasR, trsR, linsR, laysR, rollsR, aheadR, intssR]; try omega) (.nil))))
    (.nil)
    (spl_cons (cl_lays _) (spl_cons (cl_lays _) (spl_cons (cl_ints _) (spl_cons (cl_rolls _) (spl_cons (hB) (spl_cons (hS) (spl_nil)))))))
  exact CK.of_run bk_At_one0 ev run_At_one0 (exNil bk_At_one0 ev) (yeNil bk_At_one0 ev) (knNil bk_At_one0 ev) (rfl) (rfl) (cl_cons (cl_oneA (cl_ints _) hB hS) (cl_cons (.c _) (cl_cons (.c _) (cl_cons (.c _) cl_nil)))) (.agg _ (cl_poolRow _)) rfl

@[reducible] def bk_At_one1 : Bk := { vars := [(0, 30), (0, 30)], lens := [(0, [([0], 1)]), (1, [([1], 1)]), (3, [([], 1)])] }
set_option maxRecDepth 1000000 in
theorem run_At_one1 : @runsTo bk_At_one1 Tryz.prog 100000 60 16 [(.agg [(.c (.int .i64 1)), (.c (.int .i64 4)), (.lit 1 [[(.c (.int .i64 1))]]), (.lit 1 [[(.lit 1 [[(.o 0)]])]]), (.lit 1 [[(.lit 1 [[(.o 1)]])]]), (.lit 8 [[(.c (.int .i64 1)), (.c (.bool false)), (.lit 4 [[(.seq 3 0 [] []), (.c (.int .i64 0)), (.c (.int .i64 0)), (.c (.int .i64 0))], [(.seq 3 1 [] []), (.c (.int .i64 0)), (.c (.int .i64 0)), (.c (.int .i64 0))]]), (.seq 1 2 [] []), (.seq 11 3 [] []), (.lit 1 [[(.c (.int .i64 (-1)))]]), (.lit 1 [[(.c (.int .i64 0))]]), (.lit 8 [])]]), (.seq 8 4 [] []), (.seq 9 5 [] []), (.lit 6 []), (.o 2)]), (.c (.int .i64 0)), (.c (.int .i64 0)), (.c (.int .i64 1))] (.agg [(.seq 3 1 [] []), (.c (.int .i64 0)), (.c (.int .i64 0)), (.c (.int .i64 0))]) = true := by decide +kernel
set_option maxRecDepth 100000 in
theorem At_one1 {m c d : Int} {L0 L1 : List Lay} {b r : List Int} {RC SA : List (List AV)} (hB : ClR RC) (hS : ClR SA) (h0 : L0.length ≤ 30) (h1 : L1.length ≤ 30)   :
    CK Tryz.prog 16 [oneA m c [⟨L0, 0, 0, 0⟩, ⟨L1, 0, 0, 0⟩] (intsR b) r RC SA d, .i 0, .i 0, .i 1] (PoolD.av ⟨L1, 0, 0, 0⟩) := by
  have hb : BndL bk_At_one1.vars [(L0.length : Int), (L1.length : Int)] := .cons (by omega) (by omega) (.cons (by omega) (by omega) (.nil))
  have hf : FctL (fun i => ([(L0.length : Int), (L1.length : Int)] : List Int).getD i 0) bk_At_one1.facts := .nil
  let ev : @Ev bk_At_one1 := evSeq bk_At_one1 [(L0.length : Int), (L1.length : Int)] [.int .i64 m, .int .i64 c, .int .i64 d] [laysR L0, laysR L1, intsR b, rollsR [r], RC, SA] (.nil) hb hf (ones_cons rfl (ones_cons rfl (ones_cons rfl (ones_nil))))
    (.cons (by simp [pev, mev, entsR, intsR, poolsR, rcsR, sasR, trsR, linsR, laysR, rollsR, aheadR, intssR]; try omega) (.cons (by simp [pev, mev, entsR, intsR, poolsR, rcsR, sasR, trsR, linsR, laysR, rollsR, aheadR, intssR]; try omega) (.cons (by simp [pev, mev, entsR, intsR, poolsR, rcsR, sasR, trsR, linsR, laysR, rollsR, aheadR, intssR]; try omega) (.nil))))
    (.nil)
    (spl_cons (cl_lays _) (spl_cons (cl_lays _) (spl_cons (cl_ints _) (spl_cons (cl_rolls _) (spl_cons (hB) (spl_cons (hS) (spl_nil)))))))
  exact CK.of_run bk_At_one1 ev run_At_one1 (exNil bk_At_one1 ev) (yeNil bk_At_one1 ev) (knNil bk_At_one1 ev) (rfl) (rfl) (cl_cons (cl_oneA (cl_ints _) hB hS) (cl_cons (.c _) (cl_cons (.c _) (cl_cons (.c _) cl_nil)))) (.agg _ (cl_poolRow _)) rfl

end Go.Proofs.YtnalblnmplnhmaaGreat
