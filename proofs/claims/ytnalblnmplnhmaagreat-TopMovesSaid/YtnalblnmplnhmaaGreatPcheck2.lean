/-
 ops.Check: operations that may be. (Printed by wip/mkpath.py out of wip/paths/check2.py.)
-/
import Derived.Test.YtnalblnmplnhmaaGreatSt2
import Derived.Test.YtnalblnmplnhmaaGreatTlSh
import Derived.Test.YtnalblnmplnhmaaGreatPcheck
set_option linter.unusedVariables false
set_option linter.unusedSimpArgs false
namespace Go.Proofs.YtnalblnmplnhmaaGreat
open Go.RowKit Mc
@[reducible] def bk_Check_count:Bk:={ vars:=[(0,3),(0,4),(0,1),(0,1073741824)],extV:=[(34,[(.c (.string ⟨#[69,73,76,81]⟩)),(.c (.int .i32 69))],(.c (.bool true))),
  (34,[(.c (.string ⟨#[69,73,76,81]⟩)),(.c (.int .i32 73))],(.c (.bool true))),
  (34,[(.c (.string ⟨#[69,73,76,81]⟩)),(.c (.int .i32 76))],(.c (.bool true))),
  (34,[(.c (.string ⟨#[69,73,76,81]⟩)),(.c (.int .i32 84))],(.c (.bool false))),
  (34,[(.c (.string ⟨#[69,73,76,81]⟩)),(.c (.int .i32 81))],(.c (.bool true))),
  (34,[(.c (.string ⟨#[69,73,76,81]⟩)),(.c (.int .i32 65))],(.c (.bool false))),
  (34,[(.c (.string ⟨#[69,73,76,81]⟩)),(.c (.int .i32 82))],(.c (.bool false)))] }
set_option maxRecDepth 1000000 in
theorem run_Check_count:@runsTo bk_Check_count Tryz.prog 100000 60 19 [(.agg [(.i 7),(.e [([0],1)]),(.e [([1],1)]),(.e [([2],1)]),(.i 0),(.e [([3],1)]),(.i 0),(.i 0),.emp])] (.c (.bool true))=true:=by decide +kernel
set_option maxRecDepth 100000 in
theorem Check_count {e:Int} (hE:0≤e∧e≤3) {item:Int} (hI:0≤item∧item≤4) {loc:Int} (hL:0≤loc∧loc≤1) {qty:Int} (hQ:0≤qty∧qty≤1073741824)   :
  CK Tryz.prog 19 [(OpD.mk 7 e item loc 0 qty 0 0).av] (.c (.bool true)):=by
 have hb:BndL bk_Check_count.vars [e,item,loc,qty]:=.cons (by omega) (by omega) (.cons (by omega) (by omega) (.cons (by omega) (by omega) (.cons (by omega) (by omega) (.nil))))
 have hf:FctL (fun i=>([e,item,loc,qty]:List Int).getD i 0) bk_Check_count.facts:=.nil
 let ev:@Ev bk_Check_count:=evSeq bk_Check_count [e,item,loc,qty] [] [] (.nil) hb hf (ones_nil)
  (.nil)
  (.nil)
  (spl_nil)
 exact CK.of_run bk_Check_count ev run_Check_count (exNil bk_Check_count ev) (yeNil bk_Check_count ev) (knCons bk_Check_count ev (@rune_kn bk_Check_count ev _ _ _ (by decide +kernel)) (knCons bk_Check_count ev (@rune_kn bk_Check_count ev _ _ _ (by decide +kernel)) (knCons bk_Check_count ev (@rune_kn bk_Check_count ev _ _ _ (by decide +kernel)) (knCons bk_Check_count ev (@rune_kn bk_Check_count ev _ _ _ (by decide +kernel)) (knCons bk_Check_count ev (@rune_kn bk_Check_count ev _ _ _ (by decide +kernel)) (knCons bk_Check_count ev (@rune_kn bk_Check_count ev _ _ _ (by decide +kernel)) (knCons bk_Check_count ev (@rune_kn bk_Check_count ev _ _ _ (by decide +kernel)) (knNil bk_Check_count ev)))))))) (rfl) (rfl) (cl_cons (cl_op _) cl_nil) (.c _) rfl
end Go.Proofs.YtnalblnmplnhmaaGreat
