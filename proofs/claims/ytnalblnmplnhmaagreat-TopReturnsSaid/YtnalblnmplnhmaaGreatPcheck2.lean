/-
 ops.Check: operations that may be. (Printed by wip/mkpath.py out of wip/paths/check2.py.)
-/
import Derived.Test.YtnalblnmplnhmaaGreatSt2
import Derived.Test.YtnalblnmplnhmaaGreatTlSh
import Derived.Test.YtnalblnmplnhmaaGreatPcheck
set_option linter.unusedVariables false
set_option linter.unusedSimpArgs false
namespace Go.Proofs.YtnalblnmplnhmaaGreat
open Go.RowKit Mc
@[reducible] def bk_Check_sell:Bk:={ vars:=[(0,3),(0,4),(0,1),(1,1073741824),(0,1125899906842624)],extV:=[(34,[(.c (.string ⟨#[69,73,76,81,65]⟩)),(.c (.int .i32 69))],(.c (.bool true))),
  (34,[(.c (.string ⟨#[69,73,76,81,65]⟩)),(.c (.int .i32 73))],(.c (.bool true))),
  (34,[(.c (.string ⟨#[69,73,76,81,65]⟩)),(.c (.int .i32 76))],(.c (.bool true))),
  (34,[(.c (.string ⟨#[69,73,76,81,65]⟩)),(.c (.int .i32 84))],(.c (.bool false))),
  (34,[(.c (.string ⟨#[69,73,76,81,65]⟩)),(.c (.int .i32 81))],(.c (.bool true))),
  (34,[(.c (.string ⟨#[69,73,76,81,65]⟩)),(.c (.int .i32 65))],(.c (.bool true))),
  (34,[(.c (.string ⟨#[69,73,76,81,65]⟩)),(.c (.int .i32 82))],(.c (.bool false)))] }
set_option maxRecDepth 1000000 in
theorem run_Check_sell:@runsTo bk_Check_sell Tryz.prog 100000 60 19 [(.agg [(.i 4),(.e [([0],1)]),(.e [([1],1)]),(.e [([2],1)]),(.i 0),(.e [([3],1)]),(.e [([4],1)]),(.i 0),.emp])] (.c (.bool true))=true:=by decide +kernel
set_option maxRecDepth 100000 in
theorem Check_sell {e:Int} (hE:0≤e∧e≤3) {item:Int} (hI:0≤item∧item≤4) {loc:Int} (hL:0≤loc∧loc≤1) {qty:Int} (hQ:1≤qty∧qty≤1073741824) {amount:Int} (hA:0≤amount∧amount≤1125899906842624)   :
  CK Tryz.prog 19 [(OpD.mk 4 e item loc 0 qty amount 0).av] (.c (.bool true)):=by
 have hb:BndL bk_Check_sell.vars [e,item,loc,qty,amount]:=.cons (by omega) (by omega) (.cons (by omega) (by omega) (.cons (by omega) (by omega) (.cons (by omega) (by omega) (.cons (by omega) (by omega) (.nil)))))
 have hf:FctL (fun i=>([e,item,loc,qty,amount]:List Int).getD i 0) bk_Check_sell.facts:=.nil
 let ev:@Ev bk_Check_sell:=evSeq bk_Check_sell [e,item,loc,qty,amount] [] [] (.nil) hb hf (ones_nil)
  (.nil)
  (.nil)
  (spl_nil)
 exact CK.of_run bk_Check_sell ev run_Check_sell (exNil bk_Check_sell ev) (yeNil bk_Check_sell ev) (knCons bk_Check_sell ev (@rune_kn bk_Check_sell ev _ _ _ (by decide +kernel)) (knCons bk_Check_sell ev (@rune_kn bk_Check_sell ev _ _ _ (by decide +kernel)) (knCons bk_Check_sell ev (@rune_kn bk_Check_sell ev _ _ _ (by decide +kernel)) (knCons bk_Check_sell ev (@rune_kn bk_Check_sell ev _ _ _ (by decide +kernel)) (knCons bk_Check_sell ev (@rune_kn bk_Check_sell ev _ _ _ (by decide +kernel)) (knCons bk_Check_sell ev (@rune_kn bk_Check_sell ev _ _ _ (by decide +kernel)) (knCons bk_Check_sell ev (@rune_kn bk_Check_sell ev _ _ _ (by decide +kernel)) (knNil bk_Check_sell ev)))))))) (rfl) (rfl) (cl_cons (cl_op _) cl_nil) (.c _) rfl
@[reducible] def bk_Check_takeBack:Bk:={ vars:=[(1,1073741824),(0,1125899906842624),(0,39)],extV:=[(34,[(.c (.string ⟨#[81,65,82]⟩)),(.c (.int .i32 69))],(.c (.bool false))),
  (34,[(.c (.string ⟨#[81,65,82]⟩)),(.c (.int .i32 73))],(.c (.bool false))),
  (34,[(.c (.string ⟨#[81,65,82]⟩)),(.c (.int .i32 76))],(.c (.bool false))),
  (34,[(.c (.string ⟨#[81,65,82]⟩)),(.c (.int .i32 84))],(.c (.bool false))),
  (34,[(.c (.string ⟨#[81,65,82]⟩)),(.c (.int .i32 81))],(.c (.bool true))),
  (34,[(.c (.string ⟨#[81,65,82]⟩)),(.c (.int .i32 65))],(.c (.bool true))),
  (34,[(.c (.string ⟨#[81,65,82]⟩)),(.c (.int .i32 82))],(.c (.bool true)))] }
set_option maxRecDepth 1000000 in
theorem run_Check_takeBack:@runsTo bk_Check_takeBack Tryz.prog 100000 60 19 [(.agg [(.i 5),(.i 0),(.i 0),(.i 0),(.i 0),(.e [([0],1)]),(.e [([1],1)]),(.e [([2],1)]),.emp])] (.c (.bool true))=true:=by decide +kernel
set_option maxRecDepth 100000 in
theorem Check_takeBack {qty:Int} (hQ:1≤qty∧qty≤1073741824) {amount:Int} (hA:0≤amount∧amount≤1125899906842624) {ref:Int} (hR:0≤ref∧ref≤39)   :
  CK Tryz.prog 19 [(OpD.mk 5 0 0 0 0 qty amount ref).av] (.c (.bool true)):=by
 have hb:BndL bk_Check_takeBack.vars [qty,amount,ref]:=.cons (by omega) (by omega) (.cons (by omega) (by omega) (.cons (by omega) (by omega) (.nil)))
 have hf:FctL (fun i=>([qty,amount,ref]:List Int).getD i 0) bk_Check_takeBack.facts:=.nil
 let ev:@Ev bk_Check_takeBack:=evSeq bk_Check_takeBack [qty,amount,ref] [] [] (.nil) hb hf (ones_nil)
  (.nil)
  (.nil)
  (spl_nil)
 exact CK.of_run bk_Check_takeBack ev run_Check_takeBack (exNil bk_Check_takeBack ev) (yeNil bk_Check_takeBack ev) (knCons bk_Check_takeBack ev (@rune_kn bk_Check_takeBack ev _ _ _ (by decide +kernel)) (knCons bk_Check_takeBack ev (@rune_kn bk_Check_takeBack ev _ _ _ (by decide +kernel)) (knCons bk_Check_takeBack ev (@rune_kn bk_Check_takeBack ev _ _ _ (by decide +kernel)) (knCons bk_Check_takeBack ev (@rune_kn bk_Check_takeBack ev _ _ _ (by decide +kernel)) (knCons bk_Check_takeBack ev (@rune_kn bk_Check_takeBack ev _ _ _ (by decide +kernel)) (knCons bk_Check_takeBack ev (@rune_kn bk_Check_takeBack ev _ _ _ (by decide +kernel)) (knCons bk_Check_takeBack ev (@rune_kn bk_Check_takeBack ev _ _ _ (by decide +kernel)) (knNil bk_Check_takeBack ev)))))))) (rfl) (rfl) (cl_cons (cl_op _) cl_nil) (.c _) rfl
end Go.Proofs.YtnalblnmplnhmaaGreat
