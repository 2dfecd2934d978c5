/-
 ops.Check: operations that may be. (Printed by wip/mkpath.py out of wip/paths/check3.py.)
-/
import Derived.Test.YtnalblnmplnhmaaGreatSt2
import Derived.Test.YtnalblnmplnhmaaGreatTlSh
import Derived.Test.YtnalblnmplnhmaaGreatPcheck
import Derived.Test.YtnalblnmplnhmaaGreatBndT
set_option linter.unusedVariables false
set_option linter.unusedSimpArgs false
namespace Go.Proofs.YtnalblnmplnhmaaGreat
open Go.RowKit Mc
@[reducible] def bk_Check_move_a:Bk:={ vars:=[(0,3),(0,4),(0,1),(0,1),(1,1073741824)],facts:=[([([2],-1),([3],1)],1,1)],extV:=[(34,[(.c (.string ⟨#[69,73,76,84,81]⟩)),(.c (.int .i32 69))],(.c (.bool true))),
  (35,[(.i 8),(.c (.int .i32 69))],(.tup [.c (.int .i64 0),.c (.int .i64 3)])),
  (34,[(.c (.string ⟨#[69,73,76,84,81]⟩)),(.c (.int .i32 73))],(.c (.bool true))),
  (35,[(.i 8),(.c (.int .i32 73))],(.tup [.c (.int .i64 0),.c (.int .i64 4)])),
  (34,[(.c (.string ⟨#[69,73,76,84,81]⟩)),(.c (.int .i32 76))],(.c (.bool true))),
  (35,[(.i 8),(.c (.int .i32 76))],(.tup [.c (.int .i64 0),.c (.int .i64 1)])),
  (34,[(.c (.string ⟨#[69,73,76,84,81]⟩)),(.c (.int .i32 84))],(.c (.bool true))),
  (35,[(.i 8),(.c (.int .i32 84))],(.tup [.c (.int .i64 0),.c (.int .i64 1)])),
  (34,[(.c (.string ⟨#[69,73,76,84,81]⟩)),(.c (.int .i32 81))],(.c (.bool true))),
  (35,[(.i 8),(.c (.int .i32 81))],(.tup [.c (.int .i64 1),.c (.int .i64 1073741824)])),
  (34,[(.c (.string ⟨#[69,73,76,84,81]⟩)),(.c (.int .i32 65))],(.c (.bool false))),
  (34,[(.c (.string ⟨#[69,73,76,84,81]⟩)),(.c (.int .i32 82))],(.c (.bool false)))] }
set_option maxRecDepth 1000000 in
theorem run_Check_move_a:@runsTo bk_Check_move_a Tryz.prog 100000 60 19 [(.agg [(.i 8),(.e [([0],1)]),(.e [([1],1)]),(.e [([2],1)]),(.e [([3],1)]),(.e [([4],1)]),(.i 0),(.i 0),.emp])] (.c (.bool true))=true:=by decide +kernel
set_option maxRecDepth 100000 in
theorem Check_move_a {e:Int} (hE:0≤e∧e≤3) {item:Int} (hI:0≤item∧item≤4) {loc:Int} (hL:0≤loc∧loc≤1) {dst:Int} (hT:0≤dst∧dst≤1) {qty:Int} (hQ:1≤qty∧qty≤1073741824) (hne:loc<dst)   :
  CK Tryz.prog 19 [(OpD.mk 8 e item loc dst qty 0 0).av] (.c (.bool true)):=by
 have hb:BndL bk_Check_move_a.vars [e,item,loc,dst,qty]:=.cons (by omega) (by omega) (.cons (by omega) (by omega) (.cons (by omega) (by omega) (.cons (by omega) (by omega) (.cons (by omega) (by omega) (.nil)))))
 have hf:FctL (fun i=>([e,item,loc,dst,qty]:List Int).getD i 0) bk_Check_move_a.facts:=.cons (by simp[pev,mev];omega) (by simp[pev,mev];omega) (.nil)
 let ev:@Ev bk_Check_move_a:=evSeq bk_Check_move_a [e,item,loc,dst,qty] [] [] (.nil) hb hf (ones_nil)
  (.nil)
  (.nil)
  (spl_nil)
 exact CK.of_run bk_Check_move_a ev run_Check_move_a (exNil bk_Check_move_a ev) (yeNil bk_Check_move_a ev) (knCons bk_Check_move_a ev (@rune_kn bk_Check_move_a ev _ _ _ (by decide +kernel)) (knCons bk_Check_move_a ev (@kn_0 bk_Check_move_a ev _ _ _ _ _ bnd8_E rfl rfl rfl) (knCons bk_Check_move_a ev (@rune_kn bk_Check_move_a ev _ _ _ (by decide +kernel)) (knCons bk_Check_move_a ev (@kn_0 bk_Check_move_a ev _ _ _ _ _ bnd8_I rfl rfl rfl) (knCons bk_Check_move_a ev (@rune_kn bk_Check_move_a ev _ _ _ (by decide +kernel)) (knCons bk_Check_move_a ev (@kn_0 bk_Check_move_a ev _ _ _ _ _ bnd8_L rfl rfl rfl) (knCons bk_Check_move_a ev (@rune_kn bk_Check_move_a ev _ _ _ (by decide +kernel)) (knCons bk_Check_move_a ev (@kn_ct bk_Check_move_a ev _ [.int .i64 8,.int .i32 84] [.int .i64 0,.int .i64 1] bounds_T8 (by decide)) (knCons bk_Check_move_a ev (@rune_kn bk_Check_move_a ev _ _ _ (by decide +kernel)) (knCons bk_Check_move_a ev (@kn_0 bk_Check_move_a ev _ _ _ _ _ bnd8_Q rfl rfl rfl) (knCons bk_Check_move_a ev (@rune_kn bk_Check_move_a ev _ _ _ (by decide +kernel)) (knCons bk_Check_move_a ev (@rune_kn bk_Check_move_a ev _ _ _ (by decide +kernel)) (knNil bk_Check_move_a ev))))))))))))) (rfl) (rfl) (cl_cons (cl_op _) cl_nil) (.c _) rfl
@[reducible] def bk_Check_move_b:Bk:={ vars:=[(0,3),(0,4),(0,1),(0,1),(1,1073741824)],facts:=[([([2],-1),([3],1)],-1,-1)],extV:=[(34,[(.c (.string ⟨#[69,73,76,84,81]⟩)),(.c (.int .i32 69))],(.c (.bool true))),
  (35,[(.i 8),(.c (.int .i32 69))],(.tup [.c (.int .i64 0),.c (.int .i64 3)])),
  (34,[(.c (.string ⟨#[69,73,76,84,81]⟩)),(.c (.int .i32 73))],(.c (.bool true))),
  (35,[(.i 8),(.c (.int .i32 73))],(.tup [.c (.int .i64 0),.c (.int .i64 4)])),
  (34,[(.c (.string ⟨#[69,73,76,84,81]⟩)),(.c (.int .i32 76))],(.c (.bool true))),
  (35,[(.i 8),(.c (.int .i32 76))],(.tup [.c (.int .i64 0),.c (.int .i64 1)])),
  (34,[(.c (.string ⟨#[69,73,76,84,81]⟩)),(.c (.int .i32 84))],(.c (.bool true))),
  (35,[(.i 8),(.c (.int .i32 84))],(.tup [.c (.int .i64 0),.c (.int .i64 1)])),
  (34,[(.c (.string ⟨#[69,73,76,84,81]⟩)),(.c (.int .i32 81))],(.c (.bool true))),
  (35,[(.i 8),(.c (.int .i32 81))],(.tup [.c (.int .i64 1),.c (.int .i64 1073741824)])),
  (34,[(.c (.string ⟨#[69,73,76,84,81]⟩)),(.c (.int .i32 65))],(.c (.bool false))),
  (34,[(.c (.string ⟨#[69,73,76,84,81]⟩)),(.c (.int .i32 82))],(.c (.bool false)))] }
set_option maxRecDepth 1000000 in
theorem run_Check_move_b:@runsTo bk_Check_move_b Tryz.prog 100000 60 19 [(.agg [(.i 8),(.e [([0],1)]),(.e [([1],1)]),(.e [([2],1)]),(.e [([3],1)]),(.e [([4],1)]),(.i 0),(.i 0),.emp])] (.c (.bool true))=true:=by decide +kernel
set_option maxRecDepth 100000 in
theorem Check_move_b {e:Int} (hE:0≤e∧e≤3) {item:Int} (hI:0≤item∧item≤4) {loc:Int} (hL:0≤loc∧loc≤1) {dst:Int} (hT:0≤dst∧dst≤1) {qty:Int} (hQ:1≤qty∧qty≤1073741824) (hne:dst<loc)   :
  CK Tryz.prog 19 [(OpD.mk 8 e item loc dst qty 0 0).av] (.c (.bool true)):=by
 have hb:BndL bk_Check_move_b.vars [e,item,loc,dst,qty]:=.cons (by omega) (by omega) (.cons (by omega) (by omega) (.cons (by omega) (by omega) (.cons (by omega) (by omega) (.cons (by omega) (by omega) (.nil)))))
 have hf:FctL (fun i=>([e,item,loc,dst,qty]:List Int).getD i 0) bk_Check_move_b.facts:=.cons (by simp[pev,mev];omega) (by simp[pev,mev];omega) (.nil)
 let ev:@Ev bk_Check_move_b:=evSeq bk_Check_move_b [e,item,loc,dst,qty] [] [] (.nil) hb hf (ones_nil)
  (.nil)
  (.nil)
  (spl_nil)
 exact CK.of_run bk_Check_move_b ev run_Check_move_b (exNil bk_Check_move_b ev) (yeNil bk_Check_move_b ev) (knCons bk_Check_move_b ev (@rune_kn bk_Check_move_b ev _ _ _ (by decide +kernel)) (knCons bk_Check_move_b ev (@kn_0 bk_Check_move_b ev _ _ _ _ _ bnd8_E rfl rfl rfl) (knCons bk_Check_move_b ev (@rune_kn bk_Check_move_b ev _ _ _ (by decide +kernel)) (knCons bk_Check_move_b ev (@kn_0 bk_Check_move_b ev _ _ _ _ _ bnd8_I rfl rfl rfl) (knCons bk_Check_move_b ev (@rune_kn bk_Check_move_b ev _ _ _ (by decide +kernel)) (knCons bk_Check_move_b ev (@kn_0 bk_Check_move_b ev _ _ _ _ _ bnd8_L rfl rfl rfl) (knCons bk_Check_move_b ev (@rune_kn bk_Check_move_b ev _ _ _ (by decide +kernel)) (knCons bk_Check_move_b ev (@kn_ct bk_Check_move_b ev _ [.int .i64 8,.int .i32 84] [.int .i64 0,.int .i64 1] bounds_T8 (by decide)) (knCons bk_Check_move_b ev (@rune_kn bk_Check_move_b ev _ _ _ (by decide +kernel)) (knCons bk_Check_move_b ev (@kn_0 bk_Check_move_b ev _ _ _ _ _ bnd8_Q rfl rfl rfl) (knCons bk_Check_move_b ev (@rune_kn bk_Check_move_b ev _ _ _ (by decide +kernel)) (knCons bk_Check_move_b ev (@rune_kn bk_Check_move_b ev _ _ _ (by decide +kernel)) (knNil bk_Check_move_b ev))))))))))))) (rfl) (rfl) (cl_cons (cl_op _) cl_nil) (.c _) rfl
end Go.Proofs.YtnalblnmplnhmaaGreat
