/-
 A state of one entity and one item, as it begins. (Printed by wip/mkpath.py out of wip/paths/start.py.)
-/
import Derived.Test.YtnalblnmplnhmaaGreatSt3
set_option linter.unusedVariables false
set_option linter.unusedSimpArgs false
namespace Go.Proofs.YtnalblnmplnhmaaGreat
open Go.RowKit Mc
def zeros17:List Int:=[0,0,0,0,0,0,0,0,0,0,0,0,0,0,0,0,0]
def zeros11:List Int:=[0,0,0,0,0,0,0,0,0,0,0]
def masterA (m:Int):AV:=.agg [.i 1,.i 4,.lit 1 (intsR [1]),.lit 1 (intssR [[m]]),.lit 1 (intssR [[10]])]
theorem cl_master (m:Int):Cl (masterA m):=.agg _ (cl_cons (.c _) (cl_cons (.c _) (cl_cons (cl_ints _).lit (cl_cons (cl_intss _).lit (cl_cons (cl_intss _).lit cl_nil)))))
@[reducible] def bk_Start_one:Bk:={ vars:=[(1,4)] }
set_option maxRecDepth 1000000 in
theorem run_Start_one:@runsTo bk_Start_one Tryz.prog 100000 60 10 [(.agg [(.c (.int .i64 1)),(.c (.int .i64 4)),(.lit 1 [[(.c (.int .i64 1))]]),(.lit 1 [[(.lit 1 [[(.e [([0],1)])]])]]),(.lit 1 [[(.lit 1 [[(.c (.int .i64 10))]])]])])] (.agg [(.c (.int .i64 1)),(.c (.int .i64 4)),(.lit 1 [[(.c (.int .i64 1))]]),(.lit 1 [[(.lit 1 [[(.e [([0],1)])]])]]),(.lit 1 [[(.lit 1 [[(.c (.int .i64 10))]])]]),(.lit 8 [[(.c (.int .i64 1)),(.c (.bool false)),(.lit 4 [[(.lit 3 []),(.c (.int .i64 0)),(.c (.int .i64 0)),(.c (.int .i64 0))],[(.lit 3 []),(.c (.int .i64 0)),(.c (.int .i64 0)),(.c (.int .i64 0))]]),(.lit 1 [[(.c (.int .i64 0))],[(.c (.int .i64 0))],[(.c (.int .i64 0))],[(.c (.int .i64 0))],[(.c (.int .i64 0))],[(.c (.int .i64 0))],[(.c (.int .i64 0))],[(.c (.int .i64 0))],[(.c (.int .i64 0))],[(.c (.int .i64 0))],[(.c (.int .i64 0))],[(.c (.int .i64 0))],[(.c (.int .i64 0))],[(.c (.int .i64 0))],[(.c (.int .i64 0))],[(.c (.int .i64 0))],[(.c (.int .i64 0))]]),(.lit 11 [[(.c (.int .i64 0)),(.c (.int .i64 0)),(.c (.int .i64 0)),(.c (.int .i64 0)),(.c (.int .i64 0)),(.c (.int .i64 0)),(.c (.int .i64 0)),(.c (.int .i64 0)),(.c (.int .i64 0)),(.c (.int .i64 0)),(.c (.int .i64 0))]]),(.lit 1 [[(.c (.int .i64 (-1)))]]),(.lit 1 [[(.c (.int .i64 0))]]),(.lit 8 [])]]),(.lit 8 []),(.lit 9 []),(.lit 6 []),(.c (.int .i64 0))])=true:=by decide +kernel
set_option maxRecDepth 100000 in
theorem Start_one {m:Int} (hm:1≤m∧m≤4)  :
  CK Tryz.prog 10 [masterA m] (oneA m 10 [⟨[],0,0,0⟩,⟨[],0,0,0⟩] (intsR zeros17) zeros11 [] [] 0):=by
 have hb:BndL bk_Start_one.vars [m]:=.cons (by omega) (by omega) (.nil)
 have hf:FctL (fun i=>([m]:List Int).getD i 0) bk_Start_one.facts:=.nil
 let ev:@Ev bk_Start_one:=evSeq bk_Start_one [m] [] [] (.nil) hb hf (ones_nil)
  (.nil)
  (.nil)
  (spl_nil)
 exact CK.of_run bk_Start_one ev run_Start_one (exNil bk_Start_one ev) (yeNil bk_Start_one ev) (knNil bk_Start_one ev) (rfl) (rfl) (cl_cons (cl_master _) cl_nil) (cl_oneA (cl_ints _) ClR.nil ClR.nil) rfl
end Go.Proofs.YtnalblnmplnhmaaGreat
