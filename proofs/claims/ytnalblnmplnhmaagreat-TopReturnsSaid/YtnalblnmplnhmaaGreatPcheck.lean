/-
 ops.Check: operations that may be. (Printed by wip/mkpath.py out of wip/paths/check.py.)
-/
import Derived.Test.YtnalblnmplnhmaaGreatSt2
import Derived.Test.YtnalblnmplnhmaaGreatTlSh
set_option linter.unusedVariables false
set_option linter.unusedSimpArgs false
namespace Go.Proofs.YtnalblnmplnhmaaGreat
open Go.RowKit Mc
structure OpD where
 (kind e item loc dst qty amount ref:Int)
def OpD.av (o:OpD):AV:=.agg [.i o.kind,.i o.e,.i o.item,.i o.loc,.i o.dst,.i o.qty,.i o.amount,.i o.ref,.emp]
def opAv (k e item loc dst qty amount ref:Int):AV:=(OpD.mk k e item loc dst qty amount ref).av
theorem cl_op (o:OpD):Cl o.av:=.agg _ (cl_cons (.c _) (cl_cons (.c _) (cl_cons (.c _) (cl_cons (.c _) (cl_cons (.c _) (cl_cons (.c _) (cl_cons (.c _) (cl_cons (.c _) (cl_cons .emp cl_nil)))))))))
@[reducible] def bk_Check_receive:Bk:={ vars:=[(0,3),(0,4),(0,1),(1,1073741824),(0,1125899906842624)],extV:=[(34,[(.c (.string ⟨#[69,73,76,81,65]⟩)),(.c (.int .i32 69))],(.c (.bool true))),
  (34,[(.c (.string ⟨#[69,73,76,81,65]⟩)),(.c (.int .i32 73))],(.c (.bool true))),
  (34,[(.c (.string ⟨#[69,73,76,81,65]⟩)),(.c (.int .i32 76))],(.c (.bool true))),
  (34,[(.c (.string ⟨#[69,73,76,81,65]⟩)),(.c (.int .i32 84))],(.c (.bool false))),
  (34,[(.c (.string ⟨#[69,73,76,81,65]⟩)),(.c (.int .i32 81))],(.c (.bool true))),
  (34,[(.c (.string ⟨#[69,73,76,81,65]⟩)),(.c (.int .i32 65))],(.c (.bool true))),
  (34,[(.c (.string ⟨#[69,73,76,81,65]⟩)),(.c (.int .i32 82))],(.c (.bool false)))] }
set_option maxRecDepth 1000000 in
theorem run_Check_receive:@runsTo bk_Check_receive Tryz.prog 100000 60 19 [(.agg [(.i 1),(.e [([0],1)]),(.e [([1],1)]),(.e [([2],1)]),(.i 0),(.e [([3],1)]),(.e [([4],1)]),(.i 0),.emp])] (.c (.bool true))=true:=by decide +kernel
set_option maxRecDepth 100000 in
theorem Check_receive {e:Int} (hE:0≤e∧e≤3) {item:Int} (hI:0≤item∧item≤4) {loc:Int} (hL:0≤loc∧loc≤1) {qty:Int} (hQ:1≤qty∧qty≤1073741824) {amount:Int} (hA:0≤amount∧amount≤1125899906842624)   :
  CK Tryz.prog 19 [(OpD.mk 1 e item loc 0 qty amount 0).av] (.c (.bool true)):=by
 have hb:BndL bk_Check_receive.vars [e,item,loc,qty,amount]:=.cons (by omega) (by omega) (.cons (by omega) (by omega) (.cons (by omega) (by omega) (.cons (by omega) (by omega) (.cons (by omega) (by omega) (.nil)))))
 have hf:FctL (fun i=>([e,item,loc,qty,amount]:List Int).getD i 0) bk_Check_receive.facts:=.nil
 let ev:@Ev bk_Check_receive:=evSeq bk_Check_receive [e,item,loc,qty,amount] [] [] (.nil) hb hf (ones_nil)
  (.nil)
  (.nil)
  (spl_nil)
 exact CK.of_run bk_Check_receive ev run_Check_receive (exNil bk_Check_receive ev) (yeNil bk_Check_receive ev) (knCons bk_Check_receive ev (@rune_kn bk_Check_receive ev _ _ _ (by decide +kernel)) (knCons bk_Check_receive ev (@rune_kn bk_Check_receive ev _ _ _ (by decide +kernel)) (knCons bk_Check_receive ev (@rune_kn bk_Check_receive ev _ _ _ (by decide +kernel)) (knCons bk_Check_receive ev (@rune_kn bk_Check_receive ev _ _ _ (by decide +kernel)) (knCons bk_Check_receive ev (@rune_kn bk_Check_receive ev _ _ _ (by decide +kernel)) (knCons bk_Check_receive ev (@rune_kn bk_Check_receive ev _ _ _ (by decide +kernel)) (knCons bk_Check_receive ev (@rune_kn bk_Check_receive ev _ _ _ (by decide +kernel)) (knNil bk_Check_receive ev)))))))) (rfl) (rfl) (cl_cons (cl_op _) cl_nil) (.c _) rfl
end Go.Proofs.YtnalblnmplnhmaaGreat
