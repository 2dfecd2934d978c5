/-
 TopLanded: what is known of the library and of the operations' bounds; the law's awake says yes; bounds of the numbers.
-/
import Derived.Test.YtnalblnmplnhmaaGreatBase
import Derived.Test.YtnalblnmplnhmaaGreatCalls
import Derived.Test.YtnalblnmplnhmaaGreatTlSh
import Derived.Test.YtnalblnmplnhmaaGreatProg
set_option linter.unusedVariables false
set_option linter.unusedSimpArgs false
namespace Go.Proofs.YtnalblnmplnhmaaGreat
open Go.RowKit Mc
abbrev tlSm:List (Nat×List AV×AV):=[(34,[.c (.string ⟨#[69,73,76,81,65]⟩),.c (.int .i32 69)],.c (.bool true)),
 (34,[.c (.string ⟨#[69,73,76,81,65]⟩),.c (.int .i32 73)],.c (.bool true)),
 (34,[.c (.string ⟨#[69,73,76,81,65]⟩),.c (.int .i32 76)],.c (.bool true)),
 (34,[.c (.string ⟨#[69,73,76,81,65]⟩),.c (.int .i32 84)],.c (.bool false)),
 (34,[.c (.string ⟨#[69,73,76,81,65]⟩),.c (.int .i32 81)],.c (.bool true)),
 (34,[.c (.string ⟨#[69,73,76,81,65]⟩),.c (.int .i32 65)],.c (.bool true)),
 (34,[.c (.string ⟨#[69,73,76,81,65]⟩),.c (.int .i32 82)],.c (.bool false)),
 (34,[.c (.string ⟨#[69]⟩),.c (.int .i32 69)],.c (.bool true)),
 (34,[.c (.string ⟨#[69]⟩),.c (.int .i32 73)],.c (.bool false)),
 (34,[.c (.string ⟨#[69]⟩),.c (.int .i32 76)],.c (.bool false)),
 (34,[.c (.string ⟨#[69]⟩),.c (.int .i32 84)],.c (.bool false)),
 (34,[.c (.string ⟨#[69]⟩),.c (.int .i32 81)],.c (.bool false)),
 (34,[.c (.string ⟨#[69]⟩),.c (.int .i32 65)],.c (.bool false)),
 (34,[.c (.string ⟨#[69]⟩),.c (.int .i32 82)],.c (.bool false)),
 (35,[.c (.int .i64 1),.c (.int .i32 69)],.tup [.c (.int .i64 0),.c (.int .i64 3)]),
 (35,[.c (.int .i64 1),.c (.int .i32 73)],.tup [.c (.int .i64 0),.c (.int .i64 4)]),
 (35,[.c (.int .i64 1),.c (.int .i32 76)],.tup [.c (.int .i64 0),.c (.int .i64 1)]),
 (35,[.c (.int .i64 1),.c (.int .i32 81)],.tup [.c (.int .i64 1),.c (.int .i64 1073741824)]),
 (35,[.c (.int .i64 1),.c (.int .i32 65)],.tup [.c (.int .i64 0),.c (.int .i64 1125899906842624)]),
 (35,[.c (.int .i64 4),.c (.int .i32 69)],.tup [.c (.int .i64 0),.c (.int .i64 3)]),
 (35,[.c (.int .i64 4),.c (.int .i32 73)],.tup [.c (.int .i64 0),.c (.int .i64 4)]),
 (35,[.c (.int .i64 4),.c (.int .i32 76)],.tup [.c (.int .i64 0),.c (.int .i64 1)]),
 (35,[.c (.int .i64 4),.c (.int .i32 81)],.tup [.c (.int .i64 1),.c (.int .i64 1073741824)]),
 (35,[.c (.int .i64 4),.c (.int .i32 65)],.tup [.c (.int .i64 0),.c (.int .i64 1125899906842624)]),
 (35,[.c (.int .i64 14),.c (.int .i32 69)],.tup [.c (.int .i64 0),.c (.int .i64 3)])]
theorem tlSm_ok (b:Bk) (e:@Ev b) (hg:b.glob=[]:=by rfl):@KnL b e Tryz.prog tlSm:=by
 let _:Bk:=b
 let _:Ev:=e
 exact(.cons (rune_kn _ _ (by decide +kernel)) (.cons (rune_kn _ _ (by decide +kernel)) (.cons (rune_kn _ _ (by decide +kernel)) (.cons (rune_kn _ _ (by decide +kernel)) (.cons (rune_kn _ _ (by decide +kernel)) (.cons (rune_kn _ _ (by decide +kernel)) (.cons (rune_kn _ _ (by decide +kernel)) (.cons (rune_kn _ _ (by decide +kernel)) (.cons (rune_kn _ _ (by decide +kernel)) (.cons (rune_kn _ _ (by decide +kernel)) (.cons (rune_kn _ _ (by decide +kernel)) (.cons (rune_kn _ _ (by decide +kernel)) (.cons (rune_kn _ _ (by decide +kernel)) (.cons (rune_kn _ _ (by decide +kernel)) (.cons (kn_0 (hg:=hg) bnd_r0 (by decide) (by decide)) (.cons (kn_0 (hg:=hg) bnd_r1 (by decide) (by decide)) (.cons (kn_0 (hg:=hg) bnd_r2 (by decide) (by decide)) (.cons (kn_0 (hg:=hg) bnd_r3 (by decide) (by decide)) (.cons (kn_0 (hg:=hg) bnd_r4 (by decide) (by decide)) (.cons (kn_0 (hg:=hg) bnd_r6 (by decide) (by decide)) (.cons (kn_0 (hg:=hg) bnd_r7 (by decide) (by decide)) (.cons (kn_0 (hg:=hg) bnd_r8 (by decide) (by decide)) (.cons (kn_0 (hg:=hg) bnd_r9 (by decide) (by decide)) (.cons (kn_0 (hg:=hg) bnd_r10 (by decide) (by decide)) (.cons (kn_0 (hg:=hg) bnd_r11 (by decide) (by decide)) .nil)))))))))))))))))))))))))
abbrev tlA:Bk:={ ext:=[(165,[plit 40,plit 1,plit 4],[plit 10]),(155,[plit 40,plit 1,plit 4],[plit 10,plit 0,plit 0]),(165,[plit 0,plit 1,plit 4],[plit 0]),(155,[plit 0,plit 1,plit 4],[plit 0,plit 0,plit 0])],extV:=tlSm }
set_option maxRecDepth 1000000 in
theorem tl_awake_yes:saysYes (@acallF tlA Tryz.prog 100000 60 13 [] .leaf 0)=true:=by decide +kernel
theorem tl_awake (w:World):Calls Tryz.prog 13 #[] w fun e w'=>e=.returned (.bool true)∧Below w.heap.size w w':=by
 let _:Bk:=tlA
 let E:Ev:=evOf tlA [] rfl .nil .nil
 refine yes_by tlA E tl_awake_yes (.cons (ext_int fun w=>?_) (.cons (ext_tup (fun w=>?_) (by decide)) (.cons (ext_int fun w=>?_) (.cons (ext_tup (fun w=>?_) (by decide)) .nil)))) .nil (tlSm_ok _ _) [] rfl w .nil
 ·simp only[List.map_cons,List.map_nil,pev_plit]
  exact ppart_b w (by omega) (by omega) (by omega) (by omega) (by omega) (by omega) (by omega)
 ·simp only[List.map_cons,List.map_nil,pev_plit]
  exact pmuldiv_b w (by omega) (by omega) (by omega) (by omega) (by omega) (by omega) (by omega) (by omega) (by omega) (by omega)
 ·simp only[List.map_cons,List.map_nil,pev_plit]
  exact ppart_b w (by omega) (by omega) (by omega) (by omega) (by omega) (by omega) (by omega)
 ·simp only[List.map_cons,List.map_nil,pev_plit]
  exact pmuldiv_b w (by omega) (by omega) (by omega) (by omega) (by omega) (by omega) (by omega) (by omega) (by omega) (by omega)
end Go.Proofs.YtnalblnmplnhmaaGreat
