/-
 ops.bounds at 'T' of moves and shipments, and at their other letters. (Printed by wip/mk_bndt.py.)
-/
import Derived.Test.YtnalblnmplnhmaaGreatTlSh
import Derived.RegionTactic
import Derived.Deep.Cut
set_option linter.unusedVariables false
set_option linter.unusedSimpArgs false
namespace Go.Proofs.YtnalblnmplnhmaaGreat
open Go.RowKit Mc
set_option maxHeartbeats 4000000 in
set_option maxRecDepth 100000 in
theorem bounds_T8 (w:World):Calls Tryz.prog 35 #[.int .i64 8,.int .i32 84] w fun e w'=>e=.returned (.tuple #[.int .i64 0,.int .i64 1])∧Below w.heap.size w w':=by
 have hmm:=@run_makeMap Tryz.prog
 have mu0:(Instr.mapUpdate 123 (.map (some w.heap.size)) (.int .i64 8) (.int .i64 1)).run Tryz.prog ((w.alloc (.map #[] 0)).drew)=.ok () ((w.alloc (.map #[⟨.int .i64 8,.int .i64 1,0⟩] 1)).drew):=run_mu w.drew #[] 0 8 1 (by rfl)
 have mu1:(Instr.mapUpdate 123 (.map (some w.heap.size)) (.int .i64 12) (.int .i64 3)).run Tryz.prog ((w.alloc (.map #[] 0)).drew)=.ok () ((w.alloc (.map #[⟨.int .i64 12,.int .i64 3,0⟩] 1)).drew):=run_mu w.drew #[] 0 12 3 (by rfl)
 have mu2:(Instr.mapUpdate 123 (.map (some w.heap.size)) (.int .i64 11) (.int .i64 2)).run Tryz.prog ((w.alloc (.map #[] 0)).drew)=.ok () ((w.alloc (.map #[⟨.int .i64 11,.int .i64 2,0⟩] 1)).drew):=run_mu w.drew #[] 0 11 2 (by rfl)
 have mu3:(Instr.mapUpdate 123 (.map (some w.heap.size)) (.int .i64 12) (.int .i64 3)).run Tryz.prog ((w.alloc (.map #[⟨.int .i64 8,.int .i64 1,0⟩] 1)).drew)=.ok () ((w.alloc (.map #[⟨.int .i64 8,.int .i64 1,0⟩,⟨.int .i64 12,.int .i64 3,1⟩] 2)).drew):=run_mu w.drew #[⟨.int .i64 8,.int .i64 1,0⟩] 1 12 3 (by rfl)
 have mu4:(Instr.mapUpdate 123 (.map (some w.heap.size)) (.int .i64 11) (.int .i64 2)).run Tryz.prog ((w.alloc (.map #[⟨.int .i64 8,.int .i64 1,0⟩] 1)).drew)=.ok () ((w.alloc (.map #[⟨.int .i64 8,.int .i64 1,0⟩,⟨.int .i64 11,.int .i64 2,1⟩] 2)).drew):=run_mu w.drew #[⟨.int .i64 8,.int .i64 1,0⟩] 1 11 2 (by rfl)
 have mu5:(Instr.mapUpdate 123 (.map (some w.heap.size)) (.int .i64 8) (.int .i64 1)).run Tryz.prog ((w.alloc (.map #[⟨.int .i64 12,.int .i64 3,0⟩] 1)).drew)=.ok () ((w.alloc (.map #[⟨.int .i64 12,.int .i64 3,0⟩,⟨.int .i64 8,.int .i64 1,1⟩] 2)).drew):=run_mu w.drew #[⟨.int .i64 12,.int .i64 3,0⟩] 1 8 1 (by rfl)
 have mu6:(Instr.mapUpdate 123 (.map (some w.heap.size)) (.int .i64 11) (.int .i64 2)).run Tryz.prog ((w.alloc (.map #[⟨.int .i64 12,.int .i64 3,0⟩] 1)).drew)=.ok () ((w.alloc (.map #[⟨.int .i64 12,.int .i64 3,0⟩,⟨.int .i64 11,.int .i64 2,1⟩] 2)).drew):=run_mu w.drew #[⟨.int .i64 12,.int .i64 3,0⟩] 1 11 2 (by rfl)
 have mu7:(Instr.mapUpdate 123 (.map (some w.heap.size)) (.int .i64 8) (.int .i64 1)).run Tryz.prog ((w.alloc (.map #[⟨.int .i64 11,.int .i64 2,0⟩] 1)).drew)=.ok () ((w.alloc (.map #[⟨.int .i64 11,.int .i64 2,0⟩,⟨.int .i64 8,.int .i64 1,1⟩] 2)).drew):=run_mu w.drew #[⟨.int .i64 11,.int .i64 2,0⟩] 1 8 1 (by rfl)
 have mu8:(Instr.mapUpdate 123 (.map (some w.heap.size)) (.int .i64 12) (.int .i64 3)).run Tryz.prog ((w.alloc (.map #[⟨.int .i64 11,.int .i64 2,0⟩] 1)).drew)=.ok () ((w.alloc (.map #[⟨.int .i64 11,.int .i64 2,0⟩,⟨.int .i64 12,.int .i64 3,1⟩] 2)).drew):=run_mu w.drew #[⟨.int .i64 11,.int .i64 2,0⟩] 1 12 3 (by rfl)
 have mu9:(Instr.mapUpdate 123 (.map (some w.heap.size)) (.int .i64 11) (.int .i64 2)).run Tryz.prog ((w.alloc (.map #[⟨.int .i64 8,.int .i64 1,0⟩,⟨.int .i64 12,.int .i64 3,1⟩] 2)).drew)=.ok () ((w.alloc (.map #[⟨.int .i64 8,.int .i64 1,0⟩,⟨.int .i64 12,.int .i64 3,1⟩,⟨.int .i64 11,.int .i64 2,2⟩] 3)).drew):=run_mu w.drew #[⟨.int .i64 8,.int .i64 1,0⟩,⟨.int .i64 12,.int .i64 3,1⟩] 2 11 2 (by rfl)
 have mu10:(Instr.mapUpdate 123 (.map (some w.heap.size)) (.int .i64 12) (.int .i64 3)).run Tryz.prog ((w.alloc (.map #[⟨.int .i64 8,.int .i64 1,0⟩,⟨.int .i64 11,.int .i64 2,1⟩] 2)).drew)=.ok () ((w.alloc (.map #[⟨.int .i64 8,.int .i64 1,0⟩,⟨.int .i64 11,.int .i64 2,1⟩,⟨.int .i64 12,.int .i64 3,2⟩] 3)).drew):=run_mu w.drew #[⟨.int .i64 8,.int .i64 1,0⟩,⟨.int .i64 11,.int .i64 2,1⟩] 2 12 3 (by rfl)
 have mu11:(Instr.mapUpdate 123 (.map (some w.heap.size)) (.int .i64 11) (.int .i64 2)).run Tryz.prog ((w.alloc (.map #[⟨.int .i64 12,.int .i64 3,0⟩,⟨.int .i64 8,.int .i64 1,1⟩] 2)).drew)=.ok () ((w.alloc (.map #[⟨.int .i64 12,.int .i64 3,0⟩,⟨.int .i64 8,.int .i64 1,1⟩,⟨.int .i64 11,.int .i64 2,2⟩] 3)).drew):=run_mu w.drew #[⟨.int .i64 12,.int .i64 3,0⟩,⟨.int .i64 8,.int .i64 1,1⟩] 2 11 2 (by rfl)
 have mu12:(Instr.mapUpdate 123 (.map (some w.heap.size)) (.int .i64 8) (.int .i64 1)).run Tryz.prog ((w.alloc (.map #[⟨.int .i64 12,.int .i64 3,0⟩,⟨.int .i64 11,.int .i64 2,1⟩] 2)).drew)=.ok () ((w.alloc (.map #[⟨.int .i64 12,.int .i64 3,0⟩,⟨.int .i64 11,.int .i64 2,1⟩,⟨.int .i64 8,.int .i64 1,2⟩] 3)).drew):=run_mu w.drew #[⟨.int .i64 12,.int .i64 3,0⟩,⟨.int .i64 11,.int .i64 2,1⟩] 2 8 1 (by rfl)
 have mu13:(Instr.mapUpdate 123 (.map (some w.heap.size)) (.int .i64 12) (.int .i64 3)).run Tryz.prog ((w.alloc (.map #[⟨.int .i64 11,.int .i64 2,0⟩,⟨.int .i64 8,.int .i64 1,1⟩] 2)).drew)=.ok () ((w.alloc (.map #[⟨.int .i64 11,.int .i64 2,0⟩,⟨.int .i64 8,.int .i64 1,1⟩,⟨.int .i64 12,.int .i64 3,2⟩] 3)).drew):=run_mu w.drew #[⟨.int .i64 11,.int .i64 2,0⟩,⟨.int .i64 8,.int .i64 1,1⟩] 2 12 3 (by rfl)
 have mu14:(Instr.mapUpdate 123 (.map (some w.heap.size)) (.int .i64 8) (.int .i64 1)).run Tryz.prog ((w.alloc (.map #[⟨.int .i64 11,.int .i64 2,0⟩,⟨.int .i64 12,.int .i64 3,1⟩] 2)).drew)=.ok () ((w.alloc (.map #[⟨.int .i64 11,.int .i64 2,0⟩,⟨.int .i64 12,.int .i64 3,1⟩,⟨.int .i64 8,.int .i64 1,2⟩] 3)).drew):=run_mu w.drew #[⟨.int .i64 11,.int .i64 2,0⟩,⟨.int .i64 12,.int .i64 3,1⟩] 2 8 1 (by rfl)
 have lk15:(Instr.lookup 123 (.map (some w.heap.size)) (.int .i64 8) false).run Tryz.prog ((w.alloc (.map #[⟨.int .i64 8,.int .i64 1,0⟩,⟨.int .i64 12,.int .i64 3,1⟩,⟨.int .i64 11,.int .i64 2,2⟩] 3)).drew)=.ok (.int .i64 1) ((w.alloc (.map #[⟨.int .i64 8,.int .i64 1,0⟩,⟨.int .i64 12,.int .i64 3,1⟩,⟨.int .i64 11,.int .i64 2,2⟩] 3)).drew):=run_lk w.drew #[⟨.int .i64 8,.int .i64 1,0⟩,⟨.int .i64 12,.int .i64 3,1⟩,⟨.int .i64 11,.int .i64 2,2⟩] 3 8 1 0 (by rfl)
 have lk16:(Instr.lookup 123 (.map (some w.heap.size)) (.int .i64 8) false).run Tryz.prog ((w.alloc (.map #[⟨.int .i64 8,.int .i64 1,0⟩,⟨.int .i64 11,.int .i64 2,1⟩,⟨.int .i64 12,.int .i64 3,2⟩] 3)).drew)=.ok (.int .i64 1) ((w.alloc (.map #[⟨.int .i64 8,.int .i64 1,0⟩,⟨.int .i64 11,.int .i64 2,1⟩,⟨.int .i64 12,.int .i64 3,2⟩] 3)).drew):=run_lk w.drew #[⟨.int .i64 8,.int .i64 1,0⟩,⟨.int .i64 11,.int .i64 2,1⟩,⟨.int .i64 12,.int .i64 3,2⟩] 3 8 1 0 (by rfl)
 have lk17:(Instr.lookup 123 (.map (some w.heap.size)) (.int .i64 8) false).run Tryz.prog ((w.alloc (.map #[⟨.int .i64 12,.int .i64 3,0⟩,⟨.int .i64 8,.int .i64 1,1⟩,⟨.int .i64 11,.int .i64 2,2⟩] 3)).drew)=.ok (.int .i64 1) ((w.alloc (.map #[⟨.int .i64 12,.int .i64 3,0⟩,⟨.int .i64 8,.int .i64 1,1⟩,⟨.int .i64 11,.int .i64 2,2⟩] 3)).drew):=run_lk w.drew #[⟨.int .i64 12,.int .i64 3,0⟩,⟨.int .i64 8,.int .i64 1,1⟩,⟨.int .i64 11,.int .i64 2,2⟩] 3 8 1 1 (by rfl)
 have lk18:(Instr.lookup 123 (.map (some w.heap.size)) (.int .i64 8) false).run Tryz.prog ((w.alloc (.map #[⟨.int .i64 12,.int .i64 3,0⟩,⟨.int .i64 11,.int .i64 2,1⟩,⟨.int .i64 8,.int .i64 1,2⟩] 3)).drew)=.ok (.int .i64 1) ((w.alloc (.map #[⟨.int .i64 12,.int .i64 3,0⟩,⟨.int .i64 11,.int .i64 2,1⟩,⟨.int .i64 8,.int .i64 1,2⟩] 3)).drew):=run_lk w.drew #[⟨.int .i64 12,.int .i64 3,0⟩,⟨.int .i64 11,.int .i64 2,1⟩,⟨.int .i64 8,.int .i64 1,2⟩] 3 8 1 2 (by rfl)
 have lk19:(Instr.lookup 123 (.map (some w.heap.size)) (.int .i64 8) false).run Tryz.prog ((w.alloc (.map #[⟨.int .i64 11,.int .i64 2,0⟩,⟨.int .i64 8,.int .i64 1,1⟩,⟨.int .i64 12,.int .i64 3,2⟩] 3)).drew)=.ok (.int .i64 1) ((w.alloc (.map #[⟨.int .i64 11,.int .i64 2,0⟩,⟨.int .i64 8,.int .i64 1,1⟩,⟨.int .i64 12,.int .i64 3,2⟩] 3)).drew):=run_lk w.drew #[⟨.int .i64 11,.int .i64 2,0⟩,⟨.int .i64 8,.int .i64 1,1⟩,⟨.int .i64 12,.int .i64 3,2⟩] 3 8 1 1 (by rfl)
 have lk20:(Instr.lookup 123 (.map (some w.heap.size)) (.int .i64 8) false).run Tryz.prog ((w.alloc (.map #[⟨.int .i64 11,.int .i64 2,0⟩,⟨.int .i64 12,.int .i64 3,1⟩,⟨.int .i64 8,.int .i64 1,2⟩] 3)).drew)=.ok (.int .i64 1) ((w.alloc (.map #[⟨.int .i64 11,.int .i64 2,0⟩,⟨.int .i64 12,.int .i64 3,1⟩,⟨.int .i64 8,.int .i64 1,2⟩] 3)).drew):=run_lk w.drew #[⟨.int .i64 11,.int .i64 2,0⟩,⟨.int .i64 12,.int .i64 3,1⟩,⟨.int .i64 8,.int .i64 1,2⟩] 3 8 1 2 (by rfl)
 go_enter Tryz.func35,Tryz.ntmps35
 go_upto_region 9 with fail
 go_region
 all_goals (go_wp2;go_ret2;refine⟨by rfl,?_⟩;exact(((Below.refl _ _).alloc (Nat.le_refl _) _).drew))
set_option maxRecDepth 100000 in
theorem bnd8_E:@runsTo bk0 Tryz.prog 100000 60 35 [.c (.int .i64 8),.c (.int .i32 69)] (.tup [.c (.int .i64 0),.c (.int .i64 3)])=true:=by decide +kernel
set_option maxRecDepth 100000 in
theorem bnd8_I:@runsTo bk0 Tryz.prog 100000 60 35 [.c (.int .i64 8),.c (.int .i32 73)] (.tup [.c (.int .i64 0),.c (.int .i64 4)])=true:=by decide +kernel
set_option maxRecDepth 100000 in
theorem bnd8_L:@runsTo bk0 Tryz.prog 100000 60 35 [.c (.int .i64 8),.c (.int .i32 76)] (.tup [.c (.int .i64 0),.c (.int .i64 1)])=true:=by decide +kernel
set_option maxRecDepth 100000 in
theorem bnd8_Q:@runsTo bk0 Tryz.prog 100000 60 35 [.c (.int .i64 8),.c (.int .i32 81)] (.tup [.c (.int .i64 1),.c (.int .i64 1073741824)])=true:=by decide +kernel
end Go.Proofs.YtnalblnmplnhmaaGreat
