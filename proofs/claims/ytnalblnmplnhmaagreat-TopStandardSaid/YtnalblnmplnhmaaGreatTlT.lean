/-
  The operations' bounds of a place to go to, at freight and duties: a map that is made in any order. The walk.
-/
import Derived.Test.YtnalblnmplnhmaaGreatM15
import Derived.Test.YtnalblnmplnhmaaGreatBase
import Derived.Test.YtnalblnmplnhmaaGreatProg
import Derived.Lib.Strings
import Derived.Lib.Slices
import Derived.Lib.Walk
import Derived.RegionTactic
import Derived.Deep.Cut
set_option linter.unusedVariables false
set_option linter.unusedSimpArgs false
namespace Go.Proofs.YtnalblnmplnhmaaGreat
open Go.RowKit Mc

theorem push_set {α : Type} (l : Array α) (a b : α) : (l.push a).setIfInBounds l.size b = l.push b := by
  apply Array.ext'
  simp [List.set_append]
theorem run_mu (W : World) (es : Array MapEntry) (c : Nat) (k v : Int) (h : Instr.findNow (.int .i64) (.int .i64 k) es.toList 0 = some none) : (Instr.mapUpdate 123 (.map (some W.heap.size)) (.int .i64 k) (.int .i64 v)).run Tryz.prog (W.alloc (.map es c)) = .ok () (W.alloc (.map (es.push ⟨.int .i64 k, .int .i64 v, c⟩) (c + 1))) := by
  have hu : Tryz.prog.underlying 123 = some (.map 3 3) := by kernel_rfl
  have hk : Tryz.prog.underlying 3 = some (.int .i64) := by kernel_rfl
  have hm : (W.alloc (.map es c)).heap[W.heap.size]? = some (.map es c) := World.alloc_heap_new W _
  simp only [Instr.mapUpdate, Sem.run_bind, run_underlying hu, Result.andThen, MapKept.run_getObj_map hm, MapKept.run_checkKey hk (k := .int .i64 k) (by simp [MapKept.IsKey]), MapKept.run_findKey hk h, MapKept.run_setObj_map _ hm]
  have e := push_set W.heap (.map es c) (.map (es.push ⟨.int .i64 k, .int .i64 v, c⟩) (c + 1))
  show Result.ok () { W with heap := (W.heap.push (.map es c)).setIfInBounds W.heap.size (.map (es.push ⟨.int .i64 k, .int .i64 v, c⟩) (c + 1)) } = _
  rw [e]; rfl
theorem run_lk (W : World) (es : Array MapEntry) (c : Nat) (k v : Int) (i : Nat) (h : Instr.findNow (.int .i64) (.int .i64 k) es.toList 0 = some (some (i, .int .i64 v))) : (Instr.lookup 123 (.map (some W.heap.size)) (.int .i64 k) false).run Tryz.prog (W.alloc (.map es c)) = .ok (.int .i64 v) (W.alloc (.map es c)) := by
  have hu : Tryz.prog.underlying 123 = some (.map 3 3) := by kernel_rfl
  have hk : Tryz.prog.underlying 3 = some (.int .i64) := by kernel_rfl
  have hm : (W.alloc (.map es c)).heap[W.heap.size]? = some (.map es c) := World.alloc_heap_new W _
  simp [Instr.lookup, run_underlying hu, MapKept.run_getObj_map hm, MapKept.run_checkKey hk (k := .int .i64 k) (by simp [MapKept.IsKey]), MapKept.run_findKey hk h]
set_option maxHeartbeats 4000000 in
set_option maxRecDepth 100000 in
theorem bounds_T11 (w : World) : Calls Tryz.prog 35 #[.int .i64 11, .int .i32 84] w fun e w' => e = .returned (.tuple #[.int .i64 0, .int .i64 2]) ∧ Below w.heap.size w w' := by
  have hmm := @run_makeMap Tryz.prog
  have mu0 : (Instr.mapUpdate 123 (.map (some w.heap.size)) (.int .i64 8) (.int .i64 1)).run Tryz.prog ((w.alloc (.map #[] 0)).drew) = .ok () ((w.alloc (.map #[⟨.int .i64 8, .int .i64 1, 0⟩] 1)).drew) := run_mu w.drew #[] 0 8 1 (by rfl)
  have mu1 : (Instr.mapUpdate 123 (.map (some w.heap.size)) (.int .i64 12) (.int .i64 3)).run Tryz.prog ((w.alloc (.map #[] 0)).drew) = .ok () ((w.alloc (.map #[⟨.int .i64 12, .int .i64 3, 0⟩] 1)).drew) := run_mu w.drew #[] 0 12 3 (by rfl)
  have mu2 : (Instr.mapUpdate 123 (.map (some w.heap.size)) (.int .i64 11) (.int .i64 2)).run Tryz.prog ((w.alloc (.map #[] 0)).drew) = .ok () ((w.alloc (.map #[⟨.int .i64 11, .int .i64 2, 0⟩] 1)).drew) := run_mu w.drew #[] 0 11 2 (by rfl)
  have mu3 : (Instr.mapUpdate 123 (.map (some w.heap.size)) (.int .i64 12) (.int .i64 3)).run Tryz.prog ((w.alloc (.map #[⟨.int .i64 8, .int .i64 1, 0⟩] 1)).drew) = .ok () ((w.alloc (.map #[⟨.int .i64 8, .int .i64 1, 0⟩, ⟨.int .i64 12, .int .i64 3, 1⟩] 2)).drew) := run_mu w.drew #[⟨.int .i64 8, .int .i64 1, 0⟩] 1 12 3 (by rfl)
  have mu4 : (Instr.mapUpdate 123 (.map (some w.heap.size)) (.int .i64 11) (.int .i64 2)).run Tryz.prog ((w.alloc (.map #[⟨.int .i64 8, .int .i64 1, 0⟩] 1)).drew) = .ok () ((w.alloc (.map #[⟨.int .i64 8, .int .i64 1, 0⟩, ⟨.int .i64 11, .int .i64 2, 1⟩] 2)).drew) := run_mu w.drew #[⟨.int .i64 8, .int .i64 1, 0⟩] 1 11 2 (by rfl)
  have mu5 : (Instr.mapUpdate 123 (.map (some w.heap.size)) (.int .i64 8) (.int .i64 1)).run Tryz.prog ((w.alloc (.map #[⟨.int .i64 12, .int .i64 3, 0⟩] 1)).drew) = .ok () ((w.alloc (.map #[⟨.int .i64 12, .int .i64 3, 0⟩, ⟨.int .i64 8, .int .i64 1, 1⟩] 2)).drew) := run_mu w.drew #[⟨.int .i64 12, .int .i64 3, 0⟩] 1 8 1 (by rfl)
  have mu6 : (Instr.mapUpdate 123 (.map (some w.heap.size)) (.int .i64 11) (.int .i64 2)).run Tryz.prog ((w.alloc (.map #[⟨.int .i64 12, .int .i64 3, 0⟩] 1)).drew) = .ok () ((w.alloc (.map #[⟨.int .i64 12, .int .i64 3, 0⟩, ⟨.int .i64 11, .int .i64 2, 1⟩] 2)).drew) := run_mu w.drew #[⟨.int .i64 12, .int .i64 3, 0⟩] 1 11 2 (by rfl)
  have mu7 : (Instr.mapUpdate 123 (.map (some w.heap.size)) (.int .i64 8) (.int .i64 1)).run Tryz.prog ((w.alloc (.map #[⟨.int .i64 11, .int .i64 2, 0⟩] 1)).drew) = .ok () ((w.alloc (.map #[⟨.int .i64 11, .int .i64 2, 0⟩, ⟨.int .i64 8, .int .i64 1, 1⟩] 2)).drew) := run_mu w.drew #[⟨.int .i64 11, .int .i64 2, 0⟩] 1 8 1 (by rfl)
  have mu8 : (Instr.mapUpdate 123 (.map (some w.heap.size)) (.int .i64 12) (.int .i64 3)).run Tryz.prog ((w.alloc (.map #[⟨.int .i64 11, .int .i64 2, 0⟩] 1)).drew) = .ok () ((w.alloc (.map #[⟨.int .i64 11, .int .i64 2, 0⟩, ⟨.int .i64 12, .int .i64 3, 1⟩] 2)).drew) := run_mu w.drew #[⟨.int .i64 11, .int .i64 2, 0⟩] 1 12 3 (by rfl)
  have mu9 : (Instr.mapUpdate 123 (.map (some w.heap.size)) (.int .i64 11) (.int .i64 2)).run Tryz.prog ((w.alloc (.map #[⟨.int .i64 8, .int .i64 1, 0⟩, ⟨.int .i64 12, .int .i64 3, 1⟩] 2)).drew) = .ok () ((w.alloc (.map #[⟨.int .i64 8, .int .i64 1, 0⟩, ⟨.int .i64 12, .int .i64 3, 1⟩, ⟨.int .i64 11, .int .i64 2, 2⟩] 3)).drew) := run_mu w.drew #[⟨.int .i64 8, .int .i64 1, 0⟩, ⟨.int .i64 12, .int .i64 3, 1⟩] 2 11 2 (by rfl)
  have mu10 : (Instr.mapUpdate 123 (.map (some w.heap.size)) (.int .i64 12) (.int .i64 3)).run Tryz.prog ((w.alloc (.map #[⟨.int .i64 8, .int .i64 1, 0⟩, ⟨.int .i64 11, .int .i64 2, 1⟩] 2)).drew) = .ok () ((w.alloc (.map #[⟨.int .i64 8, .int .i64 1, 0⟩, ⟨.int .i64 11, .int .i64 2, 1⟩, ⟨.int .i64 12, .int .i64 3, 2⟩] 3)).drew) := run_mu w.drew #[⟨.int .i64 8, .int .i64 1, 0⟩, ⟨.int .i64 11, .int .i64 2, 1⟩] 2 12 3 (by rfl)
  have mu11 : (Instr.mapUpdate 123 (.map (some w.heap.size)) (.int .i64 11) (.int .i64 2)).run Tryz.prog ((w.alloc (.map #[⟨.int .i64 12, .int .i64 3, 0⟩, ⟨.int .i64 8, .int .i64 1, 1⟩] 2)).drew) = .ok () ((w.alloc (.map #[⟨.int .i64 12, .int .i64 3, 0⟩, ⟨.int .i64 8, .int .i64 1, 1⟩, ⟨.int .i64 11, .int .i64 2, 2⟩] 3)).drew) := run_mu w.drew #[⟨.int .i64 12, .int .i64 3, 0⟩, ⟨.int .i64 8, .int .i64 1, 1⟩] 2 11 2 (by rfl)
  have mu12 : (Instr.mapUpdate 123 (.map (some w.heap.size)) (.int .i64 8) (.int .i64 1)).run Tryz.prog ((w.alloc (.map #[⟨.int .i64 12, .int .i64 3, 0⟩, ⟨.int .i64 11, .int .i64 2, 1⟩] 2)).drew) = .ok () ((w.alloc (.map #[⟨.int .i64 12, .int .i64 3, 0⟩, ⟨.int .i64 11, .int .i64 2, 1⟩, ⟨.int .i64 8, .int .i64 1, 2⟩] 3)).drew) := run_mu w.drew #[⟨.int .i64 12, .int .i64 3, 0⟩, ⟨.int .i64 11, .int .i64 2, 1⟩] 2 8 1 (by rfl)
  have mu13 : (Instr.mapUpdate 123 (.map (some w.heap.size)) (.int .i64 12) (.int .i64 3)).run Tryz.prog ((w.alloc (.map #[⟨.int .i64 11, .int .i64 2, 0⟩, ⟨.int .i64 8, .int .i64 1, 1⟩] 2)).drew) = .ok () ((w.alloc (.map #[⟨.int .i64 11, .int .i64 2, 0⟩, ⟨.int .i64 8, .int .i64 1, 1⟩, ⟨.int .i64 12, .int .i64 3, 2⟩] 3)).drew) := run_mu w.drew #[⟨.int .i64 11, .int .i64 2, 0⟩, ⟨.int .i64 8, .int .i64 1, 1⟩] 2 12 3 (by rfl)
  have mu14 : (Instr.mapUpdate 123 (.map (some w.heap.size)) (.int .i64 8) (.int .i64 1)).run Tryz.prog ((w.alloc (.map #[⟨.int .i64 11, .int .i64 2, 0⟩, ⟨.int .i64 12, .int .i64 3, 1⟩] 2)).drew) = .ok () ((w.alloc (.map #[⟨.int .i64 11, .int .i64 2, 0⟩, ⟨.int .i64 12, .int .i64 3, 1⟩, ⟨.int .i64 8, .int .i64 1, 2⟩] 3)).drew) := run_mu w.drew #[⟨.int .i64 11, .int .i64 2, 0⟩, ⟨.int .i64 12, .int .i64 3, 1⟩] 2 8 1 (by rfl)
  have lk15 : (Instr.lookup 123 (.map (some w.heap.size)) (.int .i64 11) false).run Tryz.prog ((w.alloc (.map #[⟨.int .i64 8, .int .i64 1, 0⟩, ⟨.int .i64 12, .int .i64 3, 1⟩, ⟨.int .i64 11, .int .i64 2, 2⟩] 3)).drew) = .ok (.int .i64 2) ((w.alloc (.map #[⟨.int .i64 8, .int .i64 1, 0⟩, ⟨.int .i64 12, .int .i64 3, 1⟩, ⟨.int .i64 11, .int .i64 2, 2⟩] 3)).drew) := run_lk w.drew #[⟨.int .i64 8, .int .i64 1, 0⟩, ⟨.int .i64 12, .int .i64 3, 1⟩, ⟨.int .i64 11, .int .i64 2, 2⟩] 3 11 2 2 (by rfl)
  have lk16 : (Instr.lookup 123 (.map (some w.heap.size)) (.int .i64 11) false).run Tryz.prog ((w.alloc (.map #[⟨.int .i64 8, .int .i64 1, 0⟩, ⟨.int .i64 11, .int .i64 2, 1⟩, ⟨.int .i64 12, .int .i64 3, 2⟩] 3)).drew) = .ok (.int .i64 2) ((w.alloc (.map #[⟨.int .i64 8, .int .i64 1, 0⟩, ⟨.int .i64 11, .int .i64 2, 1⟩, ⟨.int .i64 12, .int .i64 3, 2⟩] 3)).drew) := run_lk w.drew #[⟨.int .i64 8, .int .i64 1, 0⟩, ⟨.int .i64 11, .int .i64 2, 1⟩, ⟨.int .i64 12, .int .i64 3, 2⟩] 3 11 2 1 (by rfl)
  have lk17 : (Instr.lookup 123 (.map (some w.heap.size)) (.int .i64 11) false).run Tryz.prog ((w.alloc (.map #[⟨.int .i64 12, .int .i64 3, 0⟩, ⟨.int .i64 8, .int .i64 1, 1⟩, ⟨.int .i64 11, .int .i64 2, 2⟩] 3)).drew) = .ok (.int .i64 2) ((w.alloc (.map #[⟨.int .i64 12, .int .i64 3, 0⟩, ⟨.int .i64 8, .int .i64 1, 1⟩, ⟨.int .i64 11, .int .i64 2, 2⟩] 3)).drew) := run_lk w.drew #[⟨.int .i64 12, .int .i64 3, 0⟩, ⟨.int .i64 8, .int .i64 1, 1⟩, ⟨.int .i64 11, .int .i64 2, 2⟩] 3 11 2 2 (by rfl)
  have lk18 : (Instr.lookup 123 (.map (some w.heap.size)) (.int .i64 11) false).run Tryz.prog ((w.alloc (.map #[⟨.int .i64 12, .int .i64 3, 0⟩, ⟨.int .i64 11, .int .i64 2, 1⟩, ⟨.int .i64 8, .int .i64 1, 2⟩] 3)).drew) = .ok (.int .i64 2) ((w.alloc (.map #[⟨.int .i64 12, .int .i64 3, 0⟩, ⟨.int .i64 11, .int .i64 2, 1⟩, ⟨.int .i64 8, .int .i64 1, 2⟩] 3)).drew) := run_lk w.drew #[⟨.int .i64 12, .int .i64 3, 0⟩, ⟨.int .i64 11, .int .i64 2, 1⟩, ⟨.int .i64 8, .int .i64 1, 2⟩] 3 11 2 1 (by rfl)
  have lk19 : (Instr.lookup 123 (.map (some w.heap.size)) (.int .i64 11) false).run Tryz.prog ((w.alloc (.map #[⟨.int .i64 11, .int .i64 2, 0⟩, ⟨.int .i64 8, .int .i64 1, 1⟩, ⟨.int .i64 12, .int .i64 3, 2⟩] 3)).drew) = .ok (.int .i64 2) ((w.alloc (.map #[⟨.int .i64 11, .int .i64 2, 0⟩, ⟨.int .i64 8, .int .i64 1, 1⟩, ⟨.int .i64 12, .int .i64 3, 2⟩] 3)).drew) := run_lk w.drew #[⟨.int .i64 11, .int .i64 2, 0⟩, ⟨.int .i64 8, .int .i64 1, 1⟩, ⟨.int .i64 12, .int .i64 3, 2⟩] 3 11 2 0 (by rfl)
  have lk20 : (Instr.lookup 123 (.map (some w.heap.size)) (.int .i64 11) false).run Tryz.prog ((w.alloc (.map #[⟨.int .i64 11, .int .i64 2, 0⟩, ⟨.int .i64 12, .int .i64 3, 1⟩, ⟨.int .i64 8, .int .i64 1, 2⟩] 3)).drew) = .ok (.int .i64 2) ((w.alloc (.map #[⟨.int .i64 11, .int .i64 2, 0⟩, ⟨.int .i64 12, .int .i64 3, 1⟩, ⟨.int .i64 8, .int .i64 1, 2⟩] 3)).drew) := run_lk w.drew #[⟨.int .i64 11, .int .i64 2, 0⟩, ⟨.int .i64 12, .int .i64 3, 1⟩, ⟨.int .i64 8, .int .i64 1, 2⟩] 3 11 2 0 (by rfl)
  go_enter Tryz.func35, Tryz.ntmps35
  go_upto_region 9 with fail
  go_region
  all_goals (go_wp2; go_ret2; refine ⟨by rfl, ?_⟩; exact (((Below.refl _ _).alloc (Nat.le_refl _) _).drew))
end Go.Proofs.YtnalblnmplnhmaaGreat
