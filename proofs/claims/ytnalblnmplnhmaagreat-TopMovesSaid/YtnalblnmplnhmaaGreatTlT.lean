/-
 The operations' bounds of a place to go to, at freight and duties: a map that is made in any order. The walk.
-/
import Derived.Test.YtnalblnmplnhmaaGreatM15
import Derived.Test.YtnalblnmplnhmaaGreatBase
import Derived.Test.YtnalblnmplnhmaaGreatProg
import Derived.Lib.Strings
import Derived.Lib.Slices
import Derived.Lib.Walk
import Derived.RegionTactic
import Derived.Deep.Cut
set_option linter.unusedVariables false
set_option linter.unusedSimpArgs false
namespace Go.Proofs.YtnalblnmplnhmaaGreat
open Go.RowKit Mc
theorem push_set {α:Type} (l:Array α) (a b:α):(l.push a).setIfInBounds l.size b=l.push b:=by
 apply Array.ext'
 simp[List.set_append]
theorem run_mu (W:World) (es:Array MapEntry) (c:Nat) (k v:Int) (h:Instr.findNow (.int .i64) (.int .i64 k) es.toList 0=some none):(Instr.mapUpdate 123 (.map (some W.heap.size)) (.int .i64 k) (.int .i64 v)).run Tryz.prog (W.alloc (.map es c))=.ok () (W.alloc (.map (es.push ⟨.int .i64 k,.int .i64 v,c⟩) (c+1))):=by
 have hu:Tryz.prog.underlying 123=some (.map 3 3):=by kernel_rfl
 have hk:Tryz.prog.underlying 3=some (.int .i64):=by kernel_rfl
 have hm:(W.alloc (.map es c)).heap[W.heap.size]?=some (.map es c):=World.alloc_heap_new W _
 simp only[Instr.mapUpdate,Sem.run_bind,run_underlying hu,Result.andThen,MapKept.run_getObj_map hm,MapKept.run_checkKey hk (k:=.int .i64 k) (by simp[MapKept.IsKey]),MapKept.run_findKey hk h,MapKept.run_setObj_map _ hm]
 have e:=push_set W.heap (.map es c) (.map (es.push ⟨.int .i64 k,.int .i64 v,c⟩) (c+1))
 show Result.ok () { W with heap:=(W.heap.push (.map es c)).setIfInBounds W.heap.size (.map (es.push ⟨.int .i64 k,.int .i64 v,c⟩) (c+1)) }=_
 rw[e];rfl
theorem run_lk (W:World) (es:Array MapEntry) (c:Nat) (k v:Int) (i:Nat) (h:Instr.findNow (.int .i64) (.int .i64 k) es.toList 0=some (some (i,.int .i64 v))):(Instr.lookup 123 (.map (some W.heap.size)) (.int .i64 k) false).run Tryz.prog (W.alloc (.map es c))=.ok (.int .i64 v) (W.alloc (.map es c)):=by
 have hu:Tryz.prog.underlying 123=some (.map 3 3):=by kernel_rfl
 have hk:Tryz.prog.underlying 3=some (.int .i64):=by kernel_rfl
 have hm:(W.alloc (.map es c)).heap[W.heap.size]?=some (.map es c):=World.alloc_heap_new W _
 simp[Instr.lookup,run_underlying hu,MapKept.run_getObj_map hm,MapKept.run_checkKey hk (k:=.int .i64 k) (by simp[MapKept.IsKey]),MapKept.run_findKey hk h]
end Go.Proofs.YtnalblnmplnhmaaGreat
