/-
  Layers come, quantities go: as the document says. The walk.
-/
import Derived.Test.YtgahhifedgmicaaFifoLaw2
import Derived.Test.YtgahhifedgmicaaFifo11
set_option linter.unusedVariables false
set_option linter.unusedSimpArgs false
namespace Go.Proofs.Ytgahhifedgmicaa
open Go.RowKit

theorem ref_Out_is {a : Option Addr} {cap : Nat} {l : List Lay} {w : World} (h : Row w 3 a l.length cap (flat l)) (hL : LR l) {q : Int} (hq : I64 q) {m : List Lay} {y : Lay} {e' : Int} (hO : outS l q = (m, y, e')) :
    Calls Try.prog 26 #[.slice a l.length cap, .int .i64 q] w fun e w' => (∃ a' cap', e = .returned (.tuple #[.slice a' m.length cap', y.val, .int .i64 e']) ∧ Row w' 3 a' m.length cap' (flat m)) ∧ Below w.heap.size w w' := by
  refine (ref_Out9 a cap l w h hL.right q hq).mono ?_
  rintro e w' ⟨v, rfl, hh, hb, -⟩
  rw [hO] at hh ⊢
  obtain ⟨a', cap', rfl, R⟩ := hh
  exact ⟨⟨a', cap', rfl, R⟩, hb⟩

theorem same_is {a b : Option Addr} {ca cb : Nat} {l : List Lay} {w : World} (h : Row w 3 a l.length ca (flat l)) (k : Row w 3 b l.length cb (flat l)) :
    Calls Try.prog 15 #[.slice a l.length ca, .slice b l.length cb] w fun e w' => e = .returned (.bool true) ∧ Below w.heap.size w w' := by
  refine (ref_Same a b ca cb l l w h k).mono ?_
  rintro e w' ⟨rfl, hb⟩
  exact ⟨by simp, hb⟩

theorem sameLayer_is (x : Lay) (w : World) :
    Calls Try.prog 16 #[x.val, x.val] w fun e w' => e = .returned (.bool true) ∧ Below w.heap.size w w' := by
  refine (ref_SameLayer' x x w).mono ?_
  rintro e w' ⟨rfl, hb⟩
  exact ⟨by simp, hb⟩

end Go.Proofs.Ytgahhifedgmicaa