/-
  The document's example of the fifo chapter; one layer, piece by piece: the walks.
-/
import Derived.Test.YtgahhifedgmicaaFifoOut
import Derived.Test.YtgahhifedgmicaaFifoP1
import Derived.Deep.QuietTactic
import Derived.BigQuiet
import Derived.IntWalk
set_option linter.unusedVariables false
set_option linter.unusedSimpArgs false
namespace Go.Proofs.Ytgahhifedgmicaa
open Go.RowKit

/-- The same, the result told. -/
theorem fifo_Out_is {a : Option Addr} {cap : Nat} {l : List Lay} {w : World} (h : Row w 3 a l.length cap (flat l)) (hL : LR l) {q : Int} (hq : I64 q) {m : List Lay} {y : Lay} {e' : Int} (hO : outS l q = (m, y, e')) :
    Calls Try.prog 32 #[.slice a l.length cap, .int .i64 q] w fun e w' => (∃ a' cap', e = .returned (.tuple #[.slice a' m.length cap', y.val, .int .i64 e']) ∧ Row w' 3 a' m.length cap' (flat m)) ∧ Below w.heap.size w w' := by
  refine (fifo_Out a cap l w h hL q hq).mono ?_
  rintro e w' ⟨v, rfl, hh, hb⟩
  rw [hO] at hh ⊢
  have hm : LR m := by have := outS_LR (q := q) hL; rw [hO] at this; exact this
  obtain ⟨a', cap', rfl, R⟩ := hh.row (flat_ok hm.ok)
  exact ⟨⟨a', cap', rfl, R⟩, hb⟩

theorem place_bd {v n : Int} (hn : 0 < n) : 0 ≤ v % n ∧ v % n < n := ⟨Int.emod_nonneg _ (by omega), Int.emod_lt_of_pos _ hn⟩

end Go.Proofs.Ytgahhifedgmicaa