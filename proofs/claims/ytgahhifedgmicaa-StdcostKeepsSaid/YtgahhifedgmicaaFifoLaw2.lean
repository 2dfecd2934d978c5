/-
  As many layers as may be, and one more: the walk.
-/
import Derived.Test.YtgahhifedgmicaaFifoLaw1
set_option linter.unusedVariables false
set_option linter.unusedSimpArgs false
namespace Go.Proofs.Ytgahhifedgmicaa
open Go.RowKit

/-- The same, the result told. -/
theorem fifo_In_is {a : Option Addr} {cap : Nat} {l : List Lay} {x : Lay} {w : World} (h : Row w 3 a l.length cap (flat l)) (hn : l.length ≤ 900) (hx : AllI [x.q, x.v, x.p]) {m : List Lay} {e' : Int} (hI : inS l x = (m, e')) :
    Calls Try.prog 31 #[.slice a l.length cap, x.val] w fun e w' => (∃ a' cap', e = .returned (.tuple #[.slice a' m.length cap', .int .i64 e']) ∧ Row w' 3 a' m.length cap' (flat m)) ∧ Below w.heap.size w w' := by
  refine (fifo_In a cap l x w h hn hx).mono ?_
  rintro e w' ⟨v, rfl, hh, hb⟩
  have hm : AllI (flat m) := by
    have e1 : (inS l x).1 = m := by rw [hI]
    rw [← e1]
    unfold inS
    split
    · exact h.all
    · split
      · exact h.all
      · split
        · exact AllI.snoc h.all hx
        · exact h.all
  rw [hI] at hh ⊢
  obtain ⟨a', cap', rfl, R⟩ := hh.row hm
  exact ⟨⟨a', cap', rfl, R⟩, hb⟩

def boundL (i : Nat) : List Lay := (List.range (min i 30)).map fun (j : Nat) => ⟨1, (j : Int), 0⟩
theorem bound_len (i : Nat) : (boundL i).length = min i 30 := by simp [boundL]
theorem bound_in : ∀ j, j < 33 → inS (boundL j) ⟨1, j, 0⟩ = (boundL (j + 1), if j < 30 then 0 else 6) := by decide +kernel
theorem bound_right : ∀ j, j < 33 → rightL (boundL j) = true := by decide +kernel

end Go.Proofs.Ytgahhifedgmicaa