/-
  The ledger: the document's example. The walk.
-/
import Derived.Test.YtnkdbjmfpebcgaaGl3
set_option linter.unusedVariables false
set_option linter.unusedSimpArgs false
namespace Go.Proofs.Ytnkdbjmfpebcgaa
open Go.RowKit

theorem gl_Post_is {a : Option Addr} {cap : Nat} {bal : List Int} (hbal : bal.length = 17) {a2 : Option Addr} {lcap : Nat} {l : List Lin} {w : World} (hR : Row w 1 a 17 cap bal) (hL : Row w 2 a2 l.length lcap (flat2 l)) (h20 : l.length ≤ 1000000) {nx : List Int} {e' : Int} (hP : postS bal l = (nx, e')) :
    Calls Try.prog 20 #[.slice a 17 cap, .slice a2 l.length lcap] w fun e w' => (∃ a' cap', e = .returned (.tuple #[.slice a' 17 cap', .int .i64 e']) ∧ Row w' 1 a' 17 cap' nx) ∧ Below w.heap.size w w' := by
  refine (gl_Post a cap bal hbal a2 lcap l w hR hL h20).mono ?_
  rintro e w' ⟨v, rfl, hh, hb⟩
  have hI := postS_I l hR.all
  have hlen := postS_len bal l
  rw [hP] at hh hI hlen ⊢
  obtain ⟨a', cap', rfl, R⟩ := hh.row hI
  simp only at hlen R ⊢
  rw [hlen, hbal] at R ⊢
  exact ⟨⟨a', cap', rfl, R⟩, hb⟩

def zero17 : List Int := List.replicate 17 0
def zeroA : Array Value := (zero17.map (Value.int .i64)).toArray
theorem make17 (w : World) : (Instr.makeSlice 36 (.int .i64 17) (.int .i64 17)).run Try.prog w = .ok (.slice (some ⟨w.heap.size, 0, none⟩) 17 17) (w.alloc (.cells zeroA 3)) := by kernel_rfl
theorem Row.zero (w : World) : Row (w.alloc (.cells zeroA 3)) 1 (some ⟨w.heap.size, 0, none⟩) 17 17 zero17 := Row.new w 1 17 zero17 3 rfl (by decide) (AllI.of_B (by decide +kernel))
theorem Row.intAt {w : World} {a : Option Addr} {n cap : Nat} {zs : List Int} (h : Row w 1 a n cap zs) {j : Nat} (hj : j < n) : ∃ b off, a = some ⟨b, off, none⟩ ∧ b < w.heap.size ∧ w.cell? ⟨b, off + j, none⟩ = some (.int .i64 (zs.getD j 0)) := by
  rcases h.at_ with h0 | ⟨b, off, e, hb, hc⟩
  · omega
  · exact ⟨b, off, e, hb, hc j (by have := h.len; omega)⟩

set_option maxRecDepth 20000 in
set_option maxHeartbeats 2000000 in
theorem gl_awake (w : World) :
    Calls Try.prog 23 #[] w fun e w' => e = .returned (.bool true) ∧ Below w.heap.size w w' := by
  have P1 := Lib.hid (show postS zero17 [⟨0, 5⟩, ⟨1, -5⟩] = ([5, -5, 0, 0, 0, 0, 0, 0, 0, 0, 0, 0, 0, 0, 0, 0, 0], 0) by kernel_rfl)
  have P2 := Lib.hid (show postS [5, -5, 0, 0, 0, 0, 0, 0, 0, 0, 0, 0, 0, 0, 0, 0, 0] [⟨0, 5⟩] = ([5, -5, 0, 0, 0, 0, 0, 0, 0, 0, 0, 0, 0, 0, 0, 0, 0], 10) by kernel_rfl)
  have T1 := Lib.hid (show trialS [5, -5, 0, 0, 0, 0, 0, 0, 0, 0, 0, 0, 0, 0, 0, 0, 0] = (5, 5, 0) by kernel_rfl)
  have hmk := make17
  go_enter Try.func23, Try.ntmps23
  go_wp2_with fail
  have R0 := Row.zero w
  have hb0 : Below w.heap.size w (w.alloc (.cells zeroA 3)) := ballc (Below.refl _ _) _
  have hs0 : (w.alloc (.cells zeroA 3)).heap.size = w.heap.size + 1 := World.size_alloc _ _
  generalize w.alloc (.cells zeroA 3) = W0 at *
  have RL := Row.new W0 2 2 [0, 5, 1, -5] 25 rfl (by decide) (AllI.of_B (by decide +kernel))
  rw [hs0] at RL
  have hs0h := Lib.hid hs0
  clear hs0
  refine (gl_Post_is (bal := zero17) rfl (R0.below (ballc (Below.refl _ _) _)) (l := [⟨0, 5⟩, ⟨1, -5⟩]) RL (by decide) P1.out).mono ?_
  rintro e w1 ⟨⟨a1, c1, rfl, R1⟩, hw1⟩
  have hbel1 : Below w.heap.size w w1 := bthen (ballc hb0 _) hw1
  clear hw1 R0 RL hb0
  go_wp2_with fail
  refine (gl_Post_is (bal := [5, -5, 0, 0, 0, 0, 0, 0, 0, 0, 0, 0, 0, 0, 0, 0, 0]) rfl (R1.below (ballc (Below.refl _ _) _)) (l := [⟨0, 5⟩]) (Row.new _ 2 1 [0, 5] 25 rfl (by decide) (AllI.of_B (by decide +kernel))) (by decide) P2.out).mono ?_
  rintro e w2 ⟨⟨a2, c2, rfl, R2⟩, hw2⟩
  have R3 := R1.below (bthen (ballc (Below.refl _ _) _) hw2)
  have hbel2 : Below w.heap.size w w2 := bthen (ballc hbel1 _) hw2
  clear hw2 R1 R2 hbel1
  go_wp2_with fail
  refine (gl_Trial a1 17 c1 _ _ R3).mono ?_
  rw [T1.out]
  rintro e w' ⟨rfl, rfl⟩
  obtain ⟨b, off, rfl, hb, x0⟩ := R3.intAt (j := 0) (by decide)
  rw [Nat.add_zero] at x0
  have x0 : w2.cell? ⟨b, off, none⟩ = some (.int .i64 5) := x0
  clear R3
  go_wp2_with fail
  go_ret
  exact ⟨rfl, hbel2⟩
end Go.Proofs.Ytnkdbjmfpebcgaa
