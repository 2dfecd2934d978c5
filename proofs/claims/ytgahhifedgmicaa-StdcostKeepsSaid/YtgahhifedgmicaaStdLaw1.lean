/-
  Standard cost: the document's example; costs that may not be. The walks.
-/
import Derived.Test.YtgahhifedgmicaaStdP
set_option linter.unusedVariables false
set_option linter.unusedSimpArgs false
namespace Go.Proofs.Ytgahhifedgmicaa
open Go.RowKit

theorem std_In_is {a : Option Addr} {cap : Nat} {l : List Lay} {x : Lay} {c : Int} {w : World} (h : Row w 3 a l.length cap (flat l)) (hn : l.length < 30) (hx : AllI [x.q, x.v, x.p]) (hc : I64 c) {m : List Lay} {d e' : Int} (hI : inC l x c = (m, d, e')) (hm : LR m) :
    Calls Try.prog 19 #[.slice a l.length cap, x.val, .int .i64 c] w fun e w' => (∃ a' cap', e = .returned (.tuple #[.slice a' m.length cap', .int .i64 d, .int .i64 e']) ∧ Row w' 3 a' m.length cap' (flat m)) ∧ Below w.heap.size w w' := by
  refine (std_In a cap l x c w h hn hx hc).mono ?_
  rintro e w' ⟨v, rfl, hh, hb⟩
  rw [hI] at hh ⊢
  obtain ⟨a', cap', rfl, R⟩ := hh.row (flat_ok hm.ok)
  exact ⟨⟨a', cap', rfl, R⟩, hb⟩
theorem std_Out_is {a : Option Addr} {cap : Nat} {l : List Lay} {w : World} (h : Row w 3 a l.length cap (flat l)) (hL : LR l) {q c : Int} (hq : I64 q) (hc : I64 c) {m : List Lay} {y : Lay} {e' : Int} (hO : outC l q c = (m, y, e')) (hm : LR m) :
    Calls Try.prog 20 #[.slice a l.length cap, .int .i64 q, .int .i64 c] w fun e w' => (∃ a' cap', e = .returned (.tuple #[.slice a' m.length cap', y.val, .int .i64 e']) ∧ Row w' 3 a' m.length cap' (flat m)) ∧ Below w.heap.size w w' := by
  refine (std_Out a cap l q c w h hL hq hc).mono ?_
  rintro e w' ⟨v, rfl, hh, hb⟩
  rw [hO] at hh ⊢
  obtain ⟨a', cap', rfl, R⟩ := hh.row (flat_ok hm.ok)
  exact ⟨⟨a', cap', rfl, R⟩, hb⟩
theorem std_Revalue_is {a : Option Addr} {cap : Nat} {l : List Lay} {c : Int} {w : World} (h : Row w 3 a l.length cap (flat l)) (hL : LR l) (hc : I64 c) {m : List Lay} {d e' : Int} (hI : revC l c = (m, d, e')) (hm : LR m) :
    Calls Try.prog 21 #[.slice a l.length cap, .int .i64 c] w fun e w' => (∃ a' cap', e = .returned (.tuple #[.slice a' m.length cap', .int .i64 d, .int .i64 e']) ∧ Row w' 3 a' m.length cap' (flat m)) ∧ Below w.heap.size w w' := by
  refine (std_Revalue a cap l c w h (by have := hL.len; omega) hL.ok hc).mono ?_
  rintro e w' ⟨v, rfl, hh, hb⟩
  rw [hI] at hh ⊢
  obtain ⟨a', cap', rfl, R⟩ := hh.row (flat_ok hm.ok)
  exact ⟨⟨a', cap', rfl, R⟩, hb⟩

set_option maxHeartbeats 1000000 in
theorem std_awake (w : World) :
    Calls Try.prog 22 #[] w fun e w' => e = .returned (.bool true) ∧ Below w.heap.size w w' := by
  have L1 := Lib.hid (LR.of (l := [⟨2, 8, 0⟩]) (by decide +kernel))
  have L2 := Lib.hid (LR.of (l := [⟨1, 4, 0⟩]) (by decide +kernel))
  have L3 := Lib.hid (LR.of (l := [⟨1, 7, 0⟩]) (by decide +kernel))
  have I1 := Lib.hid (show inC [] ⟨2, 10, 0⟩ 4 = ([⟨2, 8, 0⟩], 2, 0) by decide +kernel)
  have O1 := Lib.hid (show outC [⟨2, 8, 0⟩] 1 4 = ([⟨1, 4, 0⟩], ⟨1, 4, 0⟩, 0) by decide +kernel)
  have V1 := Lib.hid (show revC [⟨1, 4, 0⟩] 7 = ([⟨1, 7, 0⟩], 3, 0) by decide +kernel)
  go_enter Try.func22, Try.ntmps22
  go_wp2_with fail
  refine (std_In_is (l := []) (x := ⟨2, 10, 0⟩) (Row.nil _ _) (by decide) (AllI.of_B (by decide +kernel)) ⟨by omega, by omega⟩ I1.out L1.out).mono ?_
  rintro e w1 ⟨⟨a1, c1, rfl, R1⟩, hw1⟩
  go_wp2_with fail
  refine (std_Out_is R1 L1.out (q := 1) (c := 4) ⟨by omega, by omega⟩ ⟨by omega, by omega⟩ O1.out L2.out).mono ?_
  rintro e w2 ⟨⟨a2, c2, rfl, R2⟩, hw2⟩
  go_wp2_with fail
  refine (std_Revalue_is (R2.below (by (repeat (first | assumption | exact Below.refl _ _ | refine ballc ?_ _ | refine bdrew ?_ | refine bdrewN ?_ _ | refine bset ?_ _ _ | refine bsetN ?_ (by omega) _ _ | refine bthen ?_ (by assumption))))) L2.out (c := 7) ⟨by omega, by omega⟩ V1.out L3.out).mono ?_
  rintro e w3 ⟨⟨a3, c3, rfl, R3⟩, hw3⟩
  obtain ⟨⟨r0, r1, r2, z0, z1, z2⟩, lX, -⟩ := res3 hw3
  obtain ⟨b1, o1, rfl, hb1, x0, x1, -⟩ := (R1.below (show Below w1.heap.size w1 w3 by (repeat (first | assumption | exact Below.refl _ _ | refine ballc ?_ _ | refine bdrew ?_ | refine bdrewN ?_ _ | refine bset ?_ _ _ | refine bsetN ?_ (by omega) _ _ | refine bthen ?_ (by assumption))))).first (by decide)
  obtain ⟨b3, o3, rfl, hb3, y0, y1, -⟩ := R3.first (by decide)
  have hbel : Below w.heap.size w w3 := by (repeat (first | assumption | exact Below.refl _ _ | refine ballc ?_ _ | refine bdrew ?_ | refine bdrewN ?_ _ | refine bset ?_ _ _ | refine bsetN ?_ (by omega) _ _ | refine bthen ?_ (by assumption)))
  clear R1 R2 R3 hw1 hw2 hw3
  simp only at x0 x1 y0 y1
  go_wp2_with fail
  go_ret
  exact ⟨rfl, by (repeat (first | assumption | exact Below.refl _ _ | refine ballc ?_ _ | refine bdrew ?_ | refine bdrewN ?_ _ | refine bset ?_ _ _ | refine bsetN ?_ (by omega) _ _ | refine bthen ?_ (by assumption)))⟩

theorem wrong_rate {c : Int} (h : c < 0 ∨ 1073741824 < c) : fitsR c = false := by
  cases hf : fitsR c
  · rfl
  · have := fitsR_iff.1 hf; omega

set_option maxRecDepth 20000 in
set_option maxHeartbeats 2000000 in
theorem StdcostWrong_walk (n q : Int) (w : World) (hn : I64 n) (hq : I64 q) :
    Calls Try.prog 8 #[.int .i64 n, .int .i64 q] w fun e w' => e = .returned (.bool true) ∧ Below w.heap.size w w' := by
  have p1 := place_bd (v := n) (n := 1000) (by omega)
  have p2 := place_bd (v := q) (n := 1000) (by omega)
  obtain ⟨k, hk⟩ : ∃ k, 1 + n % 1000 = k := ⟨_, rfl⟩
  obtain ⟨j, hj⟩ : ∃ j, 268435456 + q % 1000 + 1 = j := ⟨_, rfl⟩
  have k0 : 1 ≤ k := by omega
  have k1 : k ≤ 1000 := by omega
  have j0 : 268435457 ≤ j := by omega
  have j1 : j ≤ 268436456 := by omega
  have L0 := Lib.hid LR.nil
  have L1 := Lib.hid (LR.of (l := [⟨5, 50, 0⟩]) (by decide +kernel))
  have L2 := Lib.hid (LR.of (l := [⟨1, 0, 0⟩]) (by decide +kernel))
  have I1 := Lib.hid (show inC [⟨5, 50, 0⟩] ⟨1, 0, 0⟩ (-k) = ([⟨5, 50, 0⟩], 0, 1) by rw [inC, if_pos (.inl (wrong_rate (by omega)))])
  have O1 := Lib.hid (show outC [⟨5, 50, 0⟩] 1 (1073741824 + k) = ([⟨5, 50, 0⟩], .zero, 1) by rw [outC, if_pos (wrong_rate (by omega))])
  have V1 := Lib.hid (show revC [⟨5, 50, 0⟩] (-k) = ([⟨5, 50, 0⟩], 0, 1) by simp [revC, wrong_rate (c := -k) (by omega)])
  have hoE : ofE 1073741824 j = 2 := by
    simp only [ofE, mdE, Int.ediv_one]
    rw [if_neg (by omega), if_pos (by omega)]
  have I2 := Lib.hid (show inC [] ⟨j, 5, 0⟩ 1073741824 = ([], 0, 2) by rw [inC, if_neg (by simp [fitsR]; omega), if_pos (.inl (by simp only; rw [hoE]; decide))])
  have O2 := Lib.hid (show outC [⟨5, 50, 0⟩] 5 99 = ([], ⟨5, 50, 0⟩, 0) by decide +kernel)
  have O3 := Lib.hid (show outC [⟨5, 50, 0⟩] 4 99 = ([⟨1, 0, 0⟩], ⟨4, 50, 0⟩, 0) by decide +kernel)
  have hxj : AllI [(⟨j, 5, 0⟩ : Lay).q, (⟨j, 5, 0⟩ : Lay).v, (⟨j, 5, 0⟩ : Lay).p] := by
    intro y hy
    simp at hy
    rcases hy with rfl | rfl | rfl <;> exact ⟨by omega, by omega⟩
  have f0 : IntKind.i64.wrap (-k) = -k := IntWalk.i64_in _ (by omega)
  clear hoE p1 p2
  go_enter Try.func8, Try.ntmps8
  go_wp2_with (first | (go_at_call 17; refine (Place_calls _ _ _ (by omega) (by omega)).mono ?_; rintro e w' ⟨rfl, rfl⟩))
  have R0 := Row.new w 3 1 [5, 50, 0] 24 rfl (by decide) (AllI.of_B (by decide +kernel))
  refine (std_In_is (l := [⟨5, 50, 0⟩]) (x := ⟨1, 0, 0⟩) R0 (by decide) (AllI.of_B (by decide +kernel)) ⟨by omega, by omega⟩ I1.out L1.out).mono ?_
  rintro e w1 ⟨⟨a1, c1, rfl, R1⟩, hw1⟩
  have S1 := R0.below hw1
  clear R1
  go_wp2_with (first | (go_at_call 17; refine (Place_calls _ _ _ (by omega) (by omega)).mono ?_; rintro e w' ⟨rfl, rfl⟩))
  refine (std_Out_is (l := [⟨5, 50, 0⟩]) S1 L1.out (q := 1) (c := 1073741824 + k) ⟨by omega, by omega⟩ ⟨by omega, by omega⟩ O1.out L1.out).mono ?_
  rintro e w2 ⟨⟨a2, c2, rfl, R2⟩, hw2⟩
  have S2 := S1.below (ballc hw2 (.cells #[.int .i64 0, .int .i64 0, .int .i64 0] 24))
  clear R2
  go_wp2_with (first | (go_at_call 17; refine (Place_calls _ _ _ (by omega) (by omega)).mono ?_; rintro e w' ⟨rfl, rfl⟩))
  refine (std_Revalue_is (l := [⟨5, 50, 0⟩]) S2 L1.out (c := -k) ⟨by omega, by omega⟩ V1.out L1.out).mono ?_
  rintro e w3 ⟨⟨a3, c3, rfl, R3⟩, hw3⟩
  have S3 := S2.below hw3
  clear R3
  go_wp2_with (first | (go_at_call 17; refine (Place_calls _ _ _ (by omega) (by omega)).mono ?_; rintro e w' ⟨rfl, rfl⟩))
  refine (std_In_is (l := []) (x := ⟨j, 5, 0⟩) (Row.nil _ _) (by decide) hxj ⟨by omega, by omega⟩ I2.out L0.out).mono ?_
  rintro e w4 ⟨⟨a4, c4, rfl, R4⟩, hw4⟩
  have S4 := S3.below hw4
  clear R4
  go_wp2_with (first | (go_at_call 17; refine (Place_calls _ _ _ (by omega) (by omega)).mono ?_; rintro e w' ⟨rfl, rfl⟩))
  refine (std_Out_is (l := [⟨5, 50, 0⟩]) S4 L1.out (q := 5) (c := 99) ⟨by omega, by omega⟩ ⟨by omega, by omega⟩ O2.out L0.out).mono ?_
  rintro e w5 ⟨⟨a5, c5, rfl, R5⟩, hw5⟩
  have S5 := S4.below (ballc hw5 (.cells #[.int .i64 5, .int .i64 50, .int .i64 0] 24))
  clear R5
  go_wp2_with (first | (go_at_call 17; refine (Place_calls _ _ _ (by omega) (by omega)).mono ?_; rintro e w' ⟨rfl, rfl⟩))
  refine (std_Out_is (l := [⟨5, 50, 0⟩]) S5 L1.out (q := 4) (c := 99) ⟨by omega, by omega⟩ ⟨by omega, by omega⟩ O3.out L2.out).mono ?_
  rintro e w6 ⟨⟨a6, c6, rfl, R6⟩, hw6⟩
  clear R6
  obtain ⟨⟨r0, r1, r2, z0, z1, z2⟩, lX, -⟩ := res3 hw6
  have hbel : Below w.heap.size w w6 := by (repeat (first | assumption | exact Below.refl _ _ | refine ballc ?_ _ | refine bdrew ?_ | refine bdrewN ?_ _ | refine bset ?_ _ _ | refine bsetN ?_ (by omega) _ _ | refine bthen ?_ (by assumption)))
  clear S1 S2 S3 S4 S5 hw1 hw2 hw3 hw4 hw5 hw6
  go_wp2_with (first | (go_at_call 22; refine (std_awake _).mono ?_; rintro e w' ⟨rfl, hwa⟩))
  go_ret
  exact ⟨rfl, by (repeat (first | assumption | exact Below.refl _ _ | refine ballc ?_ _ | refine bdrew ?_ | refine bdrewN ?_ _ | refine bset ?_ _ _ | refine bsetN ?_ (by omega) _ _ | refine bthen ?_ (by assumption)))⟩
end Go.Proofs.Ytgahhifedgmicaa
