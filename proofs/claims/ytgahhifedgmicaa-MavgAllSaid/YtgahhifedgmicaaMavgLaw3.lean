/-
  The moving average: any layers, at most one; any layer, any quantity. The walk.
-/
import Derived.Test.YtgahhifedgmicaaMavgLaw1
import Derived.Test.YtgahhifedgmicaaFifoLaw3
set_option linter.unusedVariables false
set_option linter.unusedSimpArgs false
namespace Go.Proofs.Ytgahhifedgmicaa
open Go.RowKit

theorem ref_In10_is {a : Option Addr} {cap : Nat} {l : List Lay} {x : Lay} {w : World} (h : Row w 3 a l.length cap (flat l)) (hn : l.length < 30) (hx : AllI [x.q, x.v, x.p]) {m : List Lay} {e' : Int} (hI : inM l x = (m, e')) :
    Calls Try.prog 12 #[.slice a l.length cap, x.val] w fun e w' => (∃ a' cap', e = .returned (.tuple #[.slice a' m.length cap', .int .i64 e']) ∧ Row w' 3 a' m.length cap' (flat m)) ∧ Below w.heap.size w w' := by
  refine (ref_In10 a cap l x w h hn hx).mono ?_
  rintro e w' ⟨v, rfl, hh, hb⟩
  rw [hI] at hh ⊢
  obtain ⟨a', cap', rfl, R⟩ := hh
  exact ⟨⟨a', cap', rfl, R⟩, hb⟩

set_option maxRecDepth 20000 in
set_option maxHeartbeats 2000000 in
theorem MavgAll_walk (a : Option Addr) (cap : Nat) (l : List Lay) (x : Lay) (q : Int) (w : World) (h : Row w 3 a l.length cap (flat l)) (hx : AllI [x.q, x.v, x.p]) (hq : I64 q) :
    Calls Try.prog 3 #[.slice a l.length cap, x.val, .int .i64 q] w fun e w' => e = .returned (.bool true) ∧ Below w.heap.size w w' := by
  by_cases hn : 1 < l.length
  · have hn' : (1 : Int) < (l.length : Int) := by omega
    unfold Lay.val
    go_enter Try.func3, Try.ntmps3
    try simp only [List.append_eq, List.cons_append, List.nil_append]
    go_wp2_with (first | (go_at_call 10; refine (mavg_awake _).mono ?_; rintro e w' ⟨rfl, hwa⟩))
    go_ret
    exact ⟨rfl, by (repeat (first | assumption | exact Below.refl _ _ | refine ballc ?_ _ | refine bdrew ?_ | refine bdrewN ?_ _ | refine bset ?_ _ _ | refine bsetN ?_ (by omega) _ _ | refine bthen ?_ (by assumption)))⟩
  have hn' : ¬ (1 : Int) < (l.length : Int) := by omega
  have hn9 : l.length < 30 := by omega
  have hn10 : l.length ≤ 1000 := by omega
  cases hr : rightL l
  · unfold Lay.val
    go_enter Try.func3, Try.ntmps3
    try simp only [List.append_eq, List.cons_append, List.nil_append]
    go_wp2_with (first | (go_at_call 9; refine (ref_Right9 a cap l _ (h.below (by (repeat (first | assumption | exact Below.refl _ _ | refine ballc ?_ _ | refine bdrew ?_ | refine bdrewN ?_ _ | refine bset ?_ _ _ | refine bsetN ?_ (by omega) _ _ | refine bthen ?_ (by assumption))))) hn10).mono ?_; rintro e w1 ⟨rfl, hw1⟩) | (go_at_call 10; refine (mavg_awake _).mono ?_; rintro e w' ⟨rfl, hwa⟩))
    go_ret
    exact ⟨rfl, by (repeat (first | assumption | exact Below.refl _ _ | refine ballc ?_ _ | refine bdrew ?_ | refine bdrewN ?_ _ | refine bset ?_ _ _ | refine bsetN ?_ (by omega) _ _ | refine bthen ?_ (by assumption)))⟩
  have hL := LR.of hr
  obtain ⟨m, e1, hI⟩ : ∃ m e', inM l x = (m, e') := ⟨_, _, rfl⟩
  obtain ⟨m2, y, e2, hO⟩ : ∃ m' y e', outS l q = (m', y, e') := ⟨_, _, _, rfl⟩
  have hIh := Lib.hid hI
  have hOh := Lib.hid hO
  clear hI hO
  unfold Lay.val
  go_enter Try.func3, Try.ntmps3
  try simp only [List.append_eq, List.cons_append, List.nil_append]
  go_wp2_with fail
  refine (ref_Right9 a cap l _ (h.below (by (repeat (first | assumption | exact Below.refl _ _ | refine ballc ?_ _ | refine bdrew ?_ | refine bdrewN ?_ _ | refine bset ?_ _ _ | refine bsetN ?_ (by omega) _ _ | refine bthen ?_ (by assumption))))) hn10).mono ?_
  rw [hr]
  rintro e w1 ⟨rfl, hw1⟩
  obtain ⟨X, lX, -⟩ := res3 hw1
  obtain ⟨r0, r1, r2, z0, z1, z2⟩ := id X
  go_wp2_with fail
  refine (mavg_In_is (h.below (by (repeat (first | assumption | exact Below.refl _ _ | refine ballc ?_ _ | refine bdrew ?_ | refine bdrewN ?_ _ | refine bset ?_ _ _ | refine bsetN ?_ (by omega) _ _ | refine bthen ?_ (by assumption))))) hL hx hIh.out).mono ?_
  rintro e w3 ⟨⟨a3, c3, rfl, R3⟩, hw3⟩
  obtain ⟨X, lX, -⟩ := Cell3.next X lX hw3
  obtain ⟨r0, r1, r2, z0, z1, z2⟩ := id X
  go_wp2_with fail
  refine (ref_In10_is (h.below (by (repeat (first | assumption | exact Below.refl _ _ | refine ballc ?_ _ | refine bdrew ?_ | refine bdrewN ?_ _ | refine bset ?_ _ _ | refine bsetN ?_ (by omega) _ _ | refine bthen ?_ (by assumption))))) hn9 hx hIh.out).mono ?_
  rintro e w4 ⟨⟨a4, c4, rfl, R4⟩, hw4⟩
  go_wp2_with fail
  refine (mavg_Out_is (h.below (by (repeat (first | assumption | exact Below.refl _ _ | refine ballc ?_ _ | refine bdrew ?_ | refine bdrewN ?_ _ | refine bset ?_ _ _ | refine bsetN ?_ (by omega) _ _ | refine bthen ?_ (by assumption))))) hL hq hOh.out).mono ?_
  rintro e w5 ⟨⟨a5, c5, rfl, R5⟩, hw5⟩
  go_wp2_with fail
  refine (ref_Out10 (h.below (by (repeat (first | assumption | exact Below.refl _ _ | refine ballc ?_ _ | refine bdrew ?_ | refine bdrewN ?_ _ | refine bset ?_ _ _ | refine bsetN ?_ (by omega) _ _ | refine bthen ?_ (by assumption))))) hL hq hOh.out).mono ?_
  rintro e w6 ⟨⟨a6, c6, rfl, R6⟩, hw6⟩
  have Y := (res3 hw6).1
  have lY := (res3 hw6).2.1
  go_wp2_with fail
  refine (same_is (R3.below (by (repeat (first | assumption | exact Below.refl _ _ | refine ballc ?_ _ | refine bdrew ?_ | refine bdrewN ?_ _ | refine bset ?_ _ _ | refine bsetN ?_ (by omega) _ _ | refine bthen ?_ (by assumption))))) (R4.below (by (repeat (first | assumption | exact Below.refl _ _ | refine ballc ?_ _ | refine bdrew ?_ | refine bdrewN ?_ _ | refine bset ?_ _ _ | refine bsetN ?_ (by omega) _ _ | refine bthen ?_ (by assumption)))))).mono ?_
  rintro e w9 ⟨rfl, hw9⟩
  have U := (res3 hw9).1
  have lU := (res3 hw9).2.1
  obtain ⟨Y, lY, -⟩ := Cell3.next Y lY (show Below w6.heap.size w6 w9 by (repeat (first | assumption | exact Below.refl _ _ | refine ballc ?_ _ | refine bdrew ?_ | refine bdrewN ?_ _ | refine bset ?_ _ _ | refine bsetN ?_ (by omega) _ _ | refine bthen ?_ (by assumption))))
  go_wp2_with fail
  refine (same_is (R5.below (by (repeat (first | assumption | exact Below.refl _ _ | refine ballc ?_ _ | refine bdrew ?_ | refine bdrewN ?_ _ | refine bset ?_ _ _ | refine bsetN ?_ (by omega) _ _ | refine bthen ?_ (by assumption))))) (R6.below (by (repeat (first | assumption | exact Below.refl _ _ | refine ballc ?_ _ | refine bdrew ?_ | refine bdrewN ?_ _ | refine bset ?_ _ _ | refine bsetN ?_ (by omega) _ _ | refine bthen ?_ (by assumption)))))).mono ?_
  rintro e w10 ⟨rfl, hw10⟩
  obtain ⟨Y, lY, -⟩ := Cell3.next Y lY hw10
  obtain ⟨U, lU, -⟩ := Cell3.next U lU hw10
  obtain ⟨r0, r1, r2, -, -, -⟩ := Y
  obtain ⟨s0, s1, s2, -, -, -⟩ := U
  go_wp2_with fail
  refine (sameLayer_is y _).mono ?_
  rintro e w11 ⟨rfl, hw11⟩
  go_wp2_with (first | (go_at_call 10; refine (mavg_awake _).mono ?_; rintro e w' ⟨rfl, hwa⟩))
  go_ret
  exact ⟨rfl, by (repeat (first | assumption | exact Below.refl _ _ | refine ballc ?_ _ | refine bdrew ?_ | refine bdrewN ?_ _ | refine bset ?_ _ _ | refine bsetN ?_ (by omega) _ _ | refine bthen ?_ (by assumption)))⟩
end Go.Proofs.Ytgahhifedgmicaa
