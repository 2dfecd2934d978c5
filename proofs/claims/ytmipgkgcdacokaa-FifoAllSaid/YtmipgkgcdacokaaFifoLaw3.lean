/-
  Layers come, quantities go: as the document says. The walk.
-/
import Derived.Test.YtmipgkgcdacokaaFifoLaw2
import Derived.Test.YtmipgkgcdacokaaFifo11
set_option linter.unusedVariables false
set_option linter.unusedSimpArgs false
namespace Go.Proofs.Ytmipgkgcdacokaa
open Go.RowKit

theorem ref_In_is {a : Option Addr} {cap : Nat} {l : List Lay} {x : Lay} {w : World} (h : Row w 3 a l.length cap (flat l)) (hn : l.length ≤ 900) (hx : AllI [x.q, x.v, x.p]) {m : List Lay} {e' : Int} (hI : inS l x = (m, e')) :
    Calls Try.prog 14 #[.slice a l.length cap, x.val] w fun e w' => (∃ a' cap', e = .returned (.tuple #[.slice a' m.length cap', .int .i64 e']) ∧ Row w' 3 a' m.length cap' (flat m)) ∧ Below w.heap.size w w' := by
  refine (ref_In9 a cap l x w h hn hx).mono ?_
  rintro e w' ⟨v, rfl, hh, hb⟩
  rw [hI] at hh ⊢
  obtain ⟨a', cap', rfl, R⟩ := hh
  exact ⟨⟨a', cap', rfl, R⟩, hb⟩
theorem ref_Out_is {a : Option Addr} {cap : Nat} {l : List Lay} {w : World} (h : Row w 3 a l.length cap (flat l)) (hL : LR l) {q : Int} (hq : I64 q) {m : List Lay} {y : Lay} {e' : Int} (hO : outS l q = (m, y, e')) :
    Calls Try.prog 15 #[.slice a l.length cap, .int .i64 q] w fun e w' => (∃ a' cap', e = .returned (.tuple #[.slice a' m.length cap', y.val, .int .i64 e']) ∧ Row w' 3 a' m.length cap' (flat m)) ∧ Below w.heap.size w w' := by
  refine (ref_Out9 a cap l w h hL.right q hq).mono ?_
  rintro e w' ⟨v, rfl, hh, hb⟩
  rw [hO] at hh ⊢
  obtain ⟨a', cap', rfl, R⟩ := hh
  exact ⟨⟨a', cap', rfl, R⟩, hb⟩
theorem same_is {a b : Option Addr} {ca cb : Nat} {l : List Lay} {w : World} (h : Row w 3 a l.length ca (flat l)) (k : Row w 3 b l.length cb (flat l)) :
    Calls Try.prog 18 #[.slice a l.length ca, .slice b l.length cb] w fun e w' => e = .returned (.bool true) ∧ Below w.heap.size w w' := by
  refine (ref_Same a b ca cb l l w h k).mono ?_
  rintro e w' ⟨rfl, hb⟩
  exact ⟨by simp, hb⟩
theorem sameLayer_is (x : Lay) (w : World) :
    Calls Try.prog 19 #[x.val, x.val] w fun e w' => e = .returned (.bool true) ∧ Below w.heap.size w w' := by
  refine (ref_SameLayer' x x w).mono ?_
  rintro e w' ⟨rfl, hb⟩
  exact ⟨by simp, hb⟩

set_option maxRecDepth 20000 in
set_option maxHeartbeats 2000000 in
theorem FifoPlays_walk (l : Option Addr) (n cap : Nat) (zs : List Int) (w : World) (h : Row w 1 l n cap zs) :
    Calls Try.prog 5 #[.slice l n cap] w fun e w' => e = .returned (.bool true) ∧ Below w.heap.size w w' := by
  have h0 := h
  obtain ⟨hl, hcap, hmax, hall, hat⟩ := h
  unfold maxLen at hmax
  go_enter Try.func5, Try.ntmps5
  go_wp2_with fail
  go_loopw [3, 4, 5] (fun a b i wr => ∃ (j : Nat) (m : List Lay) (a1 a2 : Option Addr) (c1 c2 : Nat), j ≤ n ∧ j ≤ 100 ∧ i = .int .i64 j ∧ a = .slice a1 m.length c1 ∧ b = .slice a2 m.length c2 ∧ LR m ∧ Row wr 3 a1 m.length c1 (flat m) ∧ Row wr 3 a2 m.length c2 (flat m) ∧ Below w.heap.size w wr) (fun _ _ i _ => 100 - (intOf i).toNat)
  case atStart => exact ⟨0, [], none, none, 0, 0, by omega, by omega, rfl, rfl, rfl, LR.nil, Row.nil _ _, Row.nil _ _, by (repeat (first | assumption | exact Below.refl _ _ | refine ballc ?_ _ | refine bdrew ?_ | refine bdrewN ?_ _ | refine bset ?_ _ _ | refine bsetN ?_ (by omega) _ _ | refine bthen ?_ (by assumption)))⟩
  case round =>
    obtain ⟨j, m, a1, a2, c1, c2, hj, hj2, rfl, rfl, rfl, hL, R1, R2, hbel⟩ := hrel
    have hsz := hbel.size
    have hlen := hL.len
    by_cases hlt : j < n ∧ j < 100
    · obtain ⟨hlt, hlt2⟩ := hlt
      obtain ⟨b, off, rfl, hb, hc⟩ : ∃ b off, l = some ⟨b, off, none⟩ ∧ b < w.heap.size ∧ CellsAt w b off zs := by
        rcases hat with h0 | h0
        · omega
        · exact h0
      have hcell : wr.cell? ⟨b, off + j, none⟩ = some (.int .i64 (zs.getD j 0)) := (hbel.cell hb).trans (hc j (by omega))
      have hlt' : (j : Int) < (n : Int) := by omega
      have hlt2' : (j : Int) < 100 := by omega
      have hL9 : m.length ≤ 900 := by omega
      clear hc hat h0
      generalize zs.getD j 0 = z at *
      have hk := place_bd (v := z) (n := 1073741824) (by omega)
      go_wp2_with fail
      refine (Place_calls _ _ _ (by omega) (by omega)).mono ?_
      rintro e w' ⟨rfl, rfl⟩
      generalize z % 1073741824 = k at *
      obtain ⟨k0, k1⟩ := hk
      by_cases h5 : k % 5 < 3
      · obtain ⟨m', e', hI⟩ : ∃ m' e', inS m ⟨1 + k / 5 % 20, k / 100 % 500, k / 50000 % 200 - 100⟩ = (m', e') := ⟨_, _, rfl⟩
        have hx : AllI [(⟨1 + k / 5 % 20, k / 100 % 500, k / 50000 % 200 - 100⟩ : Lay).q, (⟨1 + k / 5 % 20, k / 100 % 500, k / 50000 % 200 - 100⟩ : Lay).v, (⟨1 + k / 5 % 20, k / 100 % 500, k / 50000 % 200 - 100⟩ : Lay).p] := by
          intro y hy
          simp at hy
          rcases hy with rfl | rfl | rfl <;> exact ⟨by omega, by omega⟩
        have hL' : LR m' := by have := inS_LR (x := ⟨1 + k / 5 % 20, k / 100 % 500, k / 50000 % 200 - 100⟩) hL; rw [hI] at this; exact this
        have hIh := Lib.hid hI
        clear hI
        go_wp2_with fail
        refine (fifo_In_is (R1.below (by (repeat (first | assumption | exact Below.refl _ _ | refine ballc ?_ _ | refine bdrew ?_ | refine bdrewN ?_ _ | refine bset ?_ _ _ | refine bsetN ?_ (by omega) _ _ | refine bthen ?_ (by assumption))))) hL9 hx hIh.out).mono ?_
        rintro e w1 ⟨⟨a3, c3, rfl, R3⟩, hw1⟩
        obtain ⟨⟨r0, r1, r2, z0, z1, z2⟩, hl1, hl2, hl3, hl4⟩ := res3 hw1
        go_wp2_with fail
        refine (ref_In_is (R2.below (by (repeat (first | assumption | exact Below.refl _ _ | refine ballc ?_ _ | refine bdrew ?_ | refine bdrewN ?_ _ | refine bset ?_ _ _ | refine bsetN ?_ (by omega) _ _ | refine bthen ?_ (by assumption))))) hL9 hx hIh.out).mono ?_
        rintro e w2 ⟨⟨a4, c4, rfl, R4⟩, hw2⟩
        go_wp2_with fail
        refine (same_is (R3.below (by (repeat (first | assumption | exact Below.refl _ _ | refine ballc ?_ _ | refine bdrew ?_ | refine bdrewN ?_ _ | refine bset ?_ _ _ | refine bsetN ?_ (by omega) _ _ | refine bthen ?_ (by assumption))))) R4).mono ?_
        rintro e w3 ⟨rfl, hw3⟩
        go_wp2_with fail
        refine (same_is (R1.below (by (repeat (first | assumption | exact Below.refl _ _ | refine ballc ?_ _ | refine bdrew ?_ | refine bdrewN ?_ _ | refine bset ?_ _ _ | refine bsetN ?_ (by omega) _ _ | refine bthen ?_ (by assumption))))) (R2.below (by (repeat (first | assumption | exact Below.refl _ _ | refine ballc ?_ _ | refine bdrew ?_ | refine bdrewN ?_ _ | refine bset ?_ _ _ | refine bsetN ?_ (by omega) _ _ | refine bthen ?_ (by assumption)))))).mono ?_
        rintro e w4 ⟨rfl, hw4⟩
        have R5 := R3.below (show Below w1.heap.size w1 w4 by (repeat (first | assumption | exact Below.refl _ _ | refine ballc ?_ _ | refine bdrew ?_ | refine bdrewN ?_ _ | refine bset ?_ _ _ | refine bsetN ?_ (by omega) _ _ | refine bthen ?_ (by assumption))))
        have R6 := R4.below (show Below w2.heap.size w2 w4 by (repeat (first | assumption | exact Below.refl _ _ | refine ballc ?_ _ | refine bdrew ?_ | refine bdrewN ?_ _ | refine bset ?_ _ _ | refine bsetN ?_ (by omega) _ _ | refine bthen ?_ (by assumption))))
        have hbel' : Below w.heap.size w w4 := by (repeat (first | assumption | exact Below.refl _ _ | refine ballc ?_ _ | refine bdrew ?_ | refine bdrewN ?_ _ | refine bset ?_ _ _ | refine bsetN ?_ (by omega) _ _ | refine bthen ?_ (by assumption)))
        clear hw1 hw2 hw3 hw4 r0 r1 r2 z0 z1 z2 hcell
        go_wp2_with fail
        case' roundEnd =>
          refine ⟨⟨j + 1, m', a3, a4, c3, c4, by omega, by omega, by simp, rfl, rfl, hL', R5, R6, hbel'⟩, ?_⟩
          simp [intOf]
          omega
      · obtain ⟨m', y, e', hO⟩ : ∃ m' y e', outS m (1 + k / 5 % 30) = (m', y, e') := ⟨_, _, _, rfl⟩
        have hL' : LR m' := by have := outS_LR (q := 1 + k / 5 % 30) hL; rw [hO] at this; exact this
        have hOh := Lib.hid hO
        have hq : I64 (1 + k / 5 % 30) := ⟨by omega, by omega⟩
        clear hO
        go_wp2_with fail
        refine (fifo_Out_is (R1.below (by (repeat (first | assumption | exact Below.refl _ _ | refine ballc ?_ _ | refine bdrew ?_ | refine bdrewN ?_ _ | refine bset ?_ _ _ | refine bsetN ?_ (by omega) _ _ | refine bthen ?_ (by assumption))))) hL hq hOh.out).mono ?_
        rintro e w1 ⟨⟨a3, c3, rfl, R3⟩, hw1⟩
        go_wp2_with fail
        refine (ref_Out_is (R2.below (by (repeat (first | assumption | exact Below.refl _ _ | refine ballc ?_ _ | refine bdrew ?_ | refine bdrewN ?_ _ | refine bset ?_ _ _ | refine bsetN ?_ (by omega) _ _ | refine bthen ?_ (by assumption))))) hL hq hOh.out).mono ?_
        rintro e w2 ⟨⟨a4, c4, rfl, R4⟩, hw2⟩
        obtain ⟨⟨r0, r1, r2, z0, z1, z2⟩, hl1, hl2, hl3, hl4⟩ := res3 hw2
        go_wp2_with fail
        refine (sameLayer_is y _).mono ?_
        rintro e w3 ⟨rfl, hw3⟩
        go_wp2_with fail
        refine (same_is (R3.below (by (repeat (first | assumption | exact Below.refl _ _ | refine ballc ?_ _ | refine bdrew ?_ | refine bdrewN ?_ _ | refine bset ?_ _ _ | refine bsetN ?_ (by omega) _ _ | refine bthen ?_ (by assumption))))) (R4.below (by (repeat (first | assumption | exact Below.refl _ _ | refine ballc ?_ _ | refine bdrew ?_ | refine bdrewN ?_ _ | refine bset ?_ _ _ | refine bsetN ?_ (by omega) _ _ | refine bthen ?_ (by assumption)))))).mono ?_
        rintro e w4 ⟨rfl, hw4⟩
        go_wp2_with fail
        refine (same_is (R1.below (by (repeat (first | assumption | exact Below.refl _ _ | refine ballc ?_ _ | refine bdrew ?_ | refine bdrewN ?_ _ | refine bset ?_ _ _ | refine bsetN ?_ (by omega) _ _ | refine bthen ?_ (by assumption))))) (R2.below (by (repeat (first | assumption | exact Below.refl _ _ | refine ballc ?_ _ | refine bdrew ?_ | refine bdrewN ?_ _ | refine bset ?_ _ _ | refine bsetN ?_ (by omega) _ _ | refine bthen ?_ (by assumption)))))).mono ?_
        rintro e w5 ⟨rfl, hw5⟩
        have R5 := R3.below (show Below w1.heap.size w1 w5 by (repeat (first | assumption | exact Below.refl _ _ | refine ballc ?_ _ | refine bdrew ?_ | refine bdrewN ?_ _ | refine bset ?_ _ _ | refine bsetN ?_ (by omega) _ _ | refine bthen ?_ (by assumption))))
        have R6 := R4.below (show Below w2.heap.size w2 w5 by (repeat (first | assumption | exact Below.refl _ _ | refine ballc ?_ _ | refine bdrew ?_ | refine bdrewN ?_ _ | refine bset ?_ _ _ | refine bsetN ?_ (by omega) _ _ | refine bthen ?_ (by assumption))))
        have hbel' : Below w.heap.size w w5 := by (repeat (first | assumption | exact Below.refl _ _ | refine ballc ?_ _ | refine bdrew ?_ | refine bdrewN ?_ _ | refine bset ?_ _ _ | refine bsetN ?_ (by omega) _ _ | refine bthen ?_ (by assumption)))
        clear hw1 hw2 hw3 hw4 hw5 r0 r1 r2 z0 z1 z2 hcell
        go_wp2_with fail
        case' roundEnd =>
          refine ⟨⟨j + 1, m', a3, a4, c3, c4, by omega, by omega, by simp, rfl, rfl, hL', R5, R6, hbel'⟩, ?_⟩
          simp [intOf]
          omega
    · have hx : ¬ (j : Int) < (n : Int) ∨ (j : Int) < (n : Int) ∧ ¬ (j : Int) < 100 := by omega
      clear hlt hat
      rcases hx with hx | ⟨hx, hx2⟩
      all_goals
        go_wp2_with (first | (go_at_call 10; refine (fifo_awake _).mono ?_; rintro e w' ⟨rfl, hwa⟩))
        go_ret
        exact ⟨rfl, by (repeat (first | assumption | exact Below.refl _ _ | refine ballc ?_ _ | refine bdrew ?_ | refine bdrewN ?_ _ | refine bset ?_ _ _ | refine bsetN ?_ (by omega) _ _ | refine bthen ?_ (by assumption)))⟩
end Go.Proofs.Ytmipgkgcdacokaa
