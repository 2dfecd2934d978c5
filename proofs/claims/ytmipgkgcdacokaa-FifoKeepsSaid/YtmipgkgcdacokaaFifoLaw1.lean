/-
  The document's example of the fifo chapter; one layer, piece by piece: the walks.
-/
import Derived.Test.YtmipgkgcdacokaaFifoOut
import Derived.Test.YtmipgkgcdacokaaFifoP1
import Derived.Deep.QuietTactic
import Derived.BigQuiet
import Derived.IntWalk
set_option linter.unusedVariables false
set_option linter.unusedSimpArgs false
namespace Go.Proofs.Ytmipgkgcdacokaa
open Go.RowKit

/-- The same, the result told. -/
theorem fifo_Out_is {a : Option Addr} {cap : Nat} {l : List Lay} {w : World} (h : Row w 3 a l.length cap (flat l)) (hL : LR l) {q : Int} (hq : I64 q) {m : List Lay} {y : Lay} {e' : Int} (hO : outS l q = (m, y, e')) :
    Calls Try.prog 9 #[.slice a l.length cap, .int .i64 q] w fun e w' => (∃ a' cap', e = .returned (.tuple #[.slice a' m.length cap', y.val, .int .i64 e']) ∧ Row w' 3 a' m.length cap' (flat m)) ∧ Below w.heap.size w w' := by
  refine (fifo_Out a cap l w h hL q hq).mono ?_
  rintro e w' ⟨v, rfl, hh, hb⟩
  rw [hO] at hh ⊢
  have hm : LR m := by have := outS_LR (q := q) hL; rw [hO] at this; exact this
  obtain ⟨a', cap', rfl, R⟩ := hh.row (flat_ok hm.ok)
  exact ⟨⟨a', cap', rfl, R⟩, hb⟩

set_option maxHeartbeats 1000000 in
theorem fifo_awake (w : World) :
    Calls Try.prog 10 #[] w fun e w' => e = .returned (.bool true) ∧ Below w.heap.size w w' := by
  have L1 : LR [⟨2, 10, 0⟩, ⟨2, 30, 0⟩] := LR.of (by decide +kernel)
  have L2 : LR [⟨1, 15, 0⟩] := LR.of (by decide +kernel)
  have O1 : outS [⟨2, 10, 0⟩, ⟨2, 30, 0⟩] 3 = ([⟨1, 15, 0⟩], ⟨3, 25, 0⟩, 0) := by decide +kernel
  have O2 : outS [⟨1, 15, 0⟩] 2 = ([⟨1, 15, 0⟩], .zero, 5) := by decide +kernel
  have T1 : tot [⟨1, 15, 0⟩] = ⟨1, 15, 0⟩ := by decide +kernel
  have T2 : totE [⟨1, 15, 0⟩] = 0 := by decide +kernel
  have T3 : rightL [⟨1, 15, 0⟩] = true := by decide +kernel
  have O1 := Lib.hid O1; have O2 := Lib.hid O2; have T1 := Lib.hid T1; have T2 := Lib.hid T2; have T3 := Lib.hid T3; have L1 := Lib.hid L1; have L2 := Lib.hid L2
  go_enter Try.func10, Try.ntmps10
  go_wp2_with fail
  refine (fifo_Out_is (l := [⟨2, 10, 0⟩, ⟨2, 30, 0⟩]) (Row.new _ 3 2 [2, 10, 0, 2, 30, 0] _ rfl (by decide) (AllI.of_B (by decide +kernel))) L1.out (q := 3) ⟨by omega, by omega⟩ O1.out).mono ?_
  rintro e w1 ⟨⟨a1, c1, rfl, R1⟩, hw1⟩
  go_wp2_with fail
  refine (fifo_Out_is (R1.below (by (repeat (first | assumption | exact Below.refl _ _ | refine ballc ?_ _ | refine bdrew ?_ | refine bdrewN ?_ _ | refine bset ?_ _ _ | refine bsetN ?_ (by omega) _ _ | refine bthen ?_ (by assumption))))) L2.out (q := 2) ⟨by omega, by omega⟩ O2.out).mono ?_
  rintro e w2 ⟨⟨a2, c2, rfl, R2⟩, hw2⟩
  obtain ⟨⟨r0, r1, r2, z0, z1, z2⟩, hl1, hl2, hl3, hl4⟩ := res3 hw2
  go_wp2_with fail
  refine (fifo_Total a1 c1 [⟨1, 15, 0⟩] _ (R1.below (by (repeat (first | assumption | exact Below.refl _ _ | refine ballc ?_ _ | refine bdrew ?_ | refine bdrewN ?_ _ | refine bset ?_ _ _ | refine bsetN ?_ (by omega) _ _ | refine bthen ?_ (by assumption))))) (by decide)).mono ?_
  rw [T1.out, T2.out]
  rintro e w3 ⟨rfl, hw3⟩
  obtain ⟨⟨s0, s1, s2, t0, t1, t2⟩, hm1, hm2, hm3, hm4⟩ := Cell3.next (w := w2.alloc (.cells #[.int .i64 0, .int .i64 0, .int .i64 0] 24)) (b := w1.heap.size) (x := 3) (y := 25) (z := 0) ⟨by go_simp, by go_simp, by go_simp, by go_simp, by go_simp, by go_simp⟩ (by simp; omega) hw3
  have R3 := R1.below (show Below w1.heap.size w1 w3 by (repeat (first | assumption | exact Below.refl _ _ | refine ballc ?_ _ | refine bdrew ?_ | refine bdrewN ?_ _ | refine bset ?_ _ _ | refine bsetN ?_ (by omega) _ _ | refine bthen ?_ (by assumption))))
  have hbel : Below w.heap.size w w3 := by (repeat (first | assumption | exact Below.refl _ _ | refine ballc ?_ _ | refine bdrew ?_ | refine bdrewN ?_ _ | refine bset ?_ _ _ | refine bsetN ?_ (by omega) _ _ | refine bthen ?_ (by assumption)))
  obtain ⟨b, off, rfl, hb, hc⟩ := R3.at_.resolve_left (by decide)
  have hcv := hc 1 (by decide)
  have hcv : w3.cell? ⟨b, off + 1, none⟩ = some (.int .i64 15) := hcv
  have hbn : b ≠ w3.heap.size := by omega
  clear r0 r1 r2 z0 z1 z2 hl1 hl2 hl3 hl4 hw1 hw2 hw3 R2 hc hm2 hm3 hm4 R1
  go_wp2_with fail
  refine (fifo_Right _ c1 [⟨1, 15, 0⟩] _ (R3.below (by (repeat (first | assumption | exact Below.refl _ _ | refine ballc ?_ _ | refine bdrew ?_ | refine bdrewN ?_ _ | refine bset ?_ _ _ | refine bsetN ?_ (by omega) _ _ | refine bthen ?_ (by assumption))))) (by decide)).mono ?_
  rw [T3.out]
  rintro e w4 ⟨rfl, hw4⟩
  go_wp2_with fail
  go_ret
  exact ⟨rfl, by (repeat (first | assumption | exact Below.refl _ _ | refine ballc ?_ _ | refine bdrew ?_ | refine bdrewN ?_ _ | refine bset ?_ _ _ | refine bsetN ?_ (by omega) _ _ | refine bthen ?_ (by assumption)))⟩

theorem place_bd {v n : Int} (hn : 0 < n) : 0 ≤ v % n ∧ v % n < n := ⟨Int.emod_nonneg _ (by omega), Int.emod_lt_of_pos _ hn⟩

set_option maxRecDepth 20000 in
set_option maxHeartbeats 1000000 in
theorem FifoOne_walk (q v p : Int) (w : World) (hq : I64 q) (hv : I64 v) (hp : I64 p) :
    Calls Try.prog 3 #[.int .i64 q, .int .i64 v, .int .i64 p] w fun e w' => e = .returned (.bool true) ∧ Below w.heap.size w w' := by
  have b1 := place_bd (v := q) (n := 40) (by omega)
  have b2 := place_bd (v := v) (n := 10000) (by omega)
  have b3 := place_bd (v := p) (n := 2000) (by omega)
  have S0 := one_start (n := 1 + q % 40) (w := v % 10000) (r := p % 2000 - 1000) (by omega) b2.1 (by omega) (by omega)
  have k0 : 0 ≤ (v % 10000) / (1 + q % 40) := Int.ediv_nonneg b2.1 (by omega)
  have k1 : (v % 10000) / (1 + q % 40) ≤ 10000 := by have := Int.ediv_le_self (1 + q % 40) b2.1; omega
  have S0 := Lib.hid S0
  go_enter Try.func3, Try.ntmps3
  go_wp2_with (first | (go_at_call 8; refine (Place_calls _ _ _ (by omega) (by omega)).mono ?_; rintro e w' ⟨rfl, rfl⟩))
  have n0 : 1 ≤ 1 + q % 40 := by omega
  have n1 : 1 + q % 40 ≤ 40 := by omega
  have r0 : -1000 ≤ p % 2000 - 1000 := by omega
  have r1 : p % 2000 - 1000 ≤ 1000 := by omega
  obtain ⟨w0, w1⟩ := b2
  have R0 := Row.new w 3 1 [1 + q % 40, v % 10000, p % 2000 - 1000] 24 rfl (by decide) (fun z hz => by simp at hz; rcases hz with rfl | rfl | rfl <;> exact ⟨by omega, by omega⟩)
  simp only [List.map_cons, List.map_nil] at R0
  clear b1 b3 hq hv hp
  generalize 1 + q % 40 = n at *
  generalize v % 10000 = W at *
  generalize p % 2000 - 1000 = r at *
  go_loopw [10, 11, 12, 13] (fun l a b i wr => ∃ (j : Nat) (m : List Lay) (ad : Option Addr) (cap : Nat) (A B : Int), (j : Int) ≤ n ∧ i = .int .i64 j ∧ l = .slice ad m.length cap ∧ Row wr 3 ad m.length cap (flat m) ∧ a = .int .i64 A ∧ b = .int .i64 B ∧ OneSt n (W / n) W r j m A B ∧ Below w.heap.size w wr) (fun _ _ _ i _ => n.toNat - (intOf i).toNat)
  case atStart => exact ⟨0, [⟨n, W, r⟩], _, 1, 0, 0, by omega, rfl, rfl, R0, rfl, rfl, S0.out, by (repeat (first | assumption | exact Below.refl _ _ | refine ballc ?_ _ | refine bdrew ?_ | refine bdrewN ?_ _ | refine bset ?_ _ _ | refine bsetN ?_ (by omega) _ _ | refine bthen ?_ (by assumption)))⟩
  case round =>
    obtain ⟨j, m, ad, cap, A, B, hj, rfl, rfl, R, rfl, rfl, hst, hbel⟩ := hrel
    have hL := one_LR hst n1 (by omega)
    have hbd := one_bd hst ⟨r0, r1⟩ w0 (by omega)
    by_cases hlt : (j : Int) < n
    · obtain ⟨m', y, e', hO⟩ : ∃ m' y e', outS m 1 = (m', y, e') := ⟨_, _, _, rfl⟩
      have hN := one_step hst hlt k0 n1 (by omega)
      obtain ⟨he, hyq, hv0, hv1, hst', hp0, hp1⟩ := hN
      rw [hO] at he hyq hv0 hv1 hst' hp0 hp1
      obtain ⟨yq, yv, yp⟩ := y
      simp only at he hyq hv0 hv1 hst' hp0 hp1
      subst he
      subst hyq
      have hO := Lib.hid hO
      have hst' := Lib.hid hst'
      clear hst S0
      go_wp2_with fail
      refine (fifo_Out_is R hL (q := 1) ⟨by omega, by omega⟩ hO.out).mono ?_
      rintro e w1 ⟨⟨a1, c1, rfl, R1⟩, hw1⟩
      go_wp2_with fail
      have hd1 : decide (yv < W / n) = false := by simp; omega
      have hd2 : decide (W / n + 1 < yv) = false := by simp; omega
      have hn0 : ¬ n = 0 := by omega
      have hbel1 : Below w.heap.size w (w1.alloc (.cells #[.int .i64 1, .int .i64 yv, .int .i64 yp] 24)) := by (repeat (first | assumption | exact Below.refl _ _ | refine ballc ?_ _ | refine bdrew ?_ | refine bdrewN ?_ _ | refine bset ?_ _ _ | refine bsetN ?_ (by omega) _ _ | refine bthen ?_ (by assumption)))
      have R2 := R1.below (show Below w1.heap.size w1 (w1.alloc (.cells #[.int .i64 1, .int .i64 yv, .int .i64 yp] 24)) by (repeat (first | assumption | exact Below.refl _ _ | refine ballc ?_ _ | refine bdrew ?_ | refine bdrewN ?_ _ | refine bset ?_ _ _ | refine bsetN ?_ (by omega) _ _ | refine bthen ?_ (by assumption))))
      have c0 : (w1.alloc (.cells #[.int .i64 1, .int .i64 yv, .int .i64 yp] 24)).cell? ⟨w1.heap.size, 0, none⟩ = some (.int .i64 1) := by simp
      have c1' : (w1.alloc (.cells #[.int .i64 1, .int .i64 yv, .int .i64 yp] 24)).cell? ⟨w1.heap.size, 1, none⟩ = some (.int .i64 yv) := by simp
      have c2 : (w1.alloc (.cells #[.int .i64 1, .int .i64 yv, .int .i64 yp] 24)).cell? ⟨w1.heap.size, 2, none⟩ = some (.int .i64 yp) := by simp
      clear hw1 R1 hbel R R0
      generalize w1.alloc (.cells #[.int .i64 1, .int .i64 yv, .int .i64 yp] 24) = w2 at *
      go_quiet (fail)
      change (w2.drewN nq).cell? _ = _ at c0 c1' c2
      replace hbel1 := bdrewN hbel1 nq
      replace R2 := R2.below (bdrewN (Below.refl _ _) nq)
      generalize w2.drewN nq = w3 at *
      have e1 : IntKind.i64.wrap (A + yv) = A + yv := IntWalk.i64_in _ (by omega)
      have e2 : IntKind.i64.wrap (B + yp) = B + yp := IntWalk.i64_in _ (by omega)
      clear hd1 hd2
      go_wp2_with fail
      go_quiet (fail)
      replace R2 := R2.below (bdrewN (Below.refl _ _) nq)
      replace hbel1 := bdrewN hbel1 nq
      clear e1 e2
      go_wp2_with fail
      case' roundEnd =>
        refine ⟨⟨j + 1, m', a1, c1, A + yv, B + yp, by omega, by simp, rfl, R2, rfl, rfl, hst'.out, hbel1⟩, ?_⟩
        simp [intOf]
        omega
    · obtain ⟨rfl, rfl, rfl⟩ := one_end hst hlt
      have hO := Lib.hid (show outS [] 1 = ([], .zero, 5) by decide +kernel)
      clear hst S0 R0
      go_wp2_with fail
      refine (fifo_Out_is (l := []) R LR.nil (q := 1) ⟨by omega, by omega⟩ hO.out).mono ?_
      rintro e w1 ⟨⟨a1, c1, rfl, R1⟩, hw1⟩
      go_wp2_with (first | (go_at_call 10; refine (fifo_awake _).mono ?_; rintro e w' ⟨rfl, hwa⟩))
      go_ret
      exact ⟨rfl, by (repeat (first | assumption | exact Below.refl _ _ | refine ballc ?_ _ | refine bdrew ?_ | refine bdrewN ?_ _ | refine bset ?_ _ _ | refine bsetN ?_ (by omega) _ _ | refine bthen ?_ (by assumption)))⟩
end Go.Proofs.Ytmipgkgcdacokaa
