/-
  As many layers as may be, and one more: the walk.
-/
import Derived.Test.YtmipgkgcdacokaaFifoLaw1
set_option linter.unusedVariables false
set_option linter.unusedSimpArgs false
namespace Go.Proofs.Ytmipgkgcdacokaa
open Go.RowKit

/-- The same, the result told. -/
theorem fifo_In_is {a : Option Addr} {cap : Nat} {l : List Lay} {x : Lay} {w : World} (h : Row w 3 a l.length cap (flat l)) (hn : l.length ≤ 900) (hx : AllI [x.q, x.v, x.p]) {m : List Lay} {e' : Int} (hI : inS l x = (m, e')) :
    Calls Try.prog 13 #[.slice a l.length cap, x.val] w fun e w' => (∃ a' cap', e = .returned (.tuple #[.slice a' m.length cap', .int .i64 e']) ∧ Row w' 3 a' m.length cap' (flat m)) ∧ Below w.heap.size w w' := by
  refine (fifo_In a cap l x w h hn hx).mono ?_
  rintro e w' ⟨v, rfl, hh, hb⟩
  have hm : AllI (flat m) := by
    have e1 : (inS l x).1 = m := by rw [hI]
    rw [← e1]
    unfold inS
    split
    · exact h.all
    · split
      · exact h.all
      · split
        · exact AllI.snoc h.all hx
        · exact h.all
  rw [hI] at hh ⊢
  obtain ⟨a', cap', rfl, R⟩ := hh.row hm
  exact ⟨⟨a', cap', rfl, R⟩, hb⟩

def boundL (i : Nat) : List Lay := (List.range (min i 30)).map fun (j : Nat) => ⟨1, (j : Int), 0⟩
theorem bound_len (i : Nat) : (boundL i).length = min i 30 := by simp [boundL]
theorem bound_in : ∀ j, j < 33 → inS (boundL j) ⟨1, j, 0⟩ = (boundL (j + 1), if j < 30 then 0 else 6) := by decide +kernel
theorem bound_right : ∀ j, j < 33 → rightL (boundL j) = true := by decide +kernel

set_option maxRecDepth 20000 in
set_option maxHeartbeats 2000000 in
theorem FifoBounds_walk (n how : Int) (w : World) (hn : I64 n) (hh : I64 how) :
    Calls Try.prog 7 #[.int .i64 n, .int .i64 how] w fun e w' => e = .returned (.bool true) ∧ Below w.heap.size w w' := by
  obtain ⟨K, hK⟩ := Int.eq_ofNat_of_zero_le (place_bd (v := n) (n := 33) (by omega)).1
  have hK1 : K < 33 := by have := (place_bd (v := n) (n := 33) (by omega)).2; omega
  have b2 := place_bd (v := how) (n := 6) (by omega)
  go_enter Try.func7, Try.ntmps7
  go_wp2_with (first | (go_at_call 8; refine (Place_calls _ _ _ (by omega) (by omega)).mono ?_; rintro e w' ⟨rfl, rfl⟩))
  clear hK
  go_loopw [6, 7] (fun v i wr => ∃ (j : Nat) (a : Option Addr) (cap : Nat), j ≤ K ∧ i = .int .i64 j ∧ v = .slice a (boundL j).length cap ∧ Row wr 3 a (boundL j).length cap (flat (boundL j)) ∧ Below w.heap.size w wr) (fun _ i _ => K - (intOf i).toNat)
  case atStart => exact ⟨0, none, 0, by omega, rfl, rfl, show Row _ 3 none 0 0 [] from Row.nil _ _, by (repeat (first | assumption | exact Below.refl _ _ | refine ballc ?_ _ | refine bdrew ?_ | refine bdrewN ?_ _ | refine bset ?_ _ _ | refine bsetN ?_ (by omega) _ _ | refine bthen ?_ (by assumption)))⟩
  case round =>
    obtain ⟨j, a, cap, hj, rfl, rfl, R, hbel⟩ := hrel
    have hl := bound_len j
    have hl9 : (boundL j).length ≤ 900 := by omega
    have hlh := Lib.hid hl
    clear hl
    by_cases hlt : j < K
    · have hI := bound_in j (by omega)
      have hx : AllI [(⟨1, j, 0⟩ : Lay).q, (⟨1, j, 0⟩ : Lay).v, (⟨1, j, 0⟩ : Lay).p] := by intro z hz; simp at hz; rcases hz with rfl | rfl | rfl <;> exact ⟨by omega, by omega⟩
      by_cases h30 : j < 30
      all_goals
        have h31 := h30
        simp only [h30, if_true, if_false] at hI
        have hIh := Lib.hid hI
        clear hI
        have hlt' : (j : Int) < (K : Int) := by omega
        first
          | (have hd : decide ((j : Int) < 30) = true := by simp; omega)
          | (have hd : decide ((j : Int) < 30) = false := by simp; omega)
        go_wp2_with fail
        refine (fifo_In_is R hl9 hx hIh.out).mono ?_
        rintro e w1 ⟨⟨a1, c1, rfl, R1⟩, hw1⟩
        go_wp2_with fail
        case' roundEnd =>
          refine ⟨⟨j + 1, a1, c1, hlt, by simp, rfl, R1, by (repeat (first | assumption | exact Below.refl _ _ | refine ballc ?_ _ | refine bdrew ?_ | refine bdrewN ?_ _ | refine bset ?_ _ _ | refine bsetN ?_ (by omega) _ _ | refine bthen ?_ (by assumption)))⟩, ?_⟩
          simp [intOf]
          omega
    · have ej : j = K := by omega
      subst ej
      have hge : ¬ (j : Int) < (j : Int) := by omega
      have hr := Lib.hid (bound_right j hK1)
      rcases (by omega : how % 6 = 0 ∨ how % 6 = 1 ∨ how % 6 = 2 ∨ how % 6 = 3 ∨ how % 6 = 4 ∨ how % 6 = 5) with h6 | h6 | h6 | h6 | h6 | h6
      · clear b2
        have ik : ∀ w, (Instr.index 42 (.agg #[.int .i64 (0), .int .i64 (5), .int .i64 (0), .int .i64 (-1), .int .i64 (0), .int .i64 (0), .int .i64 (1), .int .i64 (-1), .int .i64 (0), .int .i64 (1), .int .i64 (288230376151711745), .int .i64 (0), .int .i64 (288230376151711745), .int .i64 (0), .int .i64 (0), .int .i64 (1), .int .i64 (0), .int .i64 (-288230376151711745)]) (.int .i64 0)).run Try.prog w = .ok (.agg #[.int .i64 (0), .int .i64 (5), .int .i64 (0)]) w := fun _ => by kernel_rfl
        have hI := Lib.hid (show inS [] ⟨0, 5, 0⟩ = ([], 1) by decide +kernel)
        have hR := Lib.hid (show rightL [⟨0, 5, 0⟩] = false by decide +kernel)
        go_wp2_with (first | (go_at_call 8; refine (Place_calls _ _ _ (by omega) (by omega)).mono ?_; rintro e w' ⟨rfl, rfl⟩))
        clear ik
        refine (fifo_In_is (l := []) (x := ⟨0, 5, 0⟩) (w := _) (Row.nil _ _) (by decide) (AllI.of_B (by decide +kernel)) hI.out).mono ?_
        rintro e w1 ⟨⟨a1, c1, rfl, R1⟩, hw1⟩
        obtain ⟨⟨r0, r1, r2, z0, z1, z2⟩, hl1, hl2, hl3, hl4⟩ := res3 hw1
        have R2 := R.below (show Below wr.heap.size wr w1 by (repeat (first | assumption | exact Below.refl _ _ | refine ballc ?_ _ | refine bdrew ?_ | refine bdrewN ?_ _ | refine bset ?_ _ _ | refine bsetN ?_ (by omega) _ _ | refine bthen ?_ (by assumption))))
        have hbel1 : Below w.heap.size w w1 := by (repeat (first | assumption | exact Below.refl _ _ | refine ballc ?_ _ | refine bdrew ?_ | refine bdrewN ?_ _ | refine bset ?_ _ _ | refine bsetN ?_ (by omega) _ _ | refine bthen ?_ (by assumption)))
        have hlc : ((boundL j).length : Int) = min (j : Int) 30 := by have := hlh.out; omega
        clear hw1 R1 R hbel
        go_wp2_with fail
        refine (fifo_Right a cap (boundL j) _ (R2.below (by (repeat (first | assumption | exact Below.refl _ _ | refine ballc ?_ _ | refine bdrew ?_ | refine bdrewN ?_ _ | refine bset ?_ _ _ | refine bsetN ?_ (by omega) _ _ | refine bthen ?_ (by assumption))))) (by omega)).mono ?_
        rw [hr.out]
        rintro e w2 ⟨rfl, hw2⟩
        obtain ⟨⟨s0, s1, s2, t0, t1, t2⟩, hm1, hm2, hm3, hm4⟩ := Cell3.next ⟨r0, r1, r2, z0, z1, z2⟩ hl1 hw2
        clear r0 r1 r2 z0 z1 z2 hlc
        go_wp2_with fail
        refine (fifo_Right _ _ [⟨0, 5, 0⟩] _ (Row.new _ 3 1 [0, 5, 0] _ rfl (by decide) (AllI.of_B (by decide +kernel))) (by decide)).mono ?_
        rw [hR.out]
        rintro e w3 ⟨rfl, hw3⟩
        go_wp2_with (first | (go_at_call 10; refine (fifo_awake _).mono ?_; rintro e w' ⟨rfl, hwa⟩))
        go_ret
        exact ⟨rfl, by (repeat (first | assumption | exact Below.refl _ _ | refine ballc ?_ _ | refine bdrew ?_ | refine bdrewN ?_ _ | refine bset ?_ _ _ | refine bsetN ?_ (by omega) _ _ | refine bthen ?_ (by assumption)))⟩
      · clear b2
        have ik : ∀ w, (Instr.index 42 (.agg #[.int .i64 (0), .int .i64 (5), .int .i64 (0), .int .i64 (-1), .int .i64 (0), .int .i64 (0), .int .i64 (1), .int .i64 (-1), .int .i64 (0), .int .i64 (1), .int .i64 (288230376151711745), .int .i64 (0), .int .i64 (288230376151711745), .int .i64 (0), .int .i64 (0), .int .i64 (1), .int .i64 (0), .int .i64 (-288230376151711745)]) (.int .i64 1)).run Try.prog w = .ok (.agg #[.int .i64 (-1), .int .i64 (0), .int .i64 (0)]) w := fun _ => by kernel_rfl
        have hI := Lib.hid (show inS [] ⟨-1, 0, 0⟩ = ([], 1) by decide +kernel)
        have hR := Lib.hid (show rightL [⟨-1, 0, 0⟩] = false by decide +kernel)
        go_wp2_with (first | (go_at_call 8; refine (Place_calls _ _ _ (by omega) (by omega)).mono ?_; rintro e w' ⟨rfl, rfl⟩))
        clear ik
        refine (fifo_In_is (l := []) (x := ⟨-1, 0, 0⟩) (w := _) (Row.nil _ _) (by decide) (AllI.of_B (by decide +kernel)) hI.out).mono ?_
        rintro e w1 ⟨⟨a1, c1, rfl, R1⟩, hw1⟩
        obtain ⟨⟨r0, r1, r2, z0, z1, z2⟩, hl1, hl2, hl3, hl4⟩ := res3 hw1
        have R2 := R.below (show Below wr.heap.size wr w1 by (repeat (first | assumption | exact Below.refl _ _ | refine ballc ?_ _ | refine bdrew ?_ | refine bdrewN ?_ _ | refine bset ?_ _ _ | refine bsetN ?_ (by omega) _ _ | refine bthen ?_ (by assumption))))
        have hbel1 : Below w.heap.size w w1 := by (repeat (first | assumption | exact Below.refl _ _ | refine ballc ?_ _ | refine bdrew ?_ | refine bdrewN ?_ _ | refine bset ?_ _ _ | refine bsetN ?_ (by omega) _ _ | refine bthen ?_ (by assumption)))
        have hlc : ((boundL j).length : Int) = min (j : Int) 30 := by have := hlh.out; omega
        clear hw1 R1 R hbel
        go_wp2_with fail
        refine (fifo_Right a cap (boundL j) _ (R2.below (by (repeat (first | assumption | exact Below.refl _ _ | refine ballc ?_ _ | refine bdrew ?_ | refine bdrewN ?_ _ | refine bset ?_ _ _ | refine bsetN ?_ (by omega) _ _ | refine bthen ?_ (by assumption))))) (by omega)).mono ?_
        rw [hr.out]
        rintro e w2 ⟨rfl, hw2⟩
        obtain ⟨⟨s0, s1, s2, t0, t1, t2⟩, hm1, hm2, hm3, hm4⟩ := Cell3.next ⟨r0, r1, r2, z0, z1, z2⟩ hl1 hw2
        clear r0 r1 r2 z0 z1 z2 hlc
        go_wp2_with fail
        refine (fifo_Right _ _ [⟨-1, 0, 0⟩] _ (Row.new _ 3 1 [-1, 0, 0] _ rfl (by decide) (AllI.of_B (by decide +kernel))) (by decide)).mono ?_
        rw [hR.out]
        rintro e w3 ⟨rfl, hw3⟩
        go_wp2_with (first | (go_at_call 10; refine (fifo_awake _).mono ?_; rintro e w' ⟨rfl, hwa⟩))
        go_ret
        exact ⟨rfl, by (repeat (first | assumption | exact Below.refl _ _ | refine ballc ?_ _ | refine bdrew ?_ | refine bdrewN ?_ _ | refine bset ?_ _ _ | refine bsetN ?_ (by omega) _ _ | refine bthen ?_ (by assumption)))⟩
      · clear b2
        have ik : ∀ w, (Instr.index 42 (.agg #[.int .i64 (0), .int .i64 (5), .int .i64 (0), .int .i64 (-1), .int .i64 (0), .int .i64 (0), .int .i64 (1), .int .i64 (-1), .int .i64 (0), .int .i64 (1), .int .i64 (288230376151711745), .int .i64 (0), .int .i64 (288230376151711745), .int .i64 (0), .int .i64 (0), .int .i64 (1), .int .i64 (0), .int .i64 (-288230376151711745)]) (.int .i64 2)).run Try.prog w = .ok (.agg #[.int .i64 (1), .int .i64 (-1), .int .i64 (0)]) w := fun _ => by kernel_rfl
        have hI := Lib.hid (show inS [] ⟨1, -1, 0⟩ = ([], 1) by decide +kernel)
        have hR := Lib.hid (show rightL [⟨1, -1, 0⟩] = false by decide +kernel)
        go_wp2_with (first | (go_at_call 8; refine (Place_calls _ _ _ (by omega) (by omega)).mono ?_; rintro e w' ⟨rfl, rfl⟩))
        clear ik
        refine (fifo_In_is (l := []) (x := ⟨1, -1, 0⟩) (w := _) (Row.nil _ _) (by decide) (AllI.of_B (by decide +kernel)) hI.out).mono ?_
        rintro e w1 ⟨⟨a1, c1, rfl, R1⟩, hw1⟩
        obtain ⟨⟨r0, r1, r2, z0, z1, z2⟩, hl1, hl2, hl3, hl4⟩ := res3 hw1
        have R2 := R.below (show Below wr.heap.size wr w1 by (repeat (first | assumption | exact Below.refl _ _ | refine ballc ?_ _ | refine bdrew ?_ | refine bdrewN ?_ _ | refine bset ?_ _ _ | refine bsetN ?_ (by omega) _ _ | refine bthen ?_ (by assumption))))
        have hbel1 : Below w.heap.size w w1 := by (repeat (first | assumption | exact Below.refl _ _ | refine ballc ?_ _ | refine bdrew ?_ | refine bdrewN ?_ _ | refine bset ?_ _ _ | refine bsetN ?_ (by omega) _ _ | refine bthen ?_ (by assumption)))
        have hlc : ((boundL j).length : Int) = min (j : Int) 30 := by have := hlh.out; omega
        clear hw1 R1 R hbel
        go_wp2_with fail
        refine (fifo_Right a cap (boundL j) _ (R2.below (by (repeat (first | assumption | exact Below.refl _ _ | refine ballc ?_ _ | refine bdrew ?_ | refine bdrewN ?_ _ | refine bset ?_ _ _ | refine bsetN ?_ (by omega) _ _ | refine bthen ?_ (by assumption))))) (by omega)).mono ?_
        rw [hr.out]
        rintro e w2 ⟨rfl, hw2⟩
        obtain ⟨⟨s0, s1, s2, t0, t1, t2⟩, hm1, hm2, hm3, hm4⟩ := Cell3.next ⟨r0, r1, r2, z0, z1, z2⟩ hl1 hw2
        clear r0 r1 r2 z0 z1 z2 hlc
        go_wp2_with fail
        refine (fifo_Right _ _ [⟨1, -1, 0⟩] _ (Row.new _ 3 1 [1, -1, 0] _ rfl (by decide) (AllI.of_B (by decide +kernel))) (by decide)).mono ?_
        rw [hR.out]
        rintro e w3 ⟨rfl, hw3⟩
        go_wp2_with (first | (go_at_call 10; refine (fifo_awake _).mono ?_; rintro e w' ⟨rfl, hwa⟩))
        go_ret
        exact ⟨rfl, by (repeat (first | assumption | exact Below.refl _ _ | refine ballc ?_ _ | refine bdrew ?_ | refine bdrewN ?_ _ | refine bset ?_ _ _ | refine bsetN ?_ (by omega) _ _ | refine bthen ?_ (by assumption)))⟩
      · clear b2
        have ik : ∀ w, (Instr.index 42 (.agg #[.int .i64 (0), .int .i64 (5), .int .i64 (0), .int .i64 (-1), .int .i64 (0), .int .i64 (0), .int .i64 (1), .int .i64 (-1), .int .i64 (0), .int .i64 (1), .int .i64 (288230376151711745), .int .i64 (0), .int .i64 (288230376151711745), .int .i64 (0), .int .i64 (0), .int .i64 (1), .int .i64 (0), .int .i64 (-288230376151711745)]) (.int .i64 3)).run Try.prog w = .ok (.agg #[.int .i64 (1), .int .i64 (288230376151711745), .int .i64 (0)]) w := fun _ => by kernel_rfl
        have hI := Lib.hid (show inS [] ⟨1, 288230376151711745, 0⟩ = ([], 2) by decide +kernel)
        have hR := Lib.hid (show rightL [⟨1, 288230376151711745, 0⟩] = false by decide +kernel)
        go_wp2_with (first | (go_at_call 8; refine (Place_calls _ _ _ (by omega) (by omega)).mono ?_; rintro e w' ⟨rfl, rfl⟩))
        clear ik
        refine (fifo_In_is (l := []) (x := ⟨1, 288230376151711745, 0⟩) (w := _) (Row.nil _ _) (by decide) (AllI.of_B (by decide +kernel)) hI.out).mono ?_
        rintro e w1 ⟨⟨a1, c1, rfl, R1⟩, hw1⟩
        obtain ⟨⟨r0, r1, r2, z0, z1, z2⟩, hl1, hl2, hl3, hl4⟩ := res3 hw1
        have R2 := R.below (show Below wr.heap.size wr w1 by (repeat (first | assumption | exact Below.refl _ _ | refine ballc ?_ _ | refine bdrew ?_ | refine bdrewN ?_ _ | refine bset ?_ _ _ | refine bsetN ?_ (by omega) _ _ | refine bthen ?_ (by assumption))))
        have hbel1 : Below w.heap.size w w1 := by (repeat (first | assumption | exact Below.refl _ _ | refine ballc ?_ _ | refine bdrew ?_ | refine bdrewN ?_ _ | refine bset ?_ _ _ | refine bsetN ?_ (by omega) _ _ | refine bthen ?_ (by assumption)))
        have hlc : ((boundL j).length : Int) = min (j : Int) 30 := by have := hlh.out; omega
        clear hw1 R1 R hbel
        go_wp2_with fail
        refine (fifo_Right a cap (boundL j) _ (R2.below (by (repeat (first | assumption | exact Below.refl _ _ | refine ballc ?_ _ | refine bdrew ?_ | refine bdrewN ?_ _ | refine bset ?_ _ _ | refine bsetN ?_ (by omega) _ _ | refine bthen ?_ (by assumption))))) (by omega)).mono ?_
        rw [hr.out]
        rintro e w2 ⟨rfl, hw2⟩
        obtain ⟨⟨s0, s1, s2, t0, t1, t2⟩, hm1, hm2, hm3, hm4⟩ := Cell3.next ⟨r0, r1, r2, z0, z1, z2⟩ hl1 hw2
        clear r0 r1 r2 z0 z1 z2 hlc
        go_wp2_with fail
        refine (fifo_Right _ _ [⟨1, 288230376151711745, 0⟩] _ (Row.new _ 3 1 [1, 288230376151711745, 0] _ rfl (by decide) (AllI.of_B (by decide +kernel))) (by decide)).mono ?_
        rw [hR.out]
        rintro e w3 ⟨rfl, hw3⟩
        go_wp2_with (first | (go_at_call 10; refine (fifo_awake _).mono ?_; rintro e w' ⟨rfl, hwa⟩))
        go_ret
        exact ⟨rfl, by (repeat (first | assumption | exact Below.refl _ _ | refine ballc ?_ _ | refine bdrew ?_ | refine bdrewN ?_ _ | refine bset ?_ _ _ | refine bsetN ?_ (by omega) _ _ | refine bthen ?_ (by assumption)))⟩
      · clear b2
        have ik : ∀ w, (Instr.index 42 (.agg #[.int .i64 (0), .int .i64 (5), .int .i64 (0), .int .i64 (-1), .int .i64 (0), .int .i64 (0), .int .i64 (1), .int .i64 (-1), .int .i64 (0), .int .i64 (1), .int .i64 (288230376151711745), .int .i64 (0), .int .i64 (288230376151711745), .int .i64 (0), .int .i64 (0), .int .i64 (1), .int .i64 (0), .int .i64 (-288230376151711745)]) (.int .i64 4)).run Try.prog w = .ok (.agg #[.int .i64 (288230376151711745), .int .i64 (0), .int .i64 (0)]) w := fun _ => by kernel_rfl
        have hI := Lib.hid (show inS [] ⟨288230376151711745, 0, 0⟩ = ([], 2) by decide +kernel)
        have hR := Lib.hid (show rightL [⟨288230376151711745, 0, 0⟩] = false by decide +kernel)
        go_wp2_with (first | (go_at_call 8; refine (Place_calls _ _ _ (by omega) (by omega)).mono ?_; rintro e w' ⟨rfl, rfl⟩))
        clear ik
        refine (fifo_In_is (l := []) (x := ⟨288230376151711745, 0, 0⟩) (w := _) (Row.nil _ _) (by decide) (AllI.of_B (by decide +kernel)) hI.out).mono ?_
        rintro e w1 ⟨⟨a1, c1, rfl, R1⟩, hw1⟩
        obtain ⟨⟨r0, r1, r2, z0, z1, z2⟩, hl1, hl2, hl3, hl4⟩ := res3 hw1
        have R2 := R.below (show Below wr.heap.size wr w1 by (repeat (first | assumption | exact Below.refl _ _ | refine ballc ?_ _ | refine bdrew ?_ | refine bdrewN ?_ _ | refine bset ?_ _ _ | refine bsetN ?_ (by omega) _ _ | refine bthen ?_ (by assumption))))
        have hbel1 : Below w.heap.size w w1 := by (repeat (first | assumption | exact Below.refl _ _ | refine ballc ?_ _ | refine bdrew ?_ | refine bdrewN ?_ _ | refine bset ?_ _ _ | refine bsetN ?_ (by omega) _ _ | refine bthen ?_ (by assumption)))
        have hlc : ((boundL j).length : Int) = min (j : Int) 30 := by have := hlh.out; omega
        clear hw1 R1 R hbel
        go_wp2_with fail
        refine (fifo_Right a cap (boundL j) _ (R2.below (by (repeat (first | assumption | exact Below.refl _ _ | refine ballc ?_ _ | refine bdrew ?_ | refine bdrewN ?_ _ | refine bset ?_ _ _ | refine bsetN ?_ (by omega) _ _ | refine bthen ?_ (by assumption))))) (by omega)).mono ?_
        rw [hr.out]
        rintro e w2 ⟨rfl, hw2⟩
        obtain ⟨⟨s0, s1, s2, t0, t1, t2⟩, hm1, hm2, hm3, hm4⟩ := Cell3.next ⟨r0, r1, r2, z0, z1, z2⟩ hl1 hw2
        clear r0 r1 r2 z0 z1 z2 hlc
        go_wp2_with fail
        refine (fifo_Right _ _ [⟨288230376151711745, 0, 0⟩] _ (Row.new _ 3 1 [288230376151711745, 0, 0] _ rfl (by decide) (AllI.of_B (by decide +kernel))) (by decide)).mono ?_
        rw [hR.out]
        rintro e w3 ⟨rfl, hw3⟩
        go_wp2_with (first | (go_at_call 10; refine (fifo_awake _).mono ?_; rintro e w' ⟨rfl, hwa⟩))
        go_ret
        exact ⟨rfl, by (repeat (first | assumption | exact Below.refl _ _ | refine ballc ?_ _ | refine bdrew ?_ | refine bdrewN ?_ _ | refine bset ?_ _ _ | refine bsetN ?_ (by omega) _ _ | refine bthen ?_ (by assumption)))⟩
      · clear b2
        have ik : ∀ w, (Instr.index 42 (.agg #[.int .i64 (0), .int .i64 (5), .int .i64 (0), .int .i64 (-1), .int .i64 (0), .int .i64 (0), .int .i64 (1), .int .i64 (-1), .int .i64 (0), .int .i64 (1), .int .i64 (288230376151711745), .int .i64 (0), .int .i64 (288230376151711745), .int .i64 (0), .int .i64 (0), .int .i64 (1), .int .i64 (0), .int .i64 (-288230376151711745)]) (.int .i64 5)).run Try.prog w = .ok (.agg #[.int .i64 (1), .int .i64 (0), .int .i64 (-288230376151711745)]) w := fun _ => by kernel_rfl
        have hI := Lib.hid (show inS [] ⟨1, 0, -288230376151711745⟩ = ([], 2) by decide +kernel)
        have hR := Lib.hid (show rightL [⟨1, 0, -288230376151711745⟩] = false by decide +kernel)
        go_wp2_with (first | (go_at_call 8; refine (Place_calls _ _ _ (by omega) (by omega)).mono ?_; rintro e w' ⟨rfl, rfl⟩))
        clear ik
        refine (fifo_In_is (l := []) (x := ⟨1, 0, -288230376151711745⟩) (w := _) (Row.nil _ _) (by decide) (AllI.of_B (by decide +kernel)) hI.out).mono ?_
        rintro e w1 ⟨⟨a1, c1, rfl, R1⟩, hw1⟩
        obtain ⟨⟨r0, r1, r2, z0, z1, z2⟩, hl1, hl2, hl3, hl4⟩ := res3 hw1
        have R2 := R.below (show Below wr.heap.size wr w1 by (repeat (first | assumption | exact Below.refl _ _ | refine ballc ?_ _ | refine bdrew ?_ | refine bdrewN ?_ _ | refine bset ?_ _ _ | refine bsetN ?_ (by omega) _ _ | refine bthen ?_ (by assumption))))
        have hbel1 : Below w.heap.size w w1 := by (repeat (first | assumption | exact Below.refl _ _ | refine ballc ?_ _ | refine bdrew ?_ | refine bdrewN ?_ _ | refine bset ?_ _ _ | refine bsetN ?_ (by omega) _ _ | refine bthen ?_ (by assumption)))
        have hlc : ((boundL j).length : Int) = min (j : Int) 30 := by have := hlh.out; omega
        clear hw1 R1 R hbel
        go_wp2_with fail
        refine (fifo_Right a cap (boundL j) _ (R2.below (by (repeat (first | assumption | exact Below.refl _ _ | refine ballc ?_ _ | refine bdrew ?_ | refine bdrewN ?_ _ | refine bset ?_ _ _ | refine bsetN ?_ (by omega) _ _ | refine bthen ?_ (by assumption))))) (by omega)).mono ?_
        rw [hr.out]
        rintro e w2 ⟨rfl, hw2⟩
        obtain ⟨⟨s0, s1, s2, t0, t1, t2⟩, hm1, hm2, hm3, hm4⟩ := Cell3.next ⟨r0, r1, r2, z0, z1, z2⟩ hl1 hw2
        clear r0 r1 r2 z0 z1 z2 hlc
        go_wp2_with fail
        refine (fifo_Right _ _ [⟨1, 0, -288230376151711745⟩] _ (Row.new _ 3 1 [1, 0, -288230376151711745] _ rfl (by decide) (AllI.of_B (by decide +kernel))) (by decide)).mono ?_
        rw [hR.out]
        rintro e w3 ⟨rfl, hw3⟩
        go_wp2_with (first | (go_at_call 10; refine (fifo_awake _).mono ?_; rintro e w' ⟨rfl, hwa⟩))
        go_ret
        exact ⟨rfl, by (repeat (first | assumption | exact Below.refl _ _ | refine ballc ?_ _ | refine bdrew ?_ | refine bdrewN ?_ _ | refine bset ?_ _ _ | refine bsetN ?_ (by omega) _ _ | refine bthen ?_ (by assumption)))⟩
end Go.Proofs.Ytmipgkgcdacokaa
