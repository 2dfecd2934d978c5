/-
  The document's Swing, Right, Same.
-/
import Derived.Test.YtgahhifedgmicaaFifo5
import Derived.IntWalk
set_option linter.unusedVariables false
set_option linter.unusedSimpArgs false
namespace Go.Proofs.Ytgahhifedgmicaa
open Go.RowKit

set_option maxHeartbeats 1000000 in
theorem ref_Swing (a : Option Addr) (cap : Nat) (l : List Lay) (w : World) (h : Row w 3 a l.length cap (flat l)) (hok : l.all layOk = true) :
    Calls Try.prog 24 #[.slice a l.length cap] w fun e w' => e = .returned (.tuple #[.int .i64 (sumV (l.map swing)), .int .i64 (sumE (l.map swing))]) ∧ Below w.heap.size w w' := by
  obtain ⟨hl, hcap, hmax, hall, hat⟩ := h
  unfold maxLen at hmax
  go_enter Try.func24, Try.ntmps24
  go_wp2
  go_loopw [4, 5] (fun n i wr => ∃ (j : Nat) (q : Int), j ≤ l.length ∧ i = .int .i64 j ∧ n = .int .i64 q ∧ sumGo 0 ((l.map swing).take j) = some q ∧ Below w.heap.size w wr) (fun _ i _ => l.length - (intOf i).toNat)
  case atStart => exact ⟨0, 0, by omega, rfl, rfl, rfl, by (repeat (first | assumption | exact Below.refl _ _ | refine ballc ?_ _ | refine bdrew ?_ | refine bdrewN ?_ _ | refine bset ?_ _ _ | refine bsetN ?_ (by omega) _ _ | refine bthen ?_ (by assumption)))⟩
  case round =>
    obtain ⟨j, q, hj, rfl, rfl, s1, hbel⟩ := hrel
    have hsz := hbel.size
    by_cases hlt : j < l.length
    · obtain ⟨b, off, rfl, hb, hc⟩ : ∃ b off, a = some ⟨b, off, none⟩ ∧ b < w.heap.size ∧ CellsAt w b off (flat l) := by
        rcases hat with h0 | h0
        · omega
        · exact h0
      obtain ⟨x, hx⟩ : ∃ x, l[j]? = some x := ⟨l[j], by simp [hlt]⟩
      obtain ⟨c0, c1, c2⟩ := lay_cells hc hx hb hbel
      have hlt' : (j : Int) < (l.length : Int) := by omega
      have t1 := sumGo_lay (f := swing) hx s1
      obtain ⟨-, -, -, -, kp1, kp2⟩ := layOk_iff.1 (all_at hok hx)
      have wr1 : IntKind.i64.wrap (-x.p) = -x.p := IntWalk.i64_in _ (by omega)
      have hx := Lib.hid hx
      clear hc hat s1 hok
      have t1 := Lib.hid t1
      go_wp2_with fail
      go_quiet ((go_at_call 27; refine Calls.quiet_of_same (ref_AddQ _ (swing x) _)))
      change (wr.drewN nq).cell? _ = _ at c0 c1 c2
      change _ ≤ (wr.drewN nq).heap.size at hsz
      replace hbel := bdrewN hbel nq
      generalize wr.drewN nq = wr at *
      clear wr1
      have kp3 : ¬ x.p < -288230376151711744 := by omega
      cases k1 : addOk q (swing x)
      · have k5 := addV_of_not k1
        go_wp2_with fail
        have hb : sumE (l.map swing) = 2 := bad_of (by have := t1.out; rw [this, k1]; rfl)
        have hb2 : sumV (l.map swing) = 0 := by
          have : sumGo 0 (l.map swing) = none := sumGo_none (by have := t1.out; rw [this, k1]; rfl)
          simp [sumV, this]
        go_ret2
        exact ⟨by rw [hb, hb2]; rfl, by (repeat (first | assumption | exact Below.refl _ _ | refine ballc ?_ _ | refine bdrew ?_ | refine bdrewN ?_ _ | refine bset ?_ _ _ | refine bsetN ?_ (by omega) _ _ | refine bthen ?_ (by assumption)))⟩
      · have m1 := addV_of k1
        go_wp2_with fail
        case' roundEnd =>
          have t1 := t1.out
          rw [k1] at t1
          refine ⟨⟨j + 1, q + swing x, hlt, by simp, by rw [m1.1], t1, by (repeat (first | assumption | exact Below.refl _ _ | refine ballc ?_ _ | refine bdrew ?_ | refine bdrewN ?_ _ | refine bset ?_ _ _ | refine bsetN ?_ (by omega) _ _ | refine bthen ?_ (by assumption)))⟩, ?_⟩
          simp [intOf]
          omega
    · have ej : j = l.length := by omega
      subst ej
      have hge : ¬ ((l.length : Int) < (l.length : Int)) := by omega
      have e1 : sumGo 0 (l.map swing) = some q := by rw [← s1, List.take_of_length_le (by simp)]
      have e2 : sumV (l.map swing) = q := by simp [sumV, e1]
      have e3 : sumE (l.map swing) = 0 := by simp [sumE, e1]
      clear s1 e1
      go_wp2_with fail
      go_ret2
      exact ⟨by first | rfl | rw [e2, e3], by (repeat (first | assumption | exact Below.refl _ _ | refine ballc ?_ _ | refine bdrew ?_ | refine bdrewN ?_ _ | refine bset ?_ _ _ | refine bsetN ?_ (by omega) _ _ | refine bthen ?_ (by assumption)))⟩

theorem right_no {l : List Lay} {j : Nat} {x : Lay} (hx : l[j]? = some x) (h : layOk x = false) : rightL l = false := by
  have : l.all layOk = false := List.all_eq_false.2 ⟨x, List.mem_of_getElem? hx, by simp [h]⟩
  simp [rightL, this]
theorem rightL_iff {l : List Lay} : rightL l = true ↔ (l.length : Int) ≤ 30 ∧ l.all layOk = true ∧ totE l = 0 ∧ sumE (l.map swing) = 0 := by
  have k : totOk l = decide (totE l = 0) := by unfold totE; split <;> simp_all
  have k2 : (l.length ≤ 30) ↔ (l.length : Int) ≤ 30 := by omega
  simp only [rightL, k, Bool.and_eq_true, decide_eq_true_eq, k2, and_assoc]
theorem inB_p (x : Lay) : inB x.p = (decide (-288230376151711744 ≤ x.p) && decide (x.p ≤ 288230376151711744)) := rfl

set_option maxHeartbeats 1000000 in
theorem ref_Right9 (a : Option Addr) (cap : Nat) (l : List Lay) (w : World) (h : Row w 3 a l.length cap (flat l)) (hn : l.length ≤ 1000) :
    Calls Try.prog 9 #[.slice a l.length cap] w fun e w' => e = .returned (.bool (rightL l)) ∧ Below w.heap.size w w' := by
  have h0 := h
  obtain ⟨hl, hcap, hmax, hall, hat⟩ := h
  unfold maxLen at hmax
  go_enter Try.func9, Try.ntmps9
  try simp only [List.append_eq, List.cons_append, List.nil_append]
  go_wp2
  go_loopw [3] (fun i wr => ∃ (j : Nat), j ≤ l.length ∧ i = .int .i64 j ∧ (l.take j).all layOk = true ∧ Below w.heap.size w wr) (fun i _ => l.length - (intOf i).toNat)
  case atStart => exact ⟨0, by omega, rfl, rfl, by (repeat (first | assumption | exact Below.refl _ _ | refine ballc ?_ _ | refine bdrew ?_ | refine bdrewN ?_ _ | refine bset ?_ _ _ | refine bsetN ?_ (by omega) _ _ | refine bthen ?_ (by assumption)))⟩
  case round =>
    obtain ⟨j, hj, rfl, T, hbel⟩ := hrel
    have hsz := hbel.size
    by_cases hlt : j < l.length
    · obtain ⟨b, off, rfl, hb, hc⟩ : ∃ b off, a = some ⟨b, off, none⟩ ∧ b < w.heap.size ∧ CellsAt w b off (flat l) := by
        rcases hat with h0 | h0
        · omega
        · exact h0
      obtain ⟨x, hx⟩ : ∃ x, l[j]? = some x := ⟨l[j], by simp [hlt]⟩
      obtain ⟨c0, c1, c2⟩ := lay_cells hc hx hb hbel
      have hlt' : (j : Int) < (l.length : Int) := by omega
      have hx := Lib.hid hx
      clear hc hat
      go_wp2_with (first | (go_at_call 23; refine (ref_In _ _).mono ?_; rintro e w' ⟨rfl, rfl⟩))
      case' roundEnd =>
        have hno : layOk x = true := by
          rw [layOk_iff]
          simp_all [inB]
          try omega
        have hx : l[j]? = some x := hx
        refine ⟨⟨j + 1, hlt, by simp, by rw [all_take hx, T, hno]; rfl, by (repeat (first | assumption | exact Below.refl _ _ | refine ballc ?_ _ | refine bdrew ?_ | refine bdrewN ?_ _ | refine bset ?_ _ _ | refine bsetN ?_ (by omega) _ _ | refine bthen ?_ (by assumption)))⟩, ?_⟩
        simp [intOf]
        omega
      all_goals
        have hno : layOk x = false := by
          cases hh : layOk x
          · rfl
          · exfalso
            rw [layOk_iff] at hh
            simp_all [inB]
            try omega
        have hx : l[j]? = some x := hx
        go_ret
        exact ⟨ret_bool (by rw [right_no hx hno]), by (repeat (first | assumption | exact Below.refl _ _ | refine ballc ?_ _ | refine bdrew ?_ | refine bdrewN ?_ _ | refine bset ?_ _ _ | refine bsetN ?_ (by omega) _ _ | refine bthen ?_ (by assumption)))⟩
    · have ej : j = l.length := by omega
      subst ej
      have hge : ¬ ((l.length : Int) < (l.length : Int)) := by omega
      rw [List.take_length] at T
      have hs := fun w h => ref_Swing a cap l w h T
      go_wp2_with (first | (go_at_call 18; refine (ref_Total9 a cap l _ (h0.below (by (repeat (first | assumption | exact Below.refl _ _ | refine ballc ?_ _ | refine bdrew ?_ | refine bdrewN ?_ _ | refine bset ?_ _ _ | refine bsetN ?_ (by omega) _ _ | refine bthen ?_ (by assumption)))))).mono ?_; rintro e w' ⟨rfl, hw1⟩) | (go_at_call 24; refine (hs _ (h0.below (by (repeat (first | assumption | exact Below.refl _ _ | refine ballc ?_ _ | refine bdrew ?_ | refine bdrewN ?_ _ | refine bset ?_ _ _ | refine bsetN ?_ (by omega) _ _ | refine bthen ?_ (by assumption)))))).mono ?_; rintro e w' ⟨rfl, hw2⟩))
      all_goals (go_ret; refine ⟨ret_bool ?_, by (repeat (first | assumption | exact Below.refl _ _ | refine ballc ?_ _ | refine bdrew ?_ | refine bdrewN ?_ _ | refine bset ?_ _ _ | refine bsetN ?_ (by omega) _ _ | refine bthen ?_ (by assumption)))⟩; rw [Bool.eq_iff_iff, rightL_iff]; simp_all <;> omega)
end Go.Proofs.Ytgahhifedgmicaa
