/-
  VoucherAll. Its walk.
-/
import Derived.Test.YtnkdbjmfpebcgaaVou12
import Derived.Test.YtnkdbjmfpebcgaaCopy
import Derived.Test.YtnkdbjmfpebcgaaOpenL
set_option linter.unusedVariables false
set_option linter.unusedSimpArgs false
namespace Go.Proofs.Ytnkdbjmfpebcgaa
open Go.RowKit

theorem plainS_I {l : List Lin} (h : AllI (flat2 l)) {m : List Lin} {e : Int} (hP : plainS l = (m, e)) : AllI (flat2 m) := by
  unfold plainS at hP
  split at hP
  · injection hP with h1 h2; subst h1; intro z hz; simp [flat2] at hz
  · split at hP
    · injection hP with h1 h2; subst h1; intro z hz; simp [flat2] at hz
    · injection hP with h1 h2
      subst h1
      refine flat2_of fun x hx => ?_
      obtain ⟨hx, -⟩ := List.mem_filter.1 hx
      obtain ⟨a, ha, rfl⟩ := List.mem_map.1 hx
      have := List.mem_range.1 ha
      have := sumV_in (accA l (a : Int))
      exact ⟨⟨by simp only; omega, by simp only; omega⟩, ⟨by simp only; omega, by simp only; omega⟩⟩

theorem same_self (a b : Option Addr) (c1 c2 : Nat) (xs : List Lin) (w : World) (h1 : Row w 2 a xs.length c1 (flat2 xs)) (h2 : Row w 2 b xs.length c2 (flat2 xs)) :
    Calls Try.prog 16 #[.slice a xs.length c1, .slice b xs.length c2] w fun e w' => e = .returned (.bool true) ∧ Below w.heap.size w w' := by
  have := same_lines a b c1 c2 xs xs w h1 h2
  rw [show decide (xs = xs) = true from decide_eq_true rfl] at this
  exact this

set_option maxRecDepth 20000 in
set_option maxHeartbeats 4000000 in
theorem VoucherAll_walk (a : Option Addr) (cap : Nat) (l : List Lin) (w : World) (h : Row w 2 a l.length cap (flat2 l)) :
    Calls Try.prog 4 #[.slice a l.length cap] w fun e w' => e = .returned (.bool true) ∧ Below w.heap.size w w' := by
  obtain ⟨n, hN⟩ : ∃ n, l.length = n := ⟨_, rfl⟩
  by_cases hn : 60 < n
  · rw [hN] at h ⊢
    clear hN
    have hnI : (60 : Int) < (n : Int) := by omega
    go_enter Try.func4, Try.ntmps4
    go_wp2_with (go_at_call 11; refine (vou_awake _).mono ?_; rintro e w' ⟨rfl, hwa⟩)
    go_ret
    exact ⟨rfl, by (repeat (first | assumption | exact Below.refl _ _ | refine ballc ?_ _ | refine bdrew ?_ | refine bdrewN ?_ _ | refine bset ?_ _ _ | refine bsetN ?_ (by omega) _ _ | refine bthen ?_ (by assumption)))⟩
  · have hnI : ¬ (60 : Int) < (n : Int) := by omega
    have hall := Lib.hid h.all
    obtain ⟨m, e', hP⟩ : ∃ m e', plainS l = (m, e') := ⟨(plainS l).1, (plainS l).2, rfl⟩
    have hmI := Lib.hid (plainS_I h.all hP)
    obtain ⟨t1, t2, hT⟩ : ∃ t1 t2, totL l = (t1, t2) := ⟨(totL l).1, (totL l).2, rfl⟩
    obtain ⟨r, hC⟩ : ∃ r, checkL l = r := ⟨_, rfl⟩
    have f1 := fun a cap W (h : Row W 2 a l.length cap (flat2 l)) => vou_Plain_is h (by omega) hP
    have f2 := fun a cap W (h : Row W 2 a l.length cap (flat2 l)) => refl_Plain a cap l W h (by omega)
    have f3 := fun a cap W (h : Row W 2 a l.length cap (flat2 l)) => vou_Total a cap l W h (by omega)
    have f4 := fun a cap W (h : Row W 2 a l.length cap (flat2 l)) => refl_Total a cap l W h (by omega)
    have f5 := fun a cap W (h : Row W 2 a l.length cap (flat2 l)) => vou_Check a cap l W h
    have f6 := fun a cap W (h : Row W 2 a l.length cap (flat2 l)) => refl_Check a cap l W h (by omega)
    have f7 := fun a cap W (h : Row W 2 a l.length cap (flat2 l)) => vou_Turned a cap l W h (by omega)
    have f8 := fun a cap W (h : Row W 2 a l.length cap (flat2 l)) => ref_Turned a cap l W h (by omega)
    have htl : (turnS l).length = n := by rw [turnS_len, hN]
    rw [hN] at h f1 f2 f3 f4 f5 f6 f7 f8 ⊢
    rw [hP] at f2
    rw [hT] at f3 f4
    rw [hC] at f5 f6
    have g1 := Lib.hid f1
    have g2 := Lib.hid f2
    have g3 := Lib.hid f3
    have g4 := Lib.hid f4
    have g5 := Lib.hid f5
    have g6 := Lib.hid f6
    have g7 := Lib.hid f7
    have g8 := Lib.hid f8
    have htlh := Lib.hid htl
    have hTI := Lib.hid (turnS_I hall.out)
    have hsT := Lib.hid (fun a b c1 c2 W h1 h2 => same_self a b c1 c2 (turnS l) W h1 h2)
    have hsM := Lib.hid (fun a b c1 c2 W h1 h2 => same_self a b c1 c2 m W h1 h2)
    clear f1 f2 f3 f4 f5 f6 f7 f8 hN hP hT hC htl
    go_enter Try.func4, Try.ntmps4
    go_wp2_with (at_builtin; refine wpList_copy _ rfl _ 23 rfl 25 2 elem_Line _ _ _ (flat2 l) rfl h (by omega) ?_)
    intro v1 w1 O1 hw1
    obtain ⟨a1, c1, rfl, R1⟩ := O1.row hall.out
    have R0 := h.below hw1
    clear O1 h
    go_wp2_with fail
    refine (g1.out a1 c1 w1 R1).mono ?_
    rintro e w2 ⟨⟨a2, c2, rfl, R2⟩, hw2⟩
    have R0b := R0.below hw2
    have hb2 : Below w.heap.size w w2 := by (repeat (first | assumption | exact Below.refl _ _ | refine ballc ?_ _ | refine bdrew ?_ | refine bdrewN ?_ _ | refine bset ?_ _ _ | refine bsetN ?_ (by omega) _ _ | refine bthen ?_ (by assumption)))
    clear R0 R1 hw1 hw2
    go_wp2_with fail
    refine (g2.out a cap w2 R0b).mono ?_
    rintro e w3 ⟨v3, rfl, O3, hw3⟩
    obtain ⟨a3, c3, rfl, R3⟩ := O3.row hmI.out
    have R0c := R0b.below hw3
    have R2c := R2.below hw3
    have hb3 : Below w.heap.size w w3 := by (repeat (first | assumption | exact Below.refl _ _ | refine ballc ?_ _ | refine bdrew ?_ | refine bdrewN ?_ _ | refine bset ?_ _ _ | refine bsetN ?_ (by omega) _ _ | refine bthen ?_ (by assumption)))
    clear R0b R2 hb2 hw3 O3
    go_wp2_with fail
    refine (g3.out a cap w3 R0c).mono ?_
    rintro e w4 ⟨rfl, hw4⟩
    have R0d := R0c.below hw4
    have R2d := R2c.below hw4
    have R3d := R3.below hw4
    have hb4 : Below w.heap.size w w4 := by (repeat (first | assumption | exact Below.refl _ _ | refine ballc ?_ _ | refine bdrew ?_ | refine bdrewN ?_ _ | refine bset ?_ _ _ | refine bsetN ?_ (by omega) _ _ | refine bthen ?_ (by assumption)))
    clear R0c R2c R3 hb3 hw4
    go_wp2_with fail
    refine (g4.out a cap w4 R0d).mono ?_
    rintro e w5 ⟨rfl, hw5⟩
    have R0e := R0d.below hw5
    have R2e := R2d.below hw5
    have R3e := R3d.below hw5
    have hb5 : Below w.heap.size w w5 := by (repeat (first | assumption | exact Below.refl _ _ | refine ballc ?_ _ | refine bdrew ?_ | refine bdrewN ?_ _ | refine bset ?_ _ _ | refine bsetN ?_ (by omega) _ _ | refine bthen ?_ (by assumption)))
    clear R0d R2d R3d hb4 hw5
    go_wp2_with fail
    refine (g5.out a cap w5 R0e).mono ?_
    rintro e w6 ⟨rfl, hw6⟩
    have R0f := R0e.below hw6
    have R2f := R2e.below hw6
    have R3f := R3e.below hw6
    have hb6 : Below w.heap.size w w6 := by (repeat (first | assumption | exact Below.refl _ _ | refine ballc ?_ _ | refine bdrew ?_ | refine bdrewN ?_ _ | refine bset ?_ _ _ | refine bsetN ?_ (by omega) _ _ | refine bthen ?_ (by assumption)))
    clear R0e R2e R3e hb5 hw6
    go_wp2_with fail
    refine (g6.out a cap w6 R0f).mono ?_
    rintro e w7 ⟨rfl, hw7⟩
    have R0g := R0f.below hw7
    have R2g := R2f.below hw7
    have R3g := R3f.below hw7
    have hb7 : Below w.heap.size w w7 := by (repeat (first | assumption | exact Below.refl _ _ | refine ballc ?_ _ | refine bdrew ?_ | refine bdrewN ?_ _ | refine bset ?_ _ _ | refine bsetN ?_ (by omega) _ _ | refine bthen ?_ (by assumption)))
    clear R0f R2f R3f hb6 hw7
    go_wp2_with fail
    refine (hsM.out a2 a3 c2 c3 w7 R2g R3g).mono ?_
    rintro e w8 ⟨rfl, hw8⟩
    have R0h := R0g.below hw8
    have hb8 : Below w.heap.size w w8 := by (repeat (first | assumption | exact Below.refl _ _ | refine ballc ?_ _ | refine bdrew ?_ | refine bdrewN ?_ _ | refine bset ?_ _ _ | refine bsetN ?_ (by omega) _ _ | refine bthen ?_ (by assumption)))
    clear R0g R2g R3g hb7 hw8
    go_wp2_with fail
    refine (g7.out a cap w8 R0h).mono ?_
    rintro e w9 ⟨v9, rfl, O9, hw9⟩
    rw [← htlh.out] at O9
    obtain ⟨a9, c9, rfl, R9⟩ := O9.row hTI.out
    have R0i := R0h.below hw9
    have hb9 : Below w.heap.size w w9 := by (repeat (first | assumption | exact Below.refl _ _ | refine ballc ?_ _ | refine bdrew ?_ | refine bdrewN ?_ _ | refine bset ?_ _ _ | refine bsetN ?_ (by omega) _ _ | refine bthen ?_ (by assumption)))
    clear R0h hb8 hw9 O9
    go_wp2_with fail
    refine (g8.out a cap w9 R0i).mono ?_
    rintro e x1 ⟨v1, rfl, O1, hx1⟩
    rw [← htlh.out] at O1
    obtain ⟨a10, c10, rfl, R10⟩ := O1.row hTI.out
    have R9b := R9.below hx1
    have hb10 : Below w.heap.size w x1 := by (repeat (first | assumption | exact Below.refl _ _ | refine ballc ?_ _ | refine bdrew ?_ | refine bdrewN ?_ _ | refine bset ?_ _ _ | refine bsetN ?_ (by omega) _ _ | refine bthen ?_ (by assumption)))
    clear R0i R9 hb9 hx1 O1
    go_wp2_with fail
    refine (hsT.out a9 a10 c9 c10 x1 R9b R10).mono ?_
    rintro e x2 ⟨rfl, hx2⟩
    have hb11 : Below w.heap.size w x2 := by (repeat (first | assumption | exact Below.refl _ _ | refine ballc ?_ _ | refine bdrew ?_ | refine bdrewN ?_ _ | refine bset ?_ _ _ | refine bsetN ?_ (by omega) _ _ | refine bthen ?_ (by assumption)))
    clear R9b R10 hb10 hx2
    go_wp2_with (go_at_call 11; refine (vou_awake _).mono ?_; rintro e w' ⟨rfl, hwa⟩)
    go_ret
    exact ⟨rfl, by (repeat (first | assumption | exact Below.refl _ _ | refine ballc ?_ _ | refine bdrew ?_ | refine bdrewN ?_ _ | refine bset ?_ _ _ | refine bsetN ?_ (by omega) _ _ | refine bthen ?_ (by assumption)))⟩
end Go.Proofs.Ytnkdbjmfpebcgaa
