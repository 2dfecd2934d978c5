/-
  GlLimits. The walk.
-/
import Derived.Test.YtnkdbjmfpebcgaaGl5
set_option linter.unusedVariables false
set_option linter.unusedSimpArgs false
namespace Go.Proofs.Ytnkdbjmfpebcgaa
open Go.RowKit

theorem CellsAt.put0 {w : World} {b : Nat} {zs : List Int} (h : CellsAt w b 0 zs) {j : Nat} (hj : j < zs.length) (z : Int) : CellsAt (w.setCell ⟨b, j, none⟩ (.int .i64 z)) b 0 (zs.set j z) := by
  have := CellsAt.put h hj z
  rwa [Nat.zero_add] at this
theorem AllI.set {zs : List Int} (h : AllI zs) (j : Nat) {z : Int} (hz : I64 z) : AllI (zs.set j z) := fun y hy => by
  rcases List.mem_or_eq_of_mem_set hy with h' | rfl
  · exact h y h'
  · exact hz

theorem zeroA_at {a : Nat} (ha : a < 17) : zeroA[a]? = some (.int .i64 0) := by
  have : zeroA.toList[a]? = some (.int .i64 0) := by
    rw [show zeroA.toList = List.replicate 17 (.int .i64 0) from rfl, List.getElem?_replicate, if_pos ha]
  simpa using this
theorem zeroA_at2 {a : Nat} (ha : a < 16) (u : Value) : (zeroA.setIfInBounds a u)[16]? = some (.int .i64 0) := by
  rw [Array.getElem?_setIfInBounds_ne (by omega)]
  exact zeroA_at (by omega)
theorem zeroA_two {a : Nat} {x y : Int} (h : y = -x) : (zeroA.setIfInBounds a (.int .i64 x)).setIfInBounds 16 (.int .i64 y) = ((twoB a x).map (Value.int .i64)).toArray := by
  subst h
  unfold twoB zeroA
  simp [List.map_set]

set_option maxRecDepth 20000 in
set_option maxHeartbeats 4000000 in
theorem GlLimits_walk (account v : Int) (sign : Bool) (w : World) (ha : I64 account) (hv : I64 v) :
    Calls Try.prog 7 #[.int .i64 account, .int .i64 v, .bool sign] w fun e w' => e = .returned (.bool true) ∧ Below w.heap.size w w' := by
  have p1 := Int.emod_nonneg account (show (16 : Int) ≠ 0 by omega)
  have p2 := Int.emod_lt_of_pos account (show (0 : Int) < 16 by omega)
  obtain ⟨a, hac⟩ : ∃ a : Nat, account % 16 = (a : Int) := ⟨(account % 16).toNat, by omega⟩
  have p3 := Int.emod_nonneg v (show (1000 : Int) ≠ 0 by omega)
  have p4 := Int.emod_lt_of_pos v (show (0 : Int) < 1000 by omega)
  obtain ⟨k, hk⟩ : ∃ k, v % 1000 = k := ⟨_, rfl⟩
  have k0 : 0 ≤ k := by omega
  have k1 : k < 1000 := by omega
  have ha16 : a < 16 := by omega
  have haI : (a : Int) < 17 := by omega
  have ha0 : (0 : Int) ≤ (a : Int) := by omega
  have hmk := make17
  have hz1 := zeroA_at (a := a) (by omega)
  have hz2 := zeroA_at2 ha16
  clear p1 p2 p3 p4
  obtain ⟨n0, E1⟩ : ∃ n0, 288230376151711744 - k = n0 := ⟨_, rfl⟩
  have TB := twoB_trial a ha16
  cases sign
  · obtain ⟨r, E2⟩ : ∃ r, 288230376151711744 - n0 = r := ⟨_, rfl⟩
    have Q1 : postS (twoB a n0) [⟨(a : Int), r⟩, ⟨16, -r⟩] = (twoB a 288230376151711744, 0) := by
      rw [post_two ha16 (by omega) (by omega), if_pos (by omega), show n0 + r = 288230376151711744 by omega]
    have Q2 : postS (twoB a n0) [⟨(a : Int), r + 1⟩, ⟨16, -r - 1⟩] = (twoB a n0, 2) := by
      rw [show -r - 1 = -(r + 1) by omega, post_two ha16 (by omega) (by omega), if_neg (by omega)]
    have hT1 := Lib.hid TB.1
    have hV1 := Lib.hid (twoB_a 288230376151711744 ha16)
    have hV2 := Lib.hid (twoB_a n0 ha16)
    have hV3 := Lib.hid (show (twoB a n0).getD 16 0 = (-n0) by rw [twoB_z]; try omega)
    have hQ1 := Lib.hid Q1
    have hQ2 := Lib.hid Q2
    have hzA : (zeroA.setIfInBounds a (.int .i64 n0)).setIfInBounds 16 (.int .i64 (-n0)) = ((twoB a n0).map (Value.int .i64)).toArray := zeroA_two (by omega)
    have hIB : AllI (twoB a n0) := ((show AllI zero17 from AllI.of_B (by decide +kernel)).set a ⟨by omega, by omega⟩).set 16 ⟨by omega, by omega⟩
    have hzAh := Lib.hid hzA
    clear Q1 Q2 TB hzA
    go_enter Try.func7, Try.ntmps7
    go_wp2_with (first | (go_at_call 8; refine (Place_calls _ _ _ (by omega) (by omega)).mono ?_; rintro e w' ⟨rfl, rfl⟩))
    rw [hzAh.out]
    have R0 := Row.new w 1 17 (twoB a n0) 3 (by rw [twoB_len]) (by decide) hIB
    have hb0 : Below w.heap.size w (w.alloc (.cells ((twoB a n0).map (Value.int .i64)).toArray 3)) := ballc (Below.refl _ _) _
    have hs0 : (w.alloc (.cells ((twoB a n0).map (Value.int .i64)).toArray 3)).heap.size = w.heap.size + 1 := World.size_alloc _ _
    generalize w.alloc (.cells ((twoB a n0).map (Value.int .i64)).toArray 3) = W0 at *
    have RL := Row.new W0 2 2 [(a : Int), r, 16, -r] 25 rfl (by decide) (flat2_of (l := [⟨(a : Int), r⟩, ⟨16, -r⟩]) fun x hx => by simp at hx; rcases hx with rfl | rfl <;> exact ⟨⟨by simp only; omega, by simp only; omega⟩, ⟨by simp only; omega, by simp only; omega⟩⟩)
    rw [hs0] at RL
    have hs0h := Lib.hid hs0
    clear hs0 hz1 hz2
    refine (gl_Post_is (bal := twoB a n0) (twoB_len _ _) (R0.below (ballc (Below.refl _ _) _)) (l := [⟨(a : Int), r⟩, ⟨16, -r⟩]) RL (by simp) hQ1.out).mono ?_
    rintro e w1 ⟨⟨a1, c1, rfl, R1⟩, hw1⟩
    have R2 := R0.below (bthen (ballc (Below.refl _ _) _) hw1)
    have hbel1 : Below w.heap.size w w1 := bthen (ballc hb0 _) hw1
    clear hw1 R0 RL hb0
    go_wp2_with fail
    have RL2 := Row.new w1 2 2 [(a : Int), r + 1, 16, -r - 1] 25 rfl (by decide) (flat2_of (l := [⟨(a : Int), r + 1⟩, ⟨16, -r - 1⟩]) fun x hx => by simp at hx; rcases hx with rfl | rfl <;> exact ⟨⟨by simp only; omega, by simp only; omega⟩, ⟨by simp only; omega, by simp only; omega⟩⟩)
    refine (gl_Post_is (bal := twoB a n0) (twoB_len _ _) (R2.below (ballc (Below.refl _ _) _)) (l := [⟨(a : Int), r + 1⟩, ⟨16, -r - 1⟩]) RL2 (by simp) hQ2.out).mono ?_
    rintro e w2 ⟨⟨a2, c2, rfl, R3⟩, hw2⟩
    have R4 := R2.below (bthen (ballc (Below.refl _ _) _) hw2)
    have R5 := R1.below (bthen (ballc (Below.refl _ _) _) hw2)
    have hbel2 : Below w.heap.size w w2 := bthen (ballc hbel1 _) hw2
    clear hw2 R1 R2 RL2 hbel1
    go_wp2_with fail
    refine (gl_Trial a1 17 c1 _ _ R5).mono ?_
    rw [hT1.out]
    rintro e w' ⟨rfl, rfl⟩
    have hR6 : w.heap.size < w2.heap.size := by
      rcases R4.at_ with h0 | ⟨b', off', e, hb', -⟩
      · omega
      · cases e; exact hb'
    have R6 := Row.drop1 (n := 16) R4 hR6
    have hT2 := Lib.hid (show trialS ((twoB a n0).drop 1) = (0, 0, 1) by rw [trialS, if_pos (by rw [List.length_drop, twoB_len]; decide)])
    go_wp2_with fail
    refine (gl_Trial (some ⟨w.heap.size, 1, none⟩) 16 16 ((twoB a n0).drop 1) _ (by simpa using R6)).mono ?_
    rw [hT2.out]
    rintro e w' ⟨rfl, rfl⟩
    obtain ⟨b1, o1, rfl, hb1, x0⟩ := R5.intAt (j := a) (by omega)
    obtain ⟨b2, o2, e2, hb2, y0⟩ := R3.intAt (j := a) (by omega)
    obtain ⟨b3, o3, e3, hb3, y1⟩ := R3.intAt (j := 16) (by omega)
    rw [e2] at e3
    cases e3
    subst e2
    rw [hV1.out] at x0
    rw [hV2.out] at y0
    rw [hV3.out] at y1
    clear R3 R4 R5 R6
    go_wp2_with (go_at_call 23; refine (gl_awake _).mono ?_; rintro e w' ⟨rfl, hwa⟩)
    go_ret
    exact ⟨rfl, by (repeat (first | assumption | exact Below.refl _ _ | refine ballc ?_ _ | refine bdrew ?_ | refine bdrewN ?_ _ | refine bset ?_ _ _ | refine bsetN ?_ (by omega) _ _ | refine bthen ?_ (by assumption)))⟩
  · obtain ⟨r, E2⟩ : ∃ r, -288230376151711744 + n0 = r := ⟨_, rfl⟩
    have Q1 : postS (twoB a (-n0)) [⟨(a : Int), r⟩, ⟨16, -r⟩] = (twoB a (-288230376151711744), 0) := by
      rw [post_two ha16 (by omega) (by omega), if_pos (by omega), show (-n0) + r = (-288230376151711744) by omega]
    have Q2 : postS (twoB a (-n0)) [⟨(a : Int), r + -1⟩, ⟨16, -r + 1⟩] = (twoB a (-n0), 2) := by
      rw [show -r + 1 = -(r + -1) by omega, post_two ha16 (by omega) (by omega), if_neg (by omega)]
    have hT1 := Lib.hid TB.2
    have hV1 := Lib.hid (twoB_a (-288230376151711744) ha16)
    have hV2 := Lib.hid (twoB_a (-n0) ha16)
    have hV3 := Lib.hid (show (twoB a (-n0)).getD 16 0 = n0 by rw [twoB_z]; try omega)
    have hQ1 := Lib.hid Q1
    have hQ2 := Lib.hid Q2
    have hzA : (zeroA.setIfInBounds a (.int .i64 (-n0))).setIfInBounds 16 (.int .i64 n0) = ((twoB a (-n0)).map (Value.int .i64)).toArray := zeroA_two (by omega)
    have hIB : AllI (twoB a (-n0)) := ((show AllI zero17 from AllI.of_B (by decide +kernel)).set a ⟨by omega, by omega⟩).set 16 ⟨by omega, by omega⟩
    have hzAh := Lib.hid hzA
    clear Q1 Q2 TB hzA
    go_enter Try.func7, Try.ntmps7
    go_wp2_with (first | (go_at_call 8; refine (Place_calls _ _ _ (by omega) (by omega)).mono ?_; rintro e w' ⟨rfl, rfl⟩))
    rw [hzAh.out]
    have R0 := Row.new w 1 17 (twoB a (-n0)) 3 (by rw [twoB_len]) (by decide) hIB
    have hb0 : Below w.heap.size w (w.alloc (.cells ((twoB a (-n0)).map (Value.int .i64)).toArray 3)) := ballc (Below.refl _ _) _
    have hs0 : (w.alloc (.cells ((twoB a (-n0)).map (Value.int .i64)).toArray 3)).heap.size = w.heap.size + 1 := World.size_alloc _ _
    generalize w.alloc (.cells ((twoB a (-n0)).map (Value.int .i64)).toArray 3) = W0 at *
    have RL := Row.new W0 2 2 [(a : Int), r, 16, -r] 25 rfl (by decide) (flat2_of (l := [⟨(a : Int), r⟩, ⟨16, -r⟩]) fun x hx => by simp at hx; rcases hx with rfl | rfl <;> exact ⟨⟨by simp only; omega, by simp only; omega⟩, ⟨by simp only; omega, by simp only; omega⟩⟩)
    rw [hs0] at RL
    have hs0h := Lib.hid hs0
    clear hs0 hz1 hz2
    refine (gl_Post_is (bal := twoB a (-n0)) (twoB_len _ _) (R0.below (ballc (Below.refl _ _) _)) (l := [⟨(a : Int), r⟩, ⟨16, -r⟩]) RL (by simp) hQ1.out).mono ?_
    rintro e w1 ⟨⟨a1, c1, rfl, R1⟩, hw1⟩
    have R2 := R0.below (bthen (ballc (Below.refl _ _) _) hw1)
    have hbel1 : Below w.heap.size w w1 := bthen (ballc hb0 _) hw1
    clear hw1 R0 RL hb0
    go_wp2_with fail
    have RL2 := Row.new w1 2 2 [(a : Int), r + -1, 16, -r + 1] 25 rfl (by decide) (flat2_of (l := [⟨(a : Int), r + -1⟩, ⟨16, -r + 1⟩]) fun x hx => by simp at hx; rcases hx with rfl | rfl <;> exact ⟨⟨by simp only; omega, by simp only; omega⟩, ⟨by simp only; omega, by simp only; omega⟩⟩)
    refine (gl_Post_is (bal := twoB a (-n0)) (twoB_len _ _) (R2.below (ballc (Below.refl _ _) _)) (l := [⟨(a : Int), r + -1⟩, ⟨16, -r + 1⟩]) RL2 (by simp) hQ2.out).mono ?_
    rintro e w2 ⟨⟨a2, c2, rfl, R3⟩, hw2⟩
    have R4 := R2.below (bthen (ballc (Below.refl _ _) _) hw2)
    have R5 := R1.below (bthen (ballc (Below.refl _ _) _) hw2)
    have hbel2 : Below w.heap.size w w2 := bthen (ballc hbel1 _) hw2
    clear hw2 R1 R2 RL2 hbel1
    go_wp2_with fail
    refine (gl_Trial a1 17 c1 _ _ R5).mono ?_
    rw [hT1.out]
    rintro e w' ⟨rfl, rfl⟩
    have hR6 : w.heap.size < w2.heap.size := by
      rcases R4.at_ with h0 | ⟨b', off', e, hb', -⟩
      · omega
      · cases e; exact hb'
    have R6 := Row.drop1 (n := 16) R4 hR6
    have hT2 := Lib.hid (show trialS ((twoB a (-n0)).drop 1) = (0, 0, 1) by rw [trialS, if_pos (by rw [List.length_drop, twoB_len]; decide)])
    go_wp2_with fail
    refine (gl_Trial (some ⟨w.heap.size, 1, none⟩) 16 16 ((twoB a (-n0)).drop 1) _ (by simpa using R6)).mono ?_
    rw [hT2.out]
    rintro e w' ⟨rfl, rfl⟩
    obtain ⟨b1, o1, rfl, hb1, x0⟩ := R5.intAt (j := a) (by omega)
    obtain ⟨b2, o2, e2, hb2, y0⟩ := R3.intAt (j := a) (by omega)
    obtain ⟨b3, o3, e3, hb3, y1⟩ := R3.intAt (j := 16) (by omega)
    rw [e2] at e3
    cases e3
    subst e2
    rw [hV1.out] at x0
    rw [hV2.out] at y0
    rw [hV3.out] at y1
    clear R3 R4 R5 R6
    go_wp2_with (go_at_call 23; refine (gl_awake _).mono ?_; rintro e w' ⟨rfl, hwa⟩)
    go_ret
    exact ⟨rfl, by (repeat (first | assumption | exact Below.refl _ _ | refine ballc ?_ _ | refine bdrew ?_ | refine bdrewN ?_ _ | refine bset ?_ _ _ | refine bsetN ?_ (by omega) _ _ | refine bthen ?_ (by assumption)))⟩
end Go.Proofs.Ytnkdbjmfpebcgaa
