/-
  PartsWrong: what may not be split. The walk.
-/
import Derived.Test.YtanmfhdljgphhaaPart3
set_option linter.unusedVariables false
set_option linter.unusedSimpArgs false
namespace Go.Proofs.Ytanmfhdljgphhaa
open Go.RowKit

set_option maxRecDepth 20000 in
set_option maxHeartbeats 4000000 in
theorem PartsWrong_walk (how n : Int) (w : World) (hh : I64 how) (hn : I64 n) :
    Calls Try.prog 6 #[.int .i64 how, .int .i64 n] w fun e w' => e = .returned (.bool true) ∧ Below w.heap.size w w' := by
  have p1 := Int.emod_nonneg n (show (1000 : Int) ≠ 0 by omega)
  have p2 := Int.emod_lt_of_pos n (show (0 : Int) < 1000 by omega)
  obtain ⟨k, hk⟩ : ∃ k, 1 + n % 1000 = k := ⟨_, rfl⟩
  have k0 : 1 ≤ k := by omega
  have k1 : k ≤ 1000 := by omega
  obtain ⟨c, hc⟩ : ∃ c, how % 7 = c := ⟨_, rfl⟩
  have c0 : 0 ≤ c := by omega
  have c1 : c < 7 := by omega
  have hcc : c = 0 ∨ c = 1 ∨ c = 2 ∨ c = 3 ∨ c = 4 ∨ c = 5 ∨ c = 6 := by omega
  clear p1 p2 c0 c1
  go_enter Try.func6, Try.ntmps6
  rcases hcc with hcv | hcv | hcv | hcv | hcv | hcv | hcv
  · subst hcv
    have hb : badS (-k) [1, 2] = true := by simp [badS, wrongI]; omega
    go_wp2_with (first | (go_at_call 11; refine (Place_calls _ _ _ (by omega) (by omega)).mono ?_; rintro e w' ⟨rfl, rfl⟩))
    refine (parts_Split (some ⟨w.heap.size, 0, none⟩) 2 [1, 2] (-k) _ (Row.new w 1 2 [1, 2] 3 rfl (by decide) (AllI.of_B (by decide +kernel))) (by decide)).mono ?_
    rintro e w1 hS
    obtain ⟨rfl, hw1⟩ := split_bad hS hb
    have hbel1 : Below w.heap.size w w1 := by (repeat (first | assumption | exact Below.refl _ _ | refine ballc ?_ _ | refine bdrew ?_ | refine bdrewN ?_ _ | refine bset ?_ _ _ | refine bsetN ?_ (by omega) _ _ | refine bthen ?_ (by assumption)))
    clear hS hw1 hb
    go_wp2_with (go_at_call 7; refine (parts_awake _).mono ?_; rintro e w' ⟨rfl, hwa⟩)
    go_ret
    exact ⟨rfl, by (repeat (first | assumption | exact Below.refl _ _ | refine ballc ?_ _ | refine bdrew ?_ | refine bdrewN ?_ _ | refine bset ?_ _ _ | refine bsetN ?_ (by omega) _ _ | refine bthen ?_ (by assumption)))⟩
  · subst hcv
    have hb : badS (288230376151711744 + k) [1, 2] = true := by simp [badS, wrongI]; omega
    go_wp2_with (first | (go_at_call 11; refine (Place_calls _ _ _ (by omega) (by omega)).mono ?_; rintro e w' ⟨rfl, rfl⟩))
    refine (parts_Split (some ⟨w.heap.size, 0, none⟩) 2 [1, 2] (288230376151711744 + k) _ (Row.new w 1 2 [1, 2] 3 rfl (by decide) (AllI.of_B (by decide +kernel))) (by decide)).mono ?_
    rintro e w1 hS
    obtain ⟨rfl, hw1⟩ := split_bad hS hb
    have hbel1 : Below w.heap.size w w1 := by (repeat (first | assumption | exact Below.refl _ _ | refine ballc ?_ _ | refine bdrew ?_ | refine bdrewN ?_ _ | refine bset ?_ _ _ | refine bsetN ?_ (by omega) _ _ | refine bthen ?_ (by assumption)))
    clear hS hw1 hb
    go_wp2_with (go_at_call 7; refine (parts_awake _).mono ?_; rintro e w' ⟨rfl, hwa⟩)
    go_ret
    exact ⟨rfl, by (repeat (first | assumption | exact Below.refl _ _ | refine ballc ?_ _ | refine bdrew ?_ | refine bdrewN ?_ _ | refine bset ?_ _ _ | refine bsetN ?_ (by omega) _ _ | refine bthen ?_ (by assumption)))⟩
  · subst hcv
    have hb : badS 5 [] = true := by decide +kernel
    go_wp2_with (first | (go_at_call 11; refine (Place_calls _ _ _ (by omega) (by omega)).mono ?_; rintro e w' ⟨rfl, rfl⟩))
    refine (parts_Split none 0 [] 5 _ (Row.nil _ _) (by decide)).mono ?_
    rintro e w1 hS
    obtain ⟨rfl, hw1⟩ := split_bad hS hb
    have hbel1 : Below w.heap.size w w1 := by (repeat (first | assumption | exact Below.refl _ _ | refine ballc ?_ _ | refine bdrew ?_ | refine bdrewN ?_ _ | refine bset ?_ _ _ | refine bsetN ?_ (by omega) _ _ | refine bthen ?_ (by assumption)))
    clear hS hw1 hb
    go_wp2_with (go_at_call 7; refine (parts_awake _).mono ?_; rintro e w' ⟨rfl, hwa⟩)
    go_ret
    exact ⟨rfl, by (repeat (first | assumption | exact Below.refl _ _ | refine ballc ?_ _ | refine bdrew ?_ | refine bdrewN ?_ _ | refine bset ?_ _ _ | refine bsetN ?_ (by omega) _ _ | refine bthen ?_ (by assumption)))⟩
  · subst hcv
    have hb : badS 5 [0, 0, 0] = true := by decide +kernel
    go_wp2_with (first | (go_at_call 11; refine (Place_calls _ _ _ (by omega) (by omega)).mono ?_; rintro e w' ⟨rfl, rfl⟩))
    refine (parts_Split (some ⟨w.heap.size + 1, 0, none⟩) 3 [0, 0, 0] 5 _ (by have := Row.new (w.alloc (.cells #[.int .i64 1, .int .i64 2] 3)) 1 3 [0, 0, 0] 3 rfl (by decide) (AllI.of_B (by decide +kernel)); simpa using this) (by decide)).mono ?_
    rintro e w1 hS
    obtain ⟨rfl, hw1⟩ := split_bad hS hb
    have hbel1 : Below w.heap.size w w1 := by (repeat (first | assumption | exact Below.refl _ _ | refine ballc ?_ _ | refine bdrew ?_ | refine bdrewN ?_ _ | refine bset ?_ _ _ | refine bsetN ?_ (by omega) _ _ | refine bthen ?_ (by assumption)))
    clear hS hw1 hb
    go_wp2_with (go_at_call 7; refine (parts_awake _).mono ?_; rintro e w' ⟨rfl, hwa⟩)
    go_ret
    exact ⟨rfl, by (repeat (first | assumption | exact Below.refl _ _ | refine ballc ?_ _ | refine bdrew ?_ | refine bdrewN ?_ _ | refine bset ?_ _ _ | refine bsetN ?_ (by omega) _ _ | refine bthen ?_ (by assumption)))⟩
  · subst hcv
    have hb : badS 5 [3, -k] = true := by simp [badS, wrongI]; omega
    have hI : AllI [3, -k] := by intro z hz; simp at hz; rcases hz with rfl | rfl <;> exact ⟨by omega, by omega⟩
    go_wp2_with (first | (go_at_call 11; refine (Place_calls _ _ _ (by omega) (by omega)).mono ?_; rintro e w' ⟨rfl, rfl⟩))
    refine (parts_Split (some ⟨w.heap.size + 1, 0, none⟩) 2 [3, -k] 5 _ (by have := Row.new (w.alloc (.cells #[.int .i64 1, .int .i64 2] 3)) 1 2 [3, -k] 3 rfl (by decide) hI; simpa using this) (by simp)).mono ?_
    rintro e w1 hS
    obtain ⟨rfl, hw1⟩ := split_bad hS hb
    have hbel1 : Below w.heap.size w w1 := by (repeat (first | assumption | exact Below.refl _ _ | refine ballc ?_ _ | refine bdrew ?_ | refine bdrewN ?_ _ | refine bset ?_ _ _ | refine bsetN ?_ (by omega) _ _ | refine bthen ?_ (by assumption)))
    clear hS hw1 hb
    go_wp2_with (go_at_call 7; refine (parts_awake _).mono ?_; rintro e w' ⟨rfl, hwa⟩)
    go_ret
    exact ⟨rfl, by (repeat (first | assumption | exact Below.refl _ _ | refine ballc ?_ _ | refine bdrew ?_ | refine bdrewN ?_ _ | refine bset ?_ _ _ | refine bsetN ?_ (by omega) _ _ | refine bthen ?_ (by assumption)))⟩
  · subst hcv
    have hb : badS 5 [3, 288230376151711744 + k] = true := by simp [badS, wrongI]; omega
    have hI : AllI [3, 288230376151711744 + k] := by intro z hz; simp at hz; rcases hz with rfl | rfl <;> exact ⟨by omega, by omega⟩
    go_wp2_with (first | (go_at_call 11; refine (Place_calls _ _ _ (by omega) (by omega)).mono ?_; rintro e w' ⟨rfl, rfl⟩))
    refine (parts_Split (some ⟨w.heap.size + 1, 0, none⟩) 2 [3, 288230376151711744 + k] 5 _ (by have := Row.new (w.alloc (.cells #[.int .i64 1, .int .i64 2] 3)) 1 2 [3, 288230376151711744 + k] 3 rfl (by decide) hI; simpa using this) (by simp)).mono ?_
    rintro e w1 hS
    obtain ⟨rfl, hw1⟩ := split_bad hS hb
    have hbel1 : Below w.heap.size w w1 := by (repeat (first | assumption | exact Below.refl _ _ | refine ballc ?_ _ | refine bdrew ?_ | refine bdrewN ?_ _ | refine bset ?_ _ _ | refine bsetN ?_ (by omega) _ _ | refine bthen ?_ (by assumption)))
    clear hS hw1 hb
    go_wp2_with (go_at_call 7; refine (parts_awake _).mono ?_; rintro e w' ⟨rfl, hwa⟩)
    go_ret
    exact ⟨rfl, by (repeat (first | assumption | exact Below.refl _ _ | refine ballc ?_ _ | refine bdrew ?_ | refine bdrewN ?_ _ | refine bset ?_ _ _ | refine bsetN ?_ (by omega) _ _ | refine bthen ?_ (by assumption)))⟩
  · subst hcv
    have hb : badS 5 [288230376151711744, k] = false := by simp [badS, wrongI, someI]; omega
    have hs : sumE [288230376151711744, k] ≠ 0 := by
      have o1 : addOk 0 288230376151711744 = true := by decide +kernel
      have o2 : addOk 288230376151711744 k = false := by
        cases h : addOk 288230376151711744 k
        · rfl
        · have := inB_iff.1 (addOk_iff.1 h).2.2; omega
      simp [sumE, sumGo, o1, o2]
    have hI : AllI [288230376151711744, k] := by intro z hz; simp at hz; rcases hz with rfl | rfl <;> exact ⟨by omega, by omega⟩
    go_wp2_with (first | (go_at_call 11; refine (Place_calls _ _ _ (by omega) (by omega)).mono ?_; rintro e w' ⟨rfl, rfl⟩))
    refine (parts_Split (some ⟨w.heap.size + 1, 0, none⟩) 2 [288230376151711744, k] 5 _ (by have := Row.new (w.alloc (.cells #[.int .i64 1, .int .i64 2] 3)) 1 2 [288230376151711744, k] 3 rfl (by decide) hI; simpa using this) (by simp)).mono ?_
    rintro e w1 hS
    obtain ⟨rfl, hw1⟩ := split_big hS hb hs
    have hbel1 : Below w.heap.size w w1 := by (repeat (first | assumption | exact Below.refl _ _ | refine ballc ?_ _ | refine bdrew ?_ | refine bdrewN ?_ _ | refine bset ?_ _ _ | refine bsetN ?_ (by omega) _ _ | refine bthen ?_ (by assumption)))
    clear hS hw1 hb hs
    go_wp2_with (go_at_call 7; refine (parts_awake _).mono ?_; rintro e w' ⟨rfl, hwa⟩)
    go_ret
    exact ⟨rfl, by (repeat (first | assumption | exact Below.refl _ _ | refine ballc ?_ _ | refine bdrew ?_ | refine bdrewN ?_ _ | refine bset ?_ _ _ | refine bsetN ?_ (by omega) _ _ | refine bthen ?_ (by assumption)))⟩
end Go.Proofs.Ytanmfhdljgphhaa
