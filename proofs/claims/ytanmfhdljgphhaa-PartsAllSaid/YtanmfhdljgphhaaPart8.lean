/-
  PartsAll. Its walk.
-/
import Derived.Test.YtanmfhdljgphhaaPart7
import Derived.Test.YtanmfhdljgphhaaPart6
import Derived.Test.YtanmfhdljgphhaaCopy
set_option linter.unusedVariables false
set_option linter.unusedSimpArgs false
namespace Go.Proofs.Ytanmfhdljgphhaa
open Go.RowKit

theorem ref_ok {w : World} {t : Int} {ws : List Int} {m : List Nat} {e : Ending} {w' : World} (h : RefP w t ws m e w') (hb : badS t ws = false) (hs : sumE ws = 0) :
    (∃ g cap, e = .returned (.tuple #[.slice (some ⟨g, 0, none⟩) ws.length cap, .int .i64 0]) ∧ ws.length ≤ cap ∧ cap ≤ maxLen ∧ g < w'.heap.size ∧ CellsAt w' g 0 (bump (quoL t (sumV ws) ws) (m.take (moreN t (sumV ws) ws)))) ∧ Below w.heap.size w w' := by
  have := h.1
  rw [if_neg (by rw [hb]; simp), if_neg (by rw [hs]; simp)] at this
  exact ⟨this, h.2⟩
theorem fair_I {t s : Int} {ws A : List Int} (hO : SplitOk t ws s) (hF : Fair t s ws A) : AllI A := by
  have hs0 : 0 < s := by have := hO.s0; omega
  have hn : ∀ z, z ∈ A → 0 ≤ z := fun z hz => by
    obtain ⟨q, hq, rfl⟩ := List.mem_iff_getElem.1 hz
    have hqw : q < ws.length := by rw [← hF.len]; exact hq
    have h1 := hF.one q hqw
    have h2 := (hO.all _ (getD_mem hqw)).1
    rw [List.getD_eq_getElem?_getD, List.getElem?_eq_getElem hq] at h1
    have h3 : 0 ≤ t * ws.getD q 0 / s := Int.ediv_nonneg (Int.mul_nonneg hO.t0 h2) (by omega)
    simp only [Option.getD_some] at h1
    omega
  intro z hz
  have h1 := sum_ge A z hn hz
  have h2 := hn z hz
  have h3 := hO.t1
  rw [hF.sum] at h1
  exact ⟨by omega, by omega⟩

set_option maxRecDepth 20000 in
set_option maxHeartbeats 4000000 in
theorem PartsAll_walk (t : Int) (a : Option Addr) (n cap : Nat) (zs : List Int) (w : World) (hh : I64 t) (h : Row w 1 a n cap zs) :
    Calls Try.prog 3 #[.int .i64 t, .slice a n cap] w fun e w' => e = .returned (.bool true) ∧ Below w.heap.size w w' := by
  obtain rfl : n = zs.length := by have := h.len; omega
  obtain ⟨n, hN⟩ : ∃ n, zs.length = n := ⟨_, rfl⟩
  by_cases hn : 60 < n
  · rw [hN] at h ⊢
    clear hN
    have hnI : (60 : Int) < (n : Int) := by omega
    go_enter Try.func3, Try.ntmps3
    go_wp2_with (go_at_call 7; refine (parts_awake _).mono ?_; rintro e w' ⟨rfl, hwa⟩)
    go_ret
    exact ⟨rfl, by (repeat (first | assumption | exact Below.refl _ _ | refine ballc ?_ _ | refine bdrew ?_ | refine bdrewN ?_ _ | refine bset ?_ _ _ | refine bsetN ?_ (by omega) _ _ | refine bthen ?_ (by assumption)))⟩
  · have hnI : ¬ (60 : Int) < (n : Int) := by omega
    have hP := fun a cap W => parts_Split a cap zs t W
    have hR := fun m W (hW : Row W 1 a zs.length cap zs) => ref_Split a cap zs m t W hW (by omega) hh
    rw [hN] at h hP hR ⊢
    have hPh := Lib.hid hP
    have hRh := Lib.hid hR
    have hNh := Lib.hid hN
    clear hP hR hN
    go_enter Try.func3, Try.ntmps3
    go_wp2_with (at_builtin; refine wpList_copy _ rfl _ 22 rfl 3 1 elem_Int _ _ _ zs rfl h (by omega) ?_)
    intro v1 w1 O1 hw1
    obtain ⟨a1, c1, rfl, R1⟩ := O1.row h.all
    have R0 := h.below hw1
    clear O1 h
    go_wp2_with fail
    refine (hPh.out a1 c1 w1 R1 (by omega)).mono ?_
    rintro e w2 hS
    have hw2 := hS.2
    have R2 := R0.below hw2
    have hb2 : Below w.heap.size w w2 := by (repeat (first | assumption | exact Below.refl _ _ | refine ballc ?_ _ | refine bdrew ?_ | refine bdrewN ?_ _ | refine bset ?_ _ _ | refine bsetN ?_ (by omega) _ _ | refine bthen ?_ (by assumption)))
    by_cases hb : badS t zs = true
    · obtain ⟨rfl, -⟩ := split_bad hS hb
      have hbh := Lib.hid hb
      clear hS hw1 hw2 R1 R0 hb
      go_wp2_with fail
      refine (hRh.out [] w2 R2 (fun h => by rw [hbh.out] at h; cases h)).mono ?_
      rintro e w3 ⟨hv, hw3⟩
      rw [hbh.out, if_pos rfl] at hv
      subst hv
      have hb3 : Below w.heap.size w w3 := by (repeat (first | assumption | exact Below.refl _ _ | refine ballc ?_ _ | refine bdrew ?_ | refine bdrewN ?_ _ | refine bset ?_ _ _ | refine bsetN ?_ (by omega) _ _ | refine bthen ?_ (by assumption)))
      clear hw3 hb2 R2
      go_wp2_with fail
      refine (same_ints none none 0 0 0 0 [] [] _ (Row.nil _ 1) (Row.nil _ 1)).mono ?_
      rw [show decide (([] : List Int) = []) = true from rfl]
      rintro e w4 ⟨rfl, hw4⟩
      have hb4 : Below w.heap.size w w4 := by (repeat (first | assumption | exact Below.refl _ _ | refine ballc ?_ _ | refine bdrew ?_ | refine bdrewN ?_ _ | refine bset ?_ _ _ | refine bsetN ?_ (by omega) _ _ | refine bthen ?_ (by assumption)))
      clear hw4 hb3
      go_wp2_with (go_at_call 7; refine (parts_awake _).mono ?_; rintro e w' ⟨rfl, hwa⟩)
      go_ret
      exact ⟨rfl, by (repeat (first | assumption | exact Below.refl _ _ | refine ballc ?_ _ | refine bdrew ?_ | refine bdrewN ?_ _ | refine bset ?_ _ _ | refine bsetN ?_ (by omega) _ _ | refine bthen ?_ (by assumption)))⟩
    · have hb' : badS t zs = false := by simpa using hb
      by_cases hse : sumE zs = 0
      · obtain ⟨⟨v, m, rfl, hm1, hm2, hm3, hH⟩, -⟩ := split_ok hS hb' hse
        have hO := SplitOk.of hb' hse
        have hF := fair_of hO hm2 hm3
        have hI := fair_I hO hF
        have hH2 : HoldZ w2 w1.heap.size v (bump (quoL t (sumV zs) zs) (m.take (moreN t (sumV zs) zs))) := hH
        have hRm := (hRh.out m w2 R2 (by rw [← hNh.out]; exact fun _ _ => ⟨hm2, hm3⟩)).mono fun e w' h => ref_ok h hb' hse
        have hlen : (bump (quoL t (sumV zs) zs) (m.take (moreN t (sumV zs) zs))).length = n := by rw [bump_len, quoL_len, hNh.out]
        generalize bump (quoL t (sumV zs) zs) (m.take (moreN t (sumV zs) zs)) = A at hI hH2 hRm hlen
        obtain ⟨a3, rfl, R3⟩ := hH2.row hI (by omega)
        rw [hlen] at R3 ⊢
        rw [hNh.out] at hRm
        have hRmh := Lib.hid hRm
        have hlenh := Lib.hid hlen
        clear hS hw1 hw2 R1 R0 hb hb' hse hO hF hH hH2 hm1 hm2 hm3 hRm hlen
        go_wp2_with fail
        refine hRmh.out.mono ?_
        rintro e w3 ⟨⟨g, c4, rfl, k1, k2, k3, k4⟩, hw3⟩
        have R4 : Row w3 1 (some ⟨g, 0, none⟩) n c4 A := ⟨by rw [hlenh.out]; omega, k1, k2, hI, .inr ⟨g, 0, rfl, k3, k4⟩⟩
        have R3b := R3.below hw3
        have hb3 : Below w.heap.size w w3 := by (repeat (first | assumption | exact Below.refl _ _ | refine ballc ?_ _ | refine bdrew ?_ | refine bdrewN ?_ _ | refine bset ?_ _ _ | refine bsetN ?_ (by omega) _ _ | refine bthen ?_ (by assumption)))
        clear hw3 hb2 R2 k1 k2 k3 k4 R3 hRmh
        go_wp2_with fail
        refine (same_ints a3 _ n n n c4 A A _ R3b R4).mono ?_
        rw [show decide (A = A) = true from decide_eq_true rfl]
        rintro e w4 ⟨rfl, hw4⟩
        have hb4 : Below w.heap.size w w4 := by (repeat (first | assumption | exact Below.refl _ _ | refine ballc ?_ _ | refine bdrew ?_ | refine bdrewN ?_ _ | refine bset ?_ _ _ | refine bsetN ?_ (by omega) _ _ | refine bthen ?_ (by assumption)))
        clear hw4 hb3
        go_wp2_with (go_at_call 7; refine (parts_awake _).mono ?_; rintro e w' ⟨rfl, hwa⟩)
        go_ret
        exact ⟨rfl, by (repeat (first | assumption | exact Below.refl _ _ | refine ballc ?_ _ | refine bdrew ?_ | refine bdrewN ?_ _ | refine bset ?_ _ _ | refine bsetN ?_ (by omega) _ _ | refine bthen ?_ (by assumption)))⟩
      · obtain ⟨rfl, -⟩ := split_big hS hb' hse
        have hbh := Lib.hid hb'
        have hseh := Lib.hid hse
        clear hS hw1 hw2 R1 R0 hb hb' hse
        go_wp2_with fail
        refine (hRh.out [] w2 R2 (fun _ h => absurd h hseh.out)).mono ?_
        rintro e w3 ⟨hv, hw3⟩
        rw [hbh.out, if_neg (by simp), if_pos hseh.out] at hv
        subst hv
        have hb3 : Below w.heap.size w w3 := by (repeat (first | assumption | exact Below.refl _ _ | refine ballc ?_ _ | refine bdrew ?_ | refine bdrewN ?_ _ | refine bset ?_ _ _ | refine bsetN ?_ (by omega) _ _ | refine bthen ?_ (by assumption)))
        clear hw3 hb2 R2
        go_wp2_with fail
        refine (same_ints none none 0 0 0 0 [] [] _ (Row.nil _ 1) (Row.nil _ 1)).mono ?_
        rw [show decide (([] : List Int) = []) = true from rfl]
        rintro e w4 ⟨rfl, hw4⟩
        have hb4 : Below w.heap.size w w4 := by (repeat (first | assumption | exact Below.refl _ _ | refine ballc ?_ _ | refine bdrew ?_ | refine bdrewN ?_ _ | refine bset ?_ _ _ | refine bsetN ?_ (by omega) _ _ | refine bthen ?_ (by assumption)))
        clear hw4 hb3
        go_wp2_with (go_at_call 7; refine (parts_awake _).mono ?_; rintro e w' ⟨rfl, hwa⟩)
        go_ret
        exact ⟨rfl, by (repeat (first | assumption | exact Below.refl _ _ | refine ballc ?_ _ | refine bdrew ?_ | refine bdrewN ?_ _ | refine bset ?_ _ _ | refine bsetN ?_ (by omega) _ _ | refine bthen ?_ (by assumption)))⟩
end Go.Proofs.Ytanmfhdljgphhaa
