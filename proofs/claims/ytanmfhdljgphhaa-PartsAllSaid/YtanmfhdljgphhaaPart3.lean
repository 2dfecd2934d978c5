/-
  The same numbers? The document's example of a split; what may not be split. The walks.
-/
import Derived.Test.YtanmfhdljgphhaaPart2
set_option linter.unusedVariables false
set_option linter.unusedSimpArgs false
namespace Go.Proofs.Ytanmfhdljgphhaa
open Go.RowKit

theorem take_eq_succ {xs ys : List Int} {j : Nat} (hx : j < xs.length) (hy : j < ys.length) (h : xs.take j = ys.take j) (he : xs.getD j 0 = ys.getD j 0) : xs.take (j + 1) = ys.take (j + 1) := by
  rw [take_snoc hx, take_snoc hy, h, he]
set_option maxHeartbeats 1000000 in
theorem same_ints (a b : Option Addr) (n c1 k c2 : Nat) (xs ys : List Int) (w : World) (h1 : Row w 1 a n c1 xs) (h2 : Row w 1 b k c2 ys) :
    Calls Try.prog 10 #[.slice a n c1, .slice b k c2] w fun e w' => e = .returned (.bool (decide (xs = ys))) ∧ Below w.heap.size w w' := by
  have hn1 : xs.length = n := by have := h1.len; omega
  have hn2 : ys.length = k := by have := h2.len; omega
  have hm1 := h1.max
  have hm2 := h2.max
  have hl1 := h1.le
  have hl2 := h2.le
  unfold maxLen at hm1 hm2
  obtain ⟨r, hr⟩ : ∃ r, decide (xs = ys) = r := ⟨_, rfl⟩
  rw [hr]
  have hrh := Lib.hid hr
  have hx := Lib.hid hn1
  have hy := Lib.hid hn2
  clear hr hn1 hn2
  go_enter Try.func10, Try.ntmps10
  by_cases hnk : n = k
  · subst hnk
    have hat1 := h1.at_
    have hat2 := h2.at_
    clear h1 h2
    go_wp2_with fail
    go_loopw [5] (fun i wr => ∃ j : Nat, j ≤ n ∧ i = .int .i64 (j : Int) ∧ Hid (xs.take j = ys.take j) ∧ Below w.heap.size w wr) (fun i _ => n - (intOf i).toNat)
    case atStart => exact ⟨0, by omega, rfl, rfl, Below.refl _ _⟩
    case round =>
      obtain ⟨j, hj, rfl, T, hbel⟩ := hrel
      by_cases hlt : j < n
      · obtain ⟨b1, o1, rfl, hb1, hc1⟩ : ∃ b off, a = some ⟨b, off, none⟩ ∧ b < w.heap.size ∧ CellsAt w b off xs := by
          rcases hat1 with h0 | h0
          · omega
          · exact h0
        obtain ⟨b2, o2, rfl, hb2, hc2⟩ : ∃ b' off, b = some ⟨b', off, none⟩ ∧ b' < w.heap.size ∧ CellsAt w b' off ys := by
          rcases hat2 with h0 | h0
          · omega
          · exact h0
        have x0 := (hbel.cell (p := ⟨b1, o1 + j, none⟩) hb1).trans (hc1 j (by rw [hx.out]; exact hlt))
        have y0 := (hbel.cell (p := ⟨b2, o2 + j, none⟩) hb2).trans (hc2 j (by rw [hy.out]; exact hlt))
        have hltI : (j : Int) < (n : Int) := by omega
        have hj0 : (0 : Int) ≤ (j : Int) := by omega
        have hstep := fun h => take_eq_succ (xs := xs) (ys := ys) (j := j) (by rw [hx.out]; exact hlt) (by rw [hy.out]; exact hlt) T.out h
        have hne : xs.getD j 0 ≠ ys.getD j 0 → r = false := fun h => by
          rw [← hrh.out]
          exact decide_eq_false fun e => h (by rw [e])
        obtain ⟨u, hu⟩ : ∃ u, xs.getD j 0 = u := ⟨_, rfl⟩
        obtain ⟨v, hv⟩ : ∃ v, ys.getD j 0 = v := ⟨_, rfl⟩
        rw [hu] at x0
        rw [hv] at y0
        rw [hu, hv] at hstep hne
        have hsh := Lib.hid hstep
        have hnh := Lib.hid hne
        clear hu hv hc1 hc2 hat1 hat2 hstep hne
        by_cases e : u = v
        · subst e
          go_wp2_with fail
          go_quiet (fail)
          go_wp2_with fail
          case' roundEnd =>
            refine ⟨⟨j + 1, by omega, by go_num, by first | exact hsh.out rfl | exact hsh.out trivial, by (repeat (first | assumption | exact Below.refl _ _ | refine ballc ?_ _ | refine bdrew ?_ | refine bdrewN ?_ _ | refine bset ?_ _ _ | refine bsetN ?_ (by omega) _ _ | refine bthen ?_ (by assumption)))⟩, ?_⟩
            simp [intOf]
            omega
        · have hf := hnh.out e
          subst hf
          have e2 : (u == v) = false := by simpa using e
          go_wp2_with fail
          go_quiet (fail)
          go_wp2_with fail
          go_ret
          exact ⟨rfl, by (repeat (first | assumption | exact Below.refl _ _ | refine ballc ?_ _ | refine bdrew ?_ | refine bdrewN ?_ _ | refine bset ?_ _ _ | refine bsetN ?_ (by omega) _ _ | refine bthen ?_ (by assumption)))⟩
      · have ej : j = n := by omega
        subst ej
        have hge : ¬ (j : Int) < (j : Int) := by omega
        have T := T.out
        rw [List.take_of_length_le (by rw [hx.out]; omega), List.take_of_length_le (by rw [hy.out]; omega)] at T
        have hr : r = true := by rw [← hrh.out]; exact decide_eq_true T
        subst hr
        clear T
        go_wp2_with fail
        go_ret
        exact ⟨rfl, hbel⟩
  · have hr : r = false := by
      rw [← hrh.out]
      exact decide_eq_false fun e => hnk (by rw [← hx.out, ← hy.out, e])
    subst hr
    have hnkI : ¬ (n : Int) = (k : Int) := by omega
    have hnkB : ((n : Int) == (k : Int)) = false := by rw [beq_eq_false_iff_ne]; exact hnkI
    go_wp2_with fail
    go_ret
    exact ⟨rfl, Below.refl _ _⟩

theorem stab_unique {α : Type} {key : α → Int} : ∀ (l m : List α), Rises key l → Rises key m → Stab key l m → l = m
  | [], m, _, _, h => by
    cases m with
    | nil => rfl
    | cons y m => exact absurd ((Stab.mem h).1 (show y ∈ y :: m by simp)) (by simp)
  | x :: l, [], _, _, h => absurd ((Stab.mem h).2 (show x ∈ x :: l by simp)) (by simp)
  | x :: l, y :: m, hl, hm, h => by
    have hl' := List.pairwise_cons.1 hl
    have hm' := List.pairwise_cons.1 hm
    have kxy : key x = key y := by
      have a : key y ≤ key x := by
        rcases List.mem_cons.1 ((Stab.mem h).2 (show x ∈ x :: l by simp)) with e | e
        · rw [e]; omega
        · exact hm'.1 x e
      have b : key x ≤ key y := by
        rcases List.mem_cons.1 ((Stab.mem h).1 (show y ∈ y :: m by simp)) with e | e
        · rw [e]; omega
        · exact hl'.1 y e
      omega
    have hk := h (key x)
    simp only [List.filter_cons, kxy, beq_self_eq_true, if_true] at hk
    have e := (List.cons.inj hk).1
    subst e
    congr 1
    refine stab_unique l m hl'.2 hm'.2 fun k => ?_
    have hk := h k
    simp only [List.filter_cons] at hk
    split at hk
    · exact (List.cons.inj hk).2
    · exact hk
/-- If what is left is the same everywhere, the first are the first. -/
theorem places_same {t : Int} {ws : List Int} {m : List Nat} {c : Int} (hr : ∀ i, i < ws.length → (remL t (sumV ws) ws).getD i 0 = c) (h2 : Rises (keyN (remL t (sumV ws) ws)) m) (h3 : Stab (keyN (remL t (sumV ws) ws)) (List.range ws.length) m) : m = List.range ws.length := by
  refine (stab_unique _ _ ?_ h2 h3).symm
  refine List.Pairwise.imp_of_mem (R := fun _ _ => True) (fun {a b} ha hb _ => ?_) (List.pairwise_of_forall fun _ _ => trivial)
  simp only [keyN]
  rw [hr a (List.mem_range.1 ha), hr b (List.mem_range.1 hb)]
  omega

theorem HoldZ.row {w : World} {base : Nat} {v : Value} {zs : List Int} (h : HoldZ w base v zs) (hI : AllI zs) (hm : zs.length ≤ 1000000) : ∃ a, v = .slice a zs.length zs.length ∧ Row w 1 a zs.length zs.length zs := by
  obtain ⟨b, e, h1, h2, h3⟩ := h
  exact ⟨_, e, by simp, Nat.le_refl _, by unfold maxLen; omega, hI, .inr ⟨b, 0, rfl, h2, h3⟩⟩
theorem split_bad {w : World} {t : Int} {ws : List Int} {e : Ending} {w' : World} (h : SplitP w t ws e w') (hb : badS t ws = true) : e = .returned (.tuple #[.slice none 0 0, .int .i64 1]) ∧ Below w.heap.size w w' := by
  have := h.1
  rw [if_pos hb] at this
  exact ⟨this, h.2⟩
theorem split_big {w : World} {t : Int} {ws : List Int} {e : Ending} {w' : World} (h : SplitP w t ws e w') (hb : badS t ws = false) (hs : sumE ws ≠ 0) : e = .returned (.tuple #[.slice none 0 0, .int .i64 2]) ∧ Below w.heap.size w w' := by
  have := h.1
  rw [if_neg (by rw [hb]; simp), if_pos hs] at this
  exact ⟨this, h.2⟩
theorem split_ok {w : World} {t : Int} {ws : List Int} {e : Ending} {w' : World} (h : SplitP w t ws e w') (hb : badS t ws = false) (hs : sumE ws = 0) : (∃ (v : Value) (m : List Nat), e = .returned (.tuple #[v, .int .i64 0]) ∧ m.length = ws.length ∧ Rises (keyN (remL t (sumV ws) ws)) m ∧ Stab (keyN (remL t (sumV ws) ws)) (List.range ws.length) m ∧
     HoldZ w' w.heap.size v (bump (quoL t (sumV ws) ws) (m.take (min (t - (quoL t (sumV ws) ws).sum) ws.length).toNat))) ∧ Below w.heap.size w w' := by
  have := h.1
  rw [if_neg (by rw [hb]; simp), if_neg (by rw [hs]; simp)] at this
  exact ⟨this, h.2⟩

set_option maxRecDepth 20000 in
set_option maxHeartbeats 2000000 in
theorem parts_awake (w : World) :
    Calls Try.prog 7 #[] w fun e w' => e = .returned (.bool true) ∧ Below w.heap.size w w' := by
  go_enter Try.func7, Try.ntmps7
  go_wp2_with fail
  refine (parts_Split (some ⟨w.heap.size, 0, none⟩) 3 [1, 1, 1] 10 _ (Row.new w 1 3 [1, 1, 1] 3 rfl (by decide) (AllI.of_B (by decide +kernel))) (by decide)).mono ?_
  rintro e w1 hS
  obtain ⟨⟨v, m, rfl, hm1, hm2, hm3, hH⟩, hw1⟩ := split_ok hS (by decide +kernel) (by decide +kernel)
  have hm : m = List.range 3 := places_same (c := 1) (t := 10) (ws := [1, 1, 1]) (by decide +kernel) hm2 hm3
  subst hm
  have hL : bump (quoL 10 (sumV [1, 1, 1]) [1, 1, 1]) ((List.range 3).take (min (10 - (quoL 10 (sumV [1, 1, 1]) [1, 1, 1]).sum) ([1, 1, 1] : List Int).length).toNat) = [4, 3, 3] := by decide +kernel
  rw [hL] at hH
  obtain ⟨a1, rfl, R1⟩ := hH.row (AllI.of_B (by decide +kernel)) (by decide)
  have hbel1 : Below w.heap.size w w1 := by (repeat (first | assumption | exact Below.refl _ _ | refine ballc ?_ _ | refine bdrew ?_ | refine bdrewN ?_ _ | refine bset ?_ _ _ | refine bsetN ?_ (by omega) _ _ | refine bthen ?_ (by assumption)))
  clear hS hm1 hm2 hm3 hL hH hw1
  go_wp2_with fail
  refine (parts_Split (some ⟨w1.heap.size, 0, none⟩) 2 [0, 0] 10 _ (Row.new w1 1 2 [0, 0] 3 rfl (by decide) (AllI.of_B (by decide +kernel))) (by decide)).mono ?_
  rintro e w2 hS
  obtain ⟨rfl, hw2⟩ := split_bad hS (by decide +kernel)
  have R2 := R1.below (bthen (ballc (Below.refl _ _) _) hw2)
  have hbel2 : Below w.heap.size w w2 := bthen (ballc hbel1 _) hw2
  clear hS R1 hw2 hbel1
  go_wp2_with fail
  refine (same_ints a1 (some ⟨w2.heap.size, 0, none⟩) 3 3 3 3 [4, 3, 3] [4, 3, 3] _ (R2.below (ballc (Below.refl _ _) _)) (Row.new w2 1 3 [4, 3, 3] 3 rfl (by decide) (AllI.of_B (by decide +kernel)))).mono ?_
  rw [show decide (([4, 3, 3] : List Int) = [4, 3, 3]) = true from rfl]
  rintro e w3 ⟨rfl, hw3⟩
  have hbel3 : Below w.heap.size w w3 := bthen (ballc hbel2 _) hw3
  clear R2 hw3
  go_wp2_with fail
  go_ret
  exact ⟨rfl, hbel3⟩
end Go.Proofs.Ytanmfhdljgphhaa
