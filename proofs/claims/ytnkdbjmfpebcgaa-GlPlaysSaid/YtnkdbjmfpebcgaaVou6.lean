/-
  Vouchers: the document's example; so many lines, amounts at the limit. The walks.
-/
import Derived.Test.YtnkdbjmfpebcgaaVou5
set_option linter.unusedVariables false
set_option linter.unusedSimpArgs false
namespace Go.Proofs.Ytnkdbjmfpebcgaa
open Go.RowKit

theorem sumV_in (l : List Int) : -288230376151711744 ≤ sumV l ∧ sumV l ≤ 288230376151711744 := by
  unfold sumV
  cases h : sumGo 0 l with
  | none => exact ⟨by simp, by simp⟩
  | some s => exact inB_iff.1 (sumGo_in l 0 s (by decide +kernel) h)
theorem plain_all (l : List Lin) : ∀ x, x ∈ (plainS l).1 → 0 ≤ x.a ∧ x.a < 17 ∧ -288230376151711744 ≤ x.n ∧ x.n ≤ 288230376151711744 := by
  intro x hx
  unfold plainS at hx
  split at hx
  · simp at hx
  · split at hx
    · simp at hx
    · obtain ⟨hx, -⟩ := List.mem_filter.1 hx
      obtain ⟨a, ha, rfl⟩ := List.mem_map.1 hx
      have := sumV_in (accA l (a : Int))
      have := List.mem_range.1 ha
      exact ⟨by simp only; omega, by simp only; omega, by simp only; omega, by simp only; omega⟩
theorem plain_I (l : List Lin) : AllI (flat2 (plainS l).1) := flat2_of fun x hx => by
  have := plain_all l x hx
  exact ⟨⟨by omega, by omega⟩, ⟨by omega, by omega⟩⟩
theorem vou_Plain_is {a : Option Addr} {cap : Nat} {l : List Lin} {w : World} (h : Row w 2 a l.length cap (flat2 l)) (h20 : l.length ≤ 1000000) {m : List Lin} {e' : Int} (hP : plainS l = (m, e')) :
    Calls Try.prog 10 #[.slice a l.length cap] w fun e w' => (∃ a' cap', e = .returned (.tuple #[.slice a' m.length cap', .int .i64 e']) ∧ Row w' 2 a' m.length cap' (flat2 m)) ∧ Below w.heap.size w w' := by
  refine (vou_Plain a cap l w h h20).mono ?_
  rintro e w' ⟨v, rfl, hh, hb⟩
  have hI := plain_I l
  rw [hP] at hh hI ⊢
  obtain ⟨a', cap', rfl, R⟩ := hh.row hI
  exact ⟨⟨a', cap', rfl, R⟩, hb⟩
/-- The first line's cells. -/
theorem Row.first2 {w : World} {a : Option Addr} {cap : Nat} {x : Lin} {l : List Lin} {n : Nat} (h : Row w 2 a n cap (flat2 (x :: l))) (hn : 0 < n) :
    ∃ b off, a = some ⟨b, off, none⟩ ∧ b < w.heap.size ∧ w.cell? ⟨b, off, none⟩ = some (.int .i64 x.a) ∧ w.cell? ⟨b, off + 1, none⟩ = some (.int .i64 x.n) := by
  rcases h.at_ with h0 | ⟨b, off, e, hb, hc⟩
  · omega
  · have := hc.line (j := 0) (x := x) rfl
    exact ⟨b, off, e, hb, by simpa using this⟩
theorem Row.cut {w : World} {a : Option Addr} {n cap k : Nat} {l : List Lin} (h : Row w 2 a n cap (flat2 l)) (hn : l.length = n) (hk : k ≤ n) : Row w 2 a k cap (flat2 (l.take k)) := by
  refine ⟨by rw [flat2_len, List.length_take]; omega, by have := h.le; omega, h.max, flat2_of fun x hx => flat2_all h.all (List.mem_of_mem_take hx), ?_⟩
  by_cases h0 : k = 0
  · exact .inl h0
  · rcases h.at_ with h1 | ⟨b, off, e, hb, hc⟩
    · omega
    · refine .inr ⟨b, off, e, hb, CellsAt.of_lines fun j x hx => hc.line ?_⟩
      have hj : j < k := by
        rcases Nat.lt_or_ge j k with h | h
        · exact h
        · rw [List.getElem?_eq_none (by rw [List.length_take]; omega)] at hx; cases hx
      rwa [List.getElem?_take_of_lt hj] at hx

set_option maxRecDepth 20000 in
set_option maxHeartbeats 2000000 in
theorem vou_awake (w : World) :
    Calls Try.prog 11 #[] w fun e w' => e = .returned (.bool true) ∧ Below w.heap.size w w' := by
  have P1 := Lib.hid (show plainS [⟨0, 5⟩, ⟨1, -5⟩, ⟨0, 5⟩, ⟨1, -5⟩] = ([⟨0, 10⟩, ⟨1, -10⟩], 0) by kernel_rfl)
  have T1 := Lib.hid (show totL [⟨0, 5⟩, ⟨1, -5⟩] = (5, 0) by kernel_rfl)
  have C1 := Lib.hid (show checkL [⟨0, 5⟩, ⟨1, -5⟩] = true by kernel_rfl)
  have C2 := Lib.hid (show checkL [⟨0, 5⟩] = false by kernel_rfl)
  have R0 := Row.new w 2 2 [0, 5, 1, -5] 25 rfl (by decide) (AllI.of_B (by decide +kernel))
  go_enter Try.func11, Try.ntmps11
  go_wp2_with (at_builtin; refine wpList_pushN _ rfl _ _ 23 rfl (w.heap.size + 1) 25 2 elem_Line (.slice none 0 0) 0 [] rfl (OwnI.nil _ _ _ _) ⟨w.heap.size, 0, none⟩ 2 2 [0, 5, 1, -5] rfl R0 (by decide) (by simp) ?_)
  intro v1 w1 O1 hw1
  have R1 := R0.below (by simpa using hw1)
  go_wp2_with (at_builtin; refine wpList_pushN _ rfl _ _ 23 rfl (w.heap.size + 1) 25 2 elem_Line v1 2 [0, 5, 1, -5] rfl O1 ⟨w.heap.size, 0, none⟩ 2 2 [0, 5, 1, -5] rfl R1 (by decide) (by have := hw1.size; simp at this; omega) ?_)
  intro v2 w2 O2 hw2
  obtain ⟨a2, c2, rfl, R2⟩ := O2.row (AllI.of_B (by decide +kernel))
  have hb2 : Below (w.alloc (.cells #[.int .i64 0, .int .i64 5, .int .i64 1, .int .i64 (-5)] 25)).heap.size (w.alloc (.cells #[.int .i64 0, .int .i64 5, .int .i64 1, .int .i64 (-5)] 25)) w2 := by simpa using hw1.trans hw2
  have R3 := R0.below hb2
  have hbel2 : Below w.heap.size w w2 := by (repeat (first | assumption | exact Below.refl _ _ | refine ballc ?_ _ | refine bdrew ?_ | refine bdrewN ?_ _ | refine bset ?_ _ _ | refine bsetN ?_ (by omega) _ _ | refine bthen ?_ (by assumption)))
  clear O1 O2 hw1 hw2 R1 hb2 R0
  go_wp2_with fail
  refine (vou_Plain_is (l := [⟨0, 5⟩, ⟨1, -5⟩, ⟨0, 5⟩, ⟨1, -5⟩]) R2 (by decide) P1.out).mono ?_
  rintro e w3 ⟨⟨a3, c3, rfl, R4⟩, hw3⟩
  have R5 := R3.below hw3
  have hbel3 : Below w.heap.size w w3 := by (repeat (first | assumption | exact Below.refl _ _ | refine ballc ?_ _ | refine bdrew ?_ | refine bdrewN ?_ _ | refine bset ?_ _ _ | refine bsetN ?_ (by omega) _ _ | refine bthen ?_ (by assumption)))
  clear R2 R3 hw3 hbel2
  go_wp2_with fail
  refine (vou_Total (some ⟨w.heap.size, 0, none⟩) 2 [⟨0, 5⟩, ⟨1, -5⟩] _ R5 (by decide)).mono ?_
  rw [T1.out]
  rintro e w4 ⟨rfl, hw4⟩
  have R6 := R5.below hw4
  have R7 := R4.below hw4
  have hbel4 : Below w.heap.size w w4 := by (repeat (first | assumption | exact Below.refl _ _ | refine ballc ?_ _ | refine bdrew ?_ | refine bdrewN ?_ _ | refine bset ?_ _ _ | refine bsetN ?_ (by omega) _ _ | refine bthen ?_ (by assumption)))
  clear R4 R5 hw4 hbel3
  go_wp2_with fail
  refine (vou_Check (some ⟨w.heap.size, 0, none⟩) 2 [⟨0, 5⟩, ⟨1, -5⟩] _ R6).mono ?_
  rw [C1.out]
  rintro e w5 ⟨rfl, hw5⟩
  have R8 := Row.cut (l := [⟨0, 5⟩, ⟨1, -5⟩]) (n := 2) (k := 1) (R6.below hw5) rfl (by decide)
  have R9 := R7.below hw5
  have hbel5 : Below w.heap.size w w5 := by (repeat (first | assumption | exact Below.refl _ _ | refine ballc ?_ _ | refine bdrew ?_ | refine bdrewN ?_ _ | refine bset ?_ _ _ | refine bsetN ?_ (by omega) _ _ | refine bthen ?_ (by assumption)))
  clear R6 R7 hw5 hbel4
  go_wp2_with fail
  refine (vou_Check (some ⟨w.heap.size, 0, none⟩) 2 [⟨0, 5⟩] _ R8).mono ?_
  rw [C2.out]
  rintro e w6 ⟨rfl, hw6⟩
  obtain ⟨b1, o1, rfl, hb1, x0, x1⟩ := (R9.below hw6).first2 (by decide)
  have hbel6 : Below w.heap.size w w6 := by (repeat (first | assumption | exact Below.refl _ _ | refine ballc ?_ _ | refine bdrew ?_ | refine bdrewN ?_ _ | refine bset ?_ _ _ | refine bsetN ?_ (by omega) _ _ | refine bthen ?_ (by assumption)))
  clear R8 R9 hw6 hbel5
  simp only at x0 x1
  go_wp2_with fail
  go_ret
  exact ⟨rfl, hbel6⟩
end Go.Proofs.Ytnkdbjmfpebcgaa
