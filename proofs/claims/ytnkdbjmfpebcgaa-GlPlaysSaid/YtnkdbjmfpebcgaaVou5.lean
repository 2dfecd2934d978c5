/-
  voucher.Check, voucher.Total; the document's example.
-/
import Derived.Test.YtnkdbjmfpebcgaaVou4
set_option linter.unusedVariables false
set_option linter.unusedSimpArgs false
namespace Go.Proofs.Ytnkdbjmfpebcgaa
open Go.RowKit

theorem delete_zero {F : FuncId} {p : Lin → Bool} (hF : Pred F p) (a : Option Addr) (cap : Nat) (w : World) (h : Row w 2 a 0 cap (flat2 [])) :
    Calls Try.prog 34 #[.slice a 0 cap, .func (.func F) #[] #[]] w fun e w' => e = .returned (.slice a 0 cap) ∧ Below w.heap.size w w' := by
  have hidx := idx_func hF a cap []
  go_enter Try.func34, Try.ntmps34
  clear hF
  go_wp2_with fail
  refine (hidx w h).mono ?_
  rw [show idxP p [] = -1 from rfl]
  rintro e w1 ⟨rfl, hw1⟩
  go_wp2_with fail
  go_ret
  exact ⟨rfl, hw1⟩

def checkL (l : List Lin) : Bool := decide (1 ≤ l.length) && decide (l.length ≤ 12) && !(l.any badC) && decide (sumV (amts l) = 0) && decide (sumE (amts l) = 0)
def totL (l : List Lin) : Int × Int := if l.any badT then (0, 2) else (sumV (amts (l.filter fun x => !noDeb x)), sumE (amts (l.filter fun x => !noDeb x)))

set_option maxHeartbeats 1000000 in
theorem vou_Check (a : Option Addr) (cap : Nat) (l : List Lin) (w : World) (h : Row w 2 a l.length cap (flat2 l)) :
    Calls Try.prog 9 #[.slice a l.length cap] w fun e w' => e = .returned (.bool (checkL l)) ∧ Below w.heap.size w w' := by
  generalize hr : checkL l = r
  have hrh := Lib.hid hr
  clear hr
  go_enter Try.func9, Try.ntmps9
  by_cases h0 : l.length < 1 ∨ 12 < l.length
  · have hr : r = false := by rw [← hrh.out]; rcases h0 with h0 | h0 <;> simp [checkL] <;> omega
    subst hr
    clear hrh
    rcases h0 with h0 | h0
    · have h0' : (l.length : Int) < 1 := by omega
      go_wp2_with fail
      go_ret
      exact ⟨rfl, Below.refl _ _⟩
    · have h0' : (12 : Int) < (l.length : Int) := by omega
      have h1' : ¬ (l.length : Int) < 1 := by omega
      go_wp2_with fail
      go_ret
      exact ⟨rfl, Below.refl _ _⟩
  have h1 : ¬ (l.length : Int) < 1 := by omega
  have h2 : ¬ (12 : Int) < (l.length : Int) := by omega
  have h3 : l.length ≤ 12 := by omega
  have h4 : 1 ≤ l.length := by omega
  have hc : r = (!(l.any badC) && decide (sumV (amts l) = 0) && decide (sumE (amts l) = 0)) := by rw [← hrh.out]; simp [checkL, h3, h4]
  have hch := Lib.hid hc
  clear hrh hc h0 h4
  go_wp2_with fail
  refine (vou_sum a cap l _ h (by omega)).mono ?_
  rintro e w1 ⟨rfl, hw1⟩
  go_wp2_with fail
  refine (contains_func pred_C1 a cap l _ (h.below hw1)).mono ?_
  rintro e w2 ⟨rfl, hw2⟩
  have hb : Below w.heap.size w w2 := by (repeat (first | assumption | exact Below.refl _ _ | refine ballc ?_ _ | refine bdrew ?_ | refine bdrewN ?_ _ | refine bset ?_ _ _ | refine bsetN ?_ (by omega) _ _ | refine bthen ?_ (by assumption)))
  cases hbad : l.any badC
  all_goals
    by_cases hv : sumV (amts l) = 0
    all_goals
      by_cases he : sumE (amts l) = 0
      all_goals
        have hr : r = (!(l.any badC) && decide (sumV (amts l) = 0) && decide (sumE (amts l) = 0)) := hch.out
        simp only [hbad, hv, he] at hr
        simp at hr
        subst hr
        clear hch
        go_wp2_with fail
        go_ret
        first | exact ⟨rfl, hb⟩ | exact ⟨ret_bool (by simp [he]), hb⟩ | exact ⟨ret_bool (by simp [hv]), hb⟩

set_option maxHeartbeats 1000000 in
theorem vou_Total (a : Option Addr) (cap : Nat) (l : List Lin) (w : World) (h : Row w 2 a l.length cap (flat2 l)) (hn : l.length ≤ 1000) :
    Calls Try.prog 13 #[.slice a l.length cap] w fun e w' => e = .returned (.tuple #[.int .i64 (totL l).1, .int .i64 (totL l).2]) ∧ Below w.heap.size w w' := by
  have hall := h.all
  generalize hr : totL l = r
  have hrh := Lib.hid hr
  clear hr
  go_enter Try.func13, Try.ntmps13
  go_wp2_with fail
  refine (contains_func pred_T1 a cap l _ h).mono ?_
  rintro e w1 ⟨rfl, hw1⟩
  have h1 := h.below hw1
  obtain ⟨m, hm⟩ : ∃ m, (l.filter fun x => !noDeb x) = m := ⟨_, rfl⟩
  have hmh := Lib.hid hm
  clear hm
  cases hbad : l.any badT
  · have hr : r = (sumV (amts m), sumE (amts m)) := by rw [← hrh.out, ← hmh.out]; simp [totL, hbad]
    subst hr
    clear h hrh
    go_wp2_with fail
    refine (Clone_Line a l.length cap (flat2 l) _ h1 (by omega)).mono ?_
    rintro e w2 ⟨⟨v2, rfl, O2⟩, hw2⟩
    have hbel2 : Below w.heap.size w w2 := by (repeat (first | assumption | exact Below.refl _ _ | refine ballc ?_ _ | refine bdrew ?_ | refine bdrewN ?_ _ | refine bset ?_ _ _ | refine bsetN ?_ (by omega) _ _ | refine bthen ?_ (by assumption)))
    by_cases h0 : l.length = 0
    · obtain rfl : l = [] := List.eq_nil_of_length_eq_zero h0
      have hm0 : m = [] := hmh.out.symm
      subst hm0
      obtain ⟨a2, c2, rfl, R2⟩ := O2.row hall
      have hd := delete_zero pred_T2 a2 c2 w2 R2
      clear h0 O2 hall h1 hmh
      go_wp2_with fail
      refine hd.mono ?_
      rintro e w3 ⟨rfl, hw3⟩
      have hs := vou_sum a2 c2 [] w3 (R2.below hw3) (by decide)
      go_wp2_with fail
      refine hs.mono ?_
      rintro e w4 ⟨rfl, hw4⟩
      go_wp2_with fail
      go_ret2
      exact ⟨rfl, by (repeat (first | assumption | exact Below.refl _ _ | refine ballc ?_ _ | refine bdrew ?_ | refine bdrewN ?_ _ | refine bset ?_ _ _ | refine bsetN ?_ (by omega) _ _ | refine bthen ?_ (by assumption)))⟩
    · obtain ⟨b, c2, rfl, hbB, hb, hnc, hcm, hcs, hfz⟩ := O2.full (by omega)
      have hd := delete_func pred_T2 b 0 c2 l w2 hcs hfz hb hnc hcm hall
      clear O2 h1 hcs h0
      go_wp2_with fail
      refine hd.mono ?_
      rw [hmh.out]
      rintro e w3 ⟨rfl, hC, hK⟩
      have hbel3 : Below w.heap.size w w3 := hbel2.trans (hK.below hbel2.size (Nat.le_trans hw1.size hbB))
      have hfa : AllI (flat2 m) := flat2_of fun x hx => by rw [← hmh.out] at hx; exact flat2_all hall (List.mem_filter.1 hx).1
      have hfl : m.length ≤ l.length := by rw [← hmh.out]; exact List.length_filter_le _ _
      have R3 : Row w3 2 (some ⟨b, 0, none⟩) m.length c2 (flat2 m) := ⟨flat2_len _, Nat.le_trans hfl hnc, hcm, hfa, .inr ⟨b, 0, rfl, Nat.lt_of_lt_of_le hb hK.size, hC⟩⟩
      have hs := vou_sum (some ⟨b, 0, none⟩) c2 m w3 R3 (by omega)
      clear hC hK R3 hfa hd hall hw1 hw2
      go_wp2_with fail
      refine hs.mono ?_
      rintro e w4 ⟨rfl, hw4⟩
      go_wp2_with fail
      go_ret2
      exact ⟨rfl, by (repeat (first | assumption | exact Below.refl _ _ | refine ballc ?_ _ | refine bdrew ?_ | refine bdrewN ?_ _ | refine bset ?_ _ _ | refine bsetN ?_ (by omega) _ _ | refine bthen ?_ (by assumption)))⟩
  · have hr : r = (0, 2) := by rw [← hrh.out]; simp [totL, hbad]
    subst hr
    clear hrh
    go_wp2_with fail
    go_ret2
    exact ⟨rfl, hw1⟩
end Go.Proofs.Ytnkdbjmfpebcgaa
