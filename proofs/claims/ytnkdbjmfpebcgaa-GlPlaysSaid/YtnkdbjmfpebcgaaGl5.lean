/-
  GlLimits. Its walk.
-/
import Derived.Test.YtnkdbjmfpebcgaaGl4
set_option linter.unusedVariables false
set_option linter.unusedSimpArgs false
namespace Go.Proofs.Ytnkdbjmfpebcgaa
open Go.RowKit

theorem plain_two {a : Nat} {r : Int} (ha : a < 16) (hr : -288230376151711744 ≤ r ∧ r ≤ 288230376151711744) : plainS [⟨(a : Int), r⟩, ⟨16, -r⟩] = (if r = 0 then [] else [⟨(a : Int), r⟩, ⟨16, -r⟩], 0) := by
  have hi : inB r = true := inB_iff.2 hr
  have hi2 : inB (-r) = true := inB_iff.2 ⟨by omega, by omega⟩
  have h1 : ([⟨(a : Int), r⟩, ⟨16, -r⟩] : List Lin).any badP = false := by
    simp [badP, isAcc, hi, hi2]; omega
  have A1 : Added ([] ++ [⟨(a : Int), r⟩]) ([] ++ [⟨(a : Int), r⟩]) := Added.nil.more (Rises.one _) hi (by simp)
  have A2 := A1.more (x := ⟨16, -r⟩) (by simp [Rises]; omega) hi2 (by
    intro A y e
    have := List.append_inj' e rfl
    simp at this
    rw [← this.2]
    simp only
    omega)
  have := plain_ok h1 (Stab.refl _) A2
  rw [this]
  by_cases h0 : r = 0
  · simp [h0, zeroN]
  · simp [h0, zeroN]
theorem check_two {a : Nat} {r : Int} (ha : a < 16) (h0 : r ≠ 0) (hr : -288230376151711744 ≤ r ∧ r ≤ 288230376151711744) : checkL [⟨(a : Int), r⟩, ⟨16, -r⟩] = true := by
  have hi : inB r = true := inB_iff.2 hr
  have hi2 : inB (-r) = true := inB_iff.2 ⟨by omega, by omega⟩
  have h1 : ([⟨(a : Int), r⟩, ⟨16, -r⟩] : List Lin).any badC = false := by
    simp [badC, isAcc, hi, hi2, h0]; omega
  have hs : sumGo 0 (amts [⟨(a : Int), r⟩, ⟨16, -r⟩]) = some 0 := by
    have o1 : addOk 0 r = true := addOk_iff.2 ⟨by decide +kernel, hi, by rw [Int.zero_add]; exact hi⟩
    have o2 : addOk r (-r) = true := addOk_iff.2 ⟨hi, hi2, by rw [Int.add_right_neg]; decide +kernel⟩
    simp [amts, sumGo, o1, o2, Int.add_right_neg]
  have := sumV_some hs
  simp [checkL, h1, this]

/-- Two balances that are each other's opposite. -/
def twoB (a : Nat) (n : Int) : List Int := (zero17.set a n).set 16 (-n)
theorem twoB_len (a : Nat) (n : Int) : (twoB a n).length = 17 := by simp [twoB, zero17]
theorem twoB_a {a : Nat} (n : Int) (ha : a < 16) : (twoB a n).getD a 0 = n := by
  rw [List.getD_eq_getElem?_getD, twoB, List.getElem?_set_ne (by omega), List.getElem?_set_self (by simp [zero17]; omega)]; rfl
theorem twoB_z (a : Nat) (n : Int) : (twoB a n).getD 16 0 = -n := by
  rw [List.getD_eq_getElem?_getD, twoB, List.getElem?_set_self (by simp [zero17])]; rfl
theorem twoB_set {a : Nat} (n m : Int) (ha : a < 16) : ((twoB a n).set a m).set 16 (-m) = twoB a m := by
  unfold twoB
  rw [List.set_comm _ _ (show 16 ≠ a by omega), List.set_set, List.set_set]
theorem twoB_trial : ∀ a, a < 16 → trialS (twoB a 288230376151711744) = (288230376151711744, 288230376151711744, 0) ∧ trialS (twoB a (-288230376151711744)) = (288230376151711744, 288230376151711744, 0) := by decide +kernel
theorem postS_some {bal x : List Int} {l m : List Lin} (hP : plainS l = (m, 0)) (hc : m.length = 0 ∨ checkL m = true) (h : addAll bal m = some x) : postS bal l = (x, 0) := by
  have hn : ¬ ((0 : Int) ≠ 0 ∨ (0 < m.length ∧ checkL m = false)) := by
    rintro (h | ⟨h1, h2⟩)
    · exact h rfl
    · rcases hc with h3 | h3
      · omega
      · rw [h3] at h2; cases h2
  have e1 : postE bal l = 0 := by rw [postE, hP, if_neg hn, h]
  rw [postS, if_pos e1, postN, hP, h]
  rfl
theorem postS_none {bal : List Int} {l m : List Lin} (hP : plainS l = (m, 0)) (hc : m.length = 0 ∨ checkL m = true) (h : addAll bal m = none) : postS bal l = (bal, 2) := by
  have hn : ¬ ((0 : Int) ≠ 0 ∨ (0 < m.length ∧ checkL m = false)) := by
    rintro (h | ⟨h1, h2⟩)
    · exact h rfl
    · rcases hc with h3 | h3
      · omega
      · rw [h3] at h2; cases h2
  have e1 : postE bal l = 2 := by rw [postE, hP, if_neg hn, h]
  rw [postS, if_neg (by rw [e1]; decide), e1]
theorem postS_bad {bal : List Int} {l m : List Lin} {e : Int} (hP : plainS l = (m, e)) (hc : e ≠ 0 ∨ (0 < m.length ∧ checkL m = false)) : postS bal l = (bal, 10) := by
  have e1 : postE bal l = 10 := by rw [postE, hP, if_pos hc]
  rw [postS, if_neg (by rw [e1]; decide), e1]
theorem post_two {a : Nat} {n r : Int} (ha : a < 16) (hr : -288230376151711744 ≤ r ∧ r ≤ 288230376151711744) (hn : -288230376151711744 ≤ n ∧ n ≤ 288230376151711744) :
    postS (twoB a n) [⟨(a : Int), r⟩, ⟨16, -r⟩] = if -288230376151711744 ≤ n + r ∧ n + r ≤ 288230376151711744 then (twoB a (n + r), 0) else (twoB a n, 2) := by
  have hi : inB r = true := inB_iff.2 hr
  have hin : inB n = true := inB_iff.2 hn
  by_cases h0 : r = 0
  · subst h0
    have e : plainS [⟨(a : Int), 0⟩, ⟨16, -0⟩] = ([], 0) := by rw [plain_two ha (by omega)]; simp
    rw [if_pos (by omega), postS_some e (.inl rfl) (x := twoB a n) rfl, Int.add_zero]
  · have e : plainS [⟨(a : Int), r⟩, ⟨16, -r⟩] = ([⟨(a : Int), r⟩, ⟨16, -r⟩], 0) := by rw [plain_two ha hr, if_neg h0]
    have hc := check_two ha h0 hr
    by_cases hb : -288230376151711744 ≤ n + r ∧ n + r ≤ 288230376151711744
    · have o1 : addOk n r = true := addOk_iff.2 ⟨hin, hi, inB_iff.2 hb⟩
      have o2 : addOk (-n) (-r) = true := addOk_iff.2 ⟨inB_iff.2 ⟨by omega, by omega⟩, inB_iff.2 ⟨by omega, by omega⟩, inB_iff.2 ⟨by omega, by omega⟩⟩
      have e4 := twoB_a n ha
      have e3 : ((twoB a n).set a (n + r)).getD 16 0 = -n := by
        rw [List.getD_eq_getElem?_getD, List.getElem?_set_ne (by omega), ← List.getD_eq_getElem?_getD, twoB_z]
      have e5 : (16 : Int).toNat = 16 := rfl
      have e6 : -n + -r = -(n + r) := by omega
      rw [if_pos hb]
      refine postS_some e (.inr hc) ?_
      simp only [addAll, Int.toNat_natCast, e4, o1, if_true, e5, e3, o2, e6, twoB_set n (n + r) ha]
    · have o1 : addOk n r = false := by
        cases h : addOk n r
        · rfl
        · exact absurd (inB_iff.1 (addOk_iff.1 h).2.2) hb
      have e4 := twoB_a n ha
      rw [if_neg hb]
      refine postS_none e (.inr hc) ?_
      simp [addAll, Int.toNat_natCast, o1, ← List.getD_eq_getElem?_getD, e4]
theorem Row.drop1 {w : World} {b off n cap : Nat} {zs : List Int} (h : Row w 1 (some ⟨b, off, none⟩) (n + 1) cap zs) (hb : b < w.heap.size) : Row w 1 (some ⟨b, off + 1, none⟩) n (cap - 1) (zs.drop 1) := by
  have hl := h.len
  have hle := h.le
  have hm := h.max
  refine ⟨by simp; omega, by omega, by omega, fun z hz => h.all z (List.mem_of_mem_drop hz), .inr ⟨b, off + 1, rfl, hb, fun i hi => ?_⟩⟩
  rcases h.at_ with h0 | ⟨b', off', e, -, hc⟩
  · omega
  · cases e
    have := hc (1 + i) (by simp at hi; omega)
    rw [show off + 1 + i = off + (1 + i) by omega, this]
    simp [List.getD_eq_getElem?_getD, Nat.add_comm]
end Go.Proofs.Ytnkdbjmfpebcgaa
