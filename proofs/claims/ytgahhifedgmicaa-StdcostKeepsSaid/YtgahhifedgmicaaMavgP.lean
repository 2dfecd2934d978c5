/-
  The moving average: the plain law.
-/
import Derived.Test.YtgahhifedgmicaaFifoR
set_option linter.unusedVariables false
set_option linter.unusedSimpArgs false
namespace Go.Proofs.Ytgahhifedgmicaa
open Go.RowKit

/-- One layer, with more. -/
def inM (l : List Lay) (x : Lay) : List Lay × Int := if (inS l x).2 = 0 then ([tot (inS l x).1], 0) else (l, (inS l x).2)
theorem inS_no {l : List Lay} {x : Lay} (h : (inS l x).2 ≠ 0) : (inS l x).1 = l := by
  unfold inS at h ⊢
  split
  · rfl
  · split
    · rfl
    · split
      · rename_i h1 h2 h3; rw [if_neg h1, if_neg h2, if_pos h3] at h; exact absurd rfl h
      · rfl
theorem inS_yes {l : List Lay} {x : Lay} (h : (inS l x).2 = 0) : (inS l x).1 = l ++ [x] ∧ LR (l ++ [x]) := by
  unfold inS at h ⊢
  split
  · rename_i h1; rw [if_pos h1] at h; cases h
  · split
    · rename_i h1 h2; rw [if_neg h1, if_pos h2] at h; cases h
    · split
      · rename_i h1 h2 h3; exact ⟨rfl, LR.of h3⟩
      · rename_i h1 h2 h3; rw [if_neg h1, if_neg h2, if_neg h3] at h; cases h
theorem tot_LR {l : List Lay} (h : LR l) (h0 : l ≠ []) : LR [tot l] := by
  rw [h.tot.1]
  have a := qs_pos h.ok
  have b := ps_le l
  have := h.q; have := h.v; have := h.p
  have : 1 ≤ l.length := List.length_pos_iff.2 h0
  exact LR.one (layOk_iff.2 ⟨by simp only; omega, by simp only; omega, by simp only; omega, by simp only; omega, by simp only; omega, by simp only; omega⟩)
theorem inM_LR {l : List Lay} {x : Lay} (h : LR l) : LR (inM l x).1 := by
  unfold inM
  split
  · rename_i h1
    obtain ⟨e, h2⟩ := inS_yes h1
    rw [e]
    exact tot_LR h2 (by simp)
  · exact h
theorem inM_ok {l : List Lay} {x : Lay} (h : LR (l ++ [x])) : inM l x = ([⟨qs l + x.q, vs l + x.v, ps l + x.p⟩], 0) := by
  rw [inM, inS_ok h, if_pos rfl]
  simp only
  rw [h.tot.1, qs_append, vs_append, ps_append]
  simp [qs, vs, ps]
theorem outS_len {l : List Lay} {q : Int} : (outS l q).1.length ≤ l.length := by
  have k : ∀ (l : List Lay) (a : Lay) (q : Int), (outL l a q).1.length ≤ l.length := by
    intro l
    induction l with
    | nil => intro a q; simp [outL]
    | cons x r ih =>
      intro a q
      simp only [outL]
      split
      · exact Nat.le_refl _
      · split
        · simp
        · have := ih (plusL a x) (q - x.q); simp only [List.length_cons]; omega
  unfold outS
  split
  · exact Nat.le_refl _
  · split
    · exact Nat.le_refl _
    · exact k _ _ _

/-- A part of a layer. -/
theorem outL_one {x : Lay} {k : Int} (h1 : 1 ≤ k) (h2 : k < x.q) : outL [x] .zero k = ([minusL x (cutL x k)], cutL x k) := by
  rw [outL, if_neg (by omega), if_pos h2]
  simp [plusL, Lay.zero, cutL]
theorem outL_whole {x : Lay} {k : Int} (h1 : 1 ≤ k) (h2 : x.q = k) : outL [x] .zero k = ([], x) := by
  rw [outL, if_neg (by omega), if_neg (by omega)]
  simp [plusL, Lay.zero, outL]

/-- Two prices mixed. -/
structure Mix (n m p r k : Int) : Prop where
  lo : k * p ≤ (n * p + m * r) * k / (n + m)
  hi : (n * p + m * r) * k / (n + m) ≤ k * r
  left : (n + m - k) * p ≤ n * p + m * r - (n * p + m * r) * k / (n + m)
theorem mix {n m p r k : Int} (hn : 1 ≤ n) (hm : 1 ≤ m) (hp : 0 ≤ p) (hr : p ≤ r) (hk : 1 ≤ k) (hk' : k ≤ n + m) : Mix n m p r k := by
  have a1 : m * p ≤ m * r := Int.mul_le_mul_of_nonneg_left hr (by omega)
  have a2 : n * p ≤ n * r := Int.mul_le_mul_of_nonneg_left hr (by omega)
  have b1 : (n + m) * p ≤ n * p + m * r := by rw [Int.add_mul]; omega
  have b2 : n * p + m * r ≤ (n + m) * r := by rw [Int.add_mul]; omega
  have c1 : (n + m) * p * k ≤ (n * p + m * r) * k := Int.mul_le_mul_of_nonneg_right b1 (by omega)
  have c2 : (n * p + m * r) * k ≤ (n + m) * r * k := Int.mul_le_mul_of_nonneg_right b2 (by omega)
  have d1 : (n + m) * p * (n + m - k) ≤ (n * p + m * r) * (n + m - k) := Int.mul_le_mul_of_nonneg_right b1 (by omega)
  refine ⟨Int.le_ediv_of_mul_le (by omega) ?_, Int.ediv_le_of_le_mul (by omega) ?_, ?_⟩
  · rw [show k * p * (n + m) = (n + m) * p * k by rw [Int.mul_comm, Int.mul_comm k p, Int.mul_assoc]]
    exact c1
  · rw [show k * r * (n + m) = (n + m) * r * k by rw [Int.mul_comm, Int.mul_comm k r, Int.mul_assoc]]
    exact c2
  · generalize n * p + m * r = V at *
    generalize n + m = N at *
    have e1 := Int.mul_ediv_add_emod (V * k) N
    have e2 := Int.emod_nonneg (V * k) (show N ≠ 0 by omega)
    have e3 : N * (N - k) * p ≤ N * (V - V * k / N) := by
      rw [Int.mul_sub N V, show N * (N - k) * p = N * p * (N - k) by rw [Int.mul_assoc, Int.mul_assoc, Int.mul_comm p]]
      rw [Int.mul_sub V] at d1
      rw [Int.mul_comm V N] at d1
      omega
    rw [Int.mul_assoc] at e3
    exact Int.le_of_mul_le_mul_left e3 (by omega)
/-- All at one price. -/
theorem part_price {q k p : Int} (hq : 1 ≤ q) (hq' : q ≤ 100000) (hk : 0 ≤ k) (hk' : k ≤ q) (hp : 0 ≤ p) (hp' : p ≤ 100000) : partS (q * p) k q = k * p := by
  have := mul_bd (a := q) (b := p) (n := 100000) (m := 100000) (by omega) (by omega) hp hp'
  have h : ¬ (q < 1 ∨ k < 0 ∨ k > q ∨ inB (q * p) = false) := by
    rw [show inB (q * p) = true from inB_iff.2 ⟨by omega, by omega⟩]
    simp
    omega
  rw [part_pos h (by omega), Int.mul_assoc, Int.mul_ediv_cancel_left _ (by omega), Int.mul_comm]
end Go.Proofs.Ytgahhifedgmicaa
