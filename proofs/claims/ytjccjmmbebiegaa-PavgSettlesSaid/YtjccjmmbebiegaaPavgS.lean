/-
  PavgSettles: plain sums of a pool of one layer that is settled. No program in sight.
-/
import Derived.Test.YtjccjmmbebiegaaPavgB
set_option linter.unusedVariables false
set_option linter.unusedSimpArgs false
namespace Go.Proofs.Ytjccjmmbebiegaa
open Go.RowKit

/-- So much of what is left costs its share of all, but for n. -/
theorem share {v q V Q n c : Int} (hq : 0 < q) (hQ : 0 ≤ Q) (hc0 : 0 ≤ c) (hc : c ≤ Q) (hn : 0 ≤ n) (hL : v * Q ≤ V * q) (hU : V * q ≤ v * Q + n * q) :
    v * c / q ≤ V * c / Q ∧ V * c / Q ≤ v * c / q + n ∧ v * (Q - c) ≤ (V - V * c / Q) * q ∧ (V - V * c / Q) * q ≤ v * (Q - c) + (n + 1) * q := by
  rcases (by omega : Q = 0 ∨ 0 < Q) with h0 | hQ
  · have : c = 0 := by omega
    subst h0; subst this
    simp
    simp at hL hU
    have : (n + 1) * q = n * q + q := by rw [Int.add_mul]; omega
    refine ⟨hn, hL, by omega⟩
  · have h1 : V * c / Q * Q ≤ V * c := Int.ediv_mul_le _ (by omega)
    have h2 : V * c < V * c / Q * Q + Q := by
      have := Int.lt_ediv_add_one_mul_self (V * c) hQ
      rw [Int.add_mul] at this; omega
    generalize V * c / Q = y at *
    have g1 : v * c / q * q ≤ v * c := Int.ediv_mul_le _ (by omega)
    have g2 : v * c < v * c / q * q + q := by
      have := Int.lt_ediv_add_one_mul_self (v * c) hq
      rw [Int.add_mul] at this; omega
    generalize v * c / q = t at *
    have a1 : 0 ≤ (V * c - y * Q) * q := Int.mul_nonneg (by omega) (by omega)
    have a2 : 0 ≤ (V * q - v * Q) * (Q - c) := Int.mul_nonneg (by omega) (by omega)
    have a3 : 0 ≤ (V * q - v * Q) * c := Int.mul_nonneg (by omega) (by omega)
    have a4 : 0 ≤ (v * Q + n * q - V * q) * c := Int.mul_nonneg (by omega) (by omega)
    have a5 : 0 ≤ (v * Q + n * q - V * q) * (Q - c) := Int.mul_nonneg (by omega) (by omega)
    have a6 : 0 ≤ (v * c - t * q) * Q := Int.mul_nonneg (by omega) (by omega)
    have a7 : 0 < (y * Q + Q - V * c) * q := Int.mul_pos (by omega) (by omega)
    have a8 : 0 < (t * q + q - v * c) * Q := Int.mul_pos (by omega) (by omega)
    have a9 : 0 ≤ n * q * (Q - c) := Int.mul_nonneg (Int.mul_nonneg hn (by omega)) (by omega)
    have a10 : 0 ≤ n * q * c := Int.mul_nonneg (Int.mul_nonneg hn (by omega)) (by omega)
    have a11 : 0 ≤ q * Q := Int.mul_nonneg (by omega) (by omega)
    have hqQ : 0 < q * Q := Int.mul_pos hq hQ
    refine ⟨?_, ?_, ?_, ?_⟩
    · have : t * (q * Q) < (y + 1) * (q * Q) := by grind
      have := Int.lt_of_mul_lt_mul_right this (by omega)
      omega
    · have : y * (q * Q) < (t + n + 1) * (q * Q) := by grind
      have := Int.lt_of_mul_lt_mul_right this (by omega)
      omega
    · refine Int.le_of_mul_le_mul_left ?_ hQ
      grind
    · refine Int.le_of_mul_le_mul_left ?_ hQ
      grind

def potV (q v : Int) : List Lay := if q = 0 then [] else [⟨q, v, 0⟩]
theorem potV_len (q v : Int) : (potV q v).length ≤ 1 := by unfold potV; split <;> simp
theorem potV_qs (q v : Int) : qs (potV q v) = q := by unfold potV; split <;> simp [qs, *]
theorem potV_vs {q v : Int} (h : q = 0 → v = 0) : vs (potV q v) = v := by
  unfold potV
  split
  · rw [h ‹_›]; rfl
  · simp [vs]
theorem potV_LR {q v : Int} (h0 : 0 ≤ q) (h1 : q ≤ 400) (v0 : 0 ≤ v) (v1 : v ≤ 20000) : LR (potV q v) := by
  unfold potV
  split
  · exact LR.nil
  · exact LR.one (layOk_iff.2 ⟨by simp only; omega, by simp only; omega, by simp only; omega, by simp only; omega, by simp only; omega, by simp only; omega⟩)
theorem in_potV {q v a b : Int} (h0 : 0 ≤ q) (h1 : q + a ≤ 400) (v0 : 0 ≤ v) (v1 : v + b ≤ 20000) (hz : q = 0 → v = 0) (a0 : 1 ≤ a) (b0 : 0 ≤ b) : inM (potV q v) ⟨a, b, 0⟩ = (potV (q + a) (v + b), 0) := by
  have hL := potV_LR h0 (by omega) v0 (by omega : v ≤ 20000)
  have hk : layOk ⟨a, b, 0⟩ = true := layOk_iff.2 ⟨by simp only; omega, by simp only; omega, by simp only; omega, by simp only; omega, by simp only; omega, by simp only; omega⟩
  have hqs := potV_qs q v
  have hvs := potV_vs hz
  have hps : ps (potV q v) = 0 := by unfold potV; split <;> rfl
  have haps : aps (potV q v) = 0 := by unfold potV; split <;> simp [aps, absum]
  have hlen := potV_len q v
  have hS := hL.snoc hk (by omega) (by rw [hqs]; simp only; omega) (by rw [hvs]; simp only; omega) (by rw [haps]; simp only; omega)
  have hr := hS.right
  have e : inS (potV q v) ⟨a, b, 0⟩ = (potV q v ++ [⟨a, b, 0⟩], 0) := by
    unfold inS
    rw [if_neg (by simp only; omega), if_neg (by omega), if_pos hr]
  unfold inM
  rw [e]
  simp only [if_true]
  rw [hS.tot.1]
  have t1 : qs (potV q v ++ [⟨a, b, 0⟩]) = q + a := by rw [qs_append, hqs]; simp [qs]
  have t2 : vs (potV q v ++ [⟨a, b, 0⟩]) = v + b := by rw [vs_append, hvs]; simp [vs]
  have t3 : ps (potV q v ++ [⟨a, b, 0⟩]) = 0 := by rw [ps_append, hps]; simp [ps]
  rw [t1, t2, t3]
  unfold potV
  rw [if_neg (by omega)]
theorem out_potV {q v k : Int} (h1 : q ≤ 400) (v0 : 0 ≤ v) (v1 : v ≤ 20000) (k0 : 1 ≤ k) (k1 : k ≤ q) : outS (potV q v) k = (potV (q - k) (v - v * k / q), ⟨k, v * k / q, 0⟩, 0) := by
  have hL := potV_LR (q := q) (v := v) (by omega) h1 v0 v1
  rw [outS_ok hL k0 (by rw [potV_qs]; exact k1)]
  unfold potV
  rw [if_neg (by omega)]
  by_cases hk : q = k
  · rw [outL_whole k0 hk, if_pos (by omega)]
    subst hk
    rw [Int.mul_ediv_cancel _ (by omega)]
  · rw [outL_one k0 (by simp only; omega), if_neg (by omega)]
    have e1 : partS v k q = v * k / q := by
      unfold partS
      rw [if_neg, if_neg (by omega)]
      have : inB v = true := inB_iff.2 ⟨by omega, by omega⟩
      rw [this]
      simp
      omega
    have e2 : partS 0 k q = 0 := by
      unfold partS
      split
      · rfl
      · simp
    simp only [cutL, minusL, e1, e2]
    simp
theorem turn_potV {d : Pnd} {q v k m : Int} {o : Lay × Lay × Lay} (hm : d.get k = m) (h1 : q ≤ 400) (v0 : 0 ≤ v) (v1 : v ≤ 20000) (m0 : 0 ≤ m) (m1 : m ≤ q) (ho : setK o k ⟨0, 0, 0⟩ = o) :
    turnK d (potV q v, o) k = (potV (q - m) (v - v * m / q), setK o k ⟨m, v * m / q, 0⟩) := by
  unfold turnK
  rw [hm]
  simp only
  by_cases hz : m = 0
  · subst hz
    have e : outS (potV q v) 0 = (potV q v, .zero, 1) := by unfold outS; rw [if_pos (by omega)]
    rw [e, if_neg (by simp)]
    simp [ho]
  · rw [out_potV h1 v0 v1 (by omega) m1, if_pos rfl]
/-- What settling leaves, and what each kind cost. -/
theorem sett_potV {q v a b c : Int} (h1 : q ≤ 400) (v0 : 0 ≤ v) (v1 : v ≤ 20000) (hz : q = 0 → v = 0) (a0 : 0 ≤ a) (b0 : 0 ≤ b) (c0 : 0 ≤ c) (hs : a + b + c ≤ q) :
    ∃ x y z : Int, settS (potV q v) ⟨a, b, c⟩ = (potV (q - a - b - c) (v - x - y - z), (⟨a, x, 0⟩, ⟨b, y, 0⟩, ⟨c, z, 0⟩)) ∧ 0 ≤ x ∧ 0 ≤ y ∧ 0 ≤ z ∧ x + y + z ≤ v ∧
      (0 < q → v * a / q - 2 ≤ x ∧ x ≤ v * a / q + 3 ∧ v * b / q - 2 ≤ y ∧ y ≤ v * b / q + 3 ∧ v * c / q - 2 ≤ z ∧ z ≤ v * c / q + 3) ∧ (q - a - b - c = 0 → v - x - y - z = 0) := by
  have bd : ∀ V m Q : Int, 0 ≤ V → 0 ≤ m → m ≤ Q → 0 ≤ V * m / Q ∧ V * m / Q ≤ V := by
    intro V m Q hV hm hQ
    rcases (by omega : Q = 0 ∨ 1 ≤ Q) with h | h
    · subst h
      have : m = 0 := by omega
      subst this
      simp; omega
    · exact part_bd_pos h hm hQ hV
  have fin : ∀ V m Q : Int, (Q = 0 → V = 0) → 0 ≤ V → 0 ≤ m → m ≤ Q → Q - m = 0 → V - V * m / Q = 0 := by
    intro V m Q hz hV h0 h1 h
    have : m = Q := by omega
    subst this
    rcases (by omega : m = 0 ∨ m ≠ 0) with h | h
    · rw [hz h]; simp
    · rw [Int.mul_ediv_cancel _ h]; omega
  obtain ⟨x, hx⟩ : ∃ x, v * a / q = x := ⟨_, rfl⟩
  obtain ⟨y, hy⟩ : ∃ y, (v - x) * b / (q - a) = y := ⟨_, rfl⟩
  obtain ⟨z, hz2⟩ : ∃ z, (v - x - y) * c / (q - a - b) = z := ⟨_, rfl⟩
  have bx := bd v a q v0 a0 (by omega)
  rw [hx] at bx
  have by_ := bd (v - x) b (q - a) (by omega) b0 (by omega)
  rw [hy] at by_
  have bz := bd (v - x - y) c (q - a - b) (by omega) c0 (by omega)
  rw [hz2] at bz
  have f1 := fin v a q hz v0 a0 (by omega)
  rw [hx] at f1
  have f2 := fin (v - x) b (q - a) f1 (by omega) b0 (by omega)
  rw [hy] at f2
  have f3 := fin (v - x - y) c (q - a - b) f2 (by omega) c0 (by omega)
  rw [hz2] at f3
  refine ⟨x, y, z, ?_, bx.1, by_.1, bz.1, by omega, ?_, f3⟩
  · unfold settS
    rw [turn_potV (d := ⟨a, b, c⟩) (k := 0) (m := a) rfl h1 v0 v1 a0 (by omega) rfl, hx]
    rw [turn_potV (d := ⟨a, b, c⟩) (k := 1) (m := b) rfl (by omega) (by omega) (by omega) b0 (by omega) rfl, hy]
    rw [turn_potV (d := ⟨a, b, c⟩) (k := 2) (m := c) rfl (by omega) (by omega) (by omega) c0 (by omega) rfl, hz2]
    rfl
  · intro hq
    have s1 := share (v := v) (q := q) (V := v) (Q := q) (n := 0) (c := a) hq (by omega) a0 (by omega) (by omega) (by omega) (by omega)
    rw [hx] at s1
    have s2 := share (v := v) (q := q) (V := v - x) (Q := q - a) (n := 1) (c := b) hq (by omega) b0 (by omega) (by omega) s1.2.2.1 (by simpa using s1.2.2.2)
    rw [hy] at s2
    have s3 := share (v := v) (q := q) (V := v - x - y) (Q := q - a - b) (n := 2) (c := c) hq (by omega) c0 (by omega) (by omega) s2.2.2.1 (by simpa using s2.2.2.2)
    rw [hz2] at s3
    omega
end Go.Proofs.Ytjccjmmbebiegaa
