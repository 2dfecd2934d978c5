/-
  One layer, piece by piece: the plain law.
-/
import Derived.Test.YtgahhifedgmicaaFifoR
set_option linter.unusedVariables false
set_option linter.unusedSimpArgs false
namespace Go.Proofs.Ytgahhifedgmicaa
open Go.RowKit

/-- How far the pieces are. -/
def OneSt (n k w r : Int) (i : Nat) (l : List Lay) (a b : Int) : Prop :=
  ((i : Int) < n ∧ ∃ u z : Int, l = [⟨n - i, u, z⟩] ∧ (n - i) * k ≤ u ∧ u ≤ (n - i) * k + (n - i) ∧ 0 ≤ u ∧ u ≤ w ∧ -1000 ≤ z ∧ z ≤ 1000 ∧ a = w - u ∧ b = r - z) ∨ ((i : Int) = n ∧ l = [] ∧ a = w ∧ b = r)

structure OneNext (n k w r : Int) (i : Nat) (l : List Lay) (a b : Int) : Prop where
  e : (outS l 1).2.2 = 0
  q : (outS l 1).2.1.q = 1
  v0 : k ≤ (outS l 1).2.1.v
  v1 : (outS l 1).2.1.v ≤ k + 1
  st : OneSt n k w r (i + 1) (outS l 1).1 (a + (outS l 1).2.1.v) (b + (outS l 1).2.1.p)
  p0 : -1000 ≤ (outS l 1).2.1.p
  p1 : (outS l 1).2.1.p ≤ 1000

theorem one_LR {n k w r : Int} {i : Nat} {l : List Lay} {a b : Int} (h : OneSt n k w r i l a b) (hn : n ≤ 40) (hw : w ≤ 10000) : LR l := by
  rcases h with ⟨h1, u, z, rfl, h2, h3, h4, h5, h6, h7, -, -⟩ | ⟨-, rfl, -, -⟩
  · exact LR.one (layOk_iff.2 ⟨by simp only; omega, by simp only; omega, by simp only; omega, by simp only; omega, by simp only; omega, by simp only; omega⟩)
  · exact LR.nil
theorem one_bd {n k w r : Int} {i : Nat} {l : List Lay} {a b : Int} (h : OneSt n k w r i l a b) (hr : -1000 ≤ r ∧ r ≤ 1000) (hw : 0 ≤ w) (hw' : w ≤ 10000) : 0 ≤ a ∧ a ≤ 10000 ∧ -2000 ≤ b ∧ b ≤ 2000 := by
  rcases h with ⟨h1, u, z, rfl, h2, h3, h4, h5, h6, h7, h8, h9⟩ | ⟨-, rfl, h8, h9⟩ <;> omega

theorem one_step {n k w r : Int} {i : Nat} {l : List Lay} {a b : Int} (h : OneSt n k w r i l a b) (hi : (i : Int) < n) (hk : 0 ≤ k) (hn : n ≤ 40) (hw : w ≤ 10000) : OneNext n k w r i l a b := by
  have hL := one_LR h hn hw
  rcases h with ⟨h1, u, z, rfl, h2, h3, h4, h5, h6, h7, h8, h9⟩ | ⟨h1, -, -, -⟩
  rotate_left
  · omega
  have hm : 1 ≤ n - i := by omega
  have hO := outS_ok (q := 1) hL (by omega) (by simp [qs]; omega)
  generalize hmm : n - (i : Int) = m at *
  by_cases h : m = 1
  · subst h
    have e : outL [⟨1, u, z⟩] .zero 1 = ([], ⟨1, u, z⟩) := by simp [outL, plusL, Lay.zero]
    rw [e] at hO
    refine ⟨by rw [hO], by rw [hO], by rw [hO]; simp only; omega, by rw [hO]; simp only; omega, ?_, by rw [hO]; exact h6, by rw [hO]; exact h7⟩
    rw [hO]
    exact .inr ⟨by omega, rfl, by simp only; omega, by simp only; omega⟩
  · have hkm : (m - 1) * k = m * k - k := by rw [Int.sub_mul, Int.one_mul]
    have pv : partS u 1 m = u / m := by rw [part_pos (by rw [show inB u = true from inB_iff.2 ⟨by omega, by omega⟩]; simp; omega) (by omega), Int.mul_one]
    have t0 : k ≤ u / m := Int.le_ediv_of_mul_le (by omega) (by rw [Int.mul_comm]; exact h2)
    have t1 : u / m ≤ k + 1 := Int.ediv_le_of_le_mul (by omega) (by rw [Int.add_mul, Int.one_mul, Int.mul_comm k]; exact h3)
    have t2 := Int.mul_ediv_add_emod u m
    have t3 := Int.emod_nonneg u (show m ≠ 0 by omega)
    have t4 := Int.emod_lt_of_pos u (show 0 < m by omega)
    have bz := part_bd (v := z) (q := 1) (n := m) (by omega) (by omega) (by omega) (inB_iff.2 ⟨by omega, by omega⟩)
    have z0 : -1000 ≤ partS z 1 m ∧ partS z 1 m ≤ 1000 ∧ -1000 ≤ z - partS z 1 m ∧ z - partS z 1 m ≤ 1000 := by
      by_cases hz : 0 ≤ z
      · have := bz.1 hz; omega
      · have := bz.2 (by omega); omega
    have e : outL [⟨m, u, z⟩] .zero 1 = ([⟨m - 1, u - u / m, z - partS z 1 m⟩], ⟨1, u / m, partS z 1 m⟩) := by
      have : (1 : Int) < m := by omega
      simp [outL, this, plusL, minusL, cutL, Lay.zero, pv]
    rw [e] at hO
    refine ⟨by rw [hO], by rw [hO], by rw [hO]; exact t0, by rw [hO]; exact t1, ?_, by rw [hO]; exact z0.1, by rw [hO]; exact z0.2.1⟩
    rw [hO]
    refine .inl ⟨by omega, u - u / m, z - partS z 1 m, by rw [show n - ((i + 1 : Nat) : Int) = m - 1 by omega], ?_, ?_, by have := Int.ediv_le_self (a := u) m h4; omega, by omega, by omega, by omega, by simp only; omega, by simp only; omega⟩
    all_goals rw [show n - ((i + 1 : Nat) : Int) = m - 1 by omega] <;> try rw [hkm]
    all_goals
      have hc : u / m = k ∨ u / m = k + 1 := by omega
      rcases hc with hc | hc
      · rw [hc] at t2 ⊢; omega
      · rw [hc, Int.mul_add, Int.mul_one] at t2; rw [hc]; omega
theorem one_end {n k w r : Int} {i : Nat} {l : List Lay} {a b : Int} (h : OneSt n k w r i l a b) (hi : ¬ (i : Int) < n) : l = [] ∧ a = w ∧ b = r := by
  rcases h with ⟨h1, -⟩ | ⟨h1, h2, h3, h4⟩
  · omega
  · exact ⟨h2, h3, h4⟩
theorem one_start {n w r : Int} (hn : 1 ≤ n) (hw : 0 ≤ w) (hr : -1000 ≤ r) (hr' : r ≤ 1000) : OneSt n (w / n) w r 0 [⟨n, w, r⟩] 0 0 := by
  have t2 := Int.mul_ediv_add_emod w n
  have t3 := Int.emod_nonneg w (show n ≠ 0 by omega)
  have t4 := Int.emod_lt_of_pos w (show 0 < n by omega)
  exact .inl ⟨by simp; omega, w, r, by simp, by simp; omega, by simp; omega, hw, by omega, hr, hr', by omega, by omega⟩
end Go.Proofs.Ytgahhifedgmicaa
