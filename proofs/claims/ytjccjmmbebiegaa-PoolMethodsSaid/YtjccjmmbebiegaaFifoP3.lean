/-
  Layers whose pieces are worth the same each: what is taken piece by piece. The plain law.
-/
import Derived.Test.YtjccjmmbebiegaaFifoA
set_option linter.unusedVariables false
set_option linter.unusedSimpArgs false
namespace Go.Proofs.Ytjccjmmbebiegaa
open Go.RowKit

theorem sum_rep (k : Nat) (c : Int) : (List.replicate k c).sum = (k : Int) * c := by
  induction k with
  | zero => simp
  | succ k ih => rw [List.replicate_succ, List.sum_cons, ih, Int.natCast_succ, Int.add_mul, Int.one_mul, Int.add_comm]

structure Pc where
  q : Nat
  c : Int
def Pc.lay (x : Pc) : Lay := ⟨x.q, x.q * x.c, 0⟩
def lays (l : List Pc) : List Lay := l.map Pc.lay
def units (l : List Pc) : List Int := l.flatMap fun x => List.replicate x.q x.c
structure PcOk (x : Pc) : Prop where
  q0 : 1 ≤ x.q
  q1 : x.q ≤ 6
  c0 : 0 ≤ x.c
  c1 : x.c ≤ 16
theorem PcOk.v {x : Pc} (h : PcOk x) : 0 ≤ (x.q : Int) * x.c ∧ (x.q : Int) * x.c ≤ 96 := by
  obtain ⟨a, b, c, d⟩ := h
  have := mul_bd (a := (x.q : Int)) (b := x.c) (n := 6) (m := 16) (by omega) (by omega) c d
  omega
theorem units_cons (x : Pc) (l : List Pc) : units (x :: l) = List.replicate x.q x.c ++ units l := rfl
theorem lays_LR {l : List Pc} (hl : l.length ≤ 30) (h : ∀ x, x ∈ l → PcOk x) : LR (lays l) := by
  have hs : qs (lays l) ≤ 6 * l.length ∧ vs (lays l) ≤ 96 * l.length ∧ aps (lays l) = 0 := by
    clear hl
    induction l with
    | nil => simp [lays, qs, vs, aps, absum]
    | cons x l ih =>
      have := ih fun y hy => h y (by simp [hy])
      have k := h x (by simp)
      have kv := k.v
      have := k.q1
      show qs (x.lay :: lays l) ≤ _ ∧ vs (x.lay :: lays l) ≤ _ ∧ aps (x.lay :: lays l) = _
      rw [qs_cons, vs_cons, aps_cons, List.length_cons]
      simp only [Pc.lay]
      omega
  refine ⟨by simpa [lays] using hl, fun y hy => ?_, by omega, by omega, by omega⟩
  obtain ⟨x, hx, rfl⟩ := List.mem_map.1 hy
  have k := h x hx
  have kv := k.v
  have := k.q0; have := k.q1
  exact layOk_iff.2 ⟨by simp only [Pc.lay]; omega, by simp only [Pc.lay]; omega, by simp only [Pc.lay]; omega, by simp only [Pc.lay]; omega, by simp only [Pc.lay]; omega, by simp only [Pc.lay]; omega⟩
theorem units_len (l : List Pc) : ((units l).length : Int) = qs (lays l) := by
  induction l with
  | nil => rfl
  | cons x l ih =>
    show _ = qs (x.lay :: lays l)
    rw [units_cons, List.length_append, List.length_replicate, qs_cons, ← ih]
    simp only [Pc.lay]
    omega
theorem units_sum (l : List Pc) : (units l).sum = vs (lays l) := by
  induction l with
  | nil => rfl
  | cons x l ih =>
    show _ = vs (x.lay :: lays l)
    rw [units_cons, List.sum_append, sum_rep, vs_cons, ← ih]
    simp only [Pc.lay]
    try simp
theorem part_unit {q k : Nat} {c : Int} (hq : 1 ≤ q) (hq' : q ≤ 6) (hk : k ≤ q) (hc : 0 ≤ c) (hc' : c ≤ 16) : partS ((q : Int) * c) k q = (k : Int) * c := by
  have := mul_bd (a := (q : Int)) (b := c) (n := 6) (m := 16) (by omega) (by omega) hc hc'
  have h : ¬ ((q : Int) < 1 ∨ (k : Int) < 0 ∨ (k : Int) > q ∨ inB ((q : Int) * c) = false) := by
    rw [show inB ((q : Int) * c) = true from inB_iff.2 ⟨by omega, by omega⟩]
    try simp
    omega
  rw [part_pos h (by omega), Int.mul_assoc, Int.mul_ediv_cancel_left _ (by omega), Int.mul_comm]
theorem part_zero {q k : Int} (hq : 1 ≤ q) (hk : 0 ≤ k) (hk' : k ≤ q) : partS 0 k q = 0 := by
  have h : ¬ (q < 1 ∨ k < 0 ∨ k > q ∨ inB 0 = false) := by
    rw [show inB 0 = true from by decide +kernel]
    try simp
    omega
  rw [part_pos h (by omega)]
  try simp
theorem take_units (l : List Pc) : ∀ (k : Nat) (a : Lay), (∀ x, x ∈ l → PcOk x) → k ≤ (units l).length →
    ∃ m, outL (lays l) a k = (lays m, ⟨a.q + k, a.v + ((units l).take k).sum, a.p⟩) ∧ units m = (units l).drop k ∧ m.length ≤ l.length ∧ ∀ x, x ∈ m → PcOk x := by
  induction l with
  | nil =>
    intro k a h hk
    simp [units] at hk
    subst hk
    exact ⟨[], by simp [outL, lays], by simp [units], by simp, fun x hx => by simp at hx⟩
  | cons x l ih =>
    intro k a h hk
    have kx := h x (by simp)
    have k0 := kx.q0; have k1 := kx.q1
    show ∃ m, outL (x.lay :: lays l) a k = _ ∧ _
    by_cases hz : k = 0
    · subst hz
      exact ⟨x :: l, by simp [outL, lays], by simp, by simp, h⟩
    · by_cases hlt : k < x.q
      · have hp := part_unit k0 k1 (Nat.le_of_lt hlt) kx.c0 kx.c1
        have hp0 := part_zero (q := x.q) (k := k) (by omega) (by omega) (by omega)
        refine ⟨⟨x.q - k, x.c⟩ :: l, ?_, ?_, by simp, ?_⟩
        · have e1 : ((x.q - k : Nat) : Int) = (x.q : Int) - k := by omega
          have e2 : (((units (x :: l)).take k).sum : Int) = (k : Int) * x.c := by
            rw [units_cons, List.take_append_of_le_length (by simp; omega), List.take_replicate, sum_rep, Nat.min_eq_left (by omega)]
            try simp
          rw [outL, if_neg (by omega), if_pos (by simp only [Pc.lay]; omega), e2]
          simp only [Pc.lay, minusL, cutL, plusL, hp, hp0, lays, List.map_cons, e1, Int.sub_mul, Int.sub_zero, Int.add_zero]
        · rw [units_cons, units_cons, List.drop_append_of_le_length (by simp; omega), List.drop_replicate]
        · intro y hy
          rcases List.mem_cons.1 hy with rfl | hy
          · exact ⟨by simp only; omega, by simp only; omega, kx.c0, kx.c1⟩
          · exact h y (by simp [hy])
      · have hk' : k - x.q ≤ (units l).length := by
          rw [units_cons, List.length_append, List.length_replicate] at hk
          omega
        obtain ⟨m, e, e1, e2, e3⟩ := ih (k - x.q) (plusL a x.lay) (fun y hy => h y (by simp [hy])) hk'
        refine ⟨m, ?_, ?_, by simp; omega, e3⟩
        · rw [outL, if_neg (by omega), if_neg (by simp only [Pc.lay]; omega)]
          have ek : (k : Int) - x.lay.q = ((k - x.q : Nat) : Int) := by simp only [Pc.lay]; omega
          rw [ek, e]
          have es : (((units (x :: l)).take k).sum : Int) = (x.q : Int) * x.c + ((units l).take (k - x.q)).sum := by
            rw [units_cons, List.take_append, List.length_replicate, List.take_of_length_le (by simp; omega), List.sum_append, sum_rep]
            try simp
          rw [es]
          have eq : a.q + (x.q : Int) + ((k - x.q : Nat) : Int) = a.q + k := by omega
          simp only [plusL, Pc.lay, Prod.mk.injEq, true_and, Lay.mk.injEq, eq, Int.add_zero, and_true, Int.add_assoc]
        · rw [e1, units_cons, List.drop_append, List.length_replicate, List.drop_of_length_le (l := List.replicate x.q x.c) (by rw [List.length_replicate]; omega), List.nil_append]
theorem lays_snoc (l : List Pc) (x : Pc) : lays (l ++ [x]) = lays l ++ [x.lay] := by simp [lays]
theorem units_snoc (l : List Pc) (x : Pc) : units (l ++ [x]) = units l ++ List.replicate x.q x.c := by simp [units]
end Go.Proofs.Ytjccjmmbebiegaa
