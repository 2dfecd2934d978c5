/-
  One layer and what came and went. No program in sight.
-/
import Derived.Test.YtgahhifedgmicaaMavgP
set_option linter.unusedVariables false
set_option linter.unusedSimpArgs false
namespace Go.Proofs.Ytgahhifedgmicaa
structure Got (m : List Lay) (j : Int) : Prop where
  lr : LR m
  len : m.length ≤ 1
  q : qs m ≤ 20 * j
  v : vs m ≤ 500 * j
  p : aps m ≤ 100 * j
theorem Got.nil : Got [] 0 := ⟨LR.nil, by simp, by simp [qs], by simp [vs], by simp [aps, absum]⟩
theorem Got.bd {m : List Lay} {j : Int} (h : Got m j) : 0 ≤ qs m ∧ qs m ≤ 20 * j ∧ 0 ≤ vs m ∧ vs m ≤ 500 * j ∧ -(100 * j) ≤ ps m ∧ ps m ≤ 100 * j := by
  have a := qs_pos h.lr.ok
  have b := ps_le m
  have := h.q; have := h.v; have := h.p
  omega
theorem Got.in_ {m : List Lay} {j : Int} (h : Got m j) (hj : j ≤ 100) {x : Lay} (q0 : 1 ≤ x.q) (q1 : x.q ≤ 20) (v0 : 0 ≤ x.v) (v1 : x.v ≤ 499) (p0 : -100 ≤ x.p) (p1 : x.p ≤ 99) :
    inM m x = ([⟨qs m + x.q, vs m + x.v, ps m + x.p⟩], 0) ∧ Got [⟨qs m + x.q, vs m + x.v, ps m + x.p⟩] (j + 1) := by
  have b := h.bd
  have := h.q; have := h.v; have := h.p; have := h.len
  have hk : layOk x = true := layOk_iff.2 ⟨q0, by omega, v0, by omega, by omega, by omega⟩
  have e := inM_ok (h.lr.snoc hk (by omega) (by omega) (by omega) (by omega))
  refine ⟨e, ?_⟩
  have hL := inM_LR (x := x) h.lr
  rw [e] at hL
  exact ⟨hL, by simp, by simp [qs]; simp only [qs] at *; omega, by simp [vs]; simp only [vs] at *; omega, by simp [aps, absum]; simp only [ps, aps, absum] at *; omega⟩
theorem Got.out {m m' : List Lay} {y : Lay} {e' j q : Int} (h : Got m j) (hj : 0 ≤ j) (q0 : 1 ≤ q) (hO : outS m q = (m', y, e')) :
    Got m' (j + 1) ∧ y.q + qs m' = qs m ∧ y.v + vs m' = vs m ∧ y.p + ps m' = ps m := by
  have b := h.bd
  have := h.q; have := h.v; have := h.p; have := h.len
  have hlen := outS_len (l := m) (q := q)
  rw [hO] at hlen
  by_cases hq : q ≤ qs m
  · rw [outS_ok h.lr q0 hq] at hO
    have s := outL_sum m .zero q h.lr (by omega) hq
    have t := outL_LR m .zero q h.lr
    generalize outL m .zero q = r at *
    cases hO
    obtain ⟨s1, s2, s3, s4⟩ := s
    obtain ⟨t0, t1, t2, t3⟩ := t
    simp [Lay.zero] at s1 s3 s4
    exact ⟨⟨t0, by simp only at hlen; omega, by omega, by omega, by omega⟩, by omega, s3, s4⟩
  · rw [outS_short h.lr q0 (by omega)] at hO
    cases hO
    exact ⟨⟨h.lr, h.len, by omega, by omega, by omega⟩, by simp [Lay.zero], by simp [Lay.zero], by simp [Lay.zero]⟩
end Go.Proofs.Ytgahhifedgmicaa
