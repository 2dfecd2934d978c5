/-
  Layers that may be, in plain sums; what goes and what comes leaves such.
-/
import Derived.Test.YtgahhifedgmicaaFifo9
set_option linter.unusedVariables false
set_option linter.unusedSimpArgs false
namespace Go.Proofs.Ytgahhifedgmicaa
open Go.RowKit

def absum (l : List Int) : Int := (l.map fun z => max z (-z)).sum
theorem absum_cons (z : Int) (l : List Int) : absum (z :: l) = max z (-z) + absum l := by simp [absum]
theorem absum_nonneg (l : List Int) : 0 ≤ absum l := by
  induction l with
  | nil => simp [absum]
  | cons z l ih => rw [absum_cons]; omega
theorem absum_pos {l : List Int} (h : ∀ z, z ∈ l → 0 ≤ z) : absum l = l.sum := by
  induction l with
  | nil => rfl
  | cons z l ih =>
    rw [absum_cons, List.sum_cons, ih fun y hy => h y (by simp [hy])]
    have := h z (by simp)
    omega
theorem sum_le_absum (l : List Int) : -absum l ≤ l.sum ∧ l.sum ≤ absum l := by
  induction l with
  | nil => simp [absum]
  | cons z l ih => rw [absum_cons, List.sum_cons]; omega
theorem sumGo_abs (l : List Int) : ∀ n : Int, max n (-n) + absum l ≤ 288230376151711744 → sumGo n l = some (n + l.sum) := by
  induction l with
  | nil => intro n _; simp [sumGo]
  | cons z l ih =>
    intro n h
    rw [absum_cons] at h
    have := absum_nonneg l
    have hok : addOk n z = true := addOk_iff.2 ⟨inB_iff.2 ⟨by omega, by omega⟩, inB_iff.2 ⟨by omega, by omega⟩, inB_iff.2 ⟨by omega, by omega⟩⟩
    simp only [sumGo, hok, if_true]
    rw [ih _ (by omega), List.sum_cons]
    congr 1
    omega
theorem sumGo_le (l : List Int) : ∀ n s : Int, inB n = true → sumGo n l = some s → inB s = true := by
  induction l with
  | nil => intro n s hn h; simp [sumGo] at h; subst h; exact hn
  | cons z l ih =>
    intro n s hn h
    simp only [sumGo] at h
    split at h
    · rename_i k; exact ih _ _ (addOk_iff.1 k).2.2 h
    · cases h
theorem sumE_zero {l : List Int} (h : sumE l = 0) : sumGo 0 l = some l.sum ∧ inB l.sum = true := by
  unfold sumE at h
  cases e : sumGo 0 l with
  | none => rw [e] at h; simp at h
  | some s =>
    have a := sumGo_sum _ _ _ e
    have b := sumGo_le l 0 s (by decide +kernel) e
    have : s = l.sum := by omega
    subst this
    exact ⟨rfl, b⟩
theorem sumE_abs {l : List Int} (h : absum l ≤ 288230376151711744) : sumE l = 0 ∧ sumV l = l.sum := by
  have := sumGo_abs l 0 (by simpa using h)
  simp [sumE, sumV, this]

def qs (l : List Lay) : Int := (l.map (·.q)).sum
def vs (l : List Lay) : Int := (l.map (·.v)).sum
def ps (l : List Lay) : Int := (l.map (·.p)).sum
def aps (l : List Lay) : Int := absum (l.map (·.p))
theorem qs_cons (x : Lay) (l : List Lay) : qs (x :: l) = x.q + qs l := by simp [qs]
theorem vs_cons (x : Lay) (l : List Lay) : vs (x :: l) = x.v + vs l := by simp [vs]
theorem ps_cons (x : Lay) (l : List Lay) : ps (x :: l) = x.p + ps l := by simp [ps]
theorem aps_cons (x : Lay) (l : List Lay) : aps (x :: l) = max x.p (-x.p) + aps l := by simp [aps, absum_cons]
theorem aps_nonneg (l : List Lay) : 0 ≤ aps l := absum_nonneg _
theorem ps_le (l : List Lay) : -aps l ≤ ps l ∧ ps l ≤ aps l := sum_le_absum _

/-- Layers that may be, in plain sums. -/
structure LR (l : List Lay) : Prop where
  len : l.length ≤ 30
  ok : ∀ x, x ∈ l → layOk x = true
  q : qs l ≤ 288230376151711744
  v : vs l ≤ 288230376151711744
  p : aps l ≤ 288230376151711744

theorem LR.at_ {l : List Lay} (h : LR l) {x : Lay} (hx : x ∈ l) : 1 ≤ x.q ∧ x.q ≤ 288230376151711744 ∧ 0 ≤ x.v ∧ x.v ≤ 288230376151711744 ∧ -288230376151711744 ≤ x.p ∧ x.p ≤ 288230376151711744 := layOk_iff.1 (h.ok x hx)
theorem LR.tail {x : Lay} {l : List Lay} (h : LR (x :: l)) : LR l := by
  obtain ⟨a, b, c, d, e⟩ := h
  have := layOk_iff.1 (b x (by simp))
  rw [qs_cons] at c; rw [vs_cons] at d; rw [aps_cons] at e
  simp only [List.length_cons] at a
  exact ⟨by omega, fun y hy => b y (by simp [hy]), by omega, by omega, by omega⟩
theorem qs_pos {l : List Lay} (h : ∀ x, x ∈ l → layOk x = true) : 0 ≤ qs l ∧ 0 ≤ vs l ∧ (l.length : Int) ≤ qs l := by
  induction l with
  | nil => simp [qs, vs]
  | cons x l ih =>
    have := layOk_iff.1 (h x (by simp))
    have := ih fun y hy => h y (by simp [hy])
    rw [qs_cons, vs_cons, List.length_cons]
    omega
theorem LR.sums {l : List Lay} (h : LR l) : sumGo 0 (l.map (·.q)) = some (qs l) ∧ sumGo 0 (l.map (·.v)) = some (vs l) ∧ sumGo 0 (l.map (·.p)) = some (ps l) ∧ sumGo 0 (l.map swing) = some (aps l) := by
  have e1 : absum (l.map (·.q)) = qs l := absum_pos fun z hz => by obtain ⟨x, hx, rfl⟩ := List.mem_map.1 hz; have := h.at_ hx; omega
  have e2 : absum (l.map (·.v)) = vs l := absum_pos fun z hz => by obtain ⟨x, hx, rfl⟩ := List.mem_map.1 hz; have := h.at_ hx; omega
  have e3 : (l.map swing).sum = aps l := by simp only [aps, absum, List.map_map]; rfl
  have e4 : absum (l.map swing) = aps l := by rw [absum_pos, e3]; intro z hz; obtain ⟨x, hx, rfl⟩ := List.mem_map.1 hz; unfold swing; omega
  have hq := h.q; have hv := h.v; have hp := h.p
  have f1 := sumGo_abs (l.map (·.q)) 0 (by omega)
  have f2 := sumGo_abs (l.map (·.v)) 0 (by omega)
  have f3 := sumGo_abs (l.map (·.p)) 0 (by unfold aps at hp; omega)
  have f4 := sumGo_abs (l.map swing) 0 (by omega)
  rw [e3] at f4
  simp only [Int.zero_add] at f1 f2 f3 f4
  exact ⟨f1, f2, f3, f4⟩
theorem LR.tot {l : List Lay} (h : LR l) : tot l = ⟨qs l, vs l, ps l⟩ ∧ totE l = 0 := by
  obtain ⟨a, b, c, -⟩ := h.sums
  have ht : totOk l = true := by simp [totOk, sumE, a, b, c]
  rw [(tot_yes ht).1, (tot_yes ht).2]
  simp [sumV, a, b, c]
theorem LR.right {l : List Lay} (h : LR l) : rightL l = true := by
  obtain ⟨-, -, -, d⟩ := h.sums
  have hl := h.len
  exact rightL_iff.2 ⟨by omega, List.all_eq_true.2 h.ok, h.tot.2, by simp [sumE, d]⟩
theorem LR.of {l : List Lay} (h : rightL l = true) : LR l := by
  obtain ⟨a, b, c, d⟩ := rightL_iff.1 h
  obtain ⟨sq, sv, sp, e1, e2, e3, e4⟩ := right_sums h
  have k1 := inB_iff.1 (sumGo_le _ 0 _ (by decide +kernel) e1)
  have k2 := inB_iff.1 (sumGo_le _ 0 _ (by decide +kernel) e2)
  have m1 := sumGo_sum _ _ _ e1
  have m2 := sumGo_sum _ _ _ e2
  have m3 := (sumE_zero d).2
  have m4 : (l.map swing).sum = aps l := by simp only [aps, absum, List.map_map]; rfl
  rw [m4] at m3
  have m3 := inB_iff.1 m3
  exact ⟨by omega, List.all_eq_true.1 b, by unfold qs; omega, by unfold vs; omega, by omega⟩
theorem right_iff {l : List Lay} : rightL l = true ↔ LR l := ⟨LR.of, LR.right⟩
theorem LR.nil : LR [] := ⟨by simp, fun x hx => by simp at hx, by simp [qs], by simp [vs], by simp [aps, absum]⟩
theorem LR.one {x : Lay} (h : layOk x = true) : LR [x] := by
  have k := layOk_iff.1 h
  refine ⟨by simp, fun y hy => ?_, by simp [qs]; omega, by simp [vs]; omega, by simp [aps, absum]; omega⟩
  rw [List.mem_singleton.1 hy]; exact h

/-- What is cut of a layer, and what is left of it. -/
theorem cut_p {x : Lay} {q : Int} (h : layOk x = true) (h0 : 0 ≤ q) (h1 : q ≤ x.q) :
    max (x.p - partS x.p q x.q) (-(x.p - partS x.p q x.q)) ≤ max x.p (-x.p) ∧ max (partS x.p q x.q) (-partS x.p q x.q) ≤ max x.p (-x.p) := by
  obtain ⟨k1, k2, k3, k4, k5, k6⟩ := layOk_iff.1 h
  have b := part_bd (v := x.p) k1 h0 h1 (inB_iff.2 ⟨by omega, by omega⟩)
  by_cases hp : 0 ≤ x.p
  · have := b.1 hp; omega
  · have := b.2 (by omega); omega
theorem cut_p2 {x : Lay} {q : Int} (h : layOk x = true) (h0 : 0 ≤ q) (h1 : q ≤ x.q) :
    max (x.p - partS x.p q x.q) (-(x.p - partS x.p q x.q)) + max (partS x.p q x.q) (-partS x.p q x.q) = max x.p (-x.p) := by
  obtain ⟨k1, k2, k3, k4, k5, k6⟩ := layOk_iff.1 h
  have b := part_bd (v := x.p) k1 h0 h1 (inB_iff.2 ⟨by omega, by omega⟩)
  by_cases hp : 0 ≤ x.p
  · have := b.1 hp; omega
  · have := b.2 (by omega); omega
theorem cut_ok {x : Lay} {q : Int} (h : layOk x = true) (h0 : 1 ≤ q) (h1 : q < x.q) : layOk (minusL x (cutL x q)) = true ∧ layOk (cutL x q) = true := by
  obtain ⟨k1, k2, k3, k4, k5, k6⟩ := layOk_iff.1 h
  have b := cut_bd h (q := q) (by omega) (by omega)
  have := b.v0; have := b.v1; have := b.p0; have := b.p1; have := b.d0; have := b.d1
  simp only [layOk_iff, minusL, cutL]
  omega
theorem outL_LR (l : List Lay) : ∀ (a : Lay) (q : Int), LR l → LR (outL l a q).1 ∧ qs (outL l a q).1 ≤ qs l ∧ vs (outL l a q).1 ≤ vs l ∧ aps (outL l a q).1 ≤ aps l := by
  induction l with
  | nil => intro a q h; exact ⟨h, Int.le_refl _, Int.le_refl _, Int.le_refl _⟩
  | cons x r ih =>
    intro a q h
    simp only [outL]
    have hx := h.ok x (by simp)
    have hk := layOk_iff.1 hx
    split
    · exact ⟨h, Int.le_refl _, Int.le_refl _, Int.le_refl _⟩
    · split
      · have c := cut_ok hx (q := q) (by omega) (by omega)
        have cp := cut_p hx (q := q) (by omega) (by omega)
        have cb := cut_bd hx (q := q) (by omega) (by omega)
        have e1 : qs (minusL x (cutL x q) :: r) = qs (x :: r) - q := by rw [qs_cons, qs_cons]; simp only [minusL, cutL]; omega
        have e2 : vs (minusL x (cutL x q) :: r) = vs (x :: r) - partS x.v q x.q := by rw [vs_cons, vs_cons]; simp only [minusL, cutL]; omega
        have e3 : aps (minusL x (cutL x q) :: r) ≤ aps (x :: r) := by rw [aps_cons, aps_cons]; simp only [minusL, cutL]; omega
        have := cb.v0
        have hq := h.q; have hv := h.v; have hp := h.p
        dsimp only
        exact ⟨⟨h.len, fun y hy => by rcases List.mem_cons.1 hy with rfl | hy; exact c.1; exact h.ok y (by simp [hy]), by omega, by omega, by omega⟩, by omega, by omega, e3⟩
      · obtain ⟨i1, i2, i3, i4⟩ := ih (plusL a x) (q - x.q) h.tail
        rw [qs_cons, vs_cons, aps_cons]
        exact ⟨i1, by omega, by omega, by omega⟩
/-- What goes and what stays are what there was. -/
theorem outL_sum (l : List Lay) : ∀ (a : Lay) (q : Int), LR l → 0 ≤ q → q ≤ qs l →
    (outL l a q).2.q = a.q + q ∧ qs (outL l a q).1 = qs l - q ∧ (outL l a q).2.v + vs (outL l a q).1 = a.v + vs l ∧ (outL l a q).2.p + ps (outL l a q).1 = a.p + ps l := by
  induction l with
  | nil => intro a q h h0 h1; simp [qs] at h1; simp only [outL, qs, vs, ps]; simp; omega
  | cons x r ih =>
    intro a q h h0 h1
    simp only [outL]
    have hx := h.ok x (by simp)
    have hk := layOk_iff.1 hx
    split
    · dsimp only; exact ⟨by omega, by omega, rfl, rfl⟩
    · split
      · dsimp only
        rw [qs_cons, vs_cons, ps_cons, qs_cons, vs_cons, ps_cons]
        dsimp only [plusL, minusL, cutL]
        exact ⟨by omega, by omega, by omega, by omega⟩
      · rw [qs_cons] at h1
        obtain ⟨i1, i2, i3, i4⟩ := ih (plusL a x) (q - x.q) h.tail (by omega) (by omega)
        rw [qs_cons, vs_cons, ps_cons, i1, i2, i3, i4]
        simp only [plusL]
        exact ⟨by omega, by omega, by omega, by omega⟩
theorem outS_ok {l : List Lay} {q : Int} (h : LR l) (h0 : 1 ≤ q) (h1 : q ≤ qs l) : outS l q = ((outL l .zero q).1, (outL l .zero q).2, 0) := by
  rw [outS, if_neg (by omega), if_neg (by rw [h.tot.1]; simp only; omega)]
theorem outS_short {l : List Lay} {q : Int} (h : LR l) (h0 : 1 ≤ q) (h1 : qs l < q) : outS l q = (l, .zero, 5) := by
  rw [outS, if_neg (by omega), if_pos (by rw [h.tot.1]; simp only; omega)]
theorem outS_LR {l : List Lay} {q : Int} (h : LR l) : LR (outS l q).1 := by
  unfold outS
  split
  · exact h
  · split
    · exact h
    · exact (outL_LR l _ _ h).1
/-- One more. -/
def inS (l : List Lay) (x : Lay) : List Lay × Int :=
  if x.q < 1 ∨ x.v < 0 then (l, 1) else if 30 ≤ l.length then (l, 6) else if rightL (l ++ [x]) then (l ++ [x], 0) else (l, 2)
theorem inS_LR {l : List Lay} {x : Lay} (h : LR l) : LR (inS l x).1 := by
  unfold inS
  split
  · exact h
  · split
    · exact h
    · split
      · exact LR.of (by assumption)
      · exact h
theorem qs_append (l m : List Lay) : qs (l ++ m) = qs l + qs m := by simp [qs]
theorem vs_append (l m : List Lay) : vs (l ++ m) = vs l + vs m := by simp [vs]
theorem ps_append (l m : List Lay) : ps (l ++ m) = ps l + ps m := by simp [ps]
theorem aps_append (l m : List Lay) : aps (l ++ m) = aps l + aps m := by simp [aps, absum]
theorem LR.snoc {l : List Lay} {x : Lay} (h : LR l) (hx : layOk x = true) (hl : l.length < 30) (hq : qs l + x.q ≤ 288230376151711744) (hv : vs l + x.v ≤ 288230376151711744) (hp : aps l + max x.p (-x.p) ≤ 288230376151711744) : LR (l ++ [x]) := by
  refine ⟨by simp; omega, fun y hy => ?_, ?_, ?_, ?_⟩
  · rcases List.mem_append.1 hy with hy | hy
    · exact h.ok y hy
    · rw [List.mem_singleton.1 hy]; exact hx
  · rw [qs_append]; simpa [qs] using hq
  · rw [vs_append]; simpa [vs] using hv
  · rw [aps_append]; simpa [aps, absum] using hp
theorem inS_ok {l : List Lay} {x : Lay} (h : LR (l ++ [x])) : inS l x = (l ++ [x], 0) := by
  have hx := layOk_iff.1 (h.ok x (by simp))
  have hl := h.len
  simp only [List.length_append, List.length_cons, List.length_nil] at hl
  rw [inS, if_neg (by omega), if_neg (by omega), if_pos h.right]
theorem flat_ok {l : List Lay} (h : ∀ x, x ∈ l → layOk x = true) : AllI (flat l) := by
  intro z hz
  obtain ⟨x, hx, hz⟩ := List.mem_flatMap.1 hz
  have := layOk_iff.1 (h x hx)
  simp at hz
  exact ⟨by rcases hz with rfl | rfl | rfl <;> omega, by rcases hz with rfl | rfl | rfl <;> omega⟩
end Go.Proofs.Ytgahhifedgmicaa
