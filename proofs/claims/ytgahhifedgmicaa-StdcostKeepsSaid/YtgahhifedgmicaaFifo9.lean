/-
  What goes: the plain law.
-/
import Derived.Test.YtgahhifedgmicaaFifo8
set_option linter.unusedVariables false
set_option linter.unusedSimpArgs false
namespace Go.Proofs.Ytgahhifedgmicaa
open Go.RowKit

def cutL (x : Lay) (q : Int) : Lay := ⟨q, partS x.v q x.q, partS x.p q x.q⟩
def minusL (x y : Lay) : Lay := ⟨x.q - y.q, x.v - y.v, x.p - y.p⟩
def plusL (x y : Lay) : Lay := ⟨x.q + y.q, x.v + y.v, x.p + y.p⟩
/-- Layers without so much, and what was taken, to what was taken before. -/
def outL : List Lay → Lay → Int → List Lay × Lay
  | [], a, _ => ([], a)
  | x :: r, a, q => if q ≤ 0 then (x :: r, a) else if q < x.q then (minusL x (cutL x q) :: r, plusL a (cutL x q)) else outL r (plusL a x) (q - x.q)
theorem outL_done {r : List Lay} {a : Lay} {q : Int} (h : q ≤ 0) : outL r a q = (r, a) := by
  cases r <;> simp [outL, h]

theorem part_bd_pos {v q n : Int} (hn : 1 ≤ n) (hq : 0 ≤ q) (hqn : q ≤ n) (hv : 0 ≤ v) : 0 ≤ v * q / n ∧ v * q / n ≤ v := by
  refine ⟨Int.ediv_nonneg (Int.mul_nonneg hv hq) (by omega), Int.ediv_le_of_le_mul (by omega) (Int.mul_le_mul_of_nonneg_left hqn hv)⟩
theorem part_bd {v q n : Int} (hn : 1 ≤ n) (hq : 0 ≤ q) (hqn : q ≤ n) (hv : inB v = true) : (0 ≤ v → 0 ≤ partS v q n ∧ partS v q n ≤ v) ∧ (v < 0 → v ≤ partS v q n ∧ partS v q n ≤ 0) := by
  have h : ¬ (n < 1 ∨ q < 0 ∨ q > n ∨ inB v = false) := by rw [hv]; simp; omega
  refine ⟨fun h0 => ?_, fun h0 => ?_⟩
  · rw [part_pos h (by omega)]
    exact part_bd_pos hn hq hqn h0
  · rw [part_neg h h0]
    have := part_bd_pos (v := -v) hn hq hqn (by omega)
    omega

/-- What a layer that may be, and a part of it, are no more than. -/
structure CutBd (x : Lay) (q : Int) : Prop where
  v0 : 0 ≤ partS x.v q x.q
  v1 : partS x.v q x.q ≤ x.v
  p0 : -288230376151711744 ≤ partS x.p q x.q
  p1 : partS x.p q x.q ≤ 288230376151711744
  d0 : -288230376151711744 ≤ x.p - partS x.p q x.q
  d1 : x.p - partS x.p q x.q ≤ 288230376151711744
theorem cut_bd {x : Lay} {q : Int} (h : layOk x = true) (h0 : 0 ≤ q) (h1 : q ≤ x.q) : CutBd x q := by
  obtain ⟨k1, k2, k3, k4, k5, k6⟩ := layOk_iff.1 h
  have a := part_bd (v := x.v) k1 h0 h1 (inB_iff.2 ⟨by omega, by omega⟩)
  have b := part_bd (v := x.p) k1 h0 h1 (inB_iff.2 ⟨by omega, by omega⟩)
  have a1 := a.1 k3
  refine ⟨by omega, by omega, ?_, ?_, ?_, ?_⟩ <;>
    (by_cases hp : 0 ≤ x.p
     · have := b.1 hp; omega
     · have := b.2 (by omega); omega)

/-- The answer of Out. -/
def outS (l : List Lay) (q : Int) : List Lay × Lay × Int :=
  if q < 1 then (l, .zero, 1) else if (tot l).q < q then (l, .zero, 5) else ((outL l .zero q).1, (outL l .zero q).2, 0)

/-- All sums of the heads lie within the limits. -/
theorem heads_bd {l : List Lay} {f : Lay → Int} {s t : Int} {j : Nat} (hs : sumGo 0 (l.map f) = some s) (ht : sumGo 0 ((l.map f).take j) = some t) (hf : ∀ x, x ∈ l → -288230376151711744 ≤ f x ∧ f x ≤ 288230376151711744) :
    -288230376151711744 ≤ t ∧ t ≤ 288230376151711744 := by
  cases j with
  | zero => simp [sumGo] at ht; subst ht; omega
  | succ j =>
    rcases Nat.lt_or_ge j l.length with h | h
    · obtain ⟨x, hx⟩ : ∃ x, l[j]? = some x := ⟨l[j], by simp [h]⟩
      obtain ⟨u, hu⟩ := sumGo_some_take j hs
      have a := sumGo_lay (f := f) hx hu
      rw [ht] at a
      split at a
      · rename_i k
        have := addOk_bd k
        cases a
        exact this
      · cases a
    · have e : (l.map f).take (j + 1) = l.map f := List.take_of_length_le (by simp; omega)
      cases hl : l with
      | nil => subst hl; simp [sumGo] at ht; subst ht; omega
      | cons y r =>
        have hlen : (l.map f).length = l.length := by simp
        have hpos : 0 < l.length := by rw [hl]; simp
        obtain ⟨x, hx⟩ : ∃ x, l[l.length - 1]? = some x := ⟨l[l.length - 1]'(by omega), by simp [show l.length - 1 < l.length by omega]⟩
        obtain ⟨u, hu⟩ := sumGo_some_take (l.length - 1) hs
        have a := sumGo_lay (f := f) hx hu
        have e2 : (l.map f).take (l.length - 1 + 1) = l.map f := List.take_of_length_le (by simp; omega)
        rw [e2, ← e, ht] at a
        split at a
        · rename_i k
          have := addOk_bd k
          cases a
          exact this
        · cases a
theorem next_some {l : List Lay} {f : Lay → Int} {s t : Int} {j : Nat} {x : Lay} (hs : sumGo 0 (l.map f) = some s) (hx : l[j]? = some x) (ht : sumGo 0 ((l.map f).take j) = some t) :
    sumGo 0 ((l.map f).take (j + 1)) = some (t + f x) := by
  have a := sumGo_lay hx ht
  obtain ⟨u, hu⟩ := sumGo_some_take (j + 1) hs
  rw [hu] at a
  split at a
  · cases a; exact hu
  · cases a
theorem right_sums {l : List Lay} (h : rightL l = true) : ∃ sq sv sp, sumGo 0 (l.map (·.q)) = some sq ∧ sumGo 0 (l.map (·.v)) = some sv ∧ sumGo 0 (l.map (·.p)) = some sp ∧ tot l = ⟨sq, sv, sp⟩ := by
  have hT : totOk l = true := by
    simp only [rightL, Bool.and_eq_true] at h
    exact h.1.2
  have ht := (tot_yes hT).1
  simp only [totOk, Bool.and_eq_true, decide_eq_true_eq] at hT
  have some_of : ∀ zs, sumE zs = 0 → ∃ s, sumGo 0 zs = some s ∧ sumV zs = s := fun zs hz => by
    unfold sumE at hz
    cases e : sumGo 0 zs with
    | none => rw [e] at hz; simp at hz
    | some s => exact ⟨s, rfl, by simp [sumV, e]⟩
  obtain ⟨s1, e1, f1⟩ := some_of _ hT.1.1
  obtain ⟨s2, e2, f2⟩ := some_of _ hT.1.2
  obtain ⟨s3, e3, f3⟩ := some_of _ hT.2
  exact ⟨s1, s2, s3, e1, e2, e3, by rw [ht, f1, f2, f3]⟩
theorem lay_bd {l : List Lay} (h : rightL l = true) : (∀ x, x ∈ l → -288230376151711744 ≤ x.q ∧ x.q ≤ 288230376151711744) ∧ (∀ x, x ∈ l → -288230376151711744 ≤ x.v ∧ x.v ≤ 288230376151711744) ∧ (∀ x, x ∈ l → -288230376151711744 ≤ x.p ∧ x.p ≤ 288230376151711744) := by
  have hok := (rightL_iff.1 h).2.1
  have H : ∀ x, x ∈ l → _ := fun x hx => layOk_iff.1 (List.all_eq_true.1 hok x hx)
  exact ⟨fun x hx => by have := H x hx; omega, fun x hx => by have := H x hx; omega, fun x hx => by have := H x hx; omega⟩
/-- What was taken so far, and with one more: within the limits. -/
structure Heads (a x : Lay) : Prop where
  q0 : -288230376151711744 ≤ a.q
  q1 : a.q ≤ 288230376151711744
  v0 : -288230376151711744 ≤ a.v
  v1 : a.v ≤ 288230376151711744
  p0 : -288230376151711744 ≤ a.p
  p1 : a.p ≤ 288230376151711744
  q2 : -288230376151711744 ≤ a.q + x.q
  q3 : a.q + x.q ≤ 288230376151711744
  v2 : -288230376151711744 ≤ a.v + x.v
  v3 : a.v + x.v ≤ 288230376151711744
  p2 : -288230376151711744 ≤ a.p + x.p
  p3 : a.p + x.p ≤ 288230376151711744
theorem heads {l : List Lay} {j : Nat} {a x : Lay} (h : rightL l = true) (hx : l[j]? = some x) (h1 : sumGo 0 ((l.map (·.q)).take j) = some a.q) (h2 : sumGo 0 ((l.map (·.v)).take j) = some a.v) (h3 : sumGo 0 ((l.map (·.p)).take j) = some a.p) : Heads a x := by
  obtain ⟨sq, sv, sp, e1, e2, e3, -⟩ := right_sums h
  obtain ⟨b1, b2, b3⟩ := lay_bd h
  have k1 := heads_bd e1 h1 b1
  have k2 := heads_bd e2 h2 b2
  have k3 := heads_bd e3 h3 b3
  have m1 := heads_bd e1 (next_some e1 hx h1) b1
  have m2 := heads_bd e2 (next_some e2 hx h2) b2
  have m3 := heads_bd e3 (next_some e3 hx h3) b3
  exact ⟨k1.1, k1.2, k2.1, k2.2, k3.1, k3.2, m1.1, m1.2, m2.1, m2.2, m3.1, m3.2⟩
/-- A store into a block below those of a row. -/
theorem OwnI.set {w : World} {base : Nat} {e : TypeId} {k : Nat} {v : Value} {n : Nat} {zs : List Int} (h : OwnI w base e k v n zs) {b : Nat} (hb : b < base) (i : Nat) (u : Value) : OwnI (w.setCell ⟨b, i, none⟩ u) base e k v n zs := by
  refine h.kept (r := some b) ⟨rfl, rfl, rfl, by simp [World.setCell], fun j _ hne => Below.heap_setCell _ _ _ _ (fun e => hne (by rw [e]))⟩ ?_
  cases ho : v.ownBlock with
  | none => exact .inl rfl
  | some g =>
    right
    have := World.ownsRow.lt h g ho
    intro e
    cases e
    omega
end Go.Proofs.Ytgahhifedgmicaa
