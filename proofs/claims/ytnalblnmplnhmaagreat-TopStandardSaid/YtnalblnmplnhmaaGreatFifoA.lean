/-
  Three appends in one statement, as a region that draws its order: proved once.
  fifo.Total: all layers together. Its walk.
  fifo: wrong, steady, Right; the document's own.
  
  fifo: Right, has; the document's Total, Swing, Right, SameLayer, Same.
  The document's Total, Swing, Right, SameLayer, Same.
  The document's Swing, Right, Same.
  The document's Same.
  fifo.has.
  What goes: the plain law.
  Layers that may be, in plain sums; what goes and what comes leaves such.
-/
import Derived.Test.YtnalblnmplnhmaaGreatBase
import Derived.LoopN
import Derived.Deep.QuietTactic
import Derived.BigQuiet
import Derived.IntWalk
import Derived.Deep.RegionHeld3
set_option linter.unusedVariables false
set_option linter.unusedSimpArgs false
set_option linter.unnecessarySimpa false

/- App3r -/

set_option linter.unusedVariables false
namespace Go.Proofs.YtnalblnmplnhmaaGreat
open Go.RowKit

/-- 's1, s2, s3 = append(s1, x.f0), append(s2, x.f1), append(s3, x.f2)'. -/
def app3Ops (T S I f0 f1 f2 xs s1 s2 s3 t : Nat) (pos : String) : List Oper :=
  [{ dst := some t, op := Op.move (Operand.tmp s1), type := S, pos := pos, after := #[], guard := none },
    { dst := some (t + 1), op := Op.fieldAddr T (Operand.tmp xs) f0, type := 0, pos := pos, after := #[], guard := none },
    { dst := some (t + 2), op := Op.load I (Operand.tmp (t + 1)), type := I, pos := pos, after := #[{ on := 1, ground := Ground.data }], guard := none },
    { dst := some (t + 3), op := Op.buildSlice S 1 #[(0, Operand.tmp (t + 2))], type := S, pos := pos, after := #[{ on := 2, ground := Ground.data }], guard := none },
    { dst := some (t + 4), op := Op.call { callee := Callee.builtin Builtin.append, args := #[Operand.tmp t, Operand.tmp (t + 3)], argTypes := #[S, S] }, type := S, pos := pos, after := #[{ on := 0, ground := Ground.data }, { on := 3, ground := Ground.data }], guard := none },
    { dst := some (t + 5), op := Op.move (Operand.tmp s2), type := S, pos := pos, after := #[], guard := none },
    { dst := some (t + 6), op := Op.fieldAddr T (Operand.tmp xs) f1, type := 0, pos := pos, after := #[], guard := none },
    { dst := some (t + 7), op := Op.load I (Operand.tmp (t + 6)), type := I, pos := pos, after := #[{ on := 6, ground := Ground.data }], guard := none },
    { dst := some (t + 8), op := Op.buildSlice S 1 #[(0, Operand.tmp (t + 7))], type := S, pos := pos, after := #[{ on := 7, ground := Ground.data }], guard := none },
    { dst := some (t + 9), op := Op.call { callee := Callee.builtin Builtin.append, args := #[Operand.tmp (t + 5), Operand.tmp (t + 8)], argTypes := #[S, S] }, type := S, pos := pos, after := #[{ on := 5, ground := Ground.data }, { on := 8, ground := Ground.data }, { on := 4, ground := Ground.chain }], guard := none },
    { dst := some (t + 10), op := Op.move (Operand.tmp s3), type := S, pos := pos, after := #[], guard := none },
    { dst := some (t + 11), op := Op.fieldAddr T (Operand.tmp xs) f2, type := 0, pos := pos, after := #[], guard := none },
    { dst := some (t + 12), op := Op.load I (Operand.tmp (t + 11)), type := I, pos := pos, after := #[{ on := 11, ground := Ground.data }], guard := none },
    { dst := some (t + 13), op := Op.buildSlice S 1 #[(0, Operand.tmp (t + 12))], type := S, pos := pos, after := #[{ on := 12, ground := Ground.data }], guard := none },
    { dst := some (t + 14), op := Op.call { callee := Callee.builtin Builtin.append, args := #[Operand.tmp (t + 10), Operand.tmp (t + 13)], argTypes := #[S, S] }, type := S, pos := pos, after := #[{ on := 10, ground := Ground.data }, { on := 13, ground := Ground.data }, { on := 9, ground := Ground.chain }], guard := none },
    { dst := some s1, op := Op.assign (Operand.tmp (t + 4)), type := S, pos := pos, after := #[{ on := 4, ground := Ground.data }, { on := 14, ground := Ground.chain }, { on := 0, ground := Ground.phase }, { on := 1, ground := Ground.phase }, { on := 2, ground := Ground.phase }, { on := 3, ground := Ground.phase }, { on := 4, ground := Ground.phase }, { on := 5, ground := Ground.textOnly Departure.lateStores }, { on := 6, ground := Ground.textOnly Departure.lateStores }, { on := 7, ground := Ground.textOnly Departure.lateStores }, { on := 8, ground := Ground.textOnly Departure.lateStores }, { on := 9, ground := Ground.textOnly Departure.lateStoresUnsure }, { on := 10, ground := Ground.textOnly Departure.lateStores }, { on := 11, ground := Ground.textOnly Departure.lateStores }, { on := 12, ground := Ground.textOnly Departure.lateStores }, { on := 13, ground := Ground.textOnly Departure.lateStores }, { on := 14, ground := Ground.textOnly Departure.lateStoresUnsure }], guard := none },
    { dst := some s2, op := Op.assign (Operand.tmp (t + 9)), type := S, pos := pos, after := #[{ on := 9, ground := Ground.data }, { on := 15, ground := Ground.chain }, { on := 0, ground := Ground.phase }, { on := 1, ground := Ground.phase }, { on := 2, ground := Ground.phase }, { on := 3, ground := Ground.phase }, { on := 4, ground := Ground.phase }, { on := 5, ground := Ground.phase }, { on := 6, ground := Ground.phase }, { on := 7, ground := Ground.phase }, { on := 8, ground := Ground.phase }, { on := 9, ground := Ground.phase }, { on := 10, ground := Ground.textOnly Departure.lateStores }, { on := 11, ground := Ground.textOnly Departure.lateStores }, { on := 12, ground := Ground.textOnly Departure.lateStores }, { on := 13, ground := Ground.textOnly Departure.lateStores }, { on := 14, ground := Ground.textOnly Departure.lateStoresUnsure }, { on := 15, ground := Ground.phase }], guard := none },
    { dst := some s3, op := Op.assign (Operand.tmp (t + 14)), type := S, pos := pos, after := #[{ on := 14, ground := Ground.data }, { on := 16, ground := Ground.chain }, { on := 0, ground := Ground.phase }, { on := 1, ground := Ground.phase }, { on := 2, ground := Ground.phase }, { on := 3, ground := Ground.phase }, { on := 4, ground := Ground.phase }, { on := 5, ground := Ground.phase }, { on := 6, ground := Ground.phase }, { on := 7, ground := Ground.phase }, { on := 8, ground := Ground.phase }, { on := 9, ground := Ground.phase }, { on := 10, ground := Ground.phase }, { on := 11, ground := Ground.phase }, { on := 12, ground := Ground.phase }, { on := 13, ground := Ground.phase }, { on := 14, ground := Ground.phase }, { on := 15, ground := Ground.phase }, { on := 16, ground := Ground.phase }], guard := none }]
def app3Slots (s1 s2 s3 t : Nat) : List (Option Tmp) := [some t, some (t + 1), some (t + 2), some (t + 3), some (t + 4), some (t + 5), some (t + 6), some (t + 7), some (t + 8), some (t + 9), some (t + 10), some (t + 11), some (t + 12), some (t + 13), some (t + 14), some s1, some s2, some s3]

end Go.Proofs.YtnalblnmplnhmaaGreat

/- Fifo1 -/

set_option linter.unusedVariables false
set_option linter.unusedSimpArgs false
namespace Go.Proofs.YtnalblnmplnhmaaGreat
open Go.RowKit

/-- A store into a block that the call laid. -/
theorem bset {a b : World} (h : Below a.heap.size a b) (k : Nat) (v : Value) : Below a.heap.size a (b.setCell ⟨a.heap.size, k, none⟩ v) := h.setCell (Nat.le_refl _) v
structure Lay where
  q : Int
  v : Int
  p : Int
def Lay.val (x : Lay) : Value := .agg #[.int .i64 x.q, .int .i64 x.v, .int .i64 x.p]
def Lay.zero : Lay := ⟨0, 0, 0⟩
def flat (l : List Lay) : List Int := l.flatMap fun x => [x.q, x.v, x.p]
theorem flat_len (l : List Lay) : (flat l).length = l.length * 3 := by
  induction l with
  | nil => rfl
  | cons x l ih => simp only [flat, List.flatMap_cons, List.length_append, List.length_cons, List.length_nil] at ih ⊢; omega
theorem flat_get (l : List Lay) : ∀ (i : Nat) (x : Lay), l[i]? = some x → (flat l).getD (i * 3) 0 = x.q ∧ (flat l).getD (i * 3 + 1) 0 = x.v ∧ (flat l).getD (i * 3 + 2) 0 = x.p := by
  induction l with
  | nil => intro i x h; simp at h
  | cons y l ih =>
    intro i x h
    cases i with
    | zero => simp at h; subst h; exact ⟨rfl, rfl, rfl⟩
    | succ i =>
      have := ih i x (by simpa using h)
      have e : ∀ k, (flat (y :: l)).getD ((i + 1) * 3 + k) 0 = (flat l).getD (i * 3 + k) 0 := by
        intro k
        show ([y.q, y.v, y.p] ++ flat l).getD ((i + 1) * 3 + k) 0 = _
        rw [List.getD_eq_getElem?_getD, List.getElem?_append_right (by simp; omega), ← List.getD_eq_getElem?_getD]
        congr 1
        simp
        omega
      have e0 := e 0; have e1 := e 1; have e2 := e 2
      simp only [Nat.add_zero] at e0
      rw [e0, e1, e2]
      exact this

def totOk (l : List Lay) : Bool := decide (sumE (l.map (·.q)) = 0) && decide (sumE (l.map (·.v)) = 0) && decide (sumE (l.map (·.p)) = 0)
def tot (l : List Lay) : Lay := if totOk l then ⟨sumV (l.map (·.q)), sumV (l.map (·.v)), sumV (l.map (·.p))⟩ else .zero
def totE (l : List Lay) : Int := if totOk l then 0 else 2
theorem tot_yes {l : List Lay} (h : totOk l = true) : tot l = ⟨sumV (l.map (·.q)), sumV (l.map (·.v)), sumV (l.map (·.p))⟩ ∧ totE l = 0 := by simp [tot, totE, h]
/-- The round's state: the three lists so far. -/
structure Tot3 (w : World) (B : Nat) (j : Nat) (l : List Lay) (a b c : Value) : Prop where
  q : OwnI w B 3 1 a j ((l.take j).map (·.q))
  v : OwnI w B 3 1 b j ((l.take j).map (·.v))
  p : OwnI w B 3 1 c j ((l.take j).map (·.p))
  ab : Apart a b
  ac : Apart a c
  bc : Apart b c
  ba : Apart b a
  ca : Apart c a
  cb : Apart c b

end Go.Proofs.YtnalblnmplnhmaaGreat

/- Fifo2 -/

set_option linter.unusedVariables false
set_option linter.unusedSimpArgs false
namespace Go.Proofs.YtnalblnmplnhmaaGreat
open Go.RowKit

def layOk (x : Lay) : Bool := decide (1 ≤ x.q) && decide (x.q ≤ 288230376151711744) && decide (0 ≤ x.v) && decide (x.v ≤ 288230376151711744) && decide (-288230376151711744 ≤ x.p) && decide (x.p ≤ 288230376151711744)

theorem layOk_iff {x : Lay} : layOk x = true ↔ 1 ≤ x.q ∧ x.q ≤ 288230376151711744 ∧ 0 ≤ x.v ∧ x.v ≤ 288230376151711744 ∧ -288230376151711744 ≤ x.p ∧ x.p ≤ 288230376151711744 := by
  simp [layOk, and_assoc]
def swing (x : Lay) : Int := max x.p (-x.p)
@[go_sem] theorem Lay.val_eq (x : Lay) : x.val = .agg #[.int .i64 x.q, .int .i64 x.v, .int .i64 x.p] := rfl
@[go_sem] theorem Lay.zero_q : Lay.zero.q = 0 := rfl
@[go_sem] theorem Lay.zero_v : Lay.zero.v = 0 := rfl
@[go_sem] theorem Lay.zero_p : Lay.zero.p = 0 := rfl
end Go.Proofs.YtnalblnmplnhmaaGreat

/- Fifo3 -/

set_option linter.unusedVariables false
set_option linter.unusedSimpArgs false
namespace Go.Proofs.YtnalblnmplnhmaaGreat
open Go.RowKit

theorem lit1 {w : World} {y : Int} {t n : Nat} (hn : n = w.heap.size) : CellsAt (w.alloc (.cells #[.int .i64 y] t)) n 0 [y] := by
  subst hn; exact CellsAt.new w [y] t
end Go.Proofs.YtnalblnmplnhmaaGreat

/- Fifo4 -/

set_option linter.unusedVariables false
set_option linter.unusedSimpArgs false
namespace Go.Proofs.YtnalblnmplnhmaaGreat
open Go.RowKit

def rightL (l : List Lay) : Bool := decide (l.length ≤ 30) && l.all layOk && totOk l && decide (sumE (l.map swing) = 0)

end Go.Proofs.YtnalblnmplnhmaaGreat

/- Fifo5 -/

set_option linter.unusedVariables false
set_option linter.unusedSimpArgs false
namespace Go.Proofs.YtnalblnmplnhmaaGreat
open Go.RowKit

/-- Three cells of a block, not frozen. -/
structure Cell3 (w : World) (b : Nat) (x y z : Int) : Prop where
  c0 : w.cell? ⟨b, 0, none⟩ = some (.int .i64 x)
  c1 : w.cell? ⟨b, 1, none⟩ = some (.int .i64 y)
  c2 : w.cell? ⟨b, 2, none⟩ = some (.int .i64 z)
  f0 : w.frozen? ⟨b, 0, none⟩ = false
  f1 : w.frozen? ⟨b, 1, none⟩ = false
  f2 : w.frozen? ⟨b, 2, none⟩ = false

end Go.Proofs.YtnalblnmplnhmaaGreat

/- Fifo6 -/

set_option linter.unusedVariables false
set_option linter.unusedSimpArgs false
namespace Go.Proofs.YtnalblnmplnhmaaGreat
open Go.RowKit

theorem rightL_iff {l : List Lay} : rightL l = true ↔ (l.length : Int) ≤ 30 ∧ l.all layOk = true ∧ totE l = 0 ∧ sumE (l.map swing) = 0 := by
  have k : totOk l = decide (totE l = 0) := by unfold totE; split <;> simp_all
  have k2 : (l.length ≤ 30) ↔ (l.length : Int) ≤ 30 := by omega
  simp only [rightL, k, Bool.and_eq_true, decide_eq_true_eq, k2, and_assoc]
end Go.Proofs.YtnalblnmplnhmaaGreat

/- Fifo7 -/

set_option linter.unusedVariables false
set_option linter.unusedSimpArgs false
namespace Go.Proofs.YtnalblnmplnhmaaGreat
open Go.RowKit

deriving instance DecidableEq for Lay

end Go.Proofs.YtnalblnmplnhmaaGreat

/- Fifo8 -/

set_option linter.unusedVariables false
set_option linter.unusedSimpArgs false
namespace Go.Proofs.YtnalblnmplnhmaaGreat
open Go.RowKit

theorem sumGo_sum (l : List Int) : ∀ (n s : Int), sumGo n l = some s → s = n + l.sum := by
  induction l with
  | nil => intro n s h; simp [sumGo] at h; simp [h]
  | cons z l ih =>
    intro n s h
    simp only [sumGo] at h
    split at h
    · have := ih _ _ h
      rw [this, List.sum_cons]
      omega
    · cases h
end Go.Proofs.YtnalblnmplnhmaaGreat

/- Fifo9 -/

set_option linter.unusedVariables false
set_option linter.unusedSimpArgs false
namespace Go.Proofs.YtnalblnmplnhmaaGreat
open Go.RowKit

def cutL (x : Lay) (q : Int) : Lay := ⟨q, partS x.v q x.q, partS x.p q x.q⟩
def minusL (x y : Lay) : Lay := ⟨x.q - y.q, x.v - y.v, x.p - y.p⟩
def plusL (x y : Lay) : Lay := ⟨x.q + y.q, x.v + y.v, x.p + y.p⟩
/-- Layers without so much, and what was taken, to what was taken before. -/
def outL : List Lay → Lay → Int → List Lay × Lay
  | [], a, _ => ([], a)
  | x :: r, a, q => if q ≤ 0 then (x :: r, a) else if q < x.q then (minusL x (cutL x q) :: r, plusL a (cutL x q)) else outL r (plusL a x) (q - x.q)
/-- What a layer that may be, and a part of it, are no more than. -/
structure CutBd (x : Lay) (q : Int) : Prop where
  v0 : 0 ≤ partS x.v q x.q
  v1 : partS x.v q x.q ≤ x.v
  p0 : -288230376151711744 ≤ partS x.p q x.q
  p1 : partS x.p q x.q ≤ 288230376151711744
  d0 : -288230376151711744 ≤ x.p - partS x.p q x.q
  d1 : x.p - partS x.p q x.q ≤ 288230376151711744
/-- The answer of Out. -/
def outS (l : List Lay) (q : Int) : List Lay × Lay × Int :=
  if q < 1 then (l, .zero, 1) else if (tot l).q < q then (l, .zero, 5) else ((outL l .zero q).1, (outL l .zero q).2, 0)

theorem right_sums {l : List Lay} (h : rightL l = true) : ∃ sq sv sp, sumGo 0 (l.map (·.q)) = some sq ∧ sumGo 0 (l.map (·.v)) = some sv ∧ sumGo 0 (l.map (·.p)) = some sp ∧ tot l = ⟨sq, sv, sp⟩ := by
  have hT : totOk l = true := by
    simp only [rightL, Bool.and_eq_true] at h
    exact h.1.2
  have ht := (tot_yes hT).1
  simp only [totOk, Bool.and_eq_true, decide_eq_true_eq] at hT
  have some_of : ∀ zs, sumE zs = 0 → ∃ s, sumGo 0 zs = some s ∧ sumV zs = s := fun zs hz => by
    unfold sumE at hz
    cases e : sumGo 0 zs with
    | none => rw [e] at hz; simp at hz
    | some s => exact ⟨s, rfl, by simp [sumV, e]⟩
  obtain ⟨s1, e1, f1⟩ := some_of _ hT.1.1
  obtain ⟨s2, e2, f2⟩ := some_of _ hT.1.2
  obtain ⟨s3, e3, f3⟩ := some_of _ hT.2
  exact ⟨s1, s2, s3, e1, e2, e3, by rw [ht, f1, f2, f3]⟩
/-- What was taken so far, and with one more: within the limits. -/
structure Heads (a x : Lay) : Prop where
  q0 : -288230376151711744 ≤ a.q
  q1 : a.q ≤ 288230376151711744
  v0 : -288230376151711744 ≤ a.v
  v1 : a.v ≤ 288230376151711744
  p0 : -288230376151711744 ≤ a.p
  p1 : a.p ≤ 288230376151711744
  q2 : -288230376151711744 ≤ a.q + x.q
  q3 : a.q + x.q ≤ 288230376151711744
  v2 : -288230376151711744 ≤ a.v + x.v
  v3 : a.v + x.v ≤ 288230376151711744
  p2 : -288230376151711744 ≤ a.p + x.p
  p3 : a.p + x.p ≤ 288230376151711744
/-- A store into a block below those of a row. -/
theorem OwnI.set {w : World} {base : Nat} {e : TypeId} {k : Nat} {v : Value} {n : Nat} {zs : List Int} (h : OwnI w base e k v n zs) {b : Nat} (hb : b < base) (i : Nat) (u : Value) : OwnI (w.setCell ⟨b, i, none⟩ u) base e k v n zs := by
  refine h.kept (r := some b) ⟨rfl, rfl, rfl, by simp [World.setCell], fun j _ hne => Below.heap_setCell _ _ _ _ (fun e => hne (by rw [e]))⟩ ?_
  cases ho : v.ownBlock with
  | none => exact .inl rfl
  | some g =>
    right
    have := World.ownsRow.lt h g ho
    intro e
    cases e
    omega
end Go.Proofs.YtnalblnmplnhmaaGreat

/- FifoR -/

set_option linter.unusedVariables false
set_option linter.unusedSimpArgs false
namespace Go.Proofs.YtnalblnmplnhmaaGreat
open Go.RowKit

def absum (l : List Int) : Int := (l.map fun z => max z (-z)).sum
theorem absum_cons (z : Int) (l : List Int) : absum (z :: l) = max z (-z) + absum l := by simp [absum]
theorem absum_nonneg (l : List Int) : 0 ≤ absum l := by
  induction l with
  | nil => simp [absum]
  | cons z l ih => rw [absum_cons]; omega
theorem absum_pos {l : List Int} (h : ∀ z, z ∈ l → 0 ≤ z) : absum l = l.sum := by
  induction l with
  | nil => rfl
  | cons z l ih =>
    rw [absum_cons, List.sum_cons, ih fun y hy => h y (by simp [hy])]
    have := h z (by simp)
    omega
theorem sumGo_abs (l : List Int) : ∀ n : Int, max n (-n) + absum l ≤ 288230376151711744 → sumGo n l = some (n + l.sum) := by
  induction l with
  | nil => intro n _; simp [sumGo]
  | cons z l ih =>
    intro n h
    rw [absum_cons] at h
    have := absum_nonneg l
    have hok : addOk n z = true := addOk_iff.2 ⟨inB_iff.2 ⟨by omega, by omega⟩, inB_iff.2 ⟨by omega, by omega⟩, inB_iff.2 ⟨by omega, by omega⟩⟩
    simp only [sumGo, hok, if_true]
    rw [ih _ (by omega), List.sum_cons]
    congr 1
    omega
theorem sumGo_le (l : List Int) : ∀ n s : Int, inB n = true → sumGo n l = some s → inB s = true := by
  induction l with
  | nil => intro n s hn h; simp [sumGo] at h; subst h; exact hn
  | cons z l ih =>
    intro n s hn h
    simp only [sumGo] at h
    split at h
    · rename_i k; exact ih _ _ (addOk_iff.1 k).2.2 h
    · cases h
theorem sumE_zero {l : List Int} (h : sumE l = 0) : sumGo 0 l = some l.sum ∧ inB l.sum = true := by
  unfold sumE at h
  cases e : sumGo 0 l with
  | none => rw [e] at h; simp at h
  | some s =>
    have a := sumGo_sum _ _ _ e
    have b := sumGo_le l 0 s (by decide +kernel) e
    have : s = l.sum := by omega
    subst this
    exact ⟨rfl, b⟩
def qs (l : List Lay) : Int := (l.map (·.q)).sum
def vs (l : List Lay) : Int := (l.map (·.v)).sum
def ps (l : List Lay) : Int := (l.map (·.p)).sum
def aps (l : List Lay) : Int := absum (l.map (·.p))
theorem qs_cons (x : Lay) (l : List Lay) : qs (x :: l) = x.q + qs l := by simp [qs]
theorem vs_cons (x : Lay) (l : List Lay) : vs (x :: l) = x.v + vs l := by simp [vs]
theorem aps_cons (x : Lay) (l : List Lay) : aps (x :: l) = max x.p (-x.p) + aps l := by simp [aps, absum_cons]
/-- Layers that may be, in plain sums. -/
structure LR (l : List Lay) : Prop where
  len : l.length ≤ 30
  ok : ∀ x, x ∈ l → layOk x = true
  q : qs l ≤ 288230376151711744
  v : vs l ≤ 288230376151711744
  p : aps l ≤ 288230376151711744

theorem LR.at_ {l : List Lay} (h : LR l) {x : Lay} (hx : x ∈ l) : 1 ≤ x.q ∧ x.q ≤ 288230376151711744 ∧ 0 ≤ x.v ∧ x.v ≤ 288230376151711744 ∧ -288230376151711744 ≤ x.p ∧ x.p ≤ 288230376151711744 := layOk_iff.1 (h.ok x hx)
theorem LR.tail {x : Lay} {l : List Lay} (h : LR (x :: l)) : LR l := by
  obtain ⟨a, b, c, d, e⟩ := h
  have := layOk_iff.1 (b x (by simp))
  rw [qs_cons] at c; rw [vs_cons] at d; rw [aps_cons] at e
  simp only [List.length_cons] at a
  exact ⟨by omega, fun y hy => b y (by simp [hy]), by omega, by omega, by omega⟩
theorem LR.sums {l : List Lay} (h : LR l) : sumGo 0 (l.map (·.q)) = some (qs l) ∧ sumGo 0 (l.map (·.v)) = some (vs l) ∧ sumGo 0 (l.map (·.p)) = some (ps l) ∧ sumGo 0 (l.map swing) = some (aps l) := by
  have e1 : absum (l.map (·.q)) = qs l := absum_pos fun z hz => by obtain ⟨x, hx, rfl⟩ := List.mem_map.1 hz; have := h.at_ hx; omega
  have e2 : absum (l.map (·.v)) = vs l := absum_pos fun z hz => by obtain ⟨x, hx, rfl⟩ := List.mem_map.1 hz; have := h.at_ hx; omega
  have e3 : (l.map swing).sum = aps l := by simp only [aps, absum, List.map_map]; rfl
  have e4 : absum (l.map swing) = aps l := by rw [absum_pos, e3]; intro z hz; obtain ⟨x, hx, rfl⟩ := List.mem_map.1 hz; unfold swing; omega
  have hq := h.q; have hv := h.v; have hp := h.p
  have f1 := sumGo_abs (l.map (·.q)) 0 (by omega)
  have f2 := sumGo_abs (l.map (·.v)) 0 (by omega)
  have f3 := sumGo_abs (l.map (·.p)) 0 (by unfold aps at hp; omega)
  have f4 := sumGo_abs (l.map swing) 0 (by omega)
  rw [e3] at f4
  simp only [Int.zero_add] at f1 f2 f3 f4
  exact ⟨f1, f2, f3, f4⟩
theorem LR.tot {l : List Lay} (h : LR l) : tot l = ⟨qs l, vs l, ps l⟩ ∧ totE l = 0 := by
  obtain ⟨a, b, c, -⟩ := h.sums
  have ht : totOk l = true := by simp [totOk, sumE, a, b, c]
  rw [(tot_yes ht).1, (tot_yes ht).2]
  simp [sumV, a, b, c]
theorem LR.right {l : List Lay} (h : LR l) : rightL l = true := by
  obtain ⟨-, -, -, d⟩ := h.sums
  have hl := h.len
  exact rightL_iff.2 ⟨by omega, List.all_eq_true.2 h.ok, h.tot.2, by simp [sumE, d]⟩
theorem LR.of {l : List Lay} (h : rightL l = true) : LR l := by
  obtain ⟨a, b, c, d⟩ := rightL_iff.1 h
  obtain ⟨sq, sv, sp, e1, e2, e3, e4⟩ := right_sums h
  have k1 := inB_iff.1 (sumGo_le _ 0 _ (by decide +kernel) e1)
  have k2 := inB_iff.1 (sumGo_le _ 0 _ (by decide +kernel) e2)
  have m1 := sumGo_sum _ _ _ e1
  have m2 := sumGo_sum _ _ _ e2
  have m3 := (sumE_zero d).2
  have m4 : (l.map swing).sum = aps l := by simp only [aps, absum, List.map_map]; rfl
  rw [m4] at m3
  have m3 := inB_iff.1 m3
  exact ⟨by omega, List.all_eq_true.1 b, by unfold qs; omega, by unfold vs; omega, by omega⟩
theorem LR.nil : LR [] := ⟨by simp, fun x hx => by simp at hx, by simp [qs], by simp [vs], by simp [aps, absum]⟩
theorem LR.one {x : Lay} (h : layOk x = true) : LR [x] := by
  have k := layOk_iff.1 h
  refine ⟨by simp, fun y hy => ?_, by simp [qs]; omega, by simp [vs]; omega, by simp [aps, absum]; omega⟩
  rw [List.mem_singleton.1 hy]; exact h

/-- One more. -/
def inS (l : List Lay) (x : Lay) : List Lay × Int :=
  if x.q < 1 ∨ x.v < 0 then (l, 1) else if 30 ≤ l.length then (l, 6) else if rightL (l ++ [x]) then (l ++ [x], 0) else (l, 2)
end Go.Proofs.YtnalblnmplnhmaaGreat
