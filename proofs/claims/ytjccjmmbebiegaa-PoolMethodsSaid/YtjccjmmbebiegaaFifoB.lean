/-
  The moving average: the plain law.
  A slice of layers that the call itself has made.
  fifo.In.
  fifo.Out.
  One layer, piece by piece: the plain law.
-/
import Derived.Test.YtjccjmmbebiegaaFifoA
import Derived.Deep.RegionHeld3
import Derived.Test.YtjccjmmbebiegaaBase
import Derived.IntWalk
import Derived.StillTailTactics
import Derived.WalkLawsBesides

/- MavgP -/

set_option linter.unusedVariables false
set_option linter.unusedSimpArgs false
namespace Go.Proofs.Ytjccjmmbebiegaa
open Go.RowKit

/-- One layer, with more. -/
def inM (l : List Lay) (x : Lay) : List Lay × Int := if (inS l x).2 = 0 then ([tot (inS l x).1], 0) else (l, (inS l x).2)
theorem inS_no {l : List Lay} {x : Lay} (h : (inS l x).2 ≠ 0) : (inS l x).1 = l := by
  unfold inS at h ⊢
  split
  · rfl
  · split
    · rfl
    · split
      · rename_i h1 h2 h3; rw [if_neg h1, if_neg h2, if_pos h3] at h; exact absurd rfl h
      · rfl
theorem inS_yes {l : List Lay} {x : Lay} (h : (inS l x).2 = 0) : (inS l x).1 = l ++ [x] ∧ LR (l ++ [x]) := by
  unfold inS at h ⊢
  split
  · rename_i h1; rw [if_pos h1] at h; cases h
  · split
    · rename_i h1 h2; rw [if_neg h1, if_pos h2] at h; cases h
    · split
      · rename_i h1 h2 h3; exact ⟨rfl, LR.of h3⟩
      · rename_i h1 h2 h3; rw [if_neg h1, if_neg h2, if_neg h3] at h; cases h
theorem tot_LR {l : List Lay} (h : LR l) (h0 : l ≠ []) : LR [tot l] := by
  rw [h.tot.1]
  have a := qs_pos h.ok
  have b := ps_le l
  have := h.q; have := h.v; have := h.p
  have : 1 ≤ l.length := List.length_pos_iff.2 h0
  exact LR.one (layOk_iff.2 ⟨by simp only; omega, by simp only; omega, by simp only; omega, by simp only; omega, by simp only; omega, by simp only; omega⟩)
theorem inM_LR {l : List Lay} {x : Lay} (h : LR l) : LR (inM l x).1 := by
  unfold inM
  split
  · rename_i h1
    obtain ⟨e, h2⟩ := inS_yes h1
    rw [e]
    exact tot_LR h2 (by simp)
  · exact h
theorem inM_ok {l : List Lay} {x : Lay} (h : LR (l ++ [x])) : inM l x = ([⟨qs l + x.q, vs l + x.v, ps l + x.p⟩], 0) := by
  rw [inM, inS_ok h, if_pos rfl]
  simp only
  rw [h.tot.1, qs_append, vs_append, ps_append]
  simp [qs, vs, ps]
theorem outS_len {l : List Lay} {q : Int} : (outS l q).1.length ≤ l.length := by
  have k : ∀ (l : List Lay) (a : Lay) (q : Int), (outL l a q).1.length ≤ l.length := by
    intro l
    induction l with
    | nil => intro a q; simp [outL]
    | cons x r ih =>
      intro a q
      simp only [outL]
      split
      · exact Nat.le_refl _
      · split
        · simp
        · have := ih (plusL a x) (q - x.q); simp only [List.length_cons]; omega
  unfold outS
  split
  · exact Nat.le_refl _
  · split
    · exact Nat.le_refl _
    · exact k _ _ _

/-- A part of a layer. -/
theorem outL_one {x : Lay} {k : Int} (h1 : 1 ≤ k) (h2 : k < x.q) : outL [x] .zero k = ([minusL x (cutL x k)], cutL x k) := by
  rw [outL, if_neg (by omega), if_pos h2]
  simp [plusL, Lay.zero, cutL]
theorem outL_whole {x : Lay} {k : Int} (h1 : 1 ≤ k) (h2 : x.q = k) : outL [x] .zero k = ([], x) := by
  rw [outL, if_neg (by omega), if_neg (by omega)]
  simp [plusL, Lay.zero, outL]

/-- Two prices mixed. -/
structure Mix (n m p r k : Int) : Prop where
  lo : k * p ≤ (n * p + m * r) * k / (n + m)
  hi : (n * p + m * r) * k / (n + m) ≤ k * r
  left : (n + m - k) * p ≤ n * p + m * r - (n * p + m * r) * k / (n + m)
theorem mix {n m p r k : Int} (hn : 1 ≤ n) (hm : 1 ≤ m) (hp : 0 ≤ p) (hr : p ≤ r) (hk : 1 ≤ k) (hk' : k ≤ n + m) : Mix n m p r k := by
  have a1 : m * p ≤ m * r := Int.mul_le_mul_of_nonneg_left hr (by omega)
  have a2 : n * p ≤ n * r := Int.mul_le_mul_of_nonneg_left hr (by omega)
  have b1 : (n + m) * p ≤ n * p + m * r := by rw [Int.add_mul]; omega
  have b2 : n * p + m * r ≤ (n + m) * r := by rw [Int.add_mul]; omega
  have c1 : (n + m) * p * k ≤ (n * p + m * r) * k := Int.mul_le_mul_of_nonneg_right b1 (by omega)
  have c2 : (n * p + m * r) * k ≤ (n + m) * r * k := Int.mul_le_mul_of_nonneg_right b2 (by omega)
  have d1 : (n + m) * p * (n + m - k) ≤ (n * p + m * r) * (n + m - k) := Int.mul_le_mul_of_nonneg_right b1 (by omega)
  refine ⟨Int.le_ediv_of_mul_le (by omega) ?_, Int.ediv_le_of_le_mul (by omega) ?_, ?_⟩
  · rw [show k * p * (n + m) = (n + m) * p * k by rw [Int.mul_comm, Int.mul_comm k p, Int.mul_assoc]]
    exact c1
  · rw [show k * r * (n + m) = (n + m) * r * k by rw [Int.mul_comm, Int.mul_comm k r, Int.mul_assoc]]
    exact c2
  · generalize n * p + m * r = V at *
    generalize n + m = N at *
    have e1 := Int.mul_ediv_add_emod (V * k) N
    have e2 := Int.emod_nonneg (V * k) (show N ≠ 0 by omega)
    have e3 : N * (N - k) * p ≤ N * (V - V * k / N) := by
      rw [Int.mul_sub N V, show N * (N - k) * p = N * p * (N - k) by rw [Int.mul_assoc, Int.mul_assoc, Int.mul_comm p]]
      rw [Int.mul_sub V] at d1
      rw [Int.mul_comm V N] at d1
      omega
    rw [Int.mul_assoc] at e3
    exact Int.le_of_mul_le_mul_left e3 (by omega)
/-- All at one price. -/
theorem part_price {q k p : Int} (hq : 1 ≤ q) (hq' : q ≤ 100000) (hk : 0 ≤ k) (hk' : k ≤ q) (hp : 0 ≤ p) (hp' : p ≤ 100000) : partS (q * p) k q = k * p := by
  have := mul_bd (a := q) (b := p) (n := 100000) (m := 100000) (by omega) (by omega) hp hp'
  have h : ¬ (q < 1 ∨ k < 0 ∨ k > q ∨ inB (q * p) = false) := by
    rw [show inB (q * p) = true from inB_iff.2 ⟨by omega, by omega⟩]
    simp
    omega
  rw [part_pos h (by omega), Int.mul_assoc, Int.mul_ediv_cancel_left _ (by omega), Int.mul_comm]
end Go.Proofs.Ytjccjmmbebiegaa

/- Hold -/

set_option linter.unusedVariables false
set_option linter.unusedSimpArgs false
namespace Go.Proofs.Ytjccjmmbebiegaa
open Go.RowKit

/-- A slice of layers. -/
def LayRow (w : World) (v : Value) (l : List Lay) : Prop := ∃ a cap, v = .slice a l.length cap ∧ Row w 3 a l.length cap (flat l)
theorem LayRow.below {w w' : World} {v : Value} {l : List Lay} (h : LayRow w v l) (g : Below w.heap.size w w') : LayRow w' v l := by
  obtain ⟨a, c, e, r⟩ := h; exact ⟨a, c, e, r.below g⟩

/-- From block number base on; its cells may be written. -/
def Hold (w : World) (base : Nat) (v : Value) (l : List Lay) : Prop :=
  ∃ a cap, v = .slice a l.length cap ∧ l.length ≤ cap ∧ cap ≤ maxLen ∧ (l.length = 0 ∨ ∃ b off, a = some ⟨b, off, none⟩ ∧ base ≤ b ∧ b < w.heap.size ∧ CellsAt w b off (flat l) ∧ ∀ i, w.frozen? ⟨b, i, none⟩ = false)

theorem Hold.row {w : World} {base : Nat} {v : Value} {l : List Lay} (h : Hold w base v l) (ha : AllI (flat l)) : LayRow w v l := by
  obtain ⟨a, cap, rfl, h1, h2, h3⟩ := h
  refine ⟨a, cap, rfl, flat_len l, h1, h2, ha, ?_⟩
  rcases h3 with h3 | ⟨b, off, rfl, -, h4, h5, -⟩
  · exact .inl h3
  · exact .inr ⟨b, off, rfl, h4, h5⟩
theorem Hold.below {w w' : World} {base : Nat} {v : Value} {l : List Lay} (h : Hold w base v l) (g : Below w.heap.size w w') : Hold w' base v l := by
  obtain ⟨a, cap, rfl, h1, h2, h3⟩ := h
  refine ⟨a, cap, rfl, h1, h2, ?_⟩
  rcases h3 with h3 | ⟨b, off, rfl, hb, h4, h5, h6⟩
  · exact .inl h3
  · exact .inr ⟨b, off, rfl, hb, Nat.lt_of_lt_of_le h4 g.size, h5.below h4 g, fun i => (g.frozen (p := ⟨b, i, none⟩) h4).trans (h6 i)⟩
theorem Hold.mono {w : World} {base base' : Nat} {v : Value} {l : List Lay} (h : Hold w base v l) (g : base' ≤ base) : Hold w base' v l := by
  obtain ⟨a, cap, rfl, h1, h2, h3⟩ := h
  refine ⟨a, cap, rfl, h1, h2, ?_⟩
  rcases h3 with h3 | ⟨b, off, rfl, hb, h4⟩
  · exact .inl h3
  · exact .inr ⟨b, off, rfl, Nat.le_trans g hb, h4⟩
theorem Hold.of_own {w : World} {base base' : Nat} {e : TypeId} {v : Value} {n : Nat} {l : List Lay} (h : OwnI w base e 3 v n (flat l)) (g : base' ≤ base) : Hold w base' v l := by
  have hl := h.len
  rw [flat_len] at hl
  obtain rfl : n = l.length := by omega
  obtain ⟨h1, h2⟩ := id h
  rcases h2 with ⟨rfl, h0⟩ | ⟨b, cap, cur, rfl, hb, hh, hn, hc, hs, ht⟩
  · exact ⟨none, 0, by rw [h0], by omega, by unfold maxLen; omega, .inl h0⟩
  · refine ⟨_, cap, rfl, hn, hc, .inr ⟨b, 0, rfl, by omega, (Array.getElem?_eq_some_iff.1 hh).1, ?_, ?_⟩⟩
    · intro i hi
      have c := World.ownsRow.cellAt (w := w) (base := base) (e := e) (size := 3) (g := b) (n := l.length) (cap := cap) (xs := ints (flat l)) ⟨h1, .inr ⟨b, cap, cur, rfl, hb, hh, hn, hc, hs, ht⟩⟩ i (by rw [flat_len] at hi; omega)
      rw [Nat.zero_add, c, ints_get, List.getElem?_eq_getElem hi, List.getD_eq_getElem?_getD, List.getElem?_eq_getElem hi]
      rfl
    · intro i
      unfold World.frozen?
      simp only [hh]
      simp
theorem Hold.nil {w : World} {base : Nat} {a : Option Addr} {cap : Nat} (h : cap ≤ maxLen) : Hold w base (.slice a 0 cap) [] := ⟨a, cap, rfl, by simp, h, .inl rfl⟩
/-- A store into another block. -/
theorem Hold.set {w : World} {base : Nat} {v : Value} {l : List Lay} (h : Hold w base v l) {b : Nat} (hb : b < base) (i : Nat) (u : Value) : Hold (w.setCell ⟨b, i, none⟩ u) base v l := by
  obtain ⟨a, cap, rfl, h1, h2, h3⟩ := h
  refine ⟨a, cap, rfl, h1, h2, ?_⟩
  rcases h3 with h3 | ⟨g, off, rfl, hg, h4, h5, h6⟩
  · exact .inl h3
  · refine .inr ⟨g, off, rfl, hg, by simpa [World.setCell] using h4, fun j hj => ?_, fun j => by simpa using h6 j⟩
    exact (World.cell?_of_block (w := w) (Below.heap_setCell _ _ _ _ (show g ≠ b by omega))).trans (h5 j hj)
theorem OwnI.mono {w : World} {base base' : Nat} {e : TypeId} {k : Nat} {v : Value} {n : Nat} {zs : List Int} (h : OwnI w base e k v n zs) (g : base' ≤ base) : OwnI w base' e k v n zs := by
  obtain ⟨h1, h2⟩ := h
  refine ⟨h1, ?_⟩
  rcases h2 with h2 | ⟨b, cap, cur, hv, hb, r⟩
  · exact .inl h2
  · exact .inr ⟨b, cap, cur, hv, Nat.le_trans g hb, r⟩
/-- 'append(l, x)', at a step of a region that draws its order. -/
theorem step_push {P : Program} {w : World} {ops : Array Oper} {o : Oper} {a : Act} {K : Act → World → Prop} {Q : Exit → Act → World → Prop} {F : Prop} (hgd : o.guard = none) (s x : Operand) (t : TypeId)
    (ho : o.op = .call { callee := .builtin .append, args := #[s, x], argTypes := #[t, t] })
    (base : Nat) (e : TypeId) (size : Nat) (E : Elem P t e size)
    (v : Value) (n : Nat) (zs : List Int) (hs : a.eval s = v) (hown : OwnI w base e size v n zs)
    (b off c : Nat) (ns : List Int) (hx : a.eval x = .slice (some ⟨b, off, none⟩) 1 c) (hl : ns.length = size) (hc : CellsAt w b off ns)
    (hn : (n + 1) * (size * 8) ≤ 140737488355328) (hbase : base ≤ w.heap.size)
    (h : ∀ v' w', OwnI w' base e size v' (n + 1) (zs ++ ns) → Below base w w' → K (a.put o.dst v') w') :
    if Region.wanted o (yielded ops a.tmps) = true then Oper.wp P o a w K Q else F := by
  have hw : Region.wanted o (yielded ops a.tmps) = true := by simp [Region.wanted, hgd]
  rw [if_pos hw]
  obtain ⟨ht, ⟨i, z, hi, hz, hsize, hby, hzs⟩, hp⟩ := E
  have h8 : n + 1 ≤ (n + 1) * (size * 8) := Nat.le_mul_of_pos_right _ (by omega)
  refine wp_append_own w s x t ho base e i z size (size * 8) ht hi hz hsize hby hzs hp v n (ints zs) hs hown ⟨b, off, none⟩ 1 c (ints ns) hx (by rw [ints_length]; omega) ?_ ?_ (by unfold maxLen; omega) hn hbase ?_
  · intro j u hj
    rw [ints_get] at hj
    have hlt : j < ns.length := by
      rcases Nat.lt_or_ge j ns.length with h | h
      · exact h
      · rw [List.getElem?_eq_none h] at hj; cases hj
    have := hc j hlt
    rw [List.getElem?_eq_getElem hlt] at hj
    rw [List.getD_eq_getElem?_getD, List.getElem?_eq_getElem hlt] at this
    simp only [Option.map_some, Option.some.injEq] at hj
    subst hj
    by_cases h0 : j = 0
    · subst h0; simpa [Addr.add] using this
    · simpa [Addr.add, h0] using this
  · intro u hu
    simp only [ints, List.mem_map] at hu
    obtain ⟨y, -, rfl⟩ := hu
    rfl
  · intro v' w' hown' hg _
    refine h v' w' ?_ ?_
    · rw [OwnI, ints_append]; exact hown'
    · have hlt := World.ownsRow.lt hown
      exact (Below.refl base w).grown hg hbase fun k hk => (hlt k hk).1
theorem flat_cons (x : Lay) (l : List Lay) : flat (x :: l) = x.q :: x.v :: x.p :: flat l := rfl
theorem CellsAt.tail {w : World} {b off : Nat} {x : Lay} {l : List Lay} (h : CellsAt w b off (flat (x :: l))) : CellsAt w b (off + 3) (flat l) := by
  intro i hi
  have := h (3 + i) (by simp only [flat_cons, List.length_cons]; omega)
  rw [show off + (3 + i) = off + 3 + i by omega] at this
  rw [this, flat_cons]
  simp [List.getD_eq_getElem?_getD, show 3 + i = i + 1 + 1 + 1 by omega]
theorem CellsAt.head {w : World} {b off : Nat} {x : Lay} {l : List Lay} (h : CellsAt w b off (flat (x :: l))) : w.cell? ⟨b, off, none⟩ = some (.int .i64 x.q) ∧ w.cell? ⟨b, off + 1, none⟩ = some (.int .i64 x.v) ∧ w.cell? ⟨b, off + 2, none⟩ = some (.int .i64 x.p) :=
  ⟨h 0 (by simp [flat_cons]), h 1 (by simp [flat_cons]), h 2 (by simp [flat_cons])⟩
theorem CellsAt.cons {w : World} {b off : Nat} {x : Lay} {l : List Lay} (h0 : w.cell? ⟨b, off, none⟩ = some (.int .i64 x.q)) (h1 : w.cell? ⟨b, off + 1, none⟩ = some (.int .i64 x.v)) (h2 : w.cell? ⟨b, off + 2, none⟩ = some (.int .i64 x.p)) (h : CellsAt w b (off + 3) (flat l)) : CellsAt w b off (flat (x :: l)) := by
  intro i hi
  match i with
  | 0 => exact h0
  | 1 => exact h1
  | 2 => exact h2
  | i + 3 =>
    have := h i (by simp only [flat_cons, List.length_cons] at hi; omega)
    rw [show off + (i + 3) = off + 3 + i by omega, this]
    rfl
theorem AllI.snoc {l : List Lay} {x : Lay} (h : AllI (flat l)) (hx : AllI [x.q, x.v, x.p]) : AllI (flat (l ++ [x])) := by
  have e1 : flat (l ++ [x]) = flat l ++ [x.q, x.v, x.p] := by simp [flat]
  rw [e1]
  intro z hz
  rcases List.mem_append.1 hz with h' | h'
  · exact h z h'
  · exact hx z h'
theorem allI_one {x : Lay} (h : layOk x = true) : AllI [x.q, x.v, x.p] := by
  have := flat_ok (l := [x]) fun y hy => by rw [List.mem_singleton.1 hy]; exact h
  exact this
/-- The block of a result behind a call. -/
theorem res3 {w w' : World} {x y z : Int} {t : Nat} (h : Below (w.alloc (.cells #[.int .i64 x, .int .i64 y, .int .i64 z] t)).heap.size (w.alloc (.cells #[.int .i64 x, .int .i64 y, .int .i64 z] t)) w') :
    Cell3 w' w.heap.size x y z ∧ w.heap.size < w'.heap.size ∧ w.heap.size < w'.heap.size + 1 ∧ w.heap.size < w'.heap.size + 1 + 1 ∧ w.heap.size < w'.heap.size + 1 + 1 + 1 := by
  have hs := h.size
  simp only [World.size_alloc] at hs
  exact ⟨⟨(h.cell (by simp)).trans (by simp), (h.cell (by simp)).trans (by simp), (h.cell (by simp)).trans (by simp), (h.frozen (by simp)).trans (by simp), (h.frozen (by simp)).trans (by simp), (h.frozen (by simp)).trans (by simp)⟩, by omega, by omega, by omega, by omega⟩

theorem lit3 {w : World} {x y z : Int} {t n : Nat} (hn : n = w.heap.size) : CellsAt (w.alloc (.cells #[.int .i64 x, .int .i64 y, .int .i64 z] t)) n 0 [x, y, z] := by
  subst hn; exact CellsAt.new w [x, y, z] t
theorem Cell3.behind {w w' : World} {o : Obj} {b B : Nat} {x y z : Int} (h : Cell3 w b x y z) (hb : b < w.heap.size) (hB : b < B) (g : Below B (w.alloc o) w') : Cell3 w' b x y z := by
  have k : ∀ i, (w.alloc o).cell? ⟨b, i, none⟩ = w.cell? ⟨b, i, none⟩ := fun i => World.cell?_alloc_lt _ _ _ hb
  have kf : ∀ i, (w.alloc o).frozen? ⟨b, i, none⟩ = w.frozen? ⟨b, i, none⟩ := fun i => World.frozen?_alloc_old _ _ _ (Nat.ne_of_lt hb)
  exact ⟨(g.cell hB).trans ((k 0).trans h.c0), (g.cell hB).trans ((k 1).trans h.c1), (g.cell hB).trans ((k 2).trans h.c2), (g.frozen hB).trans ((kf 0).trans h.f0), (g.frozen hB).trans ((kf 1).trans h.f1), (g.frozen hB).trans ((kf 2).trans h.f2)⟩
theorem Cell3.next {w w' : World} {b : Nat} {x y z : Int} (h : Cell3 w b x y z) (hb : b < w.heap.size) (g : Below w.heap.size w w') :
    Cell3 w' b x y z ∧ b < w'.heap.size ∧ b < w'.heap.size + 1 ∧ b < w'.heap.size + 1 + 1 ∧ b < w'.heap.size + 1 + 1 + 1 := by
  have hs := g.size
  exact ⟨⟨(g.cell hb).trans h.c0, (g.cell hb).trans h.c1, (g.cell hb).trans h.c2, (g.frozen hb).trans h.f0, (g.frozen hb).trans h.f1, (g.frozen hb).trans h.f2⟩, by omega, by omega, by omega, by omega⟩
theorem Hold.set3 {w : World} {b : Nat} {v : Value} {l : List Lay} (h : Hold w (b + 1) v l) (x y z : Value) : Hold (((w.setCell ⟨b, 0, none⟩ x).setCell ⟨b, 1, none⟩ y).setCell ⟨b, 2, none⟩ z) b v l :=
  (((h.set (Nat.lt_succ_self _) 0 x).set (Nat.lt_succ_self _) 1 y).set (Nat.lt_succ_self _) 2 z).mono (Nat.le_succ _)
end Go.Proofs.Ytjccjmmbebiegaa

/- FifoIn -/

set_option linter.unusedVariables false
set_option linter.unusedSimpArgs false
namespace Go.Proofs.Ytjccjmmbebiegaa
open Go.RowKit

theorem OwnI.same {w : World} {base : Nat} {e : TypeId} {k : Nat} {v : Value} {n m : Nat} {zs ys : List Int} (h : OwnI w base e k v n zs) (hn : n = m) (hz : zs = ys) : OwnI w base e k v m ys := by
  subst hn; subst hz; exact h
/-- Layers of the call's own, and an error. -/
def HoldE (w : World) (r : List Lay × Int) (e : Ending) (w' : World) : Prop := ∃ v, e = .returned (.tuple #[v, .int .i64 r.2]) ∧ Hold w' w.heap.size v r.1 ∧ Below w.heap.size w w'

set_option maxRecDepth 20000 in
set_option maxHeartbeats 1000000 in
theorem fifo_In (a : Option Addr) (cap : Nat) (l : List Lay) (x : Lay) (w : World) (h : Row w 3 a l.length cap (flat l)) (hn : l.length ≤ 900) (hx : AllI [x.q, x.v, x.p]) :
    Calls Try.prog 69 #[.slice a l.length cap, x.val] w (HoldE w (inS l x)) := by
  have h0 := h
  obtain ⟨hl, hcap, hmax, hall, hat⟩ := h
  unfold maxLen at hmax
  unfold Lay.val
  go_enter Try.func69, Try.ntmps69
  try simp only [List.append_eq, List.cons_append, List.nil_append]
  by_cases q1 : x.q < 1 ∨ x.v < 0
  · have e : inS l x = (l, 1) := by rw [inS, if_pos q1]
    rw [e]
    have hq : x.q < 1 ∨ ¬ x.q < 1 ∧ x.v < 0 := by omega
    clear q1
    rcases hq with hq | ⟨hq, hv⟩
    all_goals
      go_wp2_with (first | (go_at_call 58; refine (Clone_Layer a l.length cap (flat l) _ (h0.below (by (repeat (first | assumption | exact Below.refl _ _ | refine ballc ?_ _ | refine bdrew ?_ | refine bdrewN ?_ _ | refine bset ?_ _ _ | refine bsetN ?_ (by omega) _ _ | refine bthen ?_ (by assumption))))) (by omega)).mono ?_; rintro e w1 ⟨⟨v1, rfl, hown⟩, hw1⟩; obtain ⟨⟨r0, r1, r2, z0, z1, z2⟩, hlw, hlw1, hlw2, hlw3⟩ := res3 hw1; obtain ⟨a1, c1, rfl, R1⟩ := hown.row hall))
      go_ret2
      exact ⟨_, rfl, Hold.of_own hown (by simp), by (repeat (first | assumption | exact Below.refl _ _ | refine ballc ?_ _ | refine bdrew ?_ | refine bdrewN ?_ _ | refine bset ?_ _ _ | refine bsetN ?_ (by omega) _ _ | refine bthen ?_ (by assumption)))⟩
  have hq : ¬ x.q < 1 := by omega
  have hv : ¬ x.v < 0 := by omega
  by_cases n1 : 30 ≤ l.length
  · have e : inS l x = (l, 6) := by rw [inS, if_neg q1, if_pos n1]
    rw [e]
    have n2 : (30 : Int) ≤ (l.length : Int) := by omega
    clear q1
    go_wp2_with (first | (go_at_call 58; refine (Clone_Layer a l.length cap (flat l) _ (h0.below (by (repeat (first | assumption | exact Below.refl _ _ | refine ballc ?_ _ | refine bdrew ?_ | refine bdrewN ?_ _ | refine bset ?_ _ _ | refine bsetN ?_ (by omega) _ _ | refine bthen ?_ (by assumption))))) (by omega)).mono ?_; rintro e w1 ⟨⟨v1, rfl, hown⟩, hw1⟩; obtain ⟨⟨r0, r1, r2, z0, z1, z2⟩, hlw, hlw1, hlw2, hlw3⟩ := res3 hw1; obtain ⟨a1, c1, rfl, R1⟩ := hown.row hall))
    go_ret2
    exact ⟨_, rfl, Hold.of_own hown (by simp), by (repeat (first | assumption | exact Below.refl _ _ | refine ballc ?_ _ | refine bdrew ?_ | refine bdrewN ?_ _ | refine bset ?_ _ _ | refine bsetN ?_ (by omega) _ _ | refine bthen ?_ (by assumption)))⟩
  have n2 : ¬ (30 : Int) ≤ (l.length : Int) := by omega
  have e : inS l x = if rightL (l ++ [x]) then (l ++ [x], 0) else (l, 2) := by rw [inS, if_neg q1, if_neg n1]
  rw [e]
  clear q1 e
  have hmA : AllI (flat (l ++ [x])) := AllI.snoc hall hx
  have hml := Lib.hid (show l.length + 1 = (l ++ [x]).length by simp)
  have hmf := Lib.hid (show flat l ++ [x.q, x.v, x.p] = flat (l ++ [x]) by simp [flat])
  have hL : (l ++ [x]).length ≤ 1000 := by simp; omega
  generalize l ++ [x] = m at *
  cases hr : rightL m
  all_goals
    simp only [Bool.false_eq_true, if_false, if_true]
    go_wp2_with fail
    go_at_call 58; refine (Clone_Layer a l.length cap (flat l) _ (h0.below (by (repeat (first | assumption | exact Below.refl _ _ | refine ballc ?_ _ | refine bdrew ?_ | refine bdrewN ?_ _ | refine bset ?_ _ _ | refine bsetN ?_ (by omega) _ _ | refine bthen ?_ (by assumption))))) (by omega)).mono ?_; rintro e w1 ⟨⟨v1, rfl, hown⟩, hw1⟩; obtain ⟨⟨r0, r1, r2, z0, z1, z2⟩, hlw, hlw1, hlw2, hlw3⟩ := res3 hw1; obtain ⟨a1, c1, rfl, R1⟩ := hown.row hall
    go_wp2_with fail
    have hws : w.heap.size + 1 ≤ w1.heap.size := hlw
    go_region_held3 (fun w' => w'.cell? ⟨w.heap.size, 0, none⟩ = some (.int .i64 x.q) ∧ w'.cell? ⟨w.heap.size, 1, none⟩ = some (.int .i64 x.v) ∧ w'.cell? ⟨w.heap.size, 2, none⟩ = some (.int .i64 x.p))
      (first | go_keep | exact ⟨(hb3.cell hlw).trans (by go_keep), (hb3.cell hlw).trans (by go_keep), (hb3.cell hlw).trans (by go_keep)⟩ | (go_split_ands; exact ⟨(hw2.cell (by simp; omega)).trans (by assumption), (hw2.cell (by simp; omega)).trans (by assumption), (hw2.cell (by simp; omega)).trans (by assumption)⟩))
      ((first
        | (go_at_call 58; refine (Clone_Layer a1 l.length c1 (flat l) _ (R1.below (by (repeat (first | assumption | exact Below.refl _ _ | refine ballc ?_ _ | refine bdrew ?_ | refine bdrewN ?_ _ | refine bset ?_ _ _ | refine bsetN ?_ (by omega) _ _ | refine bthen ?_ (by assumption))))) (by omega)).mono ?_; rintro e w2 ⟨⟨v2, rfl, hown2⟩, hw2⟩; have hz2 : w1.heap.size ≤ w2.heap.size := (by have := hw2.size; simp at this; omega))
        | (refine step_push (by rfl) _ _ 23 (by rfl) w1.heap.size 32 3 elem_Layer v2 l.length (flat l) (by rfl) ((by first | exact OwnI.mono hown2 (by simp) | exact OwnI.mono (hown2.alloc _) (by simp) | exact hown2 | exact hown2.alloc _)) _ 0 1 [x.q, x.v, x.p] (by rfl) rfl (by first | exact lit3 rfl | exact CellsAt.below (w := (w1.alloc (.cells #[.int .i64 x.q, .int .i64 x.v, .int .i64 x.p] 32)).drew) (lit3 (w := w1) (t := 32) rfl) (by simp) hw2) (by omega) (by first | exact hz2 | exact Nat.le_trans hz2 (by simp)) ?_; intro v3 w3 hown3 hb3)))
    all_goals
      have hbel : Below w.heap.size w w3 := by refine Below.trans ?_ (hb3.mono (by omega)); (repeat (first | assumption | exact Below.refl _ _ | refine ballc ?_ _ | refine bdrew ?_ | refine bdrewN ?_ _ | refine bset ?_ _ _ | refine bsetN ?_ (by omega) _ _ | refine bthen ?_ (by assumption)))
      have hold := (Hold.of_own (base' := w.heap.size) hown (by simp)).below (show Below w1.heap.size w1 w3 by refine Below.trans ?_ hb3; (repeat (first | assumption | exact Below.refl _ _ | refine ballc ?_ _ | refine bdrew ?_ | refine bdrewN ?_ _ | refine bset ?_ _ _ | refine bsetN ?_ (by omega) _ _ | refine bthen ?_ (by assumption))))
      have hown4 := OwnI.same hown3 hml.out hmf.out
      clear hown3 hown2 hb3 hw2
      obtain ⟨a3, c3, rfl, R3⟩ := hown4.row hmA
      go_wp2_with (first | (go_at_call 37; refine (fifo_Right a3 c3 m _ R3 hL).mono ?_; rintro e w4 ⟨rfl, hw4⟩))
      try go_ret2
      first
        | exact ⟨_, rfl, hold.below hw4, by (repeat (first | assumption | exact Below.refl _ _ | refine ballc ?_ _ | refine bdrew ?_ | refine bdrewN ?_ _ | refine bset ?_ _ _ | refine bsetN ?_ (by omega) _ _ | refine bthen ?_ (by assumption)))⟩
        | exact ⟨_, rfl, (Hold.of_own hown4 (by omega)).below hw4, by (repeat (first | assumption | exact Below.refl _ _ | refine ballc ?_ _ | refine bdrew ?_ | refine bdrewN ?_ _ | refine bset ?_ _ _ | refine bsetN ?_ (by omega) _ _ | refine bthen ?_ (by assumption)))⟩
end Go.Proofs.Ytjccjmmbebiegaa

/- FifoOut -/

set_option linter.unusedVariables false
set_option linter.unusedSimpArgs false
namespace Go.Proofs.Ytjccjmmbebiegaa
open Go.RowKit

/-- Layers of the call's own, what was taken, and an error. -/
def HoldO (w : World) (r : List Lay × Lay × Int) (e : Ending) (w' : World) : Prop := ∃ v, e = .returned (.tuple #[v, r.2.1.val, .int .i64 r.2.2]) ∧ Hold w' w.heap.size v r.1 ∧ Below w.heap.size w w'

/-- As Hold; the block lies below hi. -/
def HoldB (w : World) (lo hi : Nat) (a : Option Addr) (cap : Nat) (l : List Lay) : Prop :=
  l.length ≤ cap ∧ cap ≤ maxLen ∧ (l.length = 0 ∨ ∃ b off, a = some ⟨b, off, none⟩ ∧ lo ≤ b ∧ b < hi ∧ CellsAt w b off (flat l) ∧ ∀ i, w.frozen? ⟨b, i, none⟩ = false)
theorem HoldB.of_own {w : World} {base lo : Nat} {e : TypeId} {a : Option Addr} {cap : Nat} {l : List Lay} (h : OwnI w base e 3 (.slice a l.length cap) l.length (flat l)) (g : lo ≤ base) : HoldB w lo w.heap.size a cap l := by
  obtain ⟨a', cap', e, h1, h2, h3⟩ := Hold.of_own h g
  cases e
  refine ⟨h1, h2, ?_⟩
  rcases h3 with h3 | ⟨b, off, rfl, h3, h4, h5, h6⟩
  · exact .inl h3
  · exact .inr ⟨b, off, rfl, h3, h4, h5, h6⟩
theorem HoldB.below {w w' : World} {lo hi : Nat} {a : Option Addr} {cap : Nat} {l : List Lay} (h : HoldB w lo hi a cap l) (g : Below hi w w') : HoldB w' lo hi a cap l := by
  obtain ⟨h1, h2, h3⟩ := h
  refine ⟨h1, h2, ?_⟩
  rcases h3 with h3 | ⟨b, off, rfl, hb, h4, h5, h6⟩
  · exact .inl h3
  · exact .inr ⟨b, off, rfl, hb, h4, fun i hi => (g.cell (p := ⟨b, off + i, none⟩) h4).trans (h5 i hi), fun i => (g.frozen (p := ⟨b, i, none⟩) h4).trans (h6 i)⟩
theorem HoldB.hold {w : World} {lo hi : Nat} {a : Option Addr} {cap : Nat} {l : List Lay} (h : HoldB w lo hi a cap l) (g : hi ≤ w.heap.size) : Hold w lo (.slice a l.length cap) l := by
  obtain ⟨h1, h2, h3⟩ := h
  refine ⟨a, cap, rfl, h1, h2, ?_⟩
  rcases h3 with h3 | ⟨b, off, rfl, hb, h4, h5, h6⟩
  · exact .inl h3
  · exact .inr ⟨b, off, rfl, hb, Nat.lt_of_lt_of_le h4 g, h5, h6⟩
theorem HoldB.hi {w : World} {lo hi hi' : Nat} {a : Option Addr} {cap : Nat} {l : List Lay} (h : HoldB w lo hi a cap l) (g : hi ≤ hi') : HoldB w lo hi' a cap l := by
  obtain ⟨h1, h2, h3⟩ := h
  refine ⟨h1, h2, ?_⟩
  rcases h3 with h3 | ⟨b, off, rfl, hb, h4, h5⟩
  · exact .inl h3
  · exact .inr ⟨b, off, rfl, hb, Nat.lt_of_lt_of_le h4 g, h5⟩
def lenOf : Value → Nat | .slice _ n _ => n | _ => 0
theorem lenOf_slice (a : Option Addr) (n c : Nat) : lenOf (.slice a n c) = n := rfl
/-- How far the taking is: what is left, what was taken, how much is still wanted. -/
structure Taking (l : List Lay) (q : Int) (m : List Lay) (b : Lay) (r : Int) : Prop where
  e : outL l .zero q = outL m b r
  lr : LR m
  r0 : 0 ≤ r
  r1 : r ≤ qs m
  q0 : 0 ≤ b.q
  q1 : b.q + r ≤ 288230376151711744
  v0 : 0 ≤ b.v
  v1 : b.v + vs m ≤ 288230376151711744
  p1 : max b.p (-b.p) + aps m ≤ 288230376151711744
theorem World.cell?_put_far (w : World) {g b : Nat} (h : b ≠ g) (i j : Nat) (u : Value) : (w.setCell ⟨g, i, none⟩ u).cell? ⟨b, j, none⟩ = w.cell? ⟨b, j, none⟩ := World.cell?_of_block (w := w) (Below.heap_setCell _ _ _ _ h)
theorem World.frozen?_put_far (w : World) {g b : Nat} (h : b ≠ g) (i j : Nat) (u : Value) : (w.setCell ⟨g, i, none⟩ u).frozen? ⟨b, j, none⟩ = w.frozen? ⟨b, j, none⟩ := World.frozen?_of_block (w := w) (Below.heap_setCell _ _ _ _ h)
/-- Three cells of one block set. -/
def set3 (w : World) (b off : Nat) (x : Lay) : World := ((w.setCell ⟨b, off, none⟩ (.int .i64 x.q)).setCell ⟨b, off + 1, none⟩ (.int .i64 x.v)).setCell ⟨b, off + 2, none⟩ (.int .i64 x.p)
theorem set3_cell (w : World) {g b : Nat} (h : b ≠ g) (off j : Nat) (x : Lay) : (set3 w g off x).cell? ⟨b, j, none⟩ = w.cell? ⟨b, j, none⟩ := by
  unfold set3; rw [World.cell?_put_far _ h, World.cell?_put_far _ h, World.cell?_put_far _ h]
theorem set3_frozen (w : World) (g off : Nat) (x : Lay) (p : Addr) : (set3 w g off x).frozen? p = w.frozen? p := by
  unfold set3; simp
theorem set3_size (w : World) (g off : Nat) (x : Lay) : (set3 w g off x).heap.size = w.heap.size := by
  unfold set3; simp [World.setCell]
theorem set3_below {w W : World} {B g : Nat} (h : Below B w W) (hg : B ≤ g) (off : Nat) (x : Lay) : Below B w (set3 W g off x) := ((h.setCell (p := ⟨g, off, none⟩) hg _).setCell (p := ⟨g, off + 1, none⟩) hg _).setCell (p := ⟨g, off + 2, none⟩) hg _
theorem set3_at {w : World} {b off : Nat} {u0 u1 u2 : Value} (x : Lay) (c0 : w.cell? ⟨b, off, none⟩ = some u0) (c1 : w.cell? ⟨b, off + 1, none⟩ = some u1) (c2 : w.cell? ⟨b, off + 2, none⟩ = some u2) :
    (set3 w b off x).cell? ⟨b, off, none⟩ = some (.int .i64 x.q) ∧ (set3 w b off x).cell? ⟨b, off + 1, none⟩ = some (.int .i64 x.v) ∧ (set3 w b off x).cell? ⟨b, off + 2, none⟩ = some (.int .i64 x.p) := by
  unfold set3
  simp [go_sem, c0, c1, c2]
theorem set3_out {w : World} {b off j : Nat} (x : Lay) (h : j < off ∨ off + 2 < j) : (set3 w b off x).cell? ⟨b, j, none⟩ = w.cell? ⟨b, j, none⟩ := by
  unfold set3
  rw [World.cell?_setCell_other, World.cell?_setCell_other, World.cell?_setCell_other]
  · intro e; injection e; omega
  · intro e; injection e; omega
  · intro e; injection e; omega
theorem Cell3.sets {w : World} {b g off : Nat} {x y z : Int} (h : Cell3 w b x y z) (hne : b ≠ g) (u : Lay) : Cell3 (set3 w g off u) b x y z :=
  ⟨(set3_cell w hne _ _ _).trans h.c0, (set3_cell w hne _ _ _).trans h.c1, (set3_cell w hne _ _ _).trans h.c2, (set3_frozen _ _ _ _ _).trans h.f0, (set3_frozen _ _ _ _ _).trans h.f1, (set3_frozen _ _ _ _ _).trans h.f2⟩
theorem Cell3.put {w : World} {b : Nat} {x y z : Int} (h : Cell3 w b x y z) (u : Lay) : Cell3 (set3 w b 0 u) b u.q u.v u.p := by
  obtain ⟨a, b, c⟩ := set3_at u h.c0 (show w.cell? ⟨b, 0 + 1, none⟩ = _ from h.c1) (show w.cell? ⟨b, 0 + 2, none⟩ = _ from h.c2)
  exact ⟨a, b, c, (set3_frozen _ _ _ _ _).trans h.f0, (set3_frozen _ _ _ _ _).trans h.f1, (set3_frozen _ _ _ _ _).trans h.f2⟩
theorem Cell3.drew {w : World} {b : Nat} {x y z : Int} (h : Cell3 w b x y z) : Cell3 w.drew b x y z := ⟨h.c0, h.c1, h.c2, h.f0, h.f1, h.f2⟩
theorem HoldB.sets {w : World} {lo hi : Nat} {a : Option Addr} {cap : Nat} {l : List Lay} (h : HoldB w lo hi a cap l) {g : Nat} (hg : g < lo ∨ hi ≤ g) (off : Nat) (u : Lay) : HoldB (set3 w g off u) lo hi a cap l := by
  obtain ⟨h1, h2, h3⟩ := h
  refine ⟨h1, h2, ?_⟩
  rcases h3 with h3 | ⟨b, o, rfl, hb, h4, h5, h6⟩
  · exact .inl h3
  · exact .inr ⟨b, o, rfl, hb, h4, fun i hi => (set3_cell w (by omega) _ _ _).trans (h5 i hi), fun i => (set3_frozen _ _ _ _ _).trans (h6 i)⟩
theorem HoldB.drew {w : World} {lo hi : Nat} {a : Option Addr} {cap : Nat} {l : List Lay} (h : HoldB w lo hi a cap l) : HoldB w.drew lo hi a cap l := h
theorem HoldB.put {w : World} {lo hi b off cap : Nat} {x : Lay} {l : List Lay} (h : HoldB w lo hi (some ⟨b, off, none⟩) cap (x :: l)) (u : Lay) : HoldB (set3 w b off u) lo hi (some ⟨b, off, none⟩) cap (u :: l) := by
  obtain ⟨h1, h2, h3⟩ := h
  refine ⟨h1, h2, ?_⟩
  rcases h3 with h3 | ⟨b', o', e, hb, h4, h5, h6⟩
  · cases h3
  · cases e
    obtain ⟨c0, c1, c2⟩ := h5.head
    obtain ⟨s0, s1, s2⟩ := set3_at u c0 c1 c2
    refine .inr ⟨_, _, rfl, hb, h4, CellsAt.cons s0 s1 s2 fun i hi => ?_, fun i => (set3_frozen _ _ _ _ _).trans (h6 i)⟩
    rw [set3_out u (.inr (by omega))]
    exact h5.tail i hi
theorem HoldB.tail {w : World} {lo hi b off cap : Nat} {x : Lay} {l : List Lay} (h : HoldB w lo hi (some ⟨b, off, none⟩) cap (x :: l)) : HoldB w lo hi (some ⟨b, off + 3, none⟩) l.length l := by
  obtain ⟨h1, h2, h3⟩ := h
  refine ⟨Nat.le_refl _, by simp only [List.length_cons] at h1; omega, ?_⟩
  rcases h3 with h3 | ⟨b', o', e, hb, h4, h5, h6⟩
  · cases h3
  · cases e
    exact .inr ⟨_, _, rfl, hb, h4, h5.tail, h6⟩
theorem HoldB.none {w : World} {lo hi : Nat} {a : Option Addr} : HoldB w lo hi a 0 [] := ⟨Nat.le_refl _, by unfold maxLen; omega, .inl rfl⟩
theorem Taking.cut {l : List Lay} {q k : Int} {x b : Lay} {t : List Lay} (h : Taking l q (x :: t) b k) (h0 : 1 ≤ k) (h1 : k < x.q) : Taking l q (minusL x (cutL x k) :: t) (plusL b (cutL x k)) (k - (cutL x k).q) := by
  have hx := h.lr.ok x (by simp)
  have c := cut_ok hx h0 h1
  have cp := cut_p hx (q := k) (by omega) (by omega)
  have cb := cut_bd hx (q := k) (by omega) (by omega)
  have hl := outL_LR (x :: t) b k h.lr
  have hs := outL_sum (x :: t) b k h.lr (by omega) h.r1
  have eo : outL (x :: t) b k = (minusL x (cutL x k) :: t, plusL b (cutL x k)) := by rw [outL, if_neg (by omega), if_pos h1]
  rw [eo] at hl hs
  have e0 : k - (cutL x k).q = 0 := by simp only [cutL]; omega
  have e := h.e
  rw [eo] at e
  obtain ⟨g1, g2, g3, g4, g5, g6, g7, g8, g9⟩ := h
  simp only at hl hs
  rw [vs_cons] at g8
  rw [aps_cons] at g9
  rw [e0]
  refine ⟨by rw [e, outL_done (Int.le_refl 0)], hl.1, Int.le_refl 0, ?_, ?_, ?_, ?_, ?_, ?_⟩
  · have := qs_pos hl.1.ok; omega
  · simp only [plusL, cutL]; omega
  · simp only [plusL, cutL]; omega
  · have := cb.v0; simp only [plusL, cutL]; omega
  · rw [vs_cons]; simp only [plusL, cutL, minusL]; omega
  · rw [aps_cons]; simp only [plusL, cutL, minusL]
    have cp2 := cut_p2 hx (q := k) (by omega) (by omega)
    omega
theorem Taking.whole {l : List Lay} {q k : Int} {x b : Lay} {t : List Lay} (h : Taking l q (x :: t) b k) (h0 : 1 ≤ k) (h1 : ¬ k < x.q) : Taking l q t (plusL b x) (k - x.q) := by
  have hx := layOk_iff.1 (h.lr.ok x (by simp))
  have eo : outL (x :: t) b k = outL t (plusL b x) (k - x.q) := by rw [outL, if_neg (by omega), if_neg h1]
  obtain ⟨g1, g2, g3, g4, g5, g6, g7, g8, g9⟩ := h
  rw [eo] at g1
  rw [qs_cons] at g4
  rw [vs_cons] at g8
  rw [aps_cons] at g9
  refine ⟨g1, g2.tail, by omega, by omega, ?_, ?_, ?_, ?_, ?_⟩ <;> simp only [plusL] <;> omega
theorem Taking.start {l : List Lay} {q : Int} (h : LR l) (h0 : 1 ≤ q) (h1 : q ≤ qs l) : Taking l q l .zero q := by
  have := h.q; have := h.v; have := h.p
  refine ⟨rfl, h, by omega, h1, ?_, ?_, ?_, ?_, ?_⟩ <;> simp [Lay.zero] <;> omega

set_option maxRecDepth 20000 in
set_option maxHeartbeats 3000000 in
theorem fifo_Out (a : Option Addr) (cap : Nat) (l : List Lay) (w : World) (h : Row w 3 a l.length cap (flat l)) (hL : LR l) (q : Int) (hq : I64 q) :
    Calls Try.prog 70 #[.slice a l.length cap, .int .i64 q] w (HoldO w (outS l q)) := by
  have h0 := h
  obtain ⟨hl, hcap, hmax, hall, hat⟩ := h
  obtain ⟨hq0, hq1⟩ := hq
  unfold maxLen at hmax
  have hlen := hL.len
  by_cases q1 : q < 1
  · have e : outS l q = (l, .zero, 1) := by simp [outS, q1]
    rw [e]
    go_enter Try.func70, Try.ntmps70
    try simp only [List.append_eq, List.cons_append, List.nil_append]
    go_wp2_with (first | (go_at_call 58; refine (Clone_Layer a l.length cap (flat l) _ (h0.below (by (repeat (first | assumption | exact Below.refl _ _ | refine ballc ?_ _ | refine bdrew ?_ | refine bdrewN ?_ _ | refine bset ?_ _ _ | refine bsetN ?_ (by omega) _ _ | refine bthen ?_ (by assumption))))) (by omega)).mono ?_; rintro e w1 ⟨⟨v1, rfl, hown⟩, hw1⟩; obtain ⟨⟨r0, r1, r2, z0, z1, z2⟩, hlw, hlw1, hlw2, hlw3⟩ := res3 hw1))
    exact bodyPost_ret (v := .tuple #[v1, Lay.zero.val, .int .i64 1]) (by simp [results, Try.results70, go_sem, hlw, hlw1, r0, r1, r2, z0, z1, z2]) rfl ⟨_, rfl, (Hold.of_own hown (by simp)).set3 _ _ _, by (repeat (first | assumption | exact Below.refl _ _ | refine ballc ?_ _ | refine bdrew ?_ | refine bdrewN ?_ _ | refine bset ?_ _ _ | refine bsetN ?_ (by omega) _ _ | refine bthen ?_ (by assumption)))⟩
  by_cases q2 : qs l < q
  · have e : outS l q = (l, .zero, 5) := outS_short hL (by omega) q2
    rw [e]
    have hs : ¬ q ≤ qs l := by omega
    have hsd : decide (q ≤ qs l) = false := by simp [hs]
    have hq := Lib.hid hsd
    clear hsd hs
    go_enter Try.func70, Try.ntmps70
    try simp only [List.append_eq, List.cons_append, List.nil_append]
    go_wp2_with (first | (go_at_call 58; refine (Clone_Layer a l.length cap (flat l) _ (h0.below (by (repeat (first | assumption | exact Below.refl _ _ | refine ballc ?_ _ | refine bdrew ?_ | refine bdrewN ?_ _ | refine bset ?_ _ _ | refine bsetN ?_ (by omega) _ _ | refine bthen ?_ (by assumption))))) (by omega)).mono ?_; rintro e w1 ⟨⟨v1, rfl, hown⟩, hw1⟩; obtain ⟨⟨r0, r1, r2, z0, z1, z2⟩, hlw, hlw1, hlw2, hlw3⟩ := res3 hw1; obtain ⟨a1, c1, rfl, R1⟩ := hown.row hall) | (go_at_call 75; refine (fifo_has a1 c1 l _ R1 (List.all_eq_true.2 hL.ok) (qs l) hL.sums.1 q (by omega) hq1).mono ?_; rw [hq.out]; rintro e w2 ⟨rfl, hw2⟩; obtain ⟨⟨s0, s1, s2, t0, t1, t2⟩, hl2, hl3, hl4, hl5⟩ := Cell3.next ⟨r0, r1, r2, z0, z1, z2⟩ hlw hw2))
    exact bodyPost_ret (v := .tuple #[.slice a1 l.length c1, Lay.zero.val, .int .i64 5]) (by simp [results, Try.results70, go_sem, hl2, hl3, s0, s1, s2, t0, t1, t2]) rfl ⟨_, rfl, ((Hold.of_own hown (by simp)).below hw2).set3 _ _ _, by (repeat (first | assumption | exact Below.refl _ _ | refine ballc ?_ _ | refine bdrew ?_ | refine bdrewN ?_ _ | refine bset ?_ _ _ | refine bsetN ?_ (by omega) _ _ | refine bthen ?_ (by assumption)))⟩
  have hsd : decide (q ≤ qs l) = true := by simp; omega
  have hqd := Lib.hid hsd
  clear hsd
  rw [outS_ok hL (by omega) (by omega)]
  go_enter Try.func70, Try.ntmps70
  try simp only [List.append_eq, List.cons_append, List.nil_append]
  go_wp2_with (first | (go_at_call 58; refine (Clone_Layer a l.length cap (flat l) _ (h0.below (by (repeat (first | assumption | exact Below.refl _ _ | refine ballc ?_ _ | refine bdrew ?_ | refine bdrewN ?_ _ | refine bset ?_ _ _ | refine bsetN ?_ (by omega) _ _ | refine bthen ?_ (by assumption))))) (by omega)).mono ?_; rintro e w1 ⟨⟨v1, rfl, hown⟩, hw1⟩; obtain ⟨⟨r0, r1, r2, z0, z1, z2⟩, hlw, hlw1, hlw2, hlw3⟩ := res3 hw1; obtain ⟨a1, c1, rfl, R1⟩ := hown.row hall) | (go_at_call 75; refine (fifo_has a1 c1 l _ R1 (List.all_eq_true.2 hL.ok) (qs l) hL.sums.1 q (by omega) hq1).mono ?_; rw [hqd.out]; rintro e w2 ⟨rfl, hw2⟩; obtain ⟨⟨s0, s1, s2, t0, t1, t2⟩, hl2, hl3, hl4, hl5⟩ := Cell3.next ⟨r0, r1, r2, z0, z1, z2⟩ hlw hw2))
  have hb0 := (HoldB.of_own (lo := w.heap.size + 1) hown (by simp)).below hw2
  have hbel0 : Below w.heap.size w w2 := by (repeat (first | assumption | exact Below.refl _ _ | refine ballc ?_ _ | refine bdrew ?_ | refine bdrewN ?_ _ | refine bset ?_ _ _ | refine bsetN ?_ (by omega) _ _ | refine bthen ?_ (by assumption)))
  have hsz2 : w1.heap.size ≤ w2.heap.size := hw2.size
  have hT := Taking.start hL (show 1 ≤ q by omega) (show q ≤ qs l by omega)
  have hqd := Lib.hid True.intro
  clear hown R1 hw1 hw2 h0 hat hl hall hlw hlw1 hlw2 hlw3 r0 r1 r2 z0 z1 z2 hl3 hl4 hl5 hqd
  go_loopw [0, 1] (fun v r wr => ∃ (a : Option Addr) (cap : Nat) (m : List Lay) (b : Lay) (k : Int), v = .slice a m.length cap ∧ r = .int .i64 k ∧ HoldB wr (w.heap.size + 1) w2.heap.size a cap m ∧ Cell3 wr w.heap.size 0 0 0 ∧ Cell3 wr w2.heap.size b.q b.v b.p ∧ w2.heap.size + 1 ≤ wr.heap.size ∧ Below w.heap.size w wr ∧ Taking l q m b k) (fun _ r _ => (intOf r).toNat)
  case atStart => exact ⟨a1, c1, l, .zero, q, rfl, rfl, (hb0.hi hsz2).below ((Below.refl _ _).alloc (Nat.le_refl _) _), ⟨by go_simp, by go_simp, by go_simp, by go_simp, by go_simp, by go_simp⟩, ⟨by go_simp, by go_simp, by go_simp, by simp, by simp, by simp⟩, by simp, by (repeat (first | assumption | exact Below.refl _ _ | refine ballc ?_ _ | refine bdrew ?_ | refine bdrewN ?_ _ | refine bset ?_ _ _ | refine bsetN ?_ (by omega) _ _ | refine bthen ?_ (by assumption))), hT⟩
  case round =>
    obtain ⟨a2, c2, m, b, k, rfl, rfl, ⟨hm1, hm2, hm3⟩, ⟨r0, r1, r2, z0, z1, z2⟩, ⟨y0, y1, y2, x0, x1, x2⟩, hs2, hbel, hst⟩ := hrel
    unfold maxLen at hm2
    have hl0 : w.heap.size < wr.heap.size := by omega
    have hl1 : w2.heap.size < wr.heap.size := by omega
    have hne : w.heap.size ≠ w2.heap.size := by omega
    by_cases hx : m.length = 0 ∨ k ≤ 0
    · have he : ((outL l .zero q).1, (outL l .zero q).2, (0 : Int)) = (m, b, 0) := by
        rw [hst.e]
        rcases hx with hx | hx
        · rw [List.eq_nil_of_length_eq_zero hx]; rfl
        · rw [outL_done hx]
      have hB : HoldB wr (w.heap.size + 1) w2.heap.size a2 c2 m := ⟨hm1, hm2, hm3⟩
      clear hst hm3
      have he := Lib.hid he
      have hx2 : ¬ (0 : Int) < (m.length : Int) ∨ (0 : Int) < (m.length : Int) ∧ ¬ 0 < k := by omega
      clear hx
      rcases hx2 with hx | ⟨hx, hx3⟩
      all_goals
        go_wp2_with fail
        go_region_held3 (fun w' => w'.cell? ⟨w2.heap.size, 0, none⟩ = some (.int .i64 b.q) ∧ w'.cell? ⟨w2.heap.size, 1, none⟩ = some (.int .i64 b.v) ∧ w'.cell? ⟨w2.heap.size, 2, none⟩ = some (.int .i64 b.p)) (go_keep) (fail)
        go_wp2
        have hres := (hB.hold (by omega)).set3 (.int .i64 b.q) (.int .i64 b.v) (.int .i64 b.p)
        have hbelF : Below w.heap.size w (((wr.setCell ⟨w.heap.size, 0, none⟩ (.int .i64 b.q)).setCell ⟨w.heap.size, 1, none⟩ (.int .i64 b.v)).setCell ⟨w.heap.size, 2, none⟩ (.int .i64 b.p)).drew := bdrew (bset (bset (bset hbel 0 _) 1 _) 2 _)
        exact bodyPost_ret (v := .tuple #[.slice a2 m.length c2, b.val, .int .i64 0]) (by simp [results, Try.results70, go_sem, hl0, r0, r1, r2, z0, z1, z2]) rfl (by rw [he.out]; exact ⟨_, rfl, hres.below (by (repeat (first | assumption | exact Below.refl _ _ | refine ballc ?_ _ | refine bdrew ?_ | refine bdrewN ?_ _ | refine bset ?_ _ _ | refine bsetN ?_ (by omega) _ _ | refine bthen ?_ (by assumption)))), hbelF⟩)
    cases m with
    | nil => simp at hx
    | cons x t =>
      obtain ⟨g, off, rfl, hg1, hg2, hc, hf⟩ : ∃ g off, a2 = some ⟨g, off, none⟩ ∧ w.heap.size + 1 ≤ g ∧ g < w2.heap.size ∧ CellsAt wr g off (flat (x :: t)) ∧ ∀ i, wr.frozen? ⟨g, i, none⟩ = false := by
        rcases hm3 with hm3 | hm3
        · simp at hm3
        · exact hm3
      obtain ⟨c0, c1', c2'⟩ := hc.head
      have hk : 1 ≤ k := by omega
      have hlen2 : (0 : Int) < (t.length : Int) + 1 := by omega
      have hpos : 0 < t.length + 1 := by omega
      clear hm3 hx
      have hlr := hst.lr
      obtain ⟨k1, k2, k3, k4, k5, k6⟩ := hlr.at_ (x := x) (by simp)
      have hm1 : t.length + 1 ≤ c2 := hm1
      have hI1 : (t.length : Int) + 1 ≤ (c2 : Int) := by omega
      have hI2 : (0 : Int) ≤ (t.length : Int) + 1 := by omega
      have hI3 : (1 : Int) ≤ (t.length : Int) + 1 := by omega
      clear s0 s1 s2 t0 t1 t2 hb0 hbel0 hT hcap hmax hqd hlen hL
      simp only [List.length_cons]
      by_cases hcut : k < x.q
      · go_wp2_with fail
        obtain ⟨V, hV⟩ : ∃ V, V = wr.alloc (.cells #[.int .i64 x.q, .int .i64 x.v, .int .i64 x.p] 32) := ⟨_, rfl⟩
        have hB : Below wr.heap.size wr V := by rw [hV]; exact (Below.refl _ wr).alloc (Nat.le_refl _) _
        have hVs : V.heap.size = wr.heap.size + 1 := by rw [hV]; simp
        have hX : Cell3 V wr.heap.size x.q x.v x.p := by rw [hV]; exact ⟨by simp, by simp, by simp, by simp, by simp, by simp⟩
        have hR : Cell3 V w.heap.size 0 0 0 := (Cell3.next ⟨r0, r1, r2, z0, z1, z2⟩ hl0 hB).1
        have hO : Cell3 V w2.heap.size b.q b.v b.p := (Cell3.next ⟨y0, y1, y2, x0, x1, x2⟩ hl1 hB).1
        have hHB : HoldB V (w.heap.size + 1) w2.heap.size (some ⟨g, off, none⟩) c2 (x :: t) := HoldB.below ⟨hm1, hm2, .inr ⟨g, off, rfl, hg1, hg2, hc, hf⟩⟩ (hB.mono (by omega))
        have hbelV : Below w.heap.size w V := hbel.trans (hB.mono (by omega))
        rw [← hV]
        clear hV hB r0 r1 r2 z0 z1 z2 y0 y1 y2 x0 x1 x2 hc hf c0 c1' c2' hbel

        have hx := hlr.ok x (by simp)
        have cb := cut_bd hx (q := k) (by omega) (by omega)
        have hT := hst.cut hk hcut
        have i1 : I64 x.v := ⟨by omega, by omega⟩
        have i2 : I64 k := ⟨by omega, by omega⟩
        have i3 : I64 x.q := ⟨by omega, by omega⟩
        have i4 : I64 x.p := ⟨by omega, by omega⟩
        obtain ⟨d0, d1, d2, f0, f1, f2⟩ := id hX
        have hVl : wr.heap.size < V.heap.size := by omega
        have hTh := Lib.hid hT
        clear hT
        refine wp_region_det' 2 [some 35, some 36, some 37, some 38, some 39, some 40, some 41, some 42, some 43, some 44, some 45, some 46, some 47, some 48, none] [14] [(0, 0), (0, 0), (0, 0), (0, 0), (0, 0), (0, 0), (0, 0), (0, 0), (0, 0), (0, 0), (0, 0), (0, 0), (0, 0), (0, 0), (0, 0)] (pick [fun w' => Below V.heap.size V w', fun w' => ∃ w1, Below V.heap.size V w1 ∧ w' = set3 w1 wr.heap.size 0 (cutL x k)]) [.int .i64 (k), .pointer (some ⟨wr.heap.size, 1, none⟩), .int .i64 (x.v), .int .i64 (k), .pointer (some ⟨wr.heap.size, 0, none⟩), .int .i64 (x.q), .int .i64 (partS x.v k x.q), .pointer (some ⟨wr.heap.size, 2, none⟩), .int .i64 (x.p), .int .i64 (k), .pointer (some ⟨wr.heap.size, 0, none⟩), .int .i64 (x.q), .int .i64 (partS x.p k x.q), .agg #[.int .i64 (k), .int .i64 (partS x.v k x.q), .int .i64 (partS x.p k x.q)], undef] (by kernel_rfl) (by kernel_rfl) (by kernel_rfl) rfl (by kernel_rfl) (by kernel_rfl) (by kernel_rfl) (by rfl) ((Below.refl _ V).drew) ?steps ?fin
        case steps =>
          intro ρ hin hout hconst hfun
          have r1 : ρ (.tmp 1) = .int .i64 (k) := hout 1 rfl
          have r8 : ρ (.tmp 8) = .pointer (some ⟨wr.heap.size, 0, none⟩) := hout 8 rfl
          have r36 : ρ (.tmp 36) = .pointer (some ⟨wr.heap.size, 1, none⟩) := hin 1 36 rfl
          have r39 : ρ (.tmp 39) = .pointer (some ⟨wr.heap.size, 0, none⟩) := hin 4 39 rfl
          have r37 : ρ (.tmp 37) = .int .i64 (x.v) := hin 2 37 rfl
          have r38 : ρ (.tmp 38) = .int .i64 (k) := hin 3 38 rfl
          have r40 : ρ (.tmp 40) = .int .i64 (x.q) := hin 5 40 rfl
          have r42 : ρ (.tmp 42) = .pointer (some ⟨wr.heap.size, 2, none⟩) := hin 7 42 rfl
          have r45 : ρ (.tmp 45) = .pointer (some ⟨wr.heap.size, 0, none⟩) := hin 10 45 rfl
          have r43 : ρ (.tmp 43) = .int .i64 (x.p) := hin 8 43 rfl
          have r44 : ρ (.tmp 44) = .int .i64 (k) := hin 9 44 rfl
          have r46 : ρ (.tmp 46) = .int .i64 (x.q) := hin 11 46 rfl
          have r35 : ρ (.tmp 35) = .int .i64 (k) := hin 0 35 rfl
          have r41 : ρ (.tmp 41) = .int .i64 (partS x.v k x.q) := hin 6 41 rfl
          have r47 : ρ (.tmp 47) = .int .i64 (partS x.p k x.q) := hin 12 47 rfl
          have r48 : ρ (.tmp 48) = .agg #[.int .i64 (k), .int .i64 (partS x.v k x.q), .int .i64 (partS x.p k x.q)] := hin 13 48 rfl
          clear hin hout
          refine DetSteps.pure (by decide) (fun ww => Step.value (by simp [execOp, r1])) ?_
          refine DetSteps.pure (by decide) (fun ww => Step.value (by simp [execOp, go_sem, r8])) ?_
          refine DetSteps.load (by decide) (fun s ww h1 h2 hw => by rcases (by omega : s = 0) with rfl <;> (simp only [pick, List.getD_cons_zero, List.getD_cons_succ] at hw; have d0' := (hw.cell hVl).trans d0; have d1' := (hw.cell hVl).trans d1; have d2' := (hw.cell hVl).trans d2; exact Step.value (by simp [execOp, go_sem, r36, d0', d1', d2']))) ?_
          refine DetSteps.pure (by decide) (fun ww => Step.value (by simp [execOp, r1])) ?_
          refine DetSteps.pure (by decide) (fun ww => Step.value (by simp [execOp, go_sem, r8])) ?_
          refine DetSteps.load (by decide) (fun s ww h1 h2 hw => by rcases (by omega : s = 0) with rfl <;> (simp only [pick, List.getD_cons_zero, List.getD_cons_succ] at hw; have d0' := (hw.cell hVl).trans d0; have d1' := (hw.cell hVl).trans d1; have d2' := (hw.cell hVl).trans d2; exact Step.value (by simp [execOp, go_sem, r39, d0', d1', d2']))) ?_
          refine DetSteps.call (by decide) (fun s ww h1 h2 hw => by rcases (by omega : s = 0) with rfl <;> (simp only [pick, List.getD_cons_zero, List.getD_cons_succ] at hw ⊢; exact StepP.call (w1 := ww) (by simp [execOp, go_sem, r37, r38, r40, hfun]) ((money_Part x.v k x.q ww i1 i2 i3).mono fun e w3 h3 => ⟨h3.1, bthen hw h3.2⟩))) ?_
          refine DetSteps.pure (by decide) (fun ww => Step.value (by simp [execOp, go_sem, r8])) ?_
          refine DetSteps.load (by decide) (fun s ww h1 h2 hw => by rcases (by omega : s = 0) with rfl <;> (simp only [pick, List.getD_cons_zero, List.getD_cons_succ] at hw; have d0' := (hw.cell hVl).trans d0; have d1' := (hw.cell hVl).trans d1; have d2' := (hw.cell hVl).trans d2; exact Step.value (by simp [execOp, go_sem, r42, d0', d1', d2']))) ?_
          refine DetSteps.pure (by decide) (fun ww => Step.value (by simp [execOp, r1])) ?_
          refine DetSteps.pure (by decide) (fun ww => Step.value (by simp [execOp, go_sem, r8])) ?_
          refine DetSteps.load (by decide) (fun s ww h1 h2 hw => by rcases (by omega : s = 0) with rfl <;> (simp only [pick, List.getD_cons_zero, List.getD_cons_succ] at hw; have d0' := (hw.cell hVl).trans d0; have d1' := (hw.cell hVl).trans d1; have d2' := (hw.cell hVl).trans d2; exact Step.value (by simp [execOp, go_sem, r45, d0', d1', d2']))) ?_
          refine DetSteps.call (by decide) (fun s ww h1 h2 hw => by rcases (by omega : s = 0) with rfl <;> (simp only [pick, List.getD_cons_zero, List.getD_cons_succ] at hw ⊢; exact StepP.call (w1 := ww) (by simp [execOp, go_sem, r43, r44, r46, hfun]) ((money_Part x.p k x.q ww i4 i2 i3).mono fun e w3 h3 => ⟨h3.1, bthen hw h3.2⟩))) ?_
          refine DetSteps.pure (by decide) (fun ww => Step.value (by simp [execOp, go_sem, r35, r41, r47])) ?_
          refine DetSteps.store (by decide) (fun ww hw => by simp only [pick, List.getD_cons_zero, List.getD_cons_succ] at hw ⊢; have d0' := (hw.cell hVl).trans d0; have d1' := (hw.cell hVl).trans d1; have d2' := (hw.cell hVl).trans d2; have f0' := (hw.frozen hVl).trans f0; have f1' := (hw.frozen hVl).trans f1; have f2' := (hw.frozen hVl).trans f2; exact Step.pred (w' := set3 ww wr.heap.size 0 (cutL x k)) (Step.skip rfl (by simp [execOp, go_sem, set3, cutL, r8, r48, d0', d1', d2', f0', f1', f2'])) ⟨ww, hw, rfl⟩) ?_
          exact True.intro
        case fin =>
          intro wf hw
          simp only [pick, List.getD_cons_zero, List.getD_cons_succ, List.length_cons, List.length_nil] at hw
          simp only [puts, Act.put, List.getD_cons_zero, List.getD_cons_succ, List.setIfInBounds_toArray, List.set_cons_succ, List.set_cons_zero, List.length_cons, List.length_nil]
          obtain ⟨wx, hwx, rfl⟩ := hw
          have hO2 := ((Cell3.next hO (by omega) hwx).1).sets (g := wr.heap.size) (off := 0) (by omega) (cutL x k)
          have hR2 := ((Cell3.next hR (by omega) hwx).1).sets (g := wr.heap.size) (off := 0) (by omega) (cutL x k)
          have hX2 : Cell3 (set3 wx wr.heap.size 0 (cutL x k)) wr.heap.size k (partS x.v k x.q) (partS x.p k x.q) := ((Cell3.next hX hVl hwx).1).put (cutL x k)
          have hHB2 := (hHB.below (hwx.mono (by omega))).sets (g := wr.heap.size) (.inr (by omega)) 0 (cutL x k)
          have hbel2 : Below w.heap.size w (set3 wx wr.heap.size 0 (cutL x k)) := set3_below (bthen hbelV (hwx.mono (by omega))) (by omega) _ _
          have hVs2 : wr.heap.size + 1 ≤ (set3 wx wr.heap.size 0 (cutL x k)).heap.size := by rw [set3_size]; have := hwx.size; omega
          generalize set3 wx wr.heap.size 0 (cutL x k) = V1 at *
          clear hX hO hR hHB hbelV hVs hVl d0 d1 d2 f0 f1 f2 hwx
          go_wp2_with fail
          obtain ⟨d0, d1, d2, f0, f1, f2⟩ := id hX2
          obtain ⟨g', o', eg, hgl, hgh, hcc, hff⟩ := hHB2.2.2.resolve_left (by simp)
          cases eg
          obtain ⟨c0, c1', c2'⟩ := hcc.head
          have g0 := hff off; have g1 := hff (off + 1); have g2 := hff (off + 2)
          have cp2 := cut_p2 hx (q := k) (by omega) (by omega)
          have cv0 := cb.v0; have cv1 := cb.v1; have cd0 := cb.d0; have cd1 := cb.d1
          have hng : g ≠ wr.heap.size := by omega
          have e0 : IntKind.i64.wrap (x.q - k) = x.q - k := IntWalk.i64_in _ (by omega)
          have e1 : IntKind.i64.wrap (x.v - partS x.v k x.q) = x.v - partS x.v k x.q := IntWalk.i64_in _ (by omega)
          have e2 : IntKind.i64.wrap (x.p - partS x.p k x.q) = x.p - partS x.p k x.q := IntWalk.i64_in _ (by omega)
          refine wp_region_det' 2 [some 49, some 50, some 51, some 52, some 53, some 54, some 55, some 56, some 57, some 58, some 59, some 60, some 61, some 62, some 63, some 64, some 65, some 66, some 67, some 68, some 69, some 70, some 71, some 72, some 73, some 74, none, some 75, some 76, none, some 77, some 78, none] [26, 29, 32] [(0, 0), (0, 1), (0, 2), (0, 0), (0, 0), (0, 0), (0, 0), (0, 0), (0, 0), (0, 0), (0, 1), (0, 1), (0, 0), (0, 0), (0, 1), (0, 1), (0, 1), (0, 2), (0, 2), (0, 0), (0, 0), (0, 2), (0, 2), (0, 2), (0, 0), (0, 0), (0, 0), (1, 1), (1, 1), (1, 1), (2, 2), (2, 2), (2, 2)] (pick [fun w' => w' = V1.drew, fun w' => w' = (V1.drew.setCell ⟨g, off, none⟩ (.int .i64 (x.q - k))), fun w' => w' = ((V1.drew.setCell ⟨g, off, none⟩ (.int .i64 (x.q - k))).setCell ⟨g, off + 1, none⟩ (.int .i64 (x.v - (partS x.v k x.q)))), fun w' => w' = (((V1.drew.setCell ⟨g, off, none⟩ (.int .i64 (x.q - k))).setCell ⟨g, off + 1, none⟩ (.int .i64 (x.v - (partS x.v k x.q)))).setCell ⟨g, off + 2, none⟩ (.int .i64 (x.p - (partS x.p k x.q))))]) [.slice (some ⟨g, off, none⟩) (t.length + 1) c2, .slice (some ⟨g, off, none⟩) (t.length + 1) c2, .slice (some ⟨g, off, none⟩) (t.length + 1) c2, .slice (some ⟨g, off, none⟩) (t.length + 1) c2, .pointer (some ⟨g, off, none⟩), .pointer (some ⟨g, off, none⟩), .int .i64 (x.q), .pointer (some ⟨wr.heap.size, 0, none⟩), .int .i64 (k), .int .i64 (x.q - k), .slice (some ⟨g, off, none⟩) (t.length + 1) c2, .pointer (some ⟨g, off, none⟩), .pointer (some ⟨g, off + 1, none⟩), .int .i64 (x.v), .pointer (some ⟨wr.heap.size, 1, none⟩), .int .i64 (partS x.v k x.q), .int .i64 (x.v - (partS x.v k x.q)), .slice (some ⟨g, off, none⟩) (t.length + 1) c2, .pointer (some ⟨g, off, none⟩), .pointer (some ⟨g, off + 2, none⟩), .int .i64 (x.p), .pointer (some ⟨wr.heap.size, 2, none⟩), .int .i64 (partS x.p k x.q), .int .i64 (x.p - (partS x.p k x.q)), .pointer (some ⟨g, off, none⟩), .pointer (some ⟨g, off, none⟩), undef, .pointer (some ⟨g, off, none⟩), .pointer (some ⟨g, off + 1, none⟩), undef, .pointer (some ⟨g, off, none⟩), .pointer (some ⟨g, off + 2, none⟩), undef] (by kernel_rfl) (by kernel_rfl) (by kernel_rfl) rfl (by kernel_rfl) (by kernel_rfl) (by kernel_rfl) (by rfl) rfl ?steps ?fin
          case steps =>
            intro ρ hin hout hconst hfun
            have r0 : ρ (.tmp 0) = .slice (some ⟨g, off, none⟩) (t.length + 1) c2 := hout 0 rfl
            have r52 : ρ (.tmp 52) = .slice (some ⟨g, off, none⟩) (t.length + 1) c2 := hin 3 52 rfl
            have r53 : ρ (.tmp 53) = .pointer (some ⟨g, off, none⟩) := hin 4 53 rfl
            have r54 : ρ (.tmp 54) = .pointer (some ⟨g, off, none⟩) := hin 5 54 rfl
            have r8 : ρ (.tmp 8) = .pointer (some ⟨wr.heap.size, 0, none⟩) := hout 8 rfl
            have r56 : ρ (.tmp 56) = .pointer (some ⟨wr.heap.size, 0, none⟩) := hin 7 56 rfl
            have r55 : ρ (.tmp 55) = .int .i64 (x.q) := hin 6 55 rfl
            have r57 : ρ (.tmp 57) = .int .i64 (k) := hin 8 57 rfl
            have r59 : ρ (.tmp 59) = .slice (some ⟨g, off, none⟩) (t.length + 1) c2 := hin 10 59 rfl
            have r60 : ρ (.tmp 60) = .pointer (some ⟨g, off, none⟩) := hin 11 60 rfl
            have r61 : ρ (.tmp 61) = .pointer (some ⟨g, off + 1, none⟩) := hin 12 61 rfl
            have r63 : ρ (.tmp 63) = .pointer (some ⟨wr.heap.size, 1, none⟩) := hin 14 63 rfl
            have r62 : ρ (.tmp 62) = .int .i64 (x.v) := hin 13 62 rfl
            have r64 : ρ (.tmp 64) = .int .i64 (partS x.v k x.q) := hin 15 64 rfl
            have r66 : ρ (.tmp 66) = .slice (some ⟨g, off, none⟩) (t.length + 1) c2 := hin 17 66 rfl
            have r67 : ρ (.tmp 67) = .pointer (some ⟨g, off, none⟩) := hin 18 67 rfl
            have r68 : ρ (.tmp 68) = .pointer (some ⟨g, off + 2, none⟩) := hin 19 68 rfl
            have r70 : ρ (.tmp 70) = .pointer (some ⟨wr.heap.size, 2, none⟩) := hin 21 70 rfl
            have r69 : ρ (.tmp 69) = .int .i64 (x.p) := hin 20 69 rfl
            have r71 : ρ (.tmp 71) = .int .i64 (partS x.p k x.q) := hin 22 71 rfl
            have r49 : ρ (.tmp 49) = .slice (some ⟨g, off, none⟩) (t.length + 1) c2 := hin 0 49 rfl
            have r73 : ρ (.tmp 73) = .pointer (some ⟨g, off, none⟩) := hin 24 73 rfl
            have r74 : ρ (.tmp 74) = .pointer (some ⟨g, off, none⟩) := hin 25 74 rfl
            have r58 : ρ (.tmp 58) = .int .i64 (x.q - k) := hin 9 58 rfl
            have r50 : ρ (.tmp 50) = .slice (some ⟨g, off, none⟩) (t.length + 1) c2 := hin 1 50 rfl
            have r75 : ρ (.tmp 75) = .pointer (some ⟨g, off, none⟩) := hin 27 75 rfl
            have r76 : ρ (.tmp 76) = .pointer (some ⟨g, off + 1, none⟩) := hin 28 76 rfl
            have r65 : ρ (.tmp 65) = .int .i64 (x.v - (partS x.v k x.q)) := hin 16 65 rfl
            have r51 : ρ (.tmp 51) = .slice (some ⟨g, off, none⟩) (t.length + 1) c2 := hin 2 51 rfl
            have r77 : ρ (.tmp 77) = .pointer (some ⟨g, off, none⟩) := hin 30 77 rfl
            have r78 : ρ (.tmp 78) = .pointer (some ⟨g, off + 2, none⟩) := hin 31 78 rfl
            have r72 : ρ (.tmp 72) = .int .i64 (x.p - (partS x.p k x.q)) := hin 23 72 rfl
            clear hin hout
            refine DetSteps.pure (by decide) (fun ww => Step.value (by simp [execOp, r0])) ?_
            refine DetSteps.pure (by decide) (fun ww => Step.value (by simp [execOp, r0])) ?_
            refine DetSteps.pure (by decide) (fun ww => Step.value (by simp [execOp, r0])) ?_
            refine DetSteps.pure (by decide) (fun ww => Step.value (by simp [execOp, r0])) ?_
            refine DetSteps.pure (by decide) (fun ww => Step.value (by simp [execOp, go_sem, hconst, r52, d0, d1, d2, c0, c1', c2', g0, g1, g2, hng, hng.symm, e0, e1, e2, hI2, hI3, hlen2])) ?_
            refine DetSteps.pure (by decide) (fun ww => Step.value (by simp [execOp, go_sem, r53])) ?_
            refine DetSteps.load (by decide) (fun s ww h1 h2 hw => by rcases (by omega : s = 0) with rfl <;> (simp only [pick, List.getD_cons_zero, List.getD_cons_succ] at hw; subst hw; exact Step.value (by simp [execOp, go_sem, r54, d0, d1, d2, c0, c1', c2', g0, g1, g2, hng, hng.symm, e0, e1, e2, hI2, hI3, hlen2]))) ?_
            refine DetSteps.pure (by decide) (fun ww => Step.value (by simp [execOp, go_sem, r8])) ?_
            refine DetSteps.load (by decide) (fun s ww h1 h2 hw => by rcases (by omega : s = 0) with rfl <;> (simp only [pick, List.getD_cons_zero, List.getD_cons_succ] at hw; subst hw; exact Step.value (by simp [execOp, go_sem, r56, d0, d1, d2, c0, c1', c2', g0, g1, g2, hng, hng.symm, e0, e1, e2, hI2, hI3, hlen2]))) ?_
            refine DetSteps.pure (by decide) (fun ww => Step.value (by simp [execOp, go_sem, r55, r57, d0, d1, d2, c0, c1', c2', g0, g1, g2, hng, hng.symm, e0, e1, e2, hI2, hI3, hlen2])) ?_
            refine DetSteps.pure (by decide) (fun ww => Step.value (by simp [execOp, r0])) ?_
            refine DetSteps.pure (by decide) (fun ww => Step.value (by simp [execOp, go_sem, hconst, r59, d0, d1, d2, c0, c1', c2', g0, g1, g2, hng, hng.symm, e0, e1, e2, hI2, hI3, hlen2])) ?_
            refine DetSteps.pure (by decide) (fun ww => Step.value (by simp [execOp, go_sem, r60])) ?_
            refine DetSteps.load (by decide) (fun s ww h1 h2 hw => by rcases (by omega : s = 0) with rfl <;> (simp only [pick, List.getD_cons_zero, List.getD_cons_succ] at hw; subst hw; exact Step.value (by simp [execOp, go_sem, r61, d0, d1, d2, c0, c1', c2', g0, g1, g2, hng, hng.symm, e0, e1, e2, hI2, hI3, hlen2]))) ?_
            refine DetSteps.pure (by decide) (fun ww => Step.value (by simp [execOp, go_sem, r8])) ?_
            refine DetSteps.load (by decide) (fun s ww h1 h2 hw => by rcases (by omega : s = 0 ∨ s = 1) with rfl | rfl <;> (simp only [pick, List.getD_cons_zero, List.getD_cons_succ] at hw; subst hw; exact Step.value (by simp [execOp, go_sem, r63, d0, d1, d2, c0, c1', c2', g0, g1, g2, hng, hng.symm, e0, e1, e2, hI2, hI3, hlen2]))) ?_
            refine DetSteps.pure (by decide) (fun ww => Step.value (by simp [execOp, go_sem, r62, r64, d0, d1, d2, c0, c1', c2', g0, g1, g2, hng, hng.symm, e0, e1, e2, hI2, hI3, hlen2])) ?_
            refine DetSteps.pure (by decide) (fun ww => Step.value (by simp [execOp, r0])) ?_
            refine DetSteps.pure (by decide) (fun ww => Step.value (by simp [execOp, go_sem, hconst, r66, d0, d1, d2, c0, c1', c2', g0, g1, g2, hng, hng.symm, e0, e1, e2, hI2, hI3, hlen2])) ?_
            refine DetSteps.pure (by decide) (fun ww => Step.value (by simp [execOp, go_sem, r67])) ?_
            refine DetSteps.load (by decide) (fun s ww h1 h2 hw => by rcases (by omega : s = 0) with rfl <;> (simp only [pick, List.getD_cons_zero, List.getD_cons_succ] at hw; subst hw; exact Step.value (by simp [execOp, go_sem, r68, d0, d1, d2, c0, c1', c2', g0, g1, g2, hng, hng.symm, e0, e1, e2, hI2, hI3, hlen2]))) ?_
            refine DetSteps.pure (by decide) (fun ww => Step.value (by simp [execOp, go_sem, r8])) ?_
            refine DetSteps.load (by decide) (fun s ww h1 h2 hw => by rcases (by omega : s = 0 ∨ s = 1 ∨ s = 2) with rfl | rfl | rfl <;> (simp only [pick, List.getD_cons_zero, List.getD_cons_succ] at hw; subst hw; exact Step.value (by simp [execOp, go_sem, r70, d0, d1, d2, c0, c1', c2', g0, g1, g2, hng, hng.symm, e0, e1, e2, hI2, hI3, hlen2]))) ?_
            refine DetSteps.pure (by decide) (fun ww => Step.value (by simp [execOp, go_sem, r69, r71, d0, d1, d2, c0, c1', c2', g0, g1, g2, hng, hng.symm, e0, e1, e2, hI2, hI3, hlen2])) ?_
            refine DetSteps.pure (by decide) (fun ww => Step.value (by simp [execOp, go_sem, hconst, r49, d0, d1, d2, c0, c1', c2', g0, g1, g2, hng, hng.symm, e0, e1, e2, hI2, hI3, hlen2])) ?_
            refine DetSteps.pure (by decide) (fun ww => Step.value (by simp [execOp, go_sem, r73])) ?_
            refine DetSteps.store (by decide) (fun ww hw => by simp only [pick, List.getD_cons_zero, List.getD_cons_succ] at hw ⊢; subst hw; exact Step.pred (Step.skip rfl (by simp [execOp, go_sem, r74, r58, d0, d1, d2, c0, c1', c2', g0, g1, g2, hng, hng.symm, e0, e1, e2, hI2, hI3, hlen2] <;> rfl)) rfl) ?_
            refine DetSteps.pure (by decide) (fun ww => Step.value (by simp [execOp, go_sem, hconst, r50, d0, d1, d2, c0, c1', c2', g0, g1, g2, hng, hng.symm, e0, e1, e2, hI2, hI3, hlen2])) ?_
            refine DetSteps.pure (by decide) (fun ww => Step.value (by simp [execOp, go_sem, r75])) ?_
            refine DetSteps.store (by decide) (fun ww hw => by simp only [pick, List.getD_cons_zero, List.getD_cons_succ] at hw ⊢; subst hw; exact Step.pred (Step.skip rfl (by simp [execOp, go_sem, r76, r65, d0, d1, d2, c0, c1', c2', g0, g1, g2, hng, hng.symm, e0, e1, e2, hI2, hI3, hlen2] <;> rfl)) rfl) ?_
            refine DetSteps.pure (by decide) (fun ww => Step.value (by simp [execOp, go_sem, hconst, r51, d0, d1, d2, c0, c1', c2', g0, g1, g2, hng, hng.symm, e0, e1, e2, hI2, hI3, hlen2])) ?_
            refine DetSteps.pure (by decide) (fun ww => Step.value (by simp [execOp, go_sem, r77])) ?_
            refine DetSteps.store (by decide) (fun ww hw => by simp only [pick, List.getD_cons_zero, List.getD_cons_succ] at hw ⊢; subst hw; exact Step.pred (Step.skip rfl (by simp [execOp, go_sem, r78, r72, d0, d1, d2, c0, c1', c2', g0, g1, g2, hng, hng.symm, e0, e1, e2, hI2, hI3, hlen2] <;> rfl)) rfl) ?_
            exact True.intro
          case fin =>
            intro wf hw
            simp only [pick, List.getD_cons_zero, List.getD_cons_succ, List.length_cons, List.length_nil] at hw
            subst hw
            simp only [puts, Act.put, List.getD_cons_zero, List.getD_cons_succ, List.setIfInBounds_toArray, List.set_cons_succ, List.set_cons_zero, List.length_cons, List.length_nil]
            change Exit.then _ _ .normal _ (set3 V1.drew g off (minusL x (cutL x k)))
            have hX := hX2.drew.sets (g := g) (off := off) hng.symm (minusL x (cutL x k))
            have hO := hO2.drew.sets (g := g) (off := off) (by omega) (minusL x (cutL x k))
            have hR := hR2.drew.sets (g := g) (off := off) (by omega) (minusL x (cutL x k))
            have hHB := hHB2.drew.put (minusL x (cutL x k))
            have hbelV : Below w.heap.size w (set3 V1.drew g off (minusL x (cutL x k))) := set3_below hbel2.drew (by omega) _ _
            have hVs : wr.heap.size + 1 ≤ (set3 V1.drew g off (minusL x (cutL x k))).heap.size := by rw [set3_size]; exact hVs2
            generalize set3 V1.drew g off (minusL x (cutL x k)) = V at *
            have hyq0 : 1 ≤ (cutL x k).q := hk
            change Cell3 V wr.heap.size (cutL x k).q (cutL x k).v (cutL x k).p at hX
            clear hX2 hO2 hR2 hHB2 hbel2 hVs2 d0 d1 d2 f0 f1 f2 c0 c1' c2' g0 g1 g2 e0 e1 e2 hcc hff cv0 cv1 cd0 cd1 cp2
            generalize cutL x k = y at *
            go_wp2_with fail
            have hT := hTh.out
            have bq := hT.q0; have bq1 := hT.q1; have bv := hT.v0; have bv1 := hT.v1; have bp1 := hT.p1; have br := hT.r0; have hyq := hyq0
            have bas := aps_nonneg (minusL x y :: t)
            have bvs := (qs_pos hT.lr.ok).2.1
            simp only [plusL] at bq bq1 bv bv1 bp1
            have e0 : IntKind.i64.wrap (b.q + y.q) = b.q + y.q := IntWalk.i64_in _ (by omega)
            have e1 : IntKind.i64.wrap (b.v + y.v) = b.v + y.v := IntWalk.i64_in _ (by omega)
            have e2 : IntKind.i64.wrap (b.p + y.p) = b.p + y.p := IntWalk.i64_in _ (by omega)
            have hne2 : wr.heap.size ≠ w2.heap.size := by omega
            obtain ⟨d0, d1, d2, f0, f1, f2⟩ := id hX
            obtain ⟨y0, y1, y2, x0, x1, x2⟩ := id hO
            refine wp_region_det' 2 [some 85, some 86, some 87, some 88, some 89, some 90, some 91, some 92, some 93, some 94, some 95, some 96, some 97, some 98, some 99, some 100, none, some 101, none, some 102, none] [16, 18, 20] [(0, 0), (0, 0), (0, 0), (0, 0), (0, 0), (0, 0), (0, 0), (0, 1), (0, 1), (0, 1), (0, 0), (0, 0), (0, 2), (0, 2), (0, 2), (0, 0), (0, 0), (1, 1), (1, 1), (2, 2), (2, 2)] (pick [fun w' => w' = V.drew, fun w' => w' = (V.drew.setCell ⟨w2.heap.size, 0, none⟩ (.int .i64 (b.q + y.q))), fun w' => w' = ((V.drew.setCell ⟨w2.heap.size, 0, none⟩ (.int .i64 (b.q + y.q))).setCell ⟨w2.heap.size, 1, none⟩ (.int .i64 (b.v + y.v))), fun w' => w' = (((V.drew.setCell ⟨w2.heap.size, 0, none⟩ (.int .i64 (b.q + y.q))).setCell ⟨w2.heap.size, 1, none⟩ (.int .i64 (b.v + y.v))).setCell ⟨w2.heap.size, 2, none⟩ (.int .i64 (b.p + y.p)))]) [.pointer (some ⟨w2.heap.size, 0, none⟩), .int .i64 (b.q), .pointer (some ⟨wr.heap.size, 0, none⟩), .int .i64 (y.q), .int .i64 (b.q + y.q), .pointer (some ⟨w2.heap.size, 1, none⟩), .int .i64 (b.v), .pointer (some ⟨wr.heap.size, 1, none⟩), .int .i64 (y.v), .int .i64 (b.v + y.v), .pointer (some ⟨w2.heap.size, 2, none⟩), .int .i64 (b.p), .pointer (some ⟨wr.heap.size, 2, none⟩), .int .i64 (y.p), .int .i64 (b.p + y.p), .pointer (some ⟨w2.heap.size, 0, none⟩), undef, .pointer (some ⟨w2.heap.size, 1, none⟩), undef, .pointer (some ⟨w2.heap.size, 2, none⟩), undef] (by kernel_rfl) (by kernel_rfl) (by kernel_rfl) rfl (by kernel_rfl) (by kernel_rfl) (by kernel_rfl) (by rfl) rfl ?steps ?fin
            case steps =>
              intro ρ hin hout hconst hfun
              have r7 : ρ (.tmp 7) = .pointer (some ⟨w2.heap.size, 0, none⟩) := hout 7 rfl
              have r85 : ρ (.tmp 85) = .pointer (some ⟨w2.heap.size, 0, none⟩) := hin 0 85 rfl
              have r8 : ρ (.tmp 8) = .pointer (some ⟨wr.heap.size, 0, none⟩) := hout 8 rfl
              have r87 : ρ (.tmp 87) = .pointer (some ⟨wr.heap.size, 0, none⟩) := hin 2 87 rfl
              have r86 : ρ (.tmp 86) = .int .i64 (b.q) := hin 1 86 rfl
              have r88 : ρ (.tmp 88) = .int .i64 (y.q) := hin 3 88 rfl
              have r90 : ρ (.tmp 90) = .pointer (some ⟨w2.heap.size, 1, none⟩) := hin 5 90 rfl
              have r92 : ρ (.tmp 92) = .pointer (some ⟨wr.heap.size, 1, none⟩) := hin 7 92 rfl
              have r91 : ρ (.tmp 91) = .int .i64 (b.v) := hin 6 91 rfl
              have r93 : ρ (.tmp 93) = .int .i64 (y.v) := hin 8 93 rfl
              have r95 : ρ (.tmp 95) = .pointer (some ⟨w2.heap.size, 2, none⟩) := hin 10 95 rfl
              have r97 : ρ (.tmp 97) = .pointer (some ⟨wr.heap.size, 2, none⟩) := hin 12 97 rfl
              have r96 : ρ (.tmp 96) = .int .i64 (b.p) := hin 11 96 rfl
              have r98 : ρ (.tmp 98) = .int .i64 (y.p) := hin 13 98 rfl
              have r100 : ρ (.tmp 100) = .pointer (some ⟨w2.heap.size, 0, none⟩) := hin 15 100 rfl
              have r89 : ρ (.tmp 89) = .int .i64 (b.q + y.q) := hin 4 89 rfl
              have r101 : ρ (.tmp 101) = .pointer (some ⟨w2.heap.size, 1, none⟩) := hin 17 101 rfl
              have r94 : ρ (.tmp 94) = .int .i64 (b.v + y.v) := hin 9 94 rfl
              have r102 : ρ (.tmp 102) = .pointer (some ⟨w2.heap.size, 2, none⟩) := hin 19 102 rfl
              have r99 : ρ (.tmp 99) = .int .i64 (b.p + y.p) := hin 14 99 rfl
              clear hin hout
              refine DetSteps.pure (by decide) (fun ww => Step.value (by simp [execOp, go_sem, r7])) ?_
              refine DetSteps.load (by decide) (fun s ww h1 h2 hw => by rcases (by omega : s = 0) with rfl <;> (simp only [pick, List.getD_cons_zero, List.getD_cons_succ] at hw; subst hw; exact Step.value (by simp [execOp, go_sem, r85, d0, d1, d2, y0, y1, y2, x0, x1, x2, hne, hne.symm, e0, e1, e2]))) ?_
              refine DetSteps.pure (by decide) (fun ww => Step.value (by simp [execOp, go_sem, r8])) ?_
              refine DetSteps.load (by decide) (fun s ww h1 h2 hw => by rcases (by omega : s = 0) with rfl <;> (simp only [pick, List.getD_cons_zero, List.getD_cons_succ] at hw; subst hw; exact Step.value (by simp [execOp, go_sem, r87, d0, d1, d2, y0, y1, y2, x0, x1, x2, hne, hne.symm, e0, e1, e2]))) ?_
              refine DetSteps.pure (by decide) (fun ww => Step.value (by simp [execOp, go_sem, r86, r88, d0, d1, d2, y0, y1, y2, x0, x1, x2, hne, hne.symm, e0, e1, e2])) ?_
              refine DetSteps.pure (by decide) (fun ww => Step.value (by simp [execOp, go_sem, r7])) ?_
              refine DetSteps.load (by decide) (fun s ww h1 h2 hw => by rcases (by omega : s = 0) with rfl <;> (simp only [pick, List.getD_cons_zero, List.getD_cons_succ] at hw; subst hw; exact Step.value (by simp [execOp, go_sem, r90, d0, d1, d2, y0, y1, y2, x0, x1, x2, hne, hne.symm, e0, e1, e2]))) ?_
              refine DetSteps.pure (by decide) (fun ww => Step.value (by simp [execOp, go_sem, r8])) ?_
              refine DetSteps.load (by decide) (fun s ww h1 h2 hw => by rcases (by omega : s = 0 ∨ s = 1) with rfl | rfl <;> (simp only [pick, List.getD_cons_zero, List.getD_cons_succ] at hw; subst hw; exact Step.value (by simp [execOp, go_sem, r92, d0, d1, d2, y0, y1, y2, x0, x1, x2, hne, hne.symm, e0, e1, e2]))) ?_
              refine DetSteps.pure (by decide) (fun ww => Step.value (by simp [execOp, go_sem, r91, r93, d0, d1, d2, y0, y1, y2, x0, x1, x2, hne, hne.symm, e0, e1, e2])) ?_
              refine DetSteps.pure (by decide) (fun ww => Step.value (by simp [execOp, go_sem, r7])) ?_
              refine DetSteps.load (by decide) (fun s ww h1 h2 hw => by rcases (by omega : s = 0) with rfl <;> (simp only [pick, List.getD_cons_zero, List.getD_cons_succ] at hw; subst hw; exact Step.value (by simp [execOp, go_sem, r95, d0, d1, d2, y0, y1, y2, x0, x1, x2, hne, hne.symm, e0, e1, e2]))) ?_
              refine DetSteps.pure (by decide) (fun ww => Step.value (by simp [execOp, go_sem, r8])) ?_
              refine DetSteps.load (by decide) (fun s ww h1 h2 hw => by rcases (by omega : s = 0 ∨ s = 1 ∨ s = 2) with rfl | rfl | rfl <;> (simp only [pick, List.getD_cons_zero, List.getD_cons_succ] at hw; subst hw; exact Step.value (by simp [execOp, go_sem, r97, d0, d1, d2, y0, y1, y2, x0, x1, x2, hne, hne.symm, e0, e1, e2]))) ?_
              refine DetSteps.pure (by decide) (fun ww => Step.value (by simp [execOp, go_sem, r96, r98, d0, d1, d2, y0, y1, y2, x0, x1, x2, hne, hne.symm, e0, e1, e2])) ?_
              refine DetSteps.pure (by decide) (fun ww => Step.value (by simp [execOp, go_sem, r7])) ?_
              refine DetSteps.store (by decide) (fun ww hw => by simp only [pick, List.getD_cons_zero, List.getD_cons_succ] at hw ⊢; subst hw; exact Step.pred (Step.skip rfl (by simp [execOp, go_sem, r100, r89, d0, d1, d2, y0, y1, y2, x0, x1, x2, hne, hne.symm, e0, e1, e2] <;> rfl)) rfl) ?_
              refine DetSteps.pure (by decide) (fun ww => Step.value (by simp [execOp, go_sem, r7])) ?_
              refine DetSteps.store (by decide) (fun ww hw => by simp only [pick, List.getD_cons_zero, List.getD_cons_succ] at hw ⊢; subst hw; exact Step.pred (Step.skip rfl (by simp [execOp, go_sem, r101, r94, d0, d1, d2, y0, y1, y2, x0, x1, x2, hne, hne.symm, e0, e1, e2] <;> rfl)) rfl) ?_
              refine DetSteps.pure (by decide) (fun ww => Step.value (by simp [execOp, go_sem, r7])) ?_
              refine DetSteps.store (by decide) (fun ww hw => by simp only [pick, List.getD_cons_zero, List.getD_cons_succ] at hw ⊢; subst hw; exact Step.pred (Step.skip rfl (by simp [execOp, go_sem, r102, r99, d0, d1, d2, y0, y1, y2, x0, x1, x2, hne, hne.symm, e0, e1, e2] <;> rfl)) rfl) ?_
              exact True.intro
            case fin =>
              intro wf hw
              simp only [pick, List.getD_cons_zero, List.getD_cons_succ, List.length_cons, List.length_nil] at hw
              subst hw
              simp only [puts, Act.put, List.getD_cons_zero, List.getD_cons_succ, List.setIfInBounds_toArray, List.set_cons_succ, List.set_cons_zero, List.length_cons, List.length_nil]
              have hX2 : Cell3 (set3 V.drew w2.heap.size 0 ⟨b.q + y.q, b.v + y.v, b.p + y.p⟩) wr.heap.size y.q y.v y.p := hX.drew.sets hne2 _
              have hO2 : Cell3 (set3 V.drew w2.heap.size 0 ⟨b.q + y.q, b.v + y.v, b.p + y.p⟩) w2.heap.size (b.q + y.q) (b.v + y.v) (b.p + y.p) := hO.drew.put _
              have hR2 : Cell3 (set3 V.drew w2.heap.size 0 ⟨b.q + y.q, b.v + y.v, b.p + y.p⟩) w.heap.size 0 0 0 := hR.drew.sets hne _
              have hHB2 := hHB.drew.sets (g := w2.heap.size) (.inr (Nat.le_refl _)) 0 ⟨b.q + y.q, b.v + y.v, b.p + y.p⟩
              have hs2' : w2.heap.size + 1 ≤ (set3 V.drew w2.heap.size 0 ⟨b.q + y.q, b.v + y.v, b.p + y.p⟩).heap.size := by rw [set3_size]; show _ ≤ V.heap.size; omega
              have hbel2 : Below w.heap.size w (set3 V.drew w2.heap.size 0 ⟨b.q + y.q, b.v + y.v, b.p + y.p⟩) := set3_below hbelV.drew (by omega) _ _
              change Exit.then _ _ .normal _ (set3 V.drew w2.heap.size 0 ⟨b.q + y.q, b.v + y.v, b.p + y.p⟩)
              generalize set3 V.drew w2.heap.size 0 ⟨b.q + y.q, b.v + y.v, b.p + y.p⟩ = V2 at *
              clear d0 d1 d2 f0 f1 f2 y0 y1 y2 x0 x1 x2 hX hO hR hHB hbelV e0 e1 e2
              obtain ⟨d0, d1, d2, f0, f1, f2⟩ := id hX2
              have hT := Lib.hid hT
              go_wp2_with fail
              case' roundEnd =>
                refine ⟨⟨_, _, (minusL x y :: t), plusL b y, k - y.q, rfl, rfl, hHB2, hR2, hO2, hs2', hbel2, hT.out⟩, ?_⟩
                simp [intOf]
                omega

      · have hT := hst.whole hk hcut
        by_cases ht : t.length = 0
        · go_wp2_with fail
          obtain ⟨V, hV⟩ : ∃ V, V = wr.alloc (.cells #[.int .i64 x.q, .int .i64 x.v, .int .i64 x.p] 32) := ⟨_, rfl⟩
          have hB : Below wr.heap.size wr V := by rw [hV]; exact (Below.refl _ wr).alloc (Nat.le_refl _) _
          have hVs : V.heap.size = wr.heap.size + 1 := by rw [hV]; simp
          have hX : Cell3 V wr.heap.size x.q x.v x.p := by rw [hV]; exact ⟨by simp, by simp, by simp, by simp, by simp, by simp⟩
          have hR : Cell3 V w.heap.size 0 0 0 := (Cell3.next ⟨r0, r1, r2, z0, z1, z2⟩ hl0 hB).1
          have hO : Cell3 V w2.heap.size b.q b.v b.p := (Cell3.next ⟨y0, y1, y2, x0, x1, x2⟩ hl1 hB).1
          have hHB : HoldB V (w.heap.size + 1) w2.heap.size (some ⟨g, off, none⟩) c2 (x :: t) := HoldB.below ⟨hm1, hm2, .inr ⟨g, off, rfl, hg1, hg2, hc, hf⟩⟩ (hB.mono (by omega))
          have hbelV : Below w.heap.size w V := hbel.trans (hB.mono (by omega))
          rw [← hV]
          clear hV hB r0 r1 r2 z0 z1 z2 y0 y1 y2 x0 x1 x2 hc hf c0 c1' c2' hbel

          have ht0 : t = [] := List.eq_nil_of_length_eq_zero ht
          subst ht0
          have hyq0 : 1 ≤ x.q := k1
          have hHB : HoldB V (w.heap.size + 1) w2.heap.size (some ⟨g, off, none⟩) 0 [] := HoldB.none
          have bq := hT.q0; have bq1 := hT.q1; have bv := hT.v0; have bv1 := hT.v1; have bp1 := hT.p1; have br := hT.r0; have hyq := hyq0
          have bas := aps_nonneg []
          have bvs := (qs_pos hT.lr.ok).2.1
          simp only [plusL] at bq bq1 bv bv1 bp1
          have e0 : IntKind.i64.wrap (b.q + x.q) = b.q + x.q := IntWalk.i64_in _ (by omega)
          have e1 : IntKind.i64.wrap (b.v + x.v) = b.v + x.v := IntWalk.i64_in _ (by omega)
          have e2 : IntKind.i64.wrap (b.p + x.p) = b.p + x.p := IntWalk.i64_in _ (by omega)
          have hne2 : wr.heap.size ≠ w2.heap.size := by omega
          obtain ⟨d0, d1, d2, f0, f1, f2⟩ := id hX
          obtain ⟨y0, y1, y2, x0, x1, x2⟩ := id hO
          refine wp_region_det' 2 [some 85, some 86, some 87, some 88, some 89, some 90, some 91, some 92, some 93, some 94, some 95, some 96, some 97, some 98, some 99, some 100, none, some 101, none, some 102, none] [16, 18, 20] [(0, 0), (0, 0), (0, 0), (0, 0), (0, 0), (0, 0), (0, 0), (0, 1), (0, 1), (0, 1), (0, 0), (0, 0), (0, 2), (0, 2), (0, 2), (0, 0), (0, 0), (1, 1), (1, 1), (2, 2), (2, 2)] (pick [fun w' => w' = V.drew, fun w' => w' = (V.drew.setCell ⟨w2.heap.size, 0, none⟩ (.int .i64 (b.q + x.q))), fun w' => w' = ((V.drew.setCell ⟨w2.heap.size, 0, none⟩ (.int .i64 (b.q + x.q))).setCell ⟨w2.heap.size, 1, none⟩ (.int .i64 (b.v + x.v))), fun w' => w' = (((V.drew.setCell ⟨w2.heap.size, 0, none⟩ (.int .i64 (b.q + x.q))).setCell ⟨w2.heap.size, 1, none⟩ (.int .i64 (b.v + x.v))).setCell ⟨w2.heap.size, 2, none⟩ (.int .i64 (b.p + x.p)))]) [.pointer (some ⟨w2.heap.size, 0, none⟩), .int .i64 (b.q), .pointer (some ⟨wr.heap.size, 0, none⟩), .int .i64 (x.q), .int .i64 (b.q + x.q), .pointer (some ⟨w2.heap.size, 1, none⟩), .int .i64 (b.v), .pointer (some ⟨wr.heap.size, 1, none⟩), .int .i64 (x.v), .int .i64 (b.v + x.v), .pointer (some ⟨w2.heap.size, 2, none⟩), .int .i64 (b.p), .pointer (some ⟨wr.heap.size, 2, none⟩), .int .i64 (x.p), .int .i64 (b.p + x.p), .pointer (some ⟨w2.heap.size, 0, none⟩), undef, .pointer (some ⟨w2.heap.size, 1, none⟩), undef, .pointer (some ⟨w2.heap.size, 2, none⟩), undef] (by kernel_rfl) (by kernel_rfl) (by kernel_rfl) rfl (by kernel_rfl) (by kernel_rfl) (by kernel_rfl) (by rfl) rfl ?steps ?fin
          case steps =>
            intro ρ hin hout hconst hfun
            have r7 : ρ (.tmp 7) = .pointer (some ⟨w2.heap.size, 0, none⟩) := hout 7 rfl
            have r85 : ρ (.tmp 85) = .pointer (some ⟨w2.heap.size, 0, none⟩) := hin 0 85 rfl
            have r8 : ρ (.tmp 8) = .pointer (some ⟨wr.heap.size, 0, none⟩) := hout 8 rfl
            have r87 : ρ (.tmp 87) = .pointer (some ⟨wr.heap.size, 0, none⟩) := hin 2 87 rfl
            have r86 : ρ (.tmp 86) = .int .i64 (b.q) := hin 1 86 rfl
            have r88 : ρ (.tmp 88) = .int .i64 (x.q) := hin 3 88 rfl
            have r90 : ρ (.tmp 90) = .pointer (some ⟨w2.heap.size, 1, none⟩) := hin 5 90 rfl
            have r92 : ρ (.tmp 92) = .pointer (some ⟨wr.heap.size, 1, none⟩) := hin 7 92 rfl
            have r91 : ρ (.tmp 91) = .int .i64 (b.v) := hin 6 91 rfl
            have r93 : ρ (.tmp 93) = .int .i64 (x.v) := hin 8 93 rfl
            have r95 : ρ (.tmp 95) = .pointer (some ⟨w2.heap.size, 2, none⟩) := hin 10 95 rfl
            have r97 : ρ (.tmp 97) = .pointer (some ⟨wr.heap.size, 2, none⟩) := hin 12 97 rfl
            have r96 : ρ (.tmp 96) = .int .i64 (b.p) := hin 11 96 rfl
            have r98 : ρ (.tmp 98) = .int .i64 (x.p) := hin 13 98 rfl
            have r100 : ρ (.tmp 100) = .pointer (some ⟨w2.heap.size, 0, none⟩) := hin 15 100 rfl
            have r89 : ρ (.tmp 89) = .int .i64 (b.q + x.q) := hin 4 89 rfl
            have r101 : ρ (.tmp 101) = .pointer (some ⟨w2.heap.size, 1, none⟩) := hin 17 101 rfl
            have r94 : ρ (.tmp 94) = .int .i64 (b.v + x.v) := hin 9 94 rfl
            have r102 : ρ (.tmp 102) = .pointer (some ⟨w2.heap.size, 2, none⟩) := hin 19 102 rfl
            have r99 : ρ (.tmp 99) = .int .i64 (b.p + x.p) := hin 14 99 rfl
            clear hin hout
            refine DetSteps.pure (by decide) (fun ww => Step.value (by simp [execOp, go_sem, r7])) ?_
            refine DetSteps.load (by decide) (fun s ww h1 h2 hw => by rcases (by omega : s = 0) with rfl <;> (simp only [pick, List.getD_cons_zero, List.getD_cons_succ] at hw; subst hw; exact Step.value (by simp [execOp, go_sem, r85, d0, d1, d2, y0, y1, y2, x0, x1, x2, hne, hne.symm, e0, e1, e2]))) ?_
            refine DetSteps.pure (by decide) (fun ww => Step.value (by simp [execOp, go_sem, r8])) ?_
            refine DetSteps.load (by decide) (fun s ww h1 h2 hw => by rcases (by omega : s = 0) with rfl <;> (simp only [pick, List.getD_cons_zero, List.getD_cons_succ] at hw; subst hw; exact Step.value (by simp [execOp, go_sem, r87, d0, d1, d2, y0, y1, y2, x0, x1, x2, hne, hne.symm, e0, e1, e2]))) ?_
            refine DetSteps.pure (by decide) (fun ww => Step.value (by simp [execOp, go_sem, r86, r88, d0, d1, d2, y0, y1, y2, x0, x1, x2, hne, hne.symm, e0, e1, e2])) ?_
            refine DetSteps.pure (by decide) (fun ww => Step.value (by simp [execOp, go_sem, r7])) ?_
            refine DetSteps.load (by decide) (fun s ww h1 h2 hw => by rcases (by omega : s = 0) with rfl <;> (simp only [pick, List.getD_cons_zero, List.getD_cons_succ] at hw; subst hw; exact Step.value (by simp [execOp, go_sem, r90, d0, d1, d2, y0, y1, y2, x0, x1, x2, hne, hne.symm, e0, e1, e2]))) ?_
            refine DetSteps.pure (by decide) (fun ww => Step.value (by simp [execOp, go_sem, r8])) ?_
            refine DetSteps.load (by decide) (fun s ww h1 h2 hw => by rcases (by omega : s = 0 ∨ s = 1) with rfl | rfl <;> (simp only [pick, List.getD_cons_zero, List.getD_cons_succ] at hw; subst hw; exact Step.value (by simp [execOp, go_sem, r92, d0, d1, d2, y0, y1, y2, x0, x1, x2, hne, hne.symm, e0, e1, e2]))) ?_
            refine DetSteps.pure (by decide) (fun ww => Step.value (by simp [execOp, go_sem, r91, r93, d0, d1, d2, y0, y1, y2, x0, x1, x2, hne, hne.symm, e0, e1, e2])) ?_
            refine DetSteps.pure (by decide) (fun ww => Step.value (by simp [execOp, go_sem, r7])) ?_
            refine DetSteps.load (by decide) (fun s ww h1 h2 hw => by rcases (by omega : s = 0) with rfl <;> (simp only [pick, List.getD_cons_zero, List.getD_cons_succ] at hw; subst hw; exact Step.value (by simp [execOp, go_sem, r95, d0, d1, d2, y0, y1, y2, x0, x1, x2, hne, hne.symm, e0, e1, e2]))) ?_
            refine DetSteps.pure (by decide) (fun ww => Step.value (by simp [execOp, go_sem, r8])) ?_
            refine DetSteps.load (by decide) (fun s ww h1 h2 hw => by rcases (by omega : s = 0 ∨ s = 1 ∨ s = 2) with rfl | rfl | rfl <;> (simp only [pick, List.getD_cons_zero, List.getD_cons_succ] at hw; subst hw; exact Step.value (by simp [execOp, go_sem, r97, d0, d1, d2, y0, y1, y2, x0, x1, x2, hne, hne.symm, e0, e1, e2]))) ?_
            refine DetSteps.pure (by decide) (fun ww => Step.value (by simp [execOp, go_sem, r96, r98, d0, d1, d2, y0, y1, y2, x0, x1, x2, hne, hne.symm, e0, e1, e2])) ?_
            refine DetSteps.pure (by decide) (fun ww => Step.value (by simp [execOp, go_sem, r7])) ?_
            refine DetSteps.store (by decide) (fun ww hw => by simp only [pick, List.getD_cons_zero, List.getD_cons_succ] at hw ⊢; subst hw; exact Step.pred (Step.skip rfl (by simp [execOp, go_sem, r100, r89, d0, d1, d2, y0, y1, y2, x0, x1, x2, hne, hne.symm, e0, e1, e2] <;> rfl)) rfl) ?_
            refine DetSteps.pure (by decide) (fun ww => Step.value (by simp [execOp, go_sem, r7])) ?_
            refine DetSteps.store (by decide) (fun ww hw => by simp only [pick, List.getD_cons_zero, List.getD_cons_succ] at hw ⊢; subst hw; exact Step.pred (Step.skip rfl (by simp [execOp, go_sem, r101, r94, d0, d1, d2, y0, y1, y2, x0, x1, x2, hne, hne.symm, e0, e1, e2] <;> rfl)) rfl) ?_
            refine DetSteps.pure (by decide) (fun ww => Step.value (by simp [execOp, go_sem, r7])) ?_
            refine DetSteps.store (by decide) (fun ww hw => by simp only [pick, List.getD_cons_zero, List.getD_cons_succ] at hw ⊢; subst hw; exact Step.pred (Step.skip rfl (by simp [execOp, go_sem, r102, r99, d0, d1, d2, y0, y1, y2, x0, x1, x2, hne, hne.symm, e0, e1, e2] <;> rfl)) rfl) ?_
            exact True.intro
          case fin =>
            intro wf hw
            simp only [pick, List.getD_cons_zero, List.getD_cons_succ, List.length_cons, List.length_nil] at hw
            subst hw
            simp only [puts, Act.put, List.getD_cons_zero, List.getD_cons_succ, List.setIfInBounds_toArray, List.set_cons_succ, List.set_cons_zero, List.length_cons, List.length_nil]
            have hX2 : Cell3 (set3 V.drew w2.heap.size 0 ⟨b.q + x.q, b.v + x.v, b.p + x.p⟩) wr.heap.size x.q x.v x.p := hX.drew.sets hne2 _
            have hO2 : Cell3 (set3 V.drew w2.heap.size 0 ⟨b.q + x.q, b.v + x.v, b.p + x.p⟩) w2.heap.size (b.q + x.q) (b.v + x.v) (b.p + x.p) := hO.drew.put _
            have hR2 : Cell3 (set3 V.drew w2.heap.size 0 ⟨b.q + x.q, b.v + x.v, b.p + x.p⟩) w.heap.size 0 0 0 := hR.drew.sets hne _
            have hHB2 := hHB.drew.sets (g := w2.heap.size) (.inr (Nat.le_refl _)) 0 ⟨b.q + x.q, b.v + x.v, b.p + x.p⟩
            have hs2' : w2.heap.size + 1 ≤ (set3 V.drew w2.heap.size 0 ⟨b.q + x.q, b.v + x.v, b.p + x.p⟩).heap.size := by rw [set3_size]; show _ ≤ V.heap.size; omega
            have hbel2 : Below w.heap.size w (set3 V.drew w2.heap.size 0 ⟨b.q + x.q, b.v + x.v, b.p + x.p⟩) := set3_below hbelV.drew (by omega) _ _
            change Exit.then _ _ .normal _ (set3 V.drew w2.heap.size 0 ⟨b.q + x.q, b.v + x.v, b.p + x.p⟩)
            generalize set3 V.drew w2.heap.size 0 ⟨b.q + x.q, b.v + x.v, b.p + x.p⟩ = V2 at *
            clear d0 d1 d2 f0 f1 f2 y0 y1 y2 x0 x1 x2 hX hO hR hHB hbelV e0 e1 e2
            obtain ⟨d0, d1, d2, f0, f1, f2⟩ := id hX2
            have hT := Lib.hid hT
            go_wp2_with fail
            case' roundEnd =>
              refine ⟨⟨_, _, [], plusL b x, k - x.q, rfl, rfl, hHB2, hR2, hO2, hs2', hbel2, hT.out⟩, ?_⟩
              simp [intOf]
              omega

        · go_wp2_with fail
          obtain ⟨V, hV⟩ : ∃ V, V = wr.alloc (.cells #[.int .i64 x.q, .int .i64 x.v, .int .i64 x.p] 32) := ⟨_, rfl⟩
          have hB : Below wr.heap.size wr V := by rw [hV]; exact (Below.refl _ wr).alloc (Nat.le_refl _) _
          have hVs : V.heap.size = wr.heap.size + 1 := by rw [hV]; simp
          have hX : Cell3 V wr.heap.size x.q x.v x.p := by rw [hV]; exact ⟨by simp, by simp, by simp, by simp, by simp, by simp⟩
          have hR : Cell3 V w.heap.size 0 0 0 := (Cell3.next ⟨r0, r1, r2, z0, z1, z2⟩ hl0 hB).1
          have hO : Cell3 V w2.heap.size b.q b.v b.p := (Cell3.next ⟨y0, y1, y2, x0, x1, x2⟩ hl1 hB).1
          have hHB : HoldB V (w.heap.size + 1) w2.heap.size (some ⟨g, off, none⟩) c2 (x :: t) := HoldB.below ⟨hm1, hm2, .inr ⟨g, off, rfl, hg1, hg2, hc, hf⟩⟩ (hB.mono (by omega))
          have hbelV : Below w.heap.size w V := hbel.trans (hB.mono (by omega))
          rw [← hV]
          clear hV hB r0 r1 r2 z0 z1 z2 y0 y1 y2 x0 x1 x2 hc hf c0 c1' c2' hbel

          have hyq0 : 1 ≤ x.q := k1
          have hHB := hHB.tail
          have bq := hT.q0; have bq1 := hT.q1; have bv := hT.v0; have bv1 := hT.v1; have bp1 := hT.p1; have br := hT.r0; have hyq := hyq0
          have bas := aps_nonneg t
          have bvs := (qs_pos hT.lr.ok).2.1
          simp only [plusL] at bq bq1 bv bv1 bp1
          have e0 : IntKind.i64.wrap (b.q + x.q) = b.q + x.q := IntWalk.i64_in _ (by omega)
          have e1 : IntKind.i64.wrap (b.v + x.v) = b.v + x.v := IntWalk.i64_in _ (by omega)
          have e2 : IntKind.i64.wrap (b.p + x.p) = b.p + x.p := IntWalk.i64_in _ (by omega)
          have hne2 : wr.heap.size ≠ w2.heap.size := by omega
          obtain ⟨d0, d1, d2, f0, f1, f2⟩ := id hX
          obtain ⟨y0, y1, y2, x0, x1, x2⟩ := id hO
          refine wp_region_det' 2 [some 85, some 86, some 87, some 88, some 89, some 90, some 91, some 92, some 93, some 94, some 95, some 96, some 97, some 98, some 99, some 100, none, some 101, none, some 102, none] [16, 18, 20] [(0, 0), (0, 0), (0, 0), (0, 0), (0, 0), (0, 0), (0, 0), (0, 1), (0, 1), (0, 1), (0, 0), (0, 0), (0, 2), (0, 2), (0, 2), (0, 0), (0, 0), (1, 1), (1, 1), (2, 2), (2, 2)] (pick [fun w' => w' = V.drew, fun w' => w' = (V.drew.setCell ⟨w2.heap.size, 0, none⟩ (.int .i64 (b.q + x.q))), fun w' => w' = ((V.drew.setCell ⟨w2.heap.size, 0, none⟩ (.int .i64 (b.q + x.q))).setCell ⟨w2.heap.size, 1, none⟩ (.int .i64 (b.v + x.v))), fun w' => w' = (((V.drew.setCell ⟨w2.heap.size, 0, none⟩ (.int .i64 (b.q + x.q))).setCell ⟨w2.heap.size, 1, none⟩ (.int .i64 (b.v + x.v))).setCell ⟨w2.heap.size, 2, none⟩ (.int .i64 (b.p + x.p)))]) [.pointer (some ⟨w2.heap.size, 0, none⟩), .int .i64 (b.q), .pointer (some ⟨wr.heap.size, 0, none⟩), .int .i64 (x.q), .int .i64 (b.q + x.q), .pointer (some ⟨w2.heap.size, 1, none⟩), .int .i64 (b.v), .pointer (some ⟨wr.heap.size, 1, none⟩), .int .i64 (x.v), .int .i64 (b.v + x.v), .pointer (some ⟨w2.heap.size, 2, none⟩), .int .i64 (b.p), .pointer (some ⟨wr.heap.size, 2, none⟩), .int .i64 (x.p), .int .i64 (b.p + x.p), .pointer (some ⟨w2.heap.size, 0, none⟩), undef, .pointer (some ⟨w2.heap.size, 1, none⟩), undef, .pointer (some ⟨w2.heap.size, 2, none⟩), undef] (by kernel_rfl) (by kernel_rfl) (by kernel_rfl) rfl (by kernel_rfl) (by kernel_rfl) (by kernel_rfl) (by rfl) rfl ?steps ?fin
          case steps =>
            intro ρ hin hout hconst hfun
            have r7 : ρ (.tmp 7) = .pointer (some ⟨w2.heap.size, 0, none⟩) := hout 7 rfl
            have r85 : ρ (.tmp 85) = .pointer (some ⟨w2.heap.size, 0, none⟩) := hin 0 85 rfl
            have r8 : ρ (.tmp 8) = .pointer (some ⟨wr.heap.size, 0, none⟩) := hout 8 rfl
            have r87 : ρ (.tmp 87) = .pointer (some ⟨wr.heap.size, 0, none⟩) := hin 2 87 rfl
            have r86 : ρ (.tmp 86) = .int .i64 (b.q) := hin 1 86 rfl
            have r88 : ρ (.tmp 88) = .int .i64 (x.q) := hin 3 88 rfl
            have r90 : ρ (.tmp 90) = .pointer (some ⟨w2.heap.size, 1, none⟩) := hin 5 90 rfl
            have r92 : ρ (.tmp 92) = .pointer (some ⟨wr.heap.size, 1, none⟩) := hin 7 92 rfl
            have r91 : ρ (.tmp 91) = .int .i64 (b.v) := hin 6 91 rfl
            have r93 : ρ (.tmp 93) = .int .i64 (x.v) := hin 8 93 rfl
            have r95 : ρ (.tmp 95) = .pointer (some ⟨w2.heap.size, 2, none⟩) := hin 10 95 rfl
            have r97 : ρ (.tmp 97) = .pointer (some ⟨wr.heap.size, 2, none⟩) := hin 12 97 rfl
            have r96 : ρ (.tmp 96) = .int .i64 (b.p) := hin 11 96 rfl
            have r98 : ρ (.tmp 98) = .int .i64 (x.p) := hin 13 98 rfl
            have r100 : ρ (.tmp 100) = .pointer (some ⟨w2.heap.size, 0, none⟩) := hin 15 100 rfl
            have r89 : ρ (.tmp 89) = .int .i64 (b.q + x.q) := hin 4 89 rfl
            have r101 : ρ (.tmp 101) = .pointer (some ⟨w2.heap.size, 1, none⟩) := hin 17 101 rfl
            have r94 : ρ (.tmp 94) = .int .i64 (b.v + x.v) := hin 9 94 rfl
            have r102 : ρ (.tmp 102) = .pointer (some ⟨w2.heap.size, 2, none⟩) := hin 19 102 rfl
            have r99 : ρ (.tmp 99) = .int .i64 (b.p + x.p) := hin 14 99 rfl
            clear hin hout
            refine DetSteps.pure (by decide) (fun ww => Step.value (by simp [execOp, go_sem, r7])) ?_
            refine DetSteps.load (by decide) (fun s ww h1 h2 hw => by rcases (by omega : s = 0) with rfl <;> (simp only [pick, List.getD_cons_zero, List.getD_cons_succ] at hw; subst hw; exact Step.value (by simp [execOp, go_sem, r85, d0, d1, d2, y0, y1, y2, x0, x1, x2, hne, hne.symm, e0, e1, e2]))) ?_
            refine DetSteps.pure (by decide) (fun ww => Step.value (by simp [execOp, go_sem, r8])) ?_
            refine DetSteps.load (by decide) (fun s ww h1 h2 hw => by rcases (by omega : s = 0) with rfl <;> (simp only [pick, List.getD_cons_zero, List.getD_cons_succ] at hw; subst hw; exact Step.value (by simp [execOp, go_sem, r87, d0, d1, d2, y0, y1, y2, x0, x1, x2, hne, hne.symm, e0, e1, e2]))) ?_
            refine DetSteps.pure (by decide) (fun ww => Step.value (by simp [execOp, go_sem, r86, r88, d0, d1, d2, y0, y1, y2, x0, x1, x2, hne, hne.symm, e0, e1, e2])) ?_
            refine DetSteps.pure (by decide) (fun ww => Step.value (by simp [execOp, go_sem, r7])) ?_
            refine DetSteps.load (by decide) (fun s ww h1 h2 hw => by rcases (by omega : s = 0) with rfl <;> (simp only [pick, List.getD_cons_zero, List.getD_cons_succ] at hw; subst hw; exact Step.value (by simp [execOp, go_sem, r90, d0, d1, d2, y0, y1, y2, x0, x1, x2, hne, hne.symm, e0, e1, e2]))) ?_
            refine DetSteps.pure (by decide) (fun ww => Step.value (by simp [execOp, go_sem, r8])) ?_
            refine DetSteps.load (by decide) (fun s ww h1 h2 hw => by rcases (by omega : s = 0 ∨ s = 1) with rfl | rfl <;> (simp only [pick, List.getD_cons_zero, List.getD_cons_succ] at hw; subst hw; exact Step.value (by simp [execOp, go_sem, r92, d0, d1, d2, y0, y1, y2, x0, x1, x2, hne, hne.symm, e0, e1, e2]))) ?_
            refine DetSteps.pure (by decide) (fun ww => Step.value (by simp [execOp, go_sem, r91, r93, d0, d1, d2, y0, y1, y2, x0, x1, x2, hne, hne.symm, e0, e1, e2])) ?_
            refine DetSteps.pure (by decide) (fun ww => Step.value (by simp [execOp, go_sem, r7])) ?_
            refine DetSteps.load (by decide) (fun s ww h1 h2 hw => by rcases (by omega : s = 0) with rfl <;> (simp only [pick, List.getD_cons_zero, List.getD_cons_succ] at hw; subst hw; exact Step.value (by simp [execOp, go_sem, r95, d0, d1, d2, y0, y1, y2, x0, x1, x2, hne, hne.symm, e0, e1, e2]))) ?_
            refine DetSteps.pure (by decide) (fun ww => Step.value (by simp [execOp, go_sem, r8])) ?_
            refine DetSteps.load (by decide) (fun s ww h1 h2 hw => by rcases (by omega : s = 0 ∨ s = 1 ∨ s = 2) with rfl | rfl | rfl <;> (simp only [pick, List.getD_cons_zero, List.getD_cons_succ] at hw; subst hw; exact Step.value (by simp [execOp, go_sem, r97, d0, d1, d2, y0, y1, y2, x0, x1, x2, hne, hne.symm, e0, e1, e2]))) ?_
            refine DetSteps.pure (by decide) (fun ww => Step.value (by simp [execOp, go_sem, r96, r98, d0, d1, d2, y0, y1, y2, x0, x1, x2, hne, hne.symm, e0, e1, e2])) ?_
            refine DetSteps.pure (by decide) (fun ww => Step.value (by simp [execOp, go_sem, r7])) ?_
            refine DetSteps.store (by decide) (fun ww hw => by simp only [pick, List.getD_cons_zero, List.getD_cons_succ] at hw ⊢; subst hw; exact Step.pred (Step.skip rfl (by simp [execOp, go_sem, r100, r89, d0, d1, d2, y0, y1, y2, x0, x1, x2, hne, hne.symm, e0, e1, e2] <;> rfl)) rfl) ?_
            refine DetSteps.pure (by decide) (fun ww => Step.value (by simp [execOp, go_sem, r7])) ?_
            refine DetSteps.store (by decide) (fun ww hw => by simp only [pick, List.getD_cons_zero, List.getD_cons_succ] at hw ⊢; subst hw; exact Step.pred (Step.skip rfl (by simp [execOp, go_sem, r101, r94, d0, d1, d2, y0, y1, y2, x0, x1, x2, hne, hne.symm, e0, e1, e2] <;> rfl)) rfl) ?_
            refine DetSteps.pure (by decide) (fun ww => Step.value (by simp [execOp, go_sem, r7])) ?_
            refine DetSteps.store (by decide) (fun ww hw => by simp only [pick, List.getD_cons_zero, List.getD_cons_succ] at hw ⊢; subst hw; exact Step.pred (Step.skip rfl (by simp [execOp, go_sem, r102, r99, d0, d1, d2, y0, y1, y2, x0, x1, x2, hne, hne.symm, e0, e1, e2] <;> rfl)) rfl) ?_
            exact True.intro
          case fin =>
            intro wf hw
            simp only [pick, List.getD_cons_zero, List.getD_cons_succ, List.length_cons, List.length_nil] at hw
            subst hw
            simp only [puts, Act.put, List.getD_cons_zero, List.getD_cons_succ, List.setIfInBounds_toArray, List.set_cons_succ, List.set_cons_zero, List.length_cons, List.length_nil]
            have hX2 : Cell3 (set3 V.drew w2.heap.size 0 ⟨b.q + x.q, b.v + x.v, b.p + x.p⟩) wr.heap.size x.q x.v x.p := hX.drew.sets hne2 _
            have hO2 : Cell3 (set3 V.drew w2.heap.size 0 ⟨b.q + x.q, b.v + x.v, b.p + x.p⟩) w2.heap.size (b.q + x.q) (b.v + x.v) (b.p + x.p) := hO.drew.put _
            have hR2 : Cell3 (set3 V.drew w2.heap.size 0 ⟨b.q + x.q, b.v + x.v, b.p + x.p⟩) w.heap.size 0 0 0 := hR.drew.sets hne _
            have hHB2 := hHB.drew.sets (g := w2.heap.size) (.inr (Nat.le_refl _)) 0 ⟨b.q + x.q, b.v + x.v, b.p + x.p⟩
            have hs2' : w2.heap.size + 1 ≤ (set3 V.drew w2.heap.size 0 ⟨b.q + x.q, b.v + x.v, b.p + x.p⟩).heap.size := by rw [set3_size]; show _ ≤ V.heap.size; omega
            have hbel2 : Below w.heap.size w (set3 V.drew w2.heap.size 0 ⟨b.q + x.q, b.v + x.v, b.p + x.p⟩) := set3_below hbelV.drew (by omega) _ _
            change Exit.then _ _ .normal _ (set3 V.drew w2.heap.size 0 ⟨b.q + x.q, b.v + x.v, b.p + x.p⟩)
            generalize set3 V.drew w2.heap.size 0 ⟨b.q + x.q, b.v + x.v, b.p + x.p⟩ = V2 at *
            clear d0 d1 d2 f0 f1 f2 y0 y1 y2 x0 x1 x2 hX hO hR hHB hbelV e0 e1 e2
            obtain ⟨d0, d1, d2, f0, f1, f2⟩ := id hX2
            have hT := Lib.hid hT
            go_wp2_with fail
            case' roundEnd =>
              refine ⟨⟨_, _, t, plusL b x, k - x.q, rfl, rfl, hHB2, hR2, hO2, hs2', hbel2, hT.out⟩, ?_⟩
              simp [intOf]
              omega

end Go.Proofs.Ytjccjmmbebiegaa

/- FifoP1 -/

set_option linter.unusedVariables false
set_option linter.unusedSimpArgs false
namespace Go.Proofs.Ytjccjmmbebiegaa
open Go.RowKit

/-- How far the pieces are. -/
def OneSt (n k w r : Int) (i : Nat) (l : List Lay) (a b : Int) : Prop :=
  ((i : Int) < n ∧ ∃ u z : Int, l = [⟨n - i, u, z⟩] ∧ (n - i) * k ≤ u ∧ u ≤ (n - i) * k + (n - i) ∧ 0 ≤ u ∧ u ≤ w ∧ -1000 ≤ z ∧ z ≤ 1000 ∧ a = w - u ∧ b = r - z) ∨ ((i : Int) = n ∧ l = [] ∧ a = w ∧ b = r)

structure OneNext (n k w r : Int) (i : Nat) (l : List Lay) (a b : Int) : Prop where
  e : (outS l 1).2.2 = 0
  q : (outS l 1).2.1.q = 1
  v0 : k ≤ (outS l 1).2.1.v
  v1 : (outS l 1).2.1.v ≤ k + 1
  st : OneSt n k w r (i + 1) (outS l 1).1 (a + (outS l 1).2.1.v) (b + (outS l 1).2.1.p)
  p0 : -1000 ≤ (outS l 1).2.1.p
  p1 : (outS l 1).2.1.p ≤ 1000

theorem one_LR {n k w r : Int} {i : Nat} {l : List Lay} {a b : Int} (h : OneSt n k w r i l a b) (hn : n ≤ 40) (hw : w ≤ 10000) : LR l := by
  rcases h with ⟨h1, u, z, rfl, h2, h3, h4, h5, h6, h7, -, -⟩ | ⟨-, rfl, -, -⟩
  · exact LR.one (layOk_iff.2 ⟨by simp only; omega, by simp only; omega, by simp only; omega, by simp only; omega, by simp only; omega, by simp only; omega⟩)
  · exact LR.nil
theorem one_bd {n k w r : Int} {i : Nat} {l : List Lay} {a b : Int} (h : OneSt n k w r i l a b) (hr : -1000 ≤ r ∧ r ≤ 1000) (hw : 0 ≤ w) (hw' : w ≤ 10000) : 0 ≤ a ∧ a ≤ 10000 ∧ -2000 ≤ b ∧ b ≤ 2000 := by
  rcases h with ⟨h1, u, z, rfl, h2, h3, h4, h5, h6, h7, h8, h9⟩ | ⟨-, rfl, h8, h9⟩ <;> omega

theorem one_step {n k w r : Int} {i : Nat} {l : List Lay} {a b : Int} (h : OneSt n k w r i l a b) (hi : (i : Int) < n) (hk : 0 ≤ k) (hn : n ≤ 40) (hw : w ≤ 10000) : OneNext n k w r i l a b := by
  have hL := one_LR h hn hw
  rcases h with ⟨h1, u, z, rfl, h2, h3, h4, h5, h6, h7, h8, h9⟩ | ⟨h1, -, -, -⟩
  rotate_left
  · omega
  have hm : 1 ≤ n - i := by omega
  have hO := outS_ok (q := 1) hL (by omega) (by simp [qs]; omega)
  generalize hmm : n - (i : Int) = m at *
  by_cases h : m = 1
  · subst h
    have e : outL [⟨1, u, z⟩] .zero 1 = ([], ⟨1, u, z⟩) := by simp [outL, plusL, Lay.zero]
    rw [e] at hO
    refine ⟨by rw [hO], by rw [hO], by rw [hO]; simp only; omega, by rw [hO]; simp only; omega, ?_, by rw [hO]; exact h6, by rw [hO]; exact h7⟩
    rw [hO]
    exact .inr ⟨by omega, rfl, by simp only; omega, by simp only; omega⟩
  · have hkm : (m - 1) * k = m * k - k := by rw [Int.sub_mul, Int.one_mul]
    have pv : partS u 1 m = u / m := by rw [part_pos (by rw [show inB u = true from inB_iff.2 ⟨by omega, by omega⟩]; simp; omega) (by omega), Int.mul_one]
    have t0 : k ≤ u / m := Int.le_ediv_of_mul_le (by omega) (by rw [Int.mul_comm]; exact h2)
    have t1 : u / m ≤ k + 1 := Int.ediv_le_of_le_mul (by omega) (by rw [Int.add_mul, Int.one_mul, Int.mul_comm k]; exact h3)
    have t2 := Int.mul_ediv_add_emod u m
    have t3 := Int.emod_nonneg u (show m ≠ 0 by omega)
    have t4 := Int.emod_lt_of_pos u (show 0 < m by omega)
    have bz := part_bd (v := z) (q := 1) (n := m) (by omega) (by omega) (by omega) (inB_iff.2 ⟨by omega, by omega⟩)
    have z0 : -1000 ≤ partS z 1 m ∧ partS z 1 m ≤ 1000 ∧ -1000 ≤ z - partS z 1 m ∧ z - partS z 1 m ≤ 1000 := by
      by_cases hz : 0 ≤ z
      · have := bz.1 hz; omega
      · have := bz.2 (by omega); omega
    have e : outL [⟨m, u, z⟩] .zero 1 = ([⟨m - 1, u - u / m, z - partS z 1 m⟩], ⟨1, u / m, partS z 1 m⟩) := by
      have : (1 : Int) < m := by omega
      simp [outL, this, plusL, minusL, cutL, Lay.zero, pv]
    rw [e] at hO
    refine ⟨by rw [hO], by rw [hO], by rw [hO]; exact t0, by rw [hO]; exact t1, ?_, by rw [hO]; exact z0.1, by rw [hO]; exact z0.2.1⟩
    rw [hO]
    refine .inl ⟨by omega, u - u / m, z - partS z 1 m, by rw [show n - ((i + 1 : Nat) : Int) = m - 1 by omega], ?_, ?_, by have := Int.ediv_le_self (a := u) m h4; omega, by omega, by omega, by omega, by simp only; omega, by simp only; omega⟩
    all_goals rw [show n - ((i + 1 : Nat) : Int) = m - 1 by omega] <;> try rw [hkm]
    all_goals
      have hc : u / m = k ∨ u / m = k + 1 := by omega
      rcases hc with hc | hc
      · rw [hc] at t2 ⊢; omega
      · rw [hc, Int.mul_add, Int.mul_one] at t2; rw [hc]; omega
theorem one_end {n k w r : Int} {i : Nat} {l : List Lay} {a b : Int} (h : OneSt n k w r i l a b) (hi : ¬ (i : Int) < n) : l = [] ∧ a = w ∧ b = r := by
  rcases h with ⟨h1, -⟩ | ⟨h1, h2, h3, h4⟩
  · omega
  · exact ⟨h2, h3, h4⟩
theorem one_start {n w r : Int} (hn : 1 ≤ n) (hw : 0 ≤ w) (hr : -1000 ≤ r) (hr' : r ≤ 1000) : OneSt n (w / n) w r 0 [⟨n, w, r⟩] 0 0 := by
  have t2 := Int.mul_ediv_add_emod w n
  have t3 := Int.emod_nonneg w (show n ≠ 0 by omega)
  have t4 := Int.emod_lt_of_pos w (show 0 < n by omega)
  exact .inl ⟨by simp; omega, w, r, by simp, by simp; omega, by simp; omega, hw, by omega, hr, hr', by omega, by omega⟩
end Go.Proofs.Ytjccjmmbebiegaa
