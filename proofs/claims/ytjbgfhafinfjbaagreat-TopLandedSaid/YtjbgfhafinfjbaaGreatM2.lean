/-
  A machine of plain data beside the model: its operations, each shown to be the model's. No program in sight.
-/
import Derived.Test.YtjbgfhafinfjbaaGreatM1
import Derived.Great.BuildSlice
import Derived.Laws.MakeOwn
import Derived.Laws.CopyRow
import Derived.IntWalk
set_option linter.unusedVariables false
set_option linter.unusedSimpArgs false
namespace Go.Proofs.YtjbgfhafinfjbaaGreat.Mc
open Go.RowKit

/-- A value of the text as a datum. -/
def ofC0 : Value → AV
  | .slice none 0 0 => .emp
  | v => .c v
def ofC : Value → AV
  | .agg vs => if vs.all Value.oneCell' then .agg (vs.toList.map ofC0) else .c (.agg vs)
  | v => ofC0 v
theorem RdL_ofC0 [Bk] [Ev] (A : Nat → Prop) (w : World) (v : Value) : RdL A w (ofC0 v) v := by
  unfold ofC0; split
  · exact .emp _
  · exact .c _
theorem one_ofC0 [Bk] [Ev] (v : Value) (h : v.oneCell' = true) : (ofC0 v).one = true := by
  unfold ofC0; split
  · rfl
  · exact h
theorem getD_map [Bk] [Ev] {α β : Type} (l : Array α) (f : α → β) (i : Nat) (x : β) (d : α) (h : (l.toList.map f)[i]? = some x) : f (l.getD i d) = x := by
  rw [List.getElem?_map] at h
  cases hl : l.toList[i]? with
  | none => rw [hl] at h; cases h
  | some y =>
    rw [hl] at h
    simp only [Option.map_some, Option.some.injEq] at h
    have : l[i]? = some y := by rw [← Array.getElem?_toList]; exact hl
    simp [this, h]
theorem RdL_ofC [Bk] [Ev] (A : Nat → Prop) (w : World) (v : Value) : RdL A w (ofC v) v := by
  unfold ofC; split
  · rename_i vs
    split
    · rename_i hall
      refine .agg _ _ (by simp) ?_ ?_
      · intro i x hx
        have h1 := getD_map vs ofC0 i x Go.undef hx
        have hi : i < vs.size := by have := (List.getElem?_eq_some_iff.1 hx).1; simpa using this
        rw [← h1]
        refine one_ofC0 _ ?_
        have := Array.all_eq_true.1 hall i hi
        simpa [hi] using this
      · intro i x hx
        have h1 := getD_map vs ofC0 i x Go.undef hx
        rw [← h1]
        exact RdL_ofC0 A w _
    · exact .c _
  · exact RdL_ofC0 A w _

def aev (f : List AV) : Operand → AV
  | .tmp t => f.getD t .undef
  | .const v => ofC v
  | .global g => .c (.pointer (some ⟨g, 0, none⟩))
  | .func k => .fn (.func k) [] []

/-- The mark of a loop over a function among the deferred calls. -/
def mark (D : Nat) : Deferred := { target := .collected D, args := #[] }
/-- The marks: each block empty, none of the machine's, no two alike. -/
def Marks (m : Nat → St) (w : World) (ds : List Deferred) : Prop := ∃ Ds : List Nat, ds = Ds.map mark ∧ Ds.Nodup ∧ ∀ D ∈ Ds, w.heap[D]? = some (.deferred (some [])) ∧ ∀ id, m id ≠ .at D
theorem Marks.nil (m : Nat → St) (w : World) : Marks m w [] := ⟨[], rfl, List.nodup_nil, fun D h => absurd h List.not_mem_nil⟩
theorem Marks.ext {m m' : Nat → St} {w w' : World} {ds : List Deferred} (h : Marks m w ds) (E : Ext m w m' w') : Marks m' w' ds := by
  obtain ⟨Ds, h1, h2, h3⟩ := h
  refine ⟨Ds, h1, h2, fun D hD => ?_⟩
  obtain ⟨k1, k2⟩ := h3 D hD
  have hlt : D < w.heap.size := (Array.getElem?_eq_some_iff.1 k1).1
  obtain ⟨k3, k4⟩ := E.un D hlt k2
  exact ⟨k4.trans k1, k3⟩
theorem Marks.push {m : Nat → St} {w : World} {ds : List Deferred} (h : Marks m w ds) {D : Nat} (hD : w.heap[D]? = some (.deferred (some []))) (hn : ∀ id, m id ≠ .at D) (hf : ∀ d ∈ ds, d ≠ mark D) : Marks m w (mark D :: ds) := by
  obtain ⟨Ds, rfl, h2, h3⟩ := h
  refine ⟨D :: Ds, rfl, List.nodup_cons.2 ⟨fun hm => hf _ (List.mem_map_of_mem hm) rfl, h2⟩, ?_⟩
  intro D' hD'
  rcases List.mem_cons.1 hD' with rfl | hm
  · exact ⟨hD, hn⟩
  · exact h3 D' hm
structure FRel [Bk] [Ev] (m : Nat → St) (A : Nat → Prop) (w : World) (f : List AV) (a : Act) : Prop where
  size : a.tmps.size = f.length
  rd : ∀ (i : Nat) (x : AV), f[i]? = some x → Rd m A w x (a.tmps.getD i Go.undef)
  defers : Marks m w a.defers

theorem FRel.eval [Bk] [Ev] {m : Nat → St} {A : Nat → Prop} {w : World} {f : List AV} {a : Act} (h : FRel m A w f a) (o : Operand) : Rd m A w (aev f o) (a.eval o) := by
  cases o with
  | tmp t =>
    simp only [aev, Act.eval]
    cases hf : f[t]? with
    | some x =>
      have := h.rd t x hf
      rw [List.getD, hf]; exact this
    | none =>
      have hs : a.tmps.size ≤ t := by rw [h.size]; exact List.getElem?_eq_none_iff.1 hf
      rw [List.getD, hf]
      have : a.tmps.getD t Go.undef = Go.undef := by simp [Array.getElem?_eq_none hs]
      rw [this]; exact .pure _ _ .undef
  | const v => exact .pure _ _ (RdL_ofC _ w v)
  | global g => exact .pure _ _ (.c _)
  | func k => exact .pure _ _ (.fn _ [] [] #[] #[] rfl rfl (by intro i x h; simp at h) (by intro i x h; simp at h))

def fset (f : List AV) : Option Tmp → AV → List AV
  | none, _ => f
  | some d, v => f.set d v
theorem FRel.put [Bk] [Ev] {m m' : Nat → St} {A : Nat → Prop} {w w' : World} {f : List AV} {a : Act} (h : FRel m A w f a) (E : Ext m w m' w') {x : AV} {v : Value} (hv : Rd m' A w' x v) (d : Option Tmp) : FRel m' A w' (fset f d x) (a.put d v) := by
  cases d with
  | none => exact ⟨h.size, fun i x hx => (h.rd i x hx).ext E, h.defers.ext E⟩
  | some d =>
    refine ⟨by simp [Act.put, fset, h.size], ?_, h.defers.ext E⟩
    intro i y hy
    simp only [fset, Act.put] at hy ⊢
    rw [List.getElem?_set] at hy
    split at hy
    · rename_i e
      subst e
      split at hy
      · rename_i hl
        cases hy
        have : d < a.tmps.size := by rw [h.size]; exact hl
        simp [this]; exact hv
      · cases hy
    · rename_i e
      have : (a.tmps.setIfInBounds d v).getD i Go.undef = a.tmps.getD i Go.undef := by
        simp [Array.getElem?_setIfInBounds_ne e]
      rw [this]
      exact (h.rd i y hy).ext E
theorem FRel.ext [Bk] [Ev] {m m' : Nat → St} {A : Nat → Prop} {w w' : World} {f : List AV} {a : Act} (h : FRel m A w f a) (E : Ext m w m' w') : FRel m' A w' f a := ⟨h.size, fun i x hx => (h.rd i x hx).ext E, h.defers.ext E⟩

/-- Cells, each of which reads as its datum. -/
def CR (R : AV → Value → Prop) (cs : List AV) (vs : Array Value) : Prop := vs.size = cs.length ∧ ∀ (i : Nat) (x : AV), cs[i]? = some x → x.one = true ∧ R x (vs.getD i Go.undef)

def cellsA : AV → Option (List AV)
  | .agg cs => some cs
  | x => if x.one then some [x] else none
theorem Value.cells_one [Bk] [Ev] {v : Value} (h : v.oneCell' = true) : v.cells = #[v] := by cases v <;> simp_all [Value.cells, Value.oneCell']
theorem CR_cells [Bk] [Ev] {m : Nat → St} {A : Nat → Prop} {w : World} {x : AV} {v : Value} {cs : List AV} (h : Rd m A w x v) (hc : cellsA x = some cs) : CR (Rd m A w) cs v.cells := by
  have one : ∀ (x : AV) (v : Value), Rd m A w x v → x.one = true → CR (Rd m A w) [x] v.cells := by
    intro x v h h1
    rw [Value.cells_one (h.one h1)]
    refine ⟨rfl, ?_⟩
    intro i y hy
    cases i with
    | zero => simp at hy; subst hy; exact ⟨h1, h⟩
    | succ i => simp at hy
  unfold cellsA at hc
  split at hc
  · cases hc
    cases h with
    | pure _ _ h =>
      cases h with
      | agg _ vs hl h1 h => exact ⟨hl, fun i x hx => ⟨h1 i x hx, .pure _ _ (h i x hx)⟩⟩
    | agg _ vs hl h1 h => exact ⟨hl, fun i x hx => ⟨h1 i x hx, h i x hx⟩⟩
  · split at hc
    · rename_i h1
      cases hc
      exact one _ _ h h1
    · cases hc
theorem CR.agg [Bk] [Ev] {m : Nat → St} {A : Nat → Prop} {w : World} {cs : List AV} {vs : Array Value} (h : CR (Rd m A w) cs vs) : Rd m A w (.agg cs) (.agg vs) := .agg cs vs h.1 (fun i x hx => (h.2 i x hx).1) fun i x hx => (h.2 i x hx).2

/-- xs in the place of what stands in cs from off on. -/
def splice {α : Type} (cs : List α) (off : Nat) (xs : List α) : List α := cs.take off ++ xs ++ cs.drop (off + xs.length)
theorem splice_len [Bk] [Ev] {α : Type} {cs : List α} {off : Nat} {xs : List α} (h : off + xs.length ≤ cs.length) : (splice cs off xs).length = cs.length := by simp [splice]; omega
theorem splice_get [Bk] [Ev] {α : Type} {cs : List α} {off : Nat} {xs : List α} (h : off + xs.length ≤ cs.length) (i : Nat) : (splice cs off xs)[i]? = if off ≤ i ∧ i < off + xs.length then xs[i - off]? else cs[i]? := by
  unfold splice
  by_cases h1 : i < off
  · rw [if_neg (by omega), List.append_assoc, List.getElem?_append_left (by simp; omega), List.getElem?_take]; simp [h1]
  · by_cases h2 : i < off + xs.length
    · rw [if_pos ⟨by omega, h2⟩, List.getElem?_append_left (by simp; omega), List.getElem?_append_right (by simp; omega)]
      congr 1; simp; omega
    · rw [if_neg (by omega), List.getElem?_append_right (by simp; omega), List.getElem?_drop]
      congr 1; simp; omega
theorem foldl_set [Bk] [Ev] (us : List Value) : ∀ (j0 off : Nat) (vs : Array Value), off + j0 + us.length ≤ vs.size → ((us.zipIdx j0).foldl (fun cs (c, j) => cs.setIfInBounds (off + j) c) vs).size = vs.size ∧
    ∀ k, ((us.zipIdx j0).foldl (fun cs (c, j) => cs.setIfInBounds (off + j) c) vs).getD k Go.undef = if off + j0 ≤ k ∧ k < off + j0 + us.length then us.getD (k - off - j0) Go.undef else vs.getD k Go.undef := by
  induction us with
  | nil => intro j0 off vs h; refine ⟨rfl, fun k => ?_⟩; rw [if_neg (by simp)]; rfl
  | cons u us ih =>
    intro j0 off vs h
    simp only [List.length_cons] at h
    simp only [List.zipIdx_cons, List.foldl_cons]
    obtain ⟨h1, h2⟩ := ih (j0 + 1) off (vs.setIfInBounds (off + j0) u) (by simp; omega)
    refine ⟨by rw [h1]; simp, fun k => ?_⟩
    rw [h2 k]
    by_cases hk : k = off + j0
    · subst hk
      rw [if_neg (by omega), if_pos ⟨by omega, by simp⟩]
      have : off + j0 < vs.size := by omega
      simp [this, show off + j0 - off - j0 = 0 by omega]
    · by_cases hk2 : off + (j0 + 1) ≤ k ∧ k < off + (j0 + 1) + us.length
      · rw [if_pos hk2, if_pos (by simp; omega)]
        have e : k - off - j0 = (k - off - (j0 + 1)) + 1 := by omega
        rw [e, List.getD_cons_succ]
      · rw [if_neg hk2, if_neg (by simp; omega)]
        simp [Array.getElem?_setIfInBounds_ne (show off + j0 ≠ k by omega)]
theorem foldl_splice [Bk] [Ev] {R : AV → Value → Prop} {cs xs : List AV} {vs us : Array Value} {off : Nat} (h : CR R cs vs) (g : CR R xs us) (hl : off + xs.length ≤ cs.length) :
    CR R (splice cs off xs) (us.zipIdx.foldl (fun cs (c, j) => cs.setIfInBounds (off + j) c) vs) := by
  have e : us.zipIdx.foldl (fun cs (c, j) => cs.setIfInBounds (off + j) c) vs = (us.toList.zipIdx 0).foldl (fun cs (c, j) => cs.setIfInBounds (off + j) c) vs := by
    rw [← Array.foldl_toList]; simp
  have hus : us.toList.length = xs.length := by simpa using g.1
  obtain ⟨h1, h2⟩ := foldl_set us.toList 0 off vs (by rw [hus, h.1]; omega)
  refine ⟨?_, ?_⟩
  · rw [e, h1, splice_len hl]; exact h.1
  · intro i x hx
    rw [splice_get hl] at hx
    rw [e, h2 i]
    split at hx
    · rename_i hk
      rw [if_pos (by rw [hus]; omega)]
      have := g.2 _ _ hx
      refine ⟨this.1, ?_⟩
      have h3 : us.toList.getD (i - off - 0) Go.undef = us.getD (i - off) Go.undef := by simp [List.getD]
      rw [h3]; exact this.2
    · rename_i hk
      rw [if_neg (by rw [hus]; omega)]
      exact h.2 _ _ hx

/-- The parts laid in. -/
def fillA (place : Nat → Option (Nat × Nat)) (cells : List AV) : List (Nat × AV) → Option (List AV)
  | [] => some cells
  | (i, x) :: rest =>
    match place i, cellsA x with
    | some (off, size), some xs => if xs.length = size ∧ off + xs.length ≤ cells.length then fillA place (splice cells off xs) rest else none
    | _, _ => none
theorem fillA_ok [Bk] [Ev] {m : Nat → St} {A : Nat → Prop} {w : World} (place : Nat → Option (Nat × Nat)) : ∀ (ps : List (Nat × AV)) (qs : List (Nat × Value)) (cs out : List AV) (vs : Array Value), CR (Rd m A w) cs vs → ps.length = qs.length →
    (∀ (i : Nat) (p : Nat × AV) (q : Nat × Value), ps[i]? = some p → qs[i]? = some q → p.1 = q.1 ∧ Rd m A w p.2 q.2) → fillA place cs ps = some out → ∃ us, Instr.fill place vs qs = some us ∧ CR (Rd m A w) out us
  | [], [], cs, out, vs, h, _, _, hf => by simp only [fillA, Option.some.injEq] at hf; subst hf; exact ⟨vs, rfl, h⟩
  | [], q :: qs, _, _, _, _, hl, _, _ => by simp at hl
  | p :: ps, [], _, _, _, _, hl, _, _ => by simp at hl
  | (i, x) :: ps, (j, v) :: qs, cs, out, vs, h, hl, hr, hf => by
    obtain ⟨e, hx⟩ := hr 0 (i, x) (j, v) rfl rfl
    simp only at e hx
    subst e
    simp only [fillA] at hf
    split at hf
    · rename_i off size xs hp hc
      split at hf
      · rename_i hcond
        have hcr := CR_cells hx hc
        have hsz : v.cells.size = xs.length := hcr.1
        have := foldl_splice h hcr hcond.2
        obtain ⟨us, hu, hcu⟩ := fillA_ok place ps qs _ out _ this (by simpa using hl) (fun k p q hp hq => hr (k + 1) p q (by simpa using hp) (by simpa using hq)) hf
        refine ⟨us, ?_, hcu⟩
        simp only [Instr.fill, hp]
        rw [if_neg]
        · exact hu
        · have h1 := h.1
          simp [hsz, hcond.1]
          omega
      · cases hf
    · cases hf
end Go.Proofs.YtjbgfhafinfjbaaGreat.Mc
