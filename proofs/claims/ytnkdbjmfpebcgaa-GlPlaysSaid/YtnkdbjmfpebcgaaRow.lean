/-
  Slices whose elements are k ints each, as they are read: a list of ints. And those that the call itself has made.
-/
import Derived.Test.YtnkdbjmfpebcgaaMath
import Derived.Lib.Hide
import Derived.WalkSmall
namespace Go.Proofs.Ytnkdbjmfpebcgaa
open Go.RowKit

theorem bthen {a b c : World} (h : Below a.heap.size a b) (k : Below b.heap.size b c) : Below a.heap.size a c := h.trans (k.mono h.size)

theorem ballc {a b : World} (h : Below a.heap.size a b) (o : Obj) : Below a.heap.size a (b.alloc o) := h.alloc h.size o
theorem bdrew {a b : World} (h : Below a.heap.size a b) : Below a.heap.size a b.drew := h.drew
theorem bdrewN {a b : World} (h : Below a.heap.size a b) (n : Nat) : Below a.heap.size a (b.drewN n) := below_drewN h n

/-- The cells from an address on hold these numbers. -/
def CellsAt (w : World) (b off : Nat) (zs : List Int) : Prop := ∀ i, i < zs.length → w.cell? ⟨b, off + i, none⟩ = some (.int .i64 (zs.getD i 0))
def AllI (zs : List Int) : Prop := ∀ z, z ∈ zs → I64 z

/-- A slice of n elements of k ints each; it reads as zs. -/
structure Row (w : World) (k : Nat) (a : Option Addr) (n cap : Nat) (zs : List Int) : Prop where
  len : zs.length = n * k
  le : n ≤ cap
  max : cap ≤ maxLen
  all : AllI zs
  at_ : n = 0 ∨ ∃ b off, a = some ⟨b, off, none⟩ ∧ b < w.heap.size ∧ CellsAt w b off zs

theorem CellsAt.below {w w' : World} {b off : Nat} {zs : List Int} (h : CellsAt w b off zs) (hb : b < w.heap.size) (g : Below w.heap.size w w') : CellsAt w' b off zs :=
  fun i hi => by rw [g.cell (p := ⟨b, off + i, none⟩) hb]; exact h i hi
theorem Row.below {w w' : World} {k : Nat} {a : Option Addr} {n cap : Nat} {zs : List Int} (h : Row w k a n cap zs) (g : Below w.heap.size w w') : Row w' k a n cap zs := by
  refine ⟨h.len, h.le, h.max, h.all, ?_⟩
  rcases h.at_ with h0 | ⟨b, off, e, hb, hc⟩
  · exact .inl h0
  · exact .inr ⟨b, off, e, Nat.lt_of_lt_of_le hb g.size, hc.below hb g⟩
theorem AllI.at_ {zs : List Int} (h : AllI zs) (i : Nat) : I64 (zs.getD i 0) := by
  rw [List.getD_eq_getElem?_getD]
  cases hi : zs[i]? with
  | none => exact ⟨by simp, by simp⟩
  | some z => exact h z (List.mem_of_getElem? hi)
theorem Row.nil (w : World) (k : Nat) : Row w k none 0 0 [] := ⟨by simp, by omega, by omega, fun z hz => by simp at hz, .inl rfl⟩

/-- A block just laid reads as what was laid. -/
theorem CellsAt.new (w : World) (zs : List Int) (t : TypeId) : CellsAt (w.alloc (.cells (zs.map (Value.int .i64)).toArray t)) w.heap.size 0 zs := by
  intro i hi
  rw [Nat.zero_add, World.cell?_alloc_new]
  simp [hi, List.getD_eq_getElem?_getD]
theorem Row.new (w : World) (k n : Nat) (zs : List Int) (t : TypeId) (hl : zs.length = n * k) (hm : n ≤ 4611686018427387904) (ha : AllI zs) :
    Row (w.alloc (.cells (zs.map (Value.int .i64)).toArray t)) k (some ⟨w.heap.size, 0, none⟩) n n zs :=
  ⟨hl, Nat.le_refl _, by unfold maxLen; omega, ha, .inr ⟨_, _, rfl, by simp, CellsAt.new w zs t⟩⟩
theorem AllI.of_B {zs : List Int} (h : zs.all (fun z => decide (-9223372036854775808 ≤ z) && decide (z ≤ 9223372036854775807)) = true) : AllI zs := by
  intro z hz
  have := List.all_eq_true.1 h z hz
  simp only [Bool.and_eq_true, decide_eq_true_eq] at this
  exact ⟨this.1, this.2⟩

/-- A slice of ints that came in. -/
theorem Row.of_open {w : World} {a : Option Addr} {n cap : Nat} {zs : List Int}
    (h : (a = none ∧ n = 0 ∧ cap = 0 ∧ zs = []) ∨ ∃ x, a = some x ∧ n ≤ cap ∧ cap ≤ maxLen ∧ zs.length = cap ∧ (∀ i, i < zs.length → w.cell? (x.add i) = some (.int .i64 (zs.getD i 0))) ∧ ∀ z ∈ zs, (Lit.int .i64 z).wf = true) :
    Row w 1 a n cap (zs.take n) := by
  rcases h with ⟨rfl, rfl, rfl, rfl⟩ | ⟨x, rfl, hle, hm, hz, hc, hwf⟩
  · exact Row.nil w 1
  · refine ⟨by simp; omega, hle, hm, fun z hzz => i64_wf (hwf z (List.mem_of_mem_take hzz)), ?_⟩
    by_cases h0 : n = 0
    · exact .inl h0
    · refine .inr ?_
      obtain ⟨b, off, spot⟩ := x
      have c0 := hc 0 (by omega)
      have hs : spot = none := by simpa [Addr.add] using World.cell?_spot c0
      subst hs
      refine ⟨b, off, rfl, ?_, ?_⟩
      · have := World.block_lt_of_cell? _ _ c0
        simpa [Addr.add] using this
      · intro i hi
        simp at hi
        have ci := hc i (by omega)
        rw [List.getD_eq_getElem?_getD, List.getElem?_take_of_lt (by omega), ← List.getD_eq_getElem?_getD]
        by_cases i0 : i = 0
        · subst i0; simpa [Addr.add] using ci
        · simpa [Addr.add, i0] using ci

theorem sumGo_snoc (l : List Int) : ∀ n z, sumGo n (l ++ [z]) = (sumGo n l).bind fun m => if addOk m z then some (m + z) else none := by
  induction l with
  | nil => intro n z; simp [sumGo]
  | cons y l ih =>
    intro n z
    simp only [List.cons_append, sumGo]
    by_cases h : addOk n y = true
    · simp only [h, if_true]; exact ih _ _
    · simp [h]
theorem take_snoc {l : List Int} {k : Nat} (h : k < l.length) : l.take (k + 1) = l.take k ++ [l.getD k 0] := by
  rw [List.take_succ_eq_append_getElem h, List.getD_eq_getElem?_getD, List.getElem?_eq_getElem h]; rfl
theorem sumGo_take {l : List Int} {k : Nat} {n : Int} (h : k < l.length) (e : sumGo 0 (l.take k) = some n) : sumGo 0 (l.take (k + 1)) = if addOk n (l.getD k 0) then some (n + l.getD k 0) else none := by
  rw [take_snoc h, sumGo_snoc, e]; rfl
theorem sumGo_append (l m : List Int) : ∀ n, sumGo n (l ++ m) = (sumGo n l).bind fun x => sumGo x m := by
  induction l with
  | nil => intro n; rfl
  | cons y l ih =>
    intro n
    simp only [List.cons_append, sumGo]
    by_cases h : addOk n y = true
    · simp only [h, if_true]; exact ih _
    · simp [h]
theorem sumGo_none {l : List Int} {k : Nat} (e : sumGo 0 (l.take k) = none) : sumGo 0 l = none := by
  conv => lhs; rw [← List.take_append_drop k l]
  rw [sumGo_append, e]; rfl
theorem addOk_bd {a b : Int} (h : addOk a b = true) : -288230376151711744 ≤ a + b ∧ a + b ≤ 288230376151711744 := inB_iff.1 (addOk_iff.1 h).2.2
theorem addV_of {a b : Int} (h : addOk a b = true) : addV a b = a + b ∧ addE a b = 0 := by simp [addV, addE, h]
theorem addV_of_not {a b : Int} (h : addOk a b = false) : addV a b = 0 ∧ addE a b = 2 := by simp [addV, addE, h]
end Go.Proofs.Ytnkdbjmfpebcgaa
