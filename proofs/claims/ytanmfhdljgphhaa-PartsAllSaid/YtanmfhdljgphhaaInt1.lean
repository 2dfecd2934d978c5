/-
  Places of a list, by what stands there: the comparison that parts.order hands on.
-/
import Derived.Test.YtanmfhdljgphhaaMoney5
import Derived.Test.YtanmfhdljgphhaaClone
import Derived.LoopN
import Derived.Deep.QuietTactic
import Derived.BigQuiet
set_option linter.unusedVariables false
set_option linter.unusedSimpArgs false
namespace Go.Proofs.Ytanmfhdljgphhaa
open Go.RowKit

/-- Block b alone may have turned; none of it is frozen anew. -/
structure Keep (b : Nat) (w w' : World) : Prop where
  os : w'.os = w.os
  tape : w'.tape = w.tape
  output : w'.output = w.output
  size : w.heap.size ≤ w'.heap.size
  block : ∀ k, k < w.heap.size → k ≠ b → w'.heap[k]? = w.heap[k]?
  froz : ∀ i, w'.frozen? ⟨b, i, none⟩ = w.frozen? ⟨b, i, none⟩
theorem Keep.refl (b : Nat) (w : World) : Keep b w w := ⟨rfl, rfl, rfl, Nat.le_refl _, fun _ _ _ => rfl, fun _ => rfl⟩
theorem Keep.trans {b : Nat} {u v w : World} (h : Keep b u v) (k : Keep b v w) : Keep b u w :=
  ⟨k.os.trans h.os, k.tape.trans h.tape, k.output.trans h.output, Nat.le_trans h.size k.size, fun i hi hn => (k.block i (Nat.lt_of_lt_of_le hi h.size) hn).trans (h.block i hi hn), fun i => (k.froz i).trans (h.froz i)⟩
theorem Keep.of {b : Nat} {w w' : World} (h : Below w.heap.size w w') (hb : b < w.heap.size) : Keep b w w' :=
  ⟨h.os, h.tape, h.output, h.size, fun i hi _ => h.block i hi, fun i => h.frozen (p := ⟨b, i, none⟩) hb⟩
theorem Keep.then {b : Nat} {u v w : World} (h : Keep b u v) (k : Below v.heap.size v w) (hb : b < u.heap.size) : Keep b u w := h.trans (Keep.of k (Nat.lt_of_lt_of_le hb h.size))
theorem Keep.drew {b : Nat} {u v : World} (h : Keep b u v) : Keep b u v.drew := ⟨h.os, h.tape, h.output, h.size, h.block, h.froz⟩
theorem Keep.drewN {b : Nat} {u v : World} (h : Keep b u v) (n : Nat) : Keep b u (v.drewN n) := by
  have := below_drewN (Below.refl v.heap.size v) n
  exact ⟨this.os.trans h.os, this.tape.trans h.tape, this.output.trans h.output, Nat.le_trans h.size this.size, fun i hi hn => (this.block i (Nat.lt_of_lt_of_le hi h.size)).trans (h.block i hi hn), fun i => (by simpa using h.froz i)⟩
theorem Keep.set {b : Nat} {u v : World} (h : Keep b u v) (i : Nat) (x : Value) : Keep b u (v.setCell ⟨b, i, none⟩ x) :=
  ⟨h.os, h.tape, h.output, by simpa [World.setCell] using h.size, fun k hk hn => (Below.heap_setCell _ _ _ _ hn).trans (h.block k hk hn), fun j => by rw [World.frozen?_setCell]; exact h.froz j⟩
theorem Keep.below {b B : Nat} {w w' : World} (h : Keep b w w') (hB : B ≤ w.heap.size) (hb : B ≤ b) : Below B w w' :=
  ⟨h.os, h.tape, h.output, h.size, fun k hk => h.block k (Nat.lt_of_lt_of_le hk hB) (by omega)⟩
theorem Keep.cell {b : Nat} {w w' : World} (h : Keep b w w') {c i : Nat} (hc : c < w.heap.size) (hn : c ≠ b) : w'.cell? ⟨c, i, none⟩ = w.cell? ⟨c, i, none⟩ := World.cell?_of_block (w := w) (h.block c hc hn)
theorem CellsAt.put {w : World} {b off : Nat} {zs : List Int} (h : CellsAt w b off zs) {j : Nat} (hj : j < zs.length) (z : Int) : CellsAt (w.setCell ⟨b, off + j, none⟩ (.int .i64 z)) b off (zs.set j z) := by
  intro i hi
  rw [List.length_set] at hi
  have k := h i hi
  by_cases e : i = j
  · subst e
    rw [World.cell?_setCell_same _ _ _ k, List.getD_eq_getElem?_getD, List.getElem?_set_self hi]
    rfl
  · rw [World.cell?_setCell_other _ _ _ _ (by intro e2; injection e2; omega), k, List.getD_eq_getElem?_getD, List.getD_eq_getElem?_getD, List.getElem?_set_ne (fun e2 => e e2.symm)]
theorem CellsAt.keep {w w' : World} {b c off : Nat} {zs : List Int} (h : CellsAt w c off zs) (hc : c < w.heap.size) (hn : c ≠ b) (g : Keep b w w') : CellsAt w' c off zs := fun i hi => (g.cell hc hn).trans (h i hi)

def cmpI (x y : Int) : Int := if x < y then -1 else if y < x then 1 else 0
theorem cmpI_neg {x y : Int} : cmpI x y < 0 ↔ x < y := by
  unfold cmpI
  by_cases h : x < y
  · simp [h]
  · by_cases h2 : y < x <;> simp [h, h2]
theorem isNaN_int (x : Int) (w : World) : Calls Try.prog 33 #[.int .i64 x] w fun e w' => e = .returned (.bool false) ∧ w' = w := by
  go_enter Try.func33, Try.ntmps33
  go_wp2_with fail
  go_ret
  exact ⟨rfl, rfl⟩
theorem cmp_int (x y : Int) (w : World) : Calls Try.prog 27 #[.int .i64 x, .int .i64 y] w fun e w' => e = .returned (.int .i64 (cmpI x y)) ∧ w' = w := by
  go_enter Try.func27, Try.ntmps27
  by_cases h : x < y
  · go_wp2_with (go_at_call 33; refine (isNaN_int _ _).mono ?_; rintro e w' ⟨rfl, rfl⟩)
    go_ret
    exact ⟨ret_int (by simp [cmpI, h]), rfl⟩
  · by_cases h2 : y < x
    · go_wp2_with (go_at_call 33; refine (isNaN_int _ _).mono ?_; rintro e w' ⟨rfl, rfl⟩)
      go_ret
      exact ⟨ret_int (by simp [cmpI, h, h2]), rfl⟩
    · go_wp2_with (go_at_call 33; refine (isNaN_int _ _).mono ?_; rintro e w' ⟨rfl, rfl⟩)
      go_ret
      exact ⟨ret_int (by simp only [cmpI]; rw [if_neg (by omega), if_neg (by omega)]), rfl⟩
theorem same_of (x : Int) (w : World) : Calls Try.prog 18 #[.int .i64 x] w fun e w' => e = .returned (.int .i64 x) ∧ w' = w := by
  go_enter Try.func18, Try.ntmps18
  go_wp2_with fail
  go_ret
  exact ⟨rfl, rfl⟩

/-- What the comparison reads: the function, the list. -/
structure Env (w : World) (b c d g off cap : Nat) (rest : List Int) : Prop where
  fn : w.cell? ⟨c, 0, none⟩ = some (.func (.func 18) #[] #[])
  sl : w.cell? ⟨d, 0, none⟩ = some (.slice (some ⟨g, off, none⟩) rest.length cap)
  row : CellsAt w g off rest
  cl : c < w.heap.size
  dl : d < w.heap.size
  gl : g < w.heap.size
  cn : c ≠ b
  dn : d ≠ b
  gn : g ≠ b
theorem Env.keep {w w' : World} {b c d g off cap : Nat} {rest : List Int} (h : Env w b c d g off cap rest) (k : Keep b w w') : Env w' b c d g off cap rest :=
  ⟨(k.cell h.cl h.cn).trans h.fn, (k.cell h.dl h.dn).trans h.sl, h.row.keep h.gl h.gn k, Nat.lt_of_lt_of_le h.cl k.size, Nat.lt_of_lt_of_le h.dl k.size, Nat.lt_of_lt_of_le h.gl k.size, h.cn, h.dn, h.gn⟩
/-- By what the places are put in order: the greatest first. -/
def keyR (rest : List Int) (x : Int) : Int := -(rest.getD x.toNat 0)

set_option maxHeartbeats 1000000 in
theorem ord_cmp {b c d g off cap : Nat} {rest : List Int} (x y : Nat) (w : World) (h : Env w b c d g off cap rest) (hx : x < rest.length) (hy : y < rest.length) (hm : rest.length ≤ 1000000) :
    Calls Try.prog 26 #[.int .i64 x, .int .i64 y, .pointer (some ⟨c, 0, none⟩), .pointer (some ⟨d, 0, none⟩)] w fun e w' => e = .returned (.int .i64 (cmpI (rest.getD y 0) (rest.getD x 0))) ∧ Below w.heap.size w w' := by
  have c0 := h.row x hx
  have c1 := h.row y hy
  have e0 := h.fn
  have e1 := h.sl
  have hxI : (x : Int) < (rest.length : Int) := by omega
  have hyI : (y : Int) < (rest.length : Int) := by omega
  obtain ⟨u, hu⟩ : ∃ u, rest.getD x 0 = u := ⟨_, rfl⟩
  obtain ⟨v, hv⟩ : ∃ v, rest.getD y 0 = v := ⟨_, rfl⟩
  rw [hu] at c0 ⊢
  rw [hv] at c1 ⊢
  clear h hu hv
  go_enter Try.func26, Try.ntmps26
  go_wp2_with fail
  go_quiet ((first | (go_at_call 18; exact Calls.quiet_of_same (same_of _ _)) | (go_at_call 27; exact Calls.quiet_of_same (cmp_int _ _ _))))
  go_wp2_with fail
  go_ret
  exact ⟨rfl, below_drewN (Below.refl _ _) _⟩
end Go.Proofs.Ytanmfhdljgphhaa
