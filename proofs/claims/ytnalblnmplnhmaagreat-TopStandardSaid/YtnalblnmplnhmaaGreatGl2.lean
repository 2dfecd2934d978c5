/-
  gl.Post, gl.Trial.
-/
import Derived.Test.YtnalblnmplnhmaaGreatGl1
set_option linter.unusedVariables false
set_option linter.unusedSimpArgs false
namespace Go.Proofs.YtnalblnmplnhmaaGreat
open Go.RowKit

/-- Numbers that the call itself has made, from block number base on; its cells may be written. -/
def HoldI (w : World) (base : Nat) (v : Value) (zs : List Int) : Prop :=
  ∃ a cap, v = .slice a zs.length cap ∧ zs.length ≤ cap ∧ cap ≤ maxLen ∧ (zs.length = 0 ∨ ∃ b off, a = some ⟨b, off, none⟩ ∧ base ≤ b ∧ b < w.heap.size ∧ CellsAt w b off zs ∧ ∀ i, w.frozen? ⟨b, i, none⟩ = false)
theorem HoldI.row {w : World} {base : Nat} {v : Value} {zs : List Int} (h : HoldI w base v zs) (ha : AllI zs) : ∃ a cap, v = .slice a zs.length cap ∧ Row w 1 a zs.length cap zs := by
  obtain ⟨a, cap, rfl, h1, h2, h3⟩ := h
  refine ⟨a, cap, rfl, by simp, h1, h2, ha, ?_⟩
  rcases h3 with h3 | ⟨b, off, rfl, -, h4, h5, -⟩
  · exact .inl h3
  · exact .inr ⟨b, off, rfl, h4, h5⟩
theorem HoldI.mono {w : World} {base base' : Nat} {v : Value} {zs : List Int} (h : HoldI w base v zs) (g : base' ≤ base) : HoldI w base' v zs := by
  obtain ⟨a, cap, rfl, h1, h2, h3⟩ := h
  refine ⟨a, cap, rfl, h1, h2, ?_⟩
  rcases h3 with h3 | ⟨b, off, rfl, hb, h4⟩
  · exact .inl h3
  · exact .inr ⟨b, off, rfl, Nat.le_trans g hb, h4⟩
theorem HoldI.below {w w' : World} {base : Nat} {v : Value} {zs : List Int} (h : HoldI w base v zs) (g : Below w.heap.size w w') : HoldI w' base v zs := by
  obtain ⟨a, cap, rfl, h1, h2, h3⟩ := h
  refine ⟨a, cap, rfl, h1, h2, ?_⟩
  rcases h3 with h3 | ⟨b, off, rfl, hb, h4, h5, h6⟩
  · exact .inl h3
  · exact .inr ⟨b, off, rfl, hb, Nat.lt_of_lt_of_le h4 g.size, h5.below h4 g, fun i => (g.frozen (p := ⟨b, i, none⟩) h4).trans (h6 i)⟩
theorem OwnI.fullI {w : World} {base n : Nat} {e : TypeId} {v : Value} {zs : List Int} (h : OwnI w base e 1 v n zs) (h0 : 0 < n) :
    ∃ g cap, v = .slice (some ⟨g, 0, none⟩) n cap ∧ base ≤ g ∧ g < w.heap.size ∧ n ≤ cap ∧ cap ≤ maxLen ∧ CellsAt w g 0 zs ∧ ∀ i, w.frozen? ⟨g, i, none⟩ = false := by
  have hl := h.len
  obtain ⟨h1, h2⟩ := id h
  rcases h2 with ⟨rfl, hn⟩ | ⟨b, cap, cur, rfl, hb, hh, hn, hc, hs, ht⟩
  · omega
  · refine ⟨b, cap, rfl, hb, (Array.getElem?_eq_some_iff.1 hh).1, hn, hc, ?_, fun i => World.ownsRow.frozenAt h i⟩
    intro i hi
    have c := World.ownsRow.cellAt (w := w) (base := base) (e := e) (size := 1) (g := b) (n := n) (cap := cap) (xs := ints zs) h i (by omega)
    rw [Nat.zero_add, c, ints_get, List.getElem?_eq_getElem hi, List.getD_eq_getElem?_getD, List.getElem?_eq_getElem hi]
    rfl

/-- What Post answers, of seventeen balances. -/
def postS (bal : List Int) (l : List Lin) : List Int × Int := if postE bal l = 0 then (postN bal l, 0) else (bal, postE bal l)
theorem postN_len (bal : List Int) (l : List Lin) : (postN bal l).length = bal.length := by
  unfold postN
  cases h : addAll bal (plainS l).1 with
  | none => rfl
  | some next => exact addAll_len _ _ _ h
/-- Numbers of the call's own, and an error. -/
def HoldX (w : World) (r : List Int × Int) (e : Ending) (w' : World) : Prop := ∃ v, e = .returned (.tuple #[v, .int .i64 r.2]) ∧ HoldI w' w.heap.size v r.1 ∧ Below w.heap.size w w'

set_option maxRecDepth 20000 in
set_option maxHeartbeats 2000000 in
theorem gl_kept (a : Option Addr) (cap : Nat) (bal : List Int) (hbal : bal.length = 17) (c : Nat) (a2 : Option Addr) (lcap : Nat) (l : List Lin) (w : World) (hR : Row w 1 a 17 cap bal)
    (hc : w.cell? ⟨c, 0, none⟩ = some (.slice a2 l.length lcap)) (hcl : c < w.heap.size) (hL : Row w 2 a2 l.length lcap (flat2 l)) (h20 : l.length ≤ 1000000) :
    Calls Tryz.prog 150 #[.slice a 17 cap, .func (.func 151) #[] #[.pointer (some ⟨c, 0, none⟩)]] w (HoldX w (postS bal l)) := by
  have hI := hR.all
  generalize hr : postS bal l = r
  have hrh := Lib.hid hr
  clear hr
  have hP := fun (b c2 : Nat) => post_fn b 0 c2 c bal hbal
  go_enter Tryz.func150, Tryz.ntmps150
  go_wp2_with fail
  refine (Clone_Int a 17 cap bal _ hR (by omega)).mono ?_
  rintro e w1 ⟨⟨v1, rfl, O1⟩, hw1⟩
  obtain ⟨b, c2, rfl, hbB, hb, hnc, hcm, hcs, hfz⟩ := O1.fullI (by omega)
  have hp := hP b c2 hnc hcm a2 lcap l w1 hcs hfz hb ((hw1.cell (p := ⟨c, 0, none⟩) hcl).trans hc) (Nat.lt_of_lt_of_le hcl hw1.size) (hL.below hw1) h20 hI
  obtain ⟨E, hE⟩ : ∃ E, postE bal l = E := ⟨_, rfl⟩
  rw [hE] at hp
  have hEh := Lib.hid hE
  clear hE hP O1 hc
  go_wp2_with fail
  refine hp.mono ?_
  rintro e w2 ⟨rfl, hN, hK⟩
  have hbel2 : Below w.heap.size w w2 := hw1.trans (hK.below hw1.size hbB)
  by_cases he : E = 0
  · subst he
    have hr : r = (postN bal l, 0) := by rw [← hrh.out, postS, if_pos hEh.out]
    subst hr
    have hlen := postN_len bal l
    have hN2 := hN rfl
    clear hrh hN hp
    go_wp2_with fail
    go_ret2
    exact ⟨_, rfl, ⟨_, c2, by rw [hlen, hbal]; rfl, by rw [hlen, hbal]; exact hnc, hcm, .inr ⟨b, 0, rfl, hbB, Nat.lt_of_lt_of_le hb hK.size, hN2, fun i => (hK.froz i).trans (hfz i)⟩⟩, hbel2⟩
  · have hr : r = (bal, E) := by rw [← hrh.out, postS, if_neg (by rw [hEh.out]; exact he), hEh.out]
    subst hr
    have hR2 := hR.below hbel2
    clear hrh hN hp hcs hfz hw1
    go_wp2_with fail
    refine (Clone_Int a 17 cap bal _ hR2 (by omega)).mono ?_
    rintro e w3 ⟨⟨v3, rfl, O3⟩, hw3⟩
    obtain ⟨b3, c3, rfl, hbB3, hb3, hnc3, hcm3, hcs3, hfz3⟩ := O3.fullI (by omega)
    have hbel3 : Below w.heap.size w w3 := hbel2.trans (hw3.mono hbel2.size)
    clear O3 hw3
    go_wp2_with fail
    go_ret2
    exact ⟨_, rfl, ⟨_, c3, by rw [hbal]; rfl, by rw [hbal]; exact hnc3, hcm3, .inr ⟨b3, 0, rfl, Nat.le_trans hbel2.size hbB3, hb3, hcs3, hfz3⟩⟩, hbel3⟩

set_option maxHeartbeats 1000000 in
theorem gl_Post (a : Option Addr) (cap : Nat) (bal : List Int) (hbal : bal.length = 17) (a2 : Option Addr) (lcap : Nat) (l : List Lin) (w : World) (hR : Row w 1 a 17 cap bal) (hL : Row w 2 a2 l.length lcap (flat2 l)) (h20 : l.length ≤ 1000000) :
    Calls Tryz.prog 105 #[.slice a 17 cap, .slice a2 l.length lcap] w (HoldX w (postS bal l)) := by
  have hk := fun (W : World) (c : Nat) => gl_kept a cap bal hbal c a2 lcap l W
  generalize postS bal l = r at *
  go_enter Tryz.func105, Tryz.ntmps105
  go_wp2_with fail
  have hb0 : Below w.heap.size w (w.alloc (.cells #[.slice a2 l.length lcap] 132)) := (Below.refl _ _).alloc (Nat.le_refl _) _
  refine (hk _ w.heap.size (hR.below hb0) (by simp) (by simp) (hL.below hb0) h20).mono ?_
  rintro e w1 ⟨v, rfl, hh, hw1⟩
  go_wp2_with fail
  go_ret2
  exact ⟨v, rfl, hh.mono (by simp), by (repeat (first | assumption | exact Below.refl _ _ | refine ballc ?_ _ | refine bdrew ?_ | refine bdrewN ?_ _ | refine bset ?_ _ _ | refine bsetN ?_ (by omega) _ _ | refine bthen ?_ (by assumption)))⟩
end Go.Proofs.YtnalblnmplnhmaaGreat
