/-
  Standard cost: Revalue and Out.
-/
import Derived.Test.YtgahhifedgmicaaStd1
set_option linter.unusedVariables false
set_option linter.unusedSimpArgs false
namespace Go.Proofs.Ytgahhifedgmicaa
open Go.RowKit

theorem cells_put1 {w : World} {b off : Nat} {x : Lay} {l : List Lay} {v : Int} (h : CellsAt w b off (flat (x :: l))) : CellsAt (w.setCell ⟨b, off + 1, none⟩ (.int .i64 v)) b off (flat (⟨x.q, v, x.p⟩ :: l)) := by
  intro i hi
  have hi' : i < (flat (x :: l)).length := by simpa [flat] using hi
  have k := h i hi'
  by_cases e : i = 1
  · subst e
    rw [World.cell?_setCell_same _ _ _ k]
    simp [flat]
  · rw [World.cell?_setCell_other _ _ _ _ (by intro e2; injection e2; omega), k]
    match i, e with
    | 0, _ => simp [flat]
    | 2, _ => simp [flat]
    | i + 3, _ => simp [flat]

set_option maxRecDepth 20000 in
set_option maxHeartbeats 1000000 in
theorem std_Revalue (a : Option Addr) (cap : Nat) (l : List Lay) (c : Int) (w : World) (h : Row w 3 a l.length cap (flat l)) (hn : l.length ≤ 900) (hk : ∀ x, x ∈ l → layOk x = true) (hc : I64 c) :
    Calls Try.prog 21 #[.slice a l.length cap, .int .i64 c] w fun e w' => ∃ v, e = .returned (.tuple #[v, .int .i64 (revC l c).2.1, .int .i64 (revC l c).2.2]) ∧ Hold w' w.heap.size v (revC l c).1 ∧ Below w.heap.size w w' := by
  generalize hI : revC l c = r
  have hIh := Lib.hid hI
  clear hI
  go_enter Try.func21, Try.ntmps21
  try simp only [List.append_eq, List.cons_append, List.nil_append]
  go_wp2_with fail
  refine (Clone_Layer a l.length cap (flat l) _ (h.below (by (repeat (first | assumption | exact Below.refl _ _ | refine ballc ?_ _ | refine bdrew ?_ | refine bdrewN ?_ _ | refine bset ?_ _ _ | refine bsetN ?_ (by omega) _ _ | refine bthen ?_ (by assumption))))) (by omega)).mono ?_
  rintro e w1 ⟨⟨v1, rfl, O1⟩, hw1⟩
  have hA : AllI (flat l) := h.all
  have hH := Hold.of_own O1 (Nat.le_refl _)
  obtain ⟨a1, c1, rfl, R1⟩ := O1.row hA
  clear O1 hA R1
  go_wp2_with fail
  refine (std_fits c _).mono ?_
  rintro e w' ⟨rfl, rfl⟩
  cases hf : fitsR c
  · have hI : r = (l, 0, 1) := by rw [← hIh.out]; simp [revC, hf]
    subst hI
    clear hIh
    go_wp2_with fail
    go_ret3
    exact ⟨_, rfl, hH, by (repeat (first | assumption | exact Below.refl _ _ | refine ballc ?_ _ | refine bdrew ?_ | refine bdrewN ?_ _ | refine bset ?_ _ _ | refine bsetN ?_ (by omega) _ _ | refine bthen ?_ (by assumption)))⟩
  cases l with
  | nil =>
    have hI : r = ([], 0, 0) := by rw [← hIh.out]; simp [revC, hf]
    subst hI
    clear hIh
    go_wp2_with fail
    go_ret3
    exact ⟨_, rfl, hH, by (repeat (first | assumption | exact Below.refl _ _ | refine ballc ?_ _ | refine bdrew ?_ | refine bdrewN ?_ _ | refine bset ?_ _ _ | refine bsetN ?_ (by omega) _ _ | refine bthen ?_ (by assumption)))⟩
  | cons z t =>
    have hz := layOk_iff.1 (hk z (by simp))
    have hI : r = if ofE c z.q ≠ 0 then (z :: t, 0, ofE c z.q) else (⟨z.q, ofV c z.q, z.p⟩ :: t, ofV c z.q - z.v, 0) := by rw [← hIh.out]; simp [revC, hf]
    clear hIh
    have hIh := Lib.hid hI
    clear hI
    have hB : HoldB w1 w.heap.size w1.heap.size a1 c1 (z :: t) := by
      obtain ⟨a', c', e, h1, h2, h3⟩ := id hH
      cases e
      refine ⟨h1, h2, ?_⟩
      rcases h3 with h3 | ⟨b, off, rfl, h3, h4, h5, h6⟩
      · exact .inl h3
      · exact .inr ⟨b, off, rfl, h3, h4, h5, h6⟩
    obtain ⟨b, off, rfl, hb, hb2, hcs, hfz⟩ : ∃ b off, a1 = some ⟨b, off, none⟩ ∧ w.heap.size ≤ b ∧ b < w1.heap.size ∧ CellsAt w1 b off (flat (z :: t)) ∧ ∀ i, w1.frozen? ⟨b, i, none⟩ = false := by
      rcases hB.2.2 with h3 | h3
      · simp at h3
      · exact h3
    obtain ⟨k0, k1, k2⟩ := hcs.head
    have hf0 := hfz off
    have hf1 := hfz (off + 1)
    have hlen : (0 : Int) < ((z :: t).length : Int) := by simp
    have hlen2 : ¬ ((z :: t).length : Int) = 0 := by omega
    go_wp2_with fail
    refine (std_of c z.q _ hc ⟨by omega, by omega⟩).mono ?_
    rintro e w2 ⟨rfl, hw2⟩
    have m0 := (hw2.cell hb2).trans k0
    have m1 := (hw2.cell hb2).trans k1
    have m2 := (hw2.frozen hb2).trans (hfz (off + 1))
    have hcs2 := cells_put1 (v := ofV c z.q) (hcs.below hb2 hw2)
    have hfz2 : ∀ i, (w2.setCell ⟨b, off + 1, none⟩ (.int .i64 (ofV c z.q))).frozen? ⟨b, i, none⟩ = false := fun i => by rw [World.frozen?_setCell]; exact (hw2.frozen hb2).trans (hfz i)
    have hH2 := hH.below hw2
    have hob := of_bd (q := z.q) hf
    have hs2 := hw2.size
    have f1 : IntKind.i64.wrap (ofV c z.q - z.v) = ofV c z.q - z.v := IntWalk.i64_in _ (by omega)
    have hbel : Below w.heap.size w w2 := by (repeat (first | assumption | exact Below.refl _ _ | refine ballc ?_ _ | refine bdrew ?_ | refine bdrewN ?_ _ | refine bset ?_ _ _ | refine bsetN ?_ (by omega) _ _ | refine bthen ?_ (by assumption)))
    clear k0 k1 k2 hf0 hf1 hw1 hcs
    by_cases he : ofE c z.q = 0
    · have hr : r = (⟨z.q, ofV c z.q, z.p⟩ :: t, ofV c z.q - z.v, 0) := by rw [hIh.out, if_neg (by simp [he])]
      subst hr
      clear hIh
      rw [he]
      go_wp2_with fail
      go_ret3
      exact ⟨_, rfl, ⟨_, _, rfl, hB.1, hB.2.1, .inr ⟨b, off, rfl, hb, by simp [World.setCell]; omega, hcs2, hfz2⟩⟩, by (repeat (first | assumption | exact Below.refl _ _ | refine ballc ?_ _ | refine bdrew ?_ | refine bdrewN ?_ _ | refine bset ?_ _ _ | refine bsetN ?_ (by omega) _ _ | refine bthen ?_ (by assumption)))⟩
    · have hr : r = (z :: t, 0, ofE c z.q) := by rw [hIh.out, if_pos he]
      subst hr
      clear hIh
      go_wp2_with fail
      go_ret3
      exact ⟨_, rfl, hH2, by (repeat (first | assumption | exact Below.refl _ _ | refine ballc ?_ _ | refine bdrew ?_ | refine bdrewN ?_ _ | refine bset ?_ _ _ | refine bsetN ?_ (by omega) _ _ | refine bthen ?_ (by assumption)))⟩
end Go.Proofs.Ytgahhifedgmicaa
