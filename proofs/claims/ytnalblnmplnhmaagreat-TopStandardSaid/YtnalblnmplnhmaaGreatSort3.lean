/-
  The library's stable sort of lines, by account.
-/
import Derived.Test.YtnalblnmplnhmaaGreatMerge6
set_option linter.unusedVariables false
set_option linter.unusedSimpArgs false
namespace Go.Proofs.YtnalblnmplnhmaaGreat
open Go.RowKit

theorem stable_func (b off c cap : Nat) (l : List Lin) (w : World) (h : Lay2 w b off c l) (hn : l.length ≤ cap) (hm : cap ≤ maxLen) (h20 : l.length ≤ 1000000) :
    Calls Tryz.prog 188 #[.slice (some ⟨b, off, none⟩) l.length cap, byAcc c] w (Sorted2 b off c l w) := by
  have hs := stable_all b off c cap l w h hn hm h20
  unfold byAcc at hs ⊢
  go_enter Tryz.func188, Tryz.ntmps188
  go_wp2_with fail
  refine hs.mono ?_
  rintro r w1 ⟨rfl, hp⟩
  go_wp2_with fail
  exact bodyPost_end (v := .tuple #[]) (by simp [results, Tryz.results188, go_sem]) rfl ⟨rfl, hp⟩

/-- by: behind it the lines rise by account. -/
theorem by_calls (b off cap : Nat) (l : List Lin) (w : World) (hcs : CellsAt w b off (flat2 l)) (hfz : ∀ i, w.frozen? ⟨b, i, none⟩ = false) (hb : b < w.heap.size) (hn : l.length ≤ cap) (hm : cap ≤ maxLen) (h20 : l.length ≤ 1000000) :
    Calls Tryz.prog 146 #[.slice (some ⟨b, off, none⟩) l.length cap, .func (.func 147) #[] #[]] w
      fun r w' => r = .returned (.tuple #[]) ∧ ∃ m : List Lin, m.length = l.length ∧ Rises Lin.a m ∧ Stab Lin.a l m ∧ CellsAt w' b off (flat2 m) ∧ Keep b w w' := by
  have hs := fun (W : World) (h : Lay2 W b off w.heap.size l) => stable_func b off w.heap.size cap l W h hn hm h20
  unfold byAcc at hs
  go_enter Tryz.func146, Tryz.ntmps146
  go_wp2_with fail
  have hb1 : Below w.heap.size w (w.alloc (.cells #[.func (.func 147) #[] #[]] 203)) := (Below.refl _ _).alloc (Nat.le_refl _) _
  refine (hs _ ⟨hcs.below hb hb1, fun i => (hb1.frozen (p := ⟨b, i, none⟩) hb).trans (hfz i), by simp; omega, by simp, by simp, by omega⟩).mono ?_
  rintro r w1 ⟨rfl, m, hm1, hm2, hm3, hL, hK⟩
  go_wp2_with fail
  exact bodyPost_end (v := .tuple #[]) (by simp [results, Tryz.results146, go_sem]) rfl ⟨rfl, m, hm1, hm2, hm3, hL.cells, (Keep.of hb1 hb).trans hK⟩
end Go.Proofs.YtnalblnmplnhmaaGreat
