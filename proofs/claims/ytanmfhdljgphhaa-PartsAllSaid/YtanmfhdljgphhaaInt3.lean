/-
  The library's stable sort of places.
-/
import Derived.Test.YtanmfhdljgphhaaIMerge6
set_option linter.unusedVariables false
set_option linter.unusedSimpArgs false
namespace Go.Proofs.Ytanmfhdljgphhaa
open Go.RowKit

theorem stable_funcN (b off c d g goff gcap cap : Nat) (rest : List Int) (hrm : rest.length ≤ 1000000) (l : List Nat) (w : World) (h : LayN w b off c d g goff gcap rest l) (hn : l.length ≤ cap) (hm : cap ≤ maxLen) (h20 : l.length ≤ 1000000) :
    Calls Try.prog 25 #[.slice (some ⟨b, off, none⟩) l.length cap, byRest c d] w (SortedN b off c d g goff gcap rest l w) := by
  have hs := stable_allN b off c d g goff gcap cap rest hrm l w h hn hm h20
  unfold byRest at hs ⊢
  go_enter Try.func25, Try.ntmps25
  go_wp2_with fail
  refine hs.mono ?_
  rintro r w1 ⟨rfl, hp⟩
  go_wp2_with fail
  exact bodyPost_end (v := .tuple #[]) (by simp [results, Try.results25, go_sem]) rfl ⟨rfl, hp⟩

end Go.Proofs.Ytanmfhdljgphhaa
