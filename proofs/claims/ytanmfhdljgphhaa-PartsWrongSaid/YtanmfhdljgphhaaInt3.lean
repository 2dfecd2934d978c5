/-
  The library's stable sort of twenty places or fewer; parts.order.
-/
import Derived.Test.YtanmfhdljgphhaaInt2
set_option linter.unusedVariables false
set_option linter.unusedSimpArgs false
namespace Go.Proofs.Ytanmfhdljgphhaa
open Go.RowKit

/-- What a sort leaves. -/
def SortedN (b off c d g goff gcap : Nat) (rest : List Int) (l : List Nat) (w : World) (r : Ending) (w' : World) : Prop :=
  r = .returned (.tuple #[]) ∧ ∃ m : List Nat, m.length = l.length ∧ Rises (keyN rest) m ∧ Stab (keyN rest) l m ∧ LayN w' b off c d g goff gcap rest m ∧ Keep b w w'

set_option maxRecDepth 20000 in
set_option maxHeartbeats 2000000 in
theorem stable_smallN (b off c d g goff gcap cap : Nat) (rest : List Int) (hrm : rest.length ≤ 1000000) (l : List Nat) (w : World) (h : LayN w b off c d g goff gcap rest l) (hn : l.length ≤ cap) (hm : cap ≤ maxLen) (h20 : l.length ≤ 20) :
    Calls Try.prog 32 #[.slice (some ⟨b, off, none⟩) l.length cap, .int .i64 l.length, byRest c d] w (SortedN b off c d g goff gcap rest l w) := by
  unfold byRest
  obtain ⟨n, hN⟩ : ∃ n, l.length = n := ⟨_, rfl⟩
  rw [hN] at hn h20 ⊢
  have hNh := Lib.hid hN
  clear hN
  go_enter Try.func32, Try.ntmps32
  by_cases h20' : n = 20
  · subst h20'
    go_wp2_with fail
    refine wp_loop_rounds 2 ?_
    rw [rounds_succ]
    go_wp2_with fail
    refine (ins_sortN b off c cap 0 20 d g goff gcap rest hrm [] l [] w (by simpa using h) 20 (by simpa using hNh.out) hn hm (by omega) rfl (by simp [hNh.out])).mono ?_
    rintro r w1 ⟨rfl, m, hm1, hm2, hm3, hL, hK⟩
    go_wp2_with fail
    rw [rounds_succ]
    go_wp2_with fail
    refine (ins_sortN b off c cap 20 20 d g goff gcap rest hrm ([] ++ m ++ []) [] [] w1 (by simpa using hL) 20 (by simp [hm1, hNh.out]) hn hm (by omega) (by simp [hm1, hNh.out]) rfl).mono ?_
    rintro r w2 ⟨rfl, m2, hm4, -, -, hL2, hK2⟩
    have e2 : m2 = [] := List.eq_nil_of_length_eq_zero hm4
    subst e2
    go_wp2_with fail
    refine wp_loop_rounds 1 ?_
    rw [rounds_succ]
    go_wp2_with fail
    exact bodyPost_end (v := .tuple #[]) (by simp [results, Try.results32, go_sem]) rfl ⟨rfl, m, hm1, hm2, hm3, by simpa using hL2, hK.trans hK2⟩
  · have hlt : n < 20 := by omega
    have hge : ¬ (20 : Int) ≤ (n : Int) := by omega
    have hge2 : ¬ (20 : Int) < (n : Int) := by omega
    go_wp2_with fail
    refine wp_loop_rounds 1 ?_
    rw [rounds_succ]
    go_wp2_with fail
    refine (ins_sortN b off c cap 0 n d g goff gcap rest hrm [] l [] w (by simpa using h) n (by simpa using hNh.out) hn hm (by omega) rfl (by simp [hNh.out])).mono ?_
    rintro r w1 ⟨rfl, m, hm1, hm2, hm3, hL, hK⟩
    go_wp2_with fail
    refine wp_loop_rounds 1 ?_
    rw [rounds_succ]
    go_wp2_with fail
    exact bodyPost_end (v := .tuple #[]) (by simp [results, Try.results32, go_sem]) rfl ⟨rfl, m, hm1, hm2, hm3, by simpa using hL, hK⟩

theorem stable_funcN (b off c d g goff gcap cap : Nat) (rest : List Int) (hrm : rest.length ≤ 1000000) (l : List Nat) (w : World) (h : LayN w b off c d g goff gcap rest l) (hn : l.length ≤ cap) (hm : cap ≤ maxLen) (h20 : l.length ≤ 20) :
    Calls Try.prog 25 #[.slice (some ⟨b, off, none⟩) l.length cap, byRest c d] w (SortedN b off c d g goff gcap rest l w) := by
  have hs := stable_smallN b off c d g goff gcap cap rest hrm l w h hn hm h20
  unfold byRest at hs ⊢
  go_enter Try.func25, Try.ntmps25
  go_wp2_with fail
  refine hs.mono ?_
  rintro r w1 ⟨rfl, hp⟩
  go_wp2_with fail
  exact bodyPost_end (v := .tuple #[]) (by simp [results, Try.results25, go_sem]) rfl ⟨rfl, hp⟩

end Go.Proofs.Ytanmfhdljgphhaa
