/-
  gl.Trial.
-/
import Derived.Test.YtnkdbjmfpebcgaaGl2
set_option linter.unusedVariables false
set_option linter.unusedSimpArgs false
namespace Go.Proofs.Ytnkdbjmfpebcgaa
open Go.RowKit

def posS (l : List Int) : Int := (l.map fun z => max z 0).sum
def negS (l : List Int) : Int := (l.map fun z => max (-z) 0).sum
def trialS (bal : List Int) : Int × Int × Int := if bal.length ≠ 17 then (0, 0, 1) else if bal.any (fun z => !inB z) then (0, 0, 2) else (posS bal, negS bal, 0)
theorem posS_snoc (l : List Int) (z : Int) : posS (l ++ [z]) = posS l + max z 0 := by simp [posS]
theorem negS_snoc (l : List Int) (z : Int) : negS (l ++ [z]) = negS l + max (-z) 0 := by simp [negS]
theorem posneg_bd : ∀ (l : List Int), l.any (fun z => !inB z) = false → 0 ≤ posS l ∧ posS l ≤ 288230376151711744 * l.length ∧ 0 ≤ negS l ∧ negS l ≤ 288230376151711744 * l.length
  | [], _ => by simp [posS, negS]
  | z :: l, h => by
    simp only [List.any_cons, Bool.or_eq_false_iff] at h
    have ih := posneg_bd l h.2
    have hz := inB_iff.1 (show inB z = true by simpa using h.1)
    simp only [posS, negS, List.map_cons, List.sum_cons, List.length_cons] at ih ⊢
    omega

set_option maxRecDepth 20000 in
set_option maxHeartbeats 2000000 in
theorem gl_Trial (a : Option Addr) (n cap : Nat) (bal : List Int) (w : World) (hR : Row w 1 a n cap bal) :
    Calls Try.prog 22 #[.slice a n cap] w fun e w' => e = .returned (.tuple #[.int .i64 (trialS bal).1, .int .i64 (trialS bal).2.1, .int .i64 (trialS bal).2.2]) ∧ w = w' := by
  obtain ⟨hl, hcap, hmax, hall, hat⟩ := hR
  unfold maxLen at hmax
  have hl : bal.length = n := by omega
  obtain rfl : bal.length = n := hl
  clear hl
  generalize hr : trialS bal = r
  have hrh := Lib.hid hr
  clear hr
  go_enter Try.func22, Try.ntmps22
  by_cases h17 : bal.length = 17
  · obtain ⟨n, hN⟩ : ∃ n, bal.length = n := ⟨_, rfl⟩
    rw [hN] at h17 hat hcap ⊢
    subst h17
    have hNh := Lib.hid hN
    clear hN
    go_wp2_with fail
    go_loop [2, 3, 12] (fun d c i => ∃ j : Nat, j ≤ 17 ∧ i = .int .i64 j ∧ d = .int .i64 (posS (bal.take j)) ∧ c = .int .i64 (negS (bal.take j)) ∧ Hid ((bal.take j).any (fun z => !inB z) = false)) (fun _ _ i => 17 - (intOf i).toNat)
    case atStart => exact ⟨0, by omega, rfl, rfl, rfl, rfl⟩
    case round =>
      obtain ⟨j, hj, rfl, rfl, rfl, hA⟩ := hrel
      by_cases hlt : j < 17
      · obtain ⟨b, off, rfl, hb, hc⟩ : ∃ b off, a = some ⟨b, off, none⟩ ∧ b < w.heap.size ∧ CellsAt w b off bal := by
          rcases hat with h0 | h0
          · omega
          · exact h0
        have hcell := hc j (by rw [hNh.out]; omega)
        have hltI : (j : Int) < 17 := by omega
        have hjb : j < bal.length := by rw [hNh.out]; omega
        have ht : bal.take (j + 1) = bal.take j ++ [bal.getD j 0] := take_snoc hjb
        have hz := hall.at_ j
        have hmem : bal.getD j 0 ∈ bal := by rw [List.getD_eq_getElem?_getD, List.getElem?_eq_getElem hjb]; exact List.getElem_mem hjb
        have hbd := posneg_bd _ hA.out
        have htl : (bal.take j).length = j := by rw [List.length_take, hNh.out]; omega
        rw [htl] at hbd
        obtain ⟨z, hgz⟩ : ∃ z, bal.getD j 0 = z := ⟨_, rfl⟩
        rw [hgz] at hcell hz ht hmem
        obtain ⟨P, hP⟩ : ∃ P, posS (bal.take j) = P := ⟨_, rfl⟩
        obtain ⟨N, hN2⟩ : ∃ N, negS (bal.take j) = N := ⟨_, rfl⟩
        rw [hP, hN2] at hbd ⊢
        have hps : posS (bal.take (j + 1)) = P + max z 0 := by rw [ht, posS_snoc, hP]
        have hns : negS (bal.take (j + 1)) = N + max (-z) 0 := by rw [ht, negS_snoc, hN2]
        have hps := Lib.hid hps
        have hns := Lib.hid hns
        have hth := Lib.hid ht
        have hNN := hN2
        clear hc hat ht hgz hP hN2 hNN htl hjb
        cases hok : inB z
        · have hr : r = (0, 0, 2) := by
            rw [← hrh.out, trialS, if_neg (by rw [hNh.out]; simp), if_pos (List.any_eq_true.2 ⟨z, hmem, by rw [hok]; rfl⟩)]
          subst hr
          have hno : z < -288230376151711744 ∨ (¬ z < -288230376151711744 ∧ 288230376151711744 < z) := by
            have : ¬ inB z = true := by rw [hok]; simp
            rw [inB_iff] at this
            omega
          clear hrh hok hmem
          rcases hno with h1 | ⟨h1, h2⟩
          all_goals
            go_wp2_with fail
            go_ret3
            exact ⟨rfl, rfl⟩
        · have hzb := inB_iff.1 hok
          have hA2 : Hid ((bal.take (j + 1)).any (fun z => !inB z) = false) := by rw [Hid, hth.out, List.any_append, hA.out]; simp [hok]
          have h1 : ¬ z < -288230376151711744 := by omega
          have h2 : ¬ 288230376151711744 < z := by omega
          clear hok hmem
          by_cases hp : 0 < z
          · go_wp2_with fail
            go_round
            case rel => exact ⟨j + 1, by omega, by go_num, by rw [hps.out, show max z 0 = z by omega], by rw [hns.out, show max (-z) 0 = 0 by omega, Int.add_zero], hA2⟩
            case measure => simp [intOf]; omega
          · go_wp2_with fail
            go_round
            case rel => exact ⟨j + 1, by omega, by go_num, by rw [hps.out, show max z 0 = 0 by omega, Int.add_zero], by rw [hns.out, show max (-z) 0 = -z by omega]; rfl, hA2⟩
            case measure => simp [intOf]; omega
      · have ej : j = 17 := by omega
        subst ej
        have htk : bal.take 17 = bal := List.take_of_length_le (by rw [hNh.out]; omega)
        rw [htk] at hA ⊢
        have hr : r = (posS bal, negS bal, 0) := by rw [← hrh.out, trialS, if_neg (by rw [hNh.out]; simp), if_neg (by rw [hA.out]; simp)]
        subst hr
        clear htk
        go_wp2_with fail
        go_ret3
        exact ⟨rfl, rfl⟩
  · have hr : r = (0, 0, 1) := by rw [← hrh.out, trialS, if_pos h17]
    subst hr
    have h17I : ¬ (bal.length : Int) = 17 := by omega
    have h17B : ((bal.length : Int) == 17) = false := by simpa using h17I
    clear hrh
    go_wp2_with fail
    go_ret3
    exact ⟨rfl, rfl⟩
end Go.Proofs.Ytnkdbjmfpebcgaa
