/-
  Sum, of the program and of the reference.
-/
import Derived.Test.YtnkdbjmfpebcgaaMoney4
namespace Go.Proofs.Ytnkdbjmfpebcgaa
open Go.RowKit

theorem sum_stop {zs : List Int} {k : Nat} {m : Int} (h : k < zs.length) (H : sumGo 0 (zs.take k) = some m) (e : addOk m (zs.getD k 0) = false) : sumV zs = 0 ∧ sumE zs = 2 := by
  have t := sumGo_take h H
  rw [e] at t
  have := sumGo_none t
  simp [sumV, sumE, this]
theorem sum_done {zs : List Int} {m : Int} (H : sumGo 0 (zs.take zs.length) = some m) : sumV zs = m ∧ sumE zs = 0 := by
  rw [List.take_length] at H
  simp [sumV, sumE, H]

set_option maxHeartbeats 800000 in
theorem money_Sum (a : Option Addr) (n cap : Nat) (zs : List Int) (w : World) (h : Row w 1 a n cap zs) :
    Calls Try.prog 44 #[.slice a n cap] w fun e w' => e = .returned (.tuple #[.int .i64 (sumV zs), .int .i64 (sumE zs)]) ∧ w = w' := by
  obtain ⟨hl, hcap, hmax, hall, hat⟩ := h
  unfold maxLen at hmax
  have hl : zs.length = n := by omega
  obtain rfl : zs.length = n := hl
  clear hl
  go_enter Try.func44, Try.ntmps44
  go_wp2
  go_loop [4, 10] (fun s i => ∃ (k : Nat) (m : Int), k ≤ zs.length ∧ i = .int .i64 k ∧ s = .int .i64 m ∧ Hid (sumGo 0 (zs.take k) = some m)) (fun _ i => zs.length - (intOf i).toNat)
  case atStart => exact ⟨0, 0, by omega, rfl, rfl, rfl⟩
  case round =>
    obtain ⟨k, m, hk, rfl, rfl, H⟩ := hrel
    by_cases hlt : k < zs.length
    · obtain ⟨b, off, rfl, hb, hc⟩ : ∃ b off, a = some ⟨b, off, none⟩ ∧ b < w.heap.size ∧ CellsAt w b off zs := by
        rcases hat with h0 | h0
        · omega
        · exact h0
      have hcell := hc k hlt
      have hz := hall.at_ k
      have hlt' : (k : Int) < (zs.length : Int) := by omega
      clear hc hat
      generalize hgz : zs.getD k 0 = z at *
      have Hgz := Lib.hid hgz
      clear hgz
      by_cases hok : addOk m z = true
      · have hv := addV_of hok
        have hbd := addOk_bd hok
        have hv := Lib.hid hv
        go_wp2_with (go_at_call 33; refine (money_Add _ _ _).mono ?_; rw [hv.out.1, hv.out.2]; rintro e w' ⟨rfl, rfl⟩)
        go_round
        case rel =>
          refine ⟨k + 1, _, by omega, by go_num, rfl, ?_⟩
          have t := sumGo_take hlt H.out
          rw [Hgz.out, hok] at t
          exact t
        case measure => simp [intOf]; omega
      · have hok : addOk m z = false := by simpa using hok
        have hv := addV_of_not hok
        have hv := Lib.hid hv
        have S := sum_stop hlt H.out (by rw [Hgz.out]; exact hok)
        go_wp2_with (go_at_call 33; refine (money_Add _ _ _).mono ?_; rw [hv.out.1, hv.out.2]; rintro e w' ⟨rfl, rfl⟩)
        go_ret2
        first | exact ⟨ret_ii S.1.symm S.2.symm, by first | rfl | trivial⟩ | exact ⟨rfl, by first | rfl | trivial⟩
    · obtain rfl : k = zs.length := by omega
      have S := sum_done H.out
      have hlt' : ¬ (zs.length : Int) < (zs.length : Int) := by omega
      go_wp2
      go_ret2
      first | exact ⟨ret_ii S.1.symm S.2.symm, by first | rfl | trivial⟩ | exact ⟨rfl, by first | rfl | trivial⟩

set_option maxHeartbeats 800000 in
theorem ref_Sum (a : Option Addr) (n cap : Nat) (zs : List Int) (w : World) (h : Row w 1 a n cap zs) :
    Calls Try.prog 41 #[.slice a n cap] w fun e w' => e = .returned (.tuple #[.int .i64 (sumV zs), .int .i64 (sumE zs)]) ∧ w = w' := by
  obtain ⟨hl, hcap, hmax, hall, hat⟩ := h
  unfold maxLen at hmax
  have hl : zs.length = n := by omega
  obtain rfl : zs.length = n := hl
  clear hl
  go_enter Try.func41, Try.ntmps41
  go_wp2
  go_loop [4, 5] (fun s i => ∃ (k : Nat) (m : Int), k ≤ zs.length ∧ i = .int .i64 k ∧ s = .int .i64 m ∧ Hid (sumGo 0 (zs.take k) = some m)) (fun _ i => zs.length - (intOf i).toNat)
  case atStart => exact ⟨0, 0, by omega, rfl, rfl, rfl⟩
  case round =>
    obtain ⟨k, m, hk, rfl, rfl, H⟩ := hrel
    by_cases hlt : k < zs.length
    · obtain ⟨b, off, rfl, hb, hc⟩ : ∃ b off, a = some ⟨b, off, none⟩ ∧ b < w.heap.size ∧ CellsAt w b off zs := by
        rcases hat with h0 | h0
        · omega
        · exact h0
      have hcell := hc k hlt
      have hz := hall.at_ k
      have hlt' : (k : Int) < (zs.length : Int) := by omega
      clear hc hat
      generalize hgz : zs.getD k 0 = z at *
      have Hgz := Lib.hid hgz
      clear hgz
      by_cases hok : addOk m z = true
      · have hv := addV_of hok
        have hbd := addOk_bd hok
        have hv := Lib.hid hv
        go_wp2_with (go_at_call 37; refine (ref_Add _ _ _).mono ?_; rw [hv.out.1, hv.out.2]; rintro e w' ⟨rfl, rfl⟩)
        go_round
        case rel =>
          refine ⟨k + 1, _, by omega, by go_num, rfl, ?_⟩
          have t := sumGo_take hlt H.out
          rw [Hgz.out, hok] at t
          exact t
        case measure => simp [intOf]; omega
      · have hok : addOk m z = false := by simpa using hok
        have hv := addV_of_not hok
        have hv := Lib.hid hv
        have S := sum_stop hlt H.out (by rw [Hgz.out]; exact hok)
        go_wp2_with (go_at_call 37; refine (ref_Add _ _ _).mono ?_; rw [hv.out.1, hv.out.2]; rintro e w' ⟨rfl, rfl⟩)
        go_ret2
        first | exact ⟨ret_ii S.1.symm S.2.symm, by first | rfl | trivial⟩ | exact ⟨rfl, by first | rfl | trivial⟩
    · obtain rfl : k = zs.length := by omega
      have S := sum_done H.out
      have hlt' : ¬ (zs.length : Int) < (zs.length : Int) := by omega
      go_wp2
      go_ret2
      first | exact ⟨ret_ii S.1.symm S.2.symm, by first | rfl | trivial⟩ | exact ⟨rfl, by first | rfl | trivial⟩
end Go.Proofs.Ytnkdbjmfpebcgaa
