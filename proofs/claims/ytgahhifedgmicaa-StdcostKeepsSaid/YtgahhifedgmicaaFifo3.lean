import Derived.Test.YtgahhifedgmicaaFifo2
set_option linter.unusedVariables false
set_option linter.unusedSimpArgs false
namespace Go.Proofs.Ytgahhifedgmicaa
open Go.RowKit

theorem lit1 {w : World} {y : Int} {t n : Nat} (hn : n = w.heap.size) : CellsAt (w.alloc (.cells #[.int .i64 y] t)) n 0 [y] := by
  subst hn; exact CellsAt.new w [y] t
theorem swing_all {l : List Lay} (hok : l.all layOk = true) : AllI (l.map swing) := by
  intro z hz
  obtain ⟨x, hx, rfl⟩ := List.mem_map.1 hz
  have := layOk_iff.1 (List.all_eq_true.1 hok x hx)
  unfold swing
  exact ⟨by omega, by omega⟩

set_option maxHeartbeats 1000000 in
theorem fifo_steady (a : Option Addr) (cap : Nat) (l : List Lay) (w : World) (h : Row w 3 a l.length cap (flat l)) (hn : l.length ≤ 1000) (hok : l.all layOk = true) :
    Calls Try.prog 45 #[.slice a l.length cap] w fun e w' => e = .returned (.bool (decide (sumE (l.map swing) = 0))) ∧ Below w.heap.size w w' := by
  obtain ⟨hl, hcap, hmax, hall, hat⟩ := h
  unfold maxLen at hmax
  go_enter Try.func45, Try.ntmps45
  go_wp2
  go_loopw [3, 10] (fun q i wr => ∃ j : Nat, j ≤ l.length ∧ i = .int .i64 j ∧ OwnI wr w.heap.size 3 1 q j ((l.take j).map swing) ∧ Below w.heap.size w wr) (fun _ i _ => l.length - (intOf i).toNat)
  case atStart => exact ⟨0, by omega, rfl, OwnI.nil _ _ _ _, Below.refl _ _⟩
  case round =>
    obtain ⟨j, hj, rfl, T, hbel⟩ := hrel
    have hsz := hbel.size
    by_cases hlt : j < l.length
    · obtain ⟨b, off, rfl, hb, hc⟩ : ∃ b off, a = some ⟨b, off, none⟩ ∧ b < w.heap.size ∧ CellsAt w b off (flat l) := by
        rcases hat with h0 | h0
        · omega
        · exact h0
      obtain ⟨x, hx⟩ : ∃ x, l[j]? = some x := ⟨l[j], by simp [hlt]⟩
      obtain ⟨c0, c1, c2⟩ := lay_cells hc hx hb hbel
      have hlt' : (j : Int) < (l.length : Int) := by omega
      have hok' := layOk_iff.1 (all_at hok hx)
      obtain ⟨k1, k2, k3, k4, k5, k6⟩ := hok'
      have hx := Lib.hid hx
      have hok := Lib.hid hok
      clear hc hat
      go_wp2_with (at_builtin; refine wpList_push _ rfl _ _ 35 rfl w.heap.size 3 1 elem_Int u3 j ((l.take j).map swing) rfl ((T.alloc _).alloc _) (wr.heap.size + 1) 0 1 [swing x] rfl rfl (lit1 (y := swing x) (by simp)) ?c1 ?c2 ?_)
      case c1 => omega
      case c2 => simp; omega
      · intro l' w1 hown' hb1
        have hx : l[j]? = some x := hx
        have e : (l.take j).map swing ++ [swing x] = (l.take (j + 1)).map swing := by rw [List.take_add_one, hx]; simp
        rw [← List.map_take, e] at hown'
        have hs1 : w.heap.size ≤ (wr.alloc (.cells #[.int .i64 x.q, .int .i64 x.v, .int .i64 x.p] 24)).heap.size := by simp; omega
        have hbel' := ((hbel.alloc hsz (.cells #[.int .i64 x.q, .int .i64 x.v, .int .i64 x.p] 24)).alloc hs1 _).trans hb1
        clear T hb1 e
        have hx := Lib.hid hx
        go_wp2
        go_roundw
        case rel => exact ⟨j + 1, by omega, by go_num, hown', hbel'⟩
        case measure => simp [intOf]; omega
    · have ej : j = l.length := by omega
      subst ej
      have hge : ¬ ((l.length : Int) < (l.length : Int)) := by omega
      rw [List.take_length] at T
      obtain ⟨l0, cp, rfl, hrow⟩ := T.row (swing_all hok)
      clear T
      rcases sumE_or (l.map swing) with h1 | h1
      all_goals
        go_wp2_with (first | (go_at_call 39; refine (money_Sum _ _ _ _ _ hrow).mono ?_; rintro e w' ⟨rfl, rfl⟩))
        go_ret
        exact ⟨ret_bool (by simp [h1]), hbel⟩
end Go.Proofs.Ytgahhifedgmicaa
