/-
  The document's Same.
-/
import Derived.Test.YtgahhifedgmicaaFifo6
import Derived.Deep.RegionHeld3
set_option linter.unusedVariables false
set_option linter.unusedSimpArgs false
namespace Go.Proofs.Ytgahhifedgmicaa
open Go.RowKit

deriving instance DecidableEq for Lay

theorem ref_SameLayer' (x y : Lay) (w : World) :
    Calls Try.prog 16 #[x.val, y.val] w fun e w' => e = .returned (.bool (decide (x = y))) ∧ Below w.heap.size w w' :=
  (ref_SameLayer x y w).mono fun e w' h => ⟨by rw [h.1]; exact ret_bool (by cases x; cases y; rw [Bool.eq_iff_iff]; simp [Lay.mk.injEq, and_assoc]), h.2⟩

set_option maxHeartbeats 1000000 in
theorem ref_Same (a b : Option Addr) (ca cb : Nat) (l m : List Lay) (w : World) (h : Row w 3 a l.length ca (flat l)) (k : Row w 3 b m.length cb (flat m)) :
    Calls Try.prog 15 #[.slice a l.length ca, .slice b m.length cb] w fun e w' => e = .returned (.bool (decide (l = m))) ∧ Below w.heap.size w w' := by
  obtain ⟨hl, hcap, hmax, hall, hat⟩ := h
  obtain ⟨kl, kcap, kmax, kall, kat⟩ := k
  unfold maxLen at hmax kmax
  go_enter Try.func15, Try.ntmps15
  by_cases hlen0 : l.length = m.length
  · have hlen := Lib.hid hlen0
    have hlen' : ((l.length : Int) == (m.length : Int)) = true := by simp [hlen0]
    have hlenb : ((l.length : Int) != (m.length : Int)) = false := by simp [hlen0]
    clear hlen' hlen0
    go_wp2_with fail
    go_loopw [5] (fun i wr => ∃ (j : Nat), j ≤ l.length ∧ i = .int .i64 j ∧ l.take j = m.take j ∧ Below w.heap.size w wr) (fun i _ => l.length - (intOf i).toNat)
    case atStart => exact ⟨0, by omega, rfl, rfl, by (repeat (first | assumption | exact Below.refl _ _ | refine ballc ?_ _ | refine bdrew ?_ | refine bdrewN ?_ _ | refine bset ?_ _ _ | refine bsetN ?_ (by omega) _ _ | refine bthen ?_ (by assumption)))⟩
    case round =>
      obtain ⟨j, hj, rfl, T, hbel⟩ := hrel
      have hsz := hbel.size
      have hlen0 : l.length = m.length := hlen
      by_cases hlt : j < l.length
      · obtain ⟨p, off, rfl, hb, hc⟩ : ∃ b off, a = some ⟨b, off, none⟩ ∧ b < w.heap.size ∧ CellsAt w b off (flat l) := by
          rcases hat with h0 | h0
          · omega
          · exact h0
        obtain ⟨p', off', rfl, hb', hc'⟩ : ∃ p off, b = some ⟨p, off, none⟩ ∧ p < w.heap.size ∧ CellsAt w p off (flat m) := by
          rcases kat with h0 | h0
          · omega
          · exact h0
        obtain ⟨x, hx⟩ : ∃ x, l[j]? = some x := ⟨l[j], by simp [hlt]⟩
        obtain ⟨y, hy⟩ : ∃ x, m[j]? = some x := ⟨m[j]'(by omega), by simp [show j < m.length by omega]⟩
        obtain ⟨c0, c1, c2⟩ := lay_cells hc hx hb hbel
        obtain ⟨d0, d1, d2⟩ := lay_cells hc' hy hb' hbel
        have hlt' : (j : Int) < (l.length : Int) := by omega
        have hlt2 : (j : Int) < (m.length : Int) := by omega
        have hj0 : (0 : Int) ≤ (j : Int) := by omega
        clear hlen0 hlenb
        have hx := Lib.hid hx
        have hy := Lib.hid hy
        have T := Lib.hid T
        clear hc hat hc' kat
        go_wp2_with fail
        go_region_held3 (fun w' => w'.cell? ⟨p, off + j * 3, none⟩ = some (.int .i64 x.q) ∧ w'.cell? ⟨p, off + j * 3 + 1, none⟩ = some (.int .i64 x.v) ∧ w'.cell? ⟨p, off + j * 3 + 2, none⟩ = some (.int .i64 x.p) ∧ w'.cell? ⟨p', off' + j * 3, none⟩ = some (.int .i64 y.q) ∧ w'.cell? ⟨p', off' + j * 3 + 1, none⟩ = some (.int .i64 y.v) ∧ w'.cell? ⟨p', off' + j * 3 + 2, none⟩ = some (.int .i64 y.p)) (first | exact ⟨c0, c1, c2, d0, d1, d2⟩ | exact ⟨(hw1.cell (by simp; omega)).trans c0, (hw1.cell (by simp; omega)).trans c1, (hw1.cell (by simp; omega)).trans c2, (hw1.cell (by simp; omega)).trans d0, (hw1.cell (by simp; omega)).trans d1, (hw1.cell (by simp; omega)).trans d2⟩) ((go_at_call 16; refine (ref_SameLayer' x y _).mono ?_; rintro e w' ⟨rfl, hw1⟩))
        have hbel' : Below w.heap.size w w' := by (repeat (first | assumption | exact Below.refl _ _ | refine ballc ?_ _ | refine bdrew ?_ | refine bdrewN ?_ _ | refine bset ?_ _ _ | refine bsetN ?_ (by omega) _ _ | refine bthen ?_ (by assumption)))
        have hx := hx.out
        have hy := hy.out
        have T := T.out
        have hlen0 : l.length = m.length := hlen
        clear c0 c1 c2 d0 d1 d2 hw1 hbel
        by_cases e : x = y
        · subst e
          simp only [decide_true]
          have T2 : l.take (j + 1) = m.take (j + 1) := by rw [List.take_add_one, List.take_add_one, hx, hy, T]
          clear hx hy T hlen0
          have T2 := Lib.hid T2
          go_wp2
          go_roundw
          case rel => exact ⟨j + 1, by omega, by go_num, T2, hbel'⟩
          case measure => simp [intOf]; omega
        · have hd : decide (x = y) = false := by simp [e]
          have hne : ¬ l = m := by
            intro hh; subst hh
            rw [hx] at hy
            exact e (Option.some.inj hy)
          rw [hd]
          clear hx hy T hlen0 hd
          go_wp2
          go_ret
          exact ⟨ret_bool (by simp [hne]), hbel'⟩
      · have ej : j = l.length := by omega
        have e : l = m := by
          have := T
          rw [ej, List.take_length, hlen0, List.take_length] at this
          exact this
        subst e
        clear hlen0 T hlen hlenb hat kat
        subst ej
        have hge : ¬ ((l.length : Int) < (l.length : Int)) := by omega
        go_wp2_with fail
        go_ret
        exact ⟨ret_bool (by simp), by (repeat (first | assumption | exact Below.refl _ _ | refine ballc ?_ _ | refine bdrew ?_ | refine bdrewN ?_ _ | refine bset ?_ _ _ | refine bsetN ?_ (by omega) _ _ | refine bthen ?_ (by assumption)))⟩
  · have hlenb : ((l.length : Int) != (m.length : Int)) = true := by simp; omega
    have hne : ¬ l = m := fun e => hlen0 (by rw [e])
    clear hat kat
    go_wp2_with fail
    go_ret
    exact ⟨ret_bool (by simp [hne]), by (repeat (first | assumption | exact Below.refl _ _ | refine ballc ?_ _ | refine bdrew ?_ | refine bdrewN ?_ _ | refine bset ?_ _ _ | refine bsetN ?_ (by omega) _ _ | refine bthen ?_ (by assumption)))⟩
end Go.Proofs.Ytgahhifedgmicaa
