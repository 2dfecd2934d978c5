/-
  fifo.In.
-/
import Derived.Test.YtgahhifedgmicaaHold
import Derived.Deep.RegionHeld3
set_option linter.unusedVariables false
set_option linter.unusedSimpArgs false
namespace Go.Proofs.Ytgahhifedgmicaa
open Go.RowKit

theorem OwnI.same {w : World} {base : Nat} {e : TypeId} {k : Nat} {v : Value} {n m : Nat} {zs ys : List Int} (h : OwnI w base e k v n zs) (hn : n = m) (hz : zs = ys) : OwnI w base e k v m ys := by
  subst hn; subst hz; exact h
/-- Layers of the call's own, and an error. -/
def HoldE (w : World) (r : List Lay × Int) (e : Ending) (w' : World) : Prop := ∃ v, e = .returned (.tuple #[v, .int .i64 r.2]) ∧ Hold w' w.heap.size v r.1 ∧ Below w.heap.size w w'

set_option maxRecDepth 20000 in
set_option maxHeartbeats 1000000 in
theorem fifo_In (a : Option Addr) (cap : Nat) (l : List Lay) (x : Lay) (w : World) (h : Row w 3 a l.length cap (flat l)) (hn : l.length ≤ 900) (hx : AllI [x.q, x.v, x.p]) :
    Calls Try.prog 31 #[.slice a l.length cap, x.val] w (HoldE w (inS l x)) := by
  have h0 := h
  obtain ⟨hl, hcap, hmax, hall, hat⟩ := h
  unfold maxLen at hmax
  unfold Lay.val
  go_enter Try.func31, Try.ntmps31
  try simp only [List.append_eq, List.cons_append, List.nil_append]
  by_cases q1 : x.q < 1 ∨ x.v < 0
  · have e : inS l x = (l, 1) := by rw [inS, if_pos q1]
    rw [e]
    have hq : x.q < 1 ∨ ¬ x.q < 1 ∧ x.v < 0 := by omega
    clear q1
    rcases hq with hq | ⟨hq, hv⟩
    all_goals
      go_wp2_with (first | (go_at_call 28; refine (Clone_Layer a l.length cap (flat l) _ (h0.below (by (repeat (first | assumption | exact Below.refl _ _ | refine ballc ?_ _ | refine bdrew ?_ | refine bdrewN ?_ _ | refine bset ?_ _ _ | refine bsetN ?_ (by omega) _ _ | refine bthen ?_ (by assumption))))) (by omega)).mono ?_; rintro e w1 ⟨⟨v1, rfl, hown⟩, hw1⟩; obtain ⟨⟨r0, r1, r2, z0, z1, z2⟩, hlw, hlw1, hlw2, hlw3⟩ := res3 hw1; obtain ⟨a1, c1, rfl, R1⟩ := hown.row hall))
      go_ret2
      exact ⟨_, rfl, Hold.of_own hown (by simp), by (repeat (first | assumption | exact Below.refl _ _ | refine ballc ?_ _ | refine bdrew ?_ | refine bdrewN ?_ _ | refine bset ?_ _ _ | refine bsetN ?_ (by omega) _ _ | refine bthen ?_ (by assumption)))⟩
  have hq : ¬ x.q < 1 := by omega
  have hv : ¬ x.v < 0 := by omega
  by_cases n1 : 30 ≤ l.length
  · have e : inS l x = (l, 6) := by rw [inS, if_neg q1, if_pos n1]
    rw [e]
    have n2 : (30 : Int) ≤ (l.length : Int) := by omega
    clear q1
    go_wp2_with (first | (go_at_call 28; refine (Clone_Layer a l.length cap (flat l) _ (h0.below (by (repeat (first | assumption | exact Below.refl _ _ | refine ballc ?_ _ | refine bdrew ?_ | refine bdrewN ?_ _ | refine bset ?_ _ _ | refine bsetN ?_ (by omega) _ _ | refine bthen ?_ (by assumption))))) (by omega)).mono ?_; rintro e w1 ⟨⟨v1, rfl, hown⟩, hw1⟩; obtain ⟨⟨r0, r1, r2, z0, z1, z2⟩, hlw, hlw1, hlw2, hlw3⟩ := res3 hw1; obtain ⟨a1, c1, rfl, R1⟩ := hown.row hall))
    go_ret2
    exact ⟨_, rfl, Hold.of_own hown (by simp), by (repeat (first | assumption | exact Below.refl _ _ | refine ballc ?_ _ | refine bdrew ?_ | refine bdrewN ?_ _ | refine bset ?_ _ _ | refine bsetN ?_ (by omega) _ _ | refine bthen ?_ (by assumption)))⟩
  have n2 : ¬ (30 : Int) ≤ (l.length : Int) := by omega
  have e : inS l x = if rightL (l ++ [x]) then (l ++ [x], 0) else (l, 2) := by rw [inS, if_neg q1, if_neg n1]
  rw [e]
  clear q1 e
  have hmA : AllI (flat (l ++ [x])) := AllI.snoc hall hx
  have hml := Lib.hid (show l.length + 1 = (l ++ [x]).length by simp)
  have hmf := Lib.hid (show flat l ++ [x.q, x.v, x.p] = flat (l ++ [x]) by simp [flat])
  have hL : (l ++ [x]).length ≤ 1000 := by simp; omega
  generalize l ++ [x] = m at *
  cases hr : rightL m
  all_goals
    simp only [Bool.false_eq_true, if_false, if_true]
    go_wp2_with fail
    go_at_call 28; refine (Clone_Layer a l.length cap (flat l) _ (h0.below (by (repeat (first | assumption | exact Below.refl _ _ | refine ballc ?_ _ | refine bdrew ?_ | refine bdrewN ?_ _ | refine bset ?_ _ _ | refine bsetN ?_ (by omega) _ _ | refine bthen ?_ (by assumption))))) (by omega)).mono ?_; rintro e w1 ⟨⟨v1, rfl, hown⟩, hw1⟩; obtain ⟨⟨r0, r1, r2, z0, z1, z2⟩, hlw, hlw1, hlw2, hlw3⟩ := res3 hw1; obtain ⟨a1, c1, rfl, R1⟩ := hown.row hall
    go_wp2_with fail
    have hws : w.heap.size + 1 ≤ w1.heap.size := hlw
    go_region_held3 (fun w' => w'.cell? ⟨w.heap.size, 0, none⟩ = some (.int .i64 x.q) ∧ w'.cell? ⟨w.heap.size, 1, none⟩ = some (.int .i64 x.v) ∧ w'.cell? ⟨w.heap.size, 2, none⟩ = some (.int .i64 x.p))
      (first | go_keep | exact ⟨(hb3.cell hlw).trans (by go_keep), (hb3.cell hlw).trans (by go_keep), (hb3.cell hlw).trans (by go_keep)⟩ | (go_split_ands; exact ⟨(hw2.cell (by simp; omega)).trans (by assumption), (hw2.cell (by simp; omega)).trans (by assumption), (hw2.cell (by simp; omega)).trans (by assumption)⟩))
      ((first
        | (go_at_call 28; refine (Clone_Layer a1 l.length c1 (flat l) _ (R1.below (by (repeat (first | assumption | exact Below.refl _ _ | refine ballc ?_ _ | refine bdrew ?_ | refine bdrewN ?_ _ | refine bset ?_ _ _ | refine bsetN ?_ (by omega) _ _ | refine bthen ?_ (by assumption))))) (by omega)).mono ?_; rintro e w2 ⟨⟨v2, rfl, hown2⟩, hw2⟩; have hz2 : w1.heap.size ≤ w2.heap.size := (by have := hw2.size; simp at this; omega))
        | (refine step_push (by rfl) _ _ 22 (by rfl) w1.heap.size 24 3 elem_Layer v2 l.length (flat l) (by rfl) ((by first | exact OwnI.mono hown2 (by simp) | exact OwnI.mono (hown2.alloc _) (by simp) | exact hown2 | exact hown2.alloc _)) _ 0 1 [x.q, x.v, x.p] (by rfl) rfl (by first | exact lit3 rfl | exact CellsAt.below (w := (w1.alloc (.cells #[.int .i64 x.q, .int .i64 x.v, .int .i64 x.p] 24)).drew) (lit3 (w := w1) (t := 24) rfl) (by simp) hw2) (by omega) (by first | exact hz2 | exact Nat.le_trans hz2 (by simp)) ?_; intro v3 w3 hown3 hb3)))
    all_goals
      have hbel : Below w.heap.size w w3 := by refine Below.trans ?_ (hb3.mono (by omega)); (repeat (first | assumption | exact Below.refl _ _ | refine ballc ?_ _ | refine bdrew ?_ | refine bdrewN ?_ _ | refine bset ?_ _ _ | refine bsetN ?_ (by omega) _ _ | refine bthen ?_ (by assumption)))
      have hold := (Hold.of_own (base' := w.heap.size) hown (by simp)).below (show Below w1.heap.size w1 w3 by refine Below.trans ?_ hb3; (repeat (first | assumption | exact Below.refl _ _ | refine ballc ?_ _ | refine bdrew ?_ | refine bdrewN ?_ _ | refine bset ?_ _ _ | refine bsetN ?_ (by omega) _ _ | refine bthen ?_ (by assumption))))
      have hown4 := OwnI.same hown3 hml.out hmf.out
      clear hown3 hown2 hb3 hw2
      obtain ⟨a3, c3, rfl, R3⟩ := hown4.row hmA
      go_wp2_with (first | (go_at_call 36; refine (fifo_Right a3 c3 m _ R3 hL).mono ?_; rintro e w4 ⟨rfl, hw4⟩))
      try go_ret2
      first
        | exact ⟨_, rfl, hold.below hw4, by (repeat (first | assumption | exact Below.refl _ _ | refine ballc ?_ _ | refine bdrew ?_ | refine bdrewN ?_ _ | refine bset ?_ _ _ | refine bsetN ?_ (by omega) _ _ | refine bthen ?_ (by assumption)))⟩
        | exact ⟨_, rfl, (Hold.of_own hown4 (by omega)).below hw4, by (repeat (first | assumption | exact Below.refl _ _ | refine ballc ?_ _ | refine bdrew ?_ | refine bdrewN ?_ _ | refine bset ?_ _ _ | refine bsetN ?_ (by omega) _ _ | refine bthen ?_ (by assumption)))⟩
end Go.Proofs.Ytgahhifedgmicaa
