/-
  fifo: wrong, steady, Right; the document's own.
-/
import Derived.Test.YtgahhifedgmicaaFifo1
set_option linter.unusedVariables false
set_option linter.unusedSimpArgs false
namespace Go.Proofs.Ytgahhifedgmicaa
open Go.RowKit

def layOk (x : Lay) : Bool := decide (1 ≤ x.q) && decide (x.q ≤ 288230376151711744) && decide (0 ≤ x.v) && decide (x.v ≤ 288230376151711744) && decide (-288230376151711744 ≤ x.p) && decide (x.p ≤ 288230376151711744)

/-- The cells of one layer. -/
theorem lay_cells {w wr : World} {b off : Nat} {l : List Lay} {j : Nat} {x : Lay} (hc : CellsAt w b off (flat l)) (hx : l[j]? = some x) (hb : b < w.heap.size) (hbel : Below w.heap.size w wr) :
    wr.cell? ⟨b, off + j * 3, none⟩ = some (.int .i64 x.q) ∧ wr.cell? ⟨b, off + j * 3 + 1, none⟩ = some (.int .i64 x.v) ∧ wr.cell? ⟨b, off + j * 3 + 2, none⟩ = some (.int .i64 x.p) := by
  have hg := flat_get l j x hx
  have hfl := flat_len l
  have hj : j < l.length := by
    rcases Nat.lt_or_ge j l.length with h | h
    · exact h
    · rw [List.getElem?_eq_none h] at hx; cases hx
  have hcw : ∀ i, i < (flat l).length → wr.cell? ⟨b, off + i, none⟩ = some (.int .i64 ((flat l).getD i 0)) := fun i hi => by
    rw [hbel.cell (by show b < _; omega)]; exact hc i hi
  refine ⟨by rw [hcw (j * 3) (by omega), hg.1], by rw [Nat.add_assoc, hcw (j * 3 + 1) (by omega), hg.2.1], by rw [Nat.add_assoc, hcw (j * 3 + 2) (by omega), hg.2.2]⟩

theorem all_take {l : List Lay} {j : Nat} {x : Lay} {f : Lay → Bool} (hx : l[j]? = some x) : (l.take (j + 1)).all f = ((l.take j).all f && f x) := by
  rw [List.take_add_one, hx]
  simp

theorem fifo_wrong (x : Lay) (w : World) :
    Calls Try.prog 44 #[x.val] w fun e w' => e = .returned (.bool (!layOk x)) ∧ Below w.heap.size w w' := by
  unfold Lay.val
  go_enter Try.func44, Try.ntmps44
  try simp only [List.append_eq, List.cons_append, List.nil_append]
  go_wp2
  all_goals (go_ret; exact ⟨ret_bool (by rw [Bool.eq_iff_iff]; simp [layOk] <;> omega), by (repeat (first | assumption | exact Below.refl _ _ | refine ballc ?_ _ | refine bdrew ?_ | refine bdrewN ?_ _ | refine bset ?_ _ _ | refine bsetN ?_ (by omega) _ _ | refine bthen ?_ (by assumption)))⟩)

theorem slices_IndexFunc_Layer (a : Option Addr) (cap : Nat) (l : List Lay) (w : World) (h : Row w 3 a l.length cap (flat l)) :
    Calls Try.prog 50 #[.slice a l.length cap, .func (.func 44) #[] #[]] w fun e w' => ∃ i : Int, e = .returned (.int .i64 i) ∧ (decide (0 ≤ i)) = !l.all layOk ∧ Below w.heap.size w w' := by
  go_enter Try.func50, Try.ntmps50
  obtain ⟨hl, hcap, hmax, hall, hat⟩ := h
  unfold maxLen at hmax
  go_wp2
  go_loopw [8] (fun i wr => ∃ j : Nat, j ≤ l.length ∧ i = .int .i64 j ∧ (l.take j).all layOk = true ∧ Below w.heap.size w wr) (fun i _ => l.length - (intOf i).toNat)
  case atStart => exact ⟨0, by omega, rfl, rfl, Below.refl _ _⟩
  case round =>
    obtain ⟨j, hj, rfl, T, hbel⟩ := hrel
    have hsz := hbel.size
    by_cases hlt : j < l.length
    · obtain ⟨b, off, rfl, hb, hc⟩ : ∃ b off, a = some ⟨b, off, none⟩ ∧ b < w.heap.size ∧ CellsAt w b off (flat l) := by
        rcases hat with h0 | h0
        · omega
        · exact h0
      obtain ⟨x, hx⟩ : ∃ x, l[j]? = some x := ⟨l[j], by simp [hlt]⟩
      obtain ⟨c0, c1, c2⟩ := lay_cells hc hx hb hbel
      have hlt' : (j : Int) < (l.length : Int) := by omega
      have hx := Lib.hid hx
      clear hc hat
      go_wp2_with (first | (go_at_call 44; refine (fifo_wrong x _).mono ?_; rintro e w' ⟨rfl, hw1⟩))
      · have hx : l[j]? = some x := hx
        have hno : layOk x = false := by
          rename_i hh
          simpa using hh
        go_ret
        refine ⟨(j : Int), rfl, ?_, by (repeat (first | assumption | exact Below.refl _ _ | refine ballc ?_ _ | refine bdrew ?_ | refine bdrewN ?_ _ | refine bset ?_ _ _ | refine bsetN ?_ (by omega) _ _ | refine bthen ?_ (by assumption)))⟩
        have : l.all layOk = false := List.all_eq_false.2 ⟨x, List.mem_of_getElem? hx, by simp [hno]⟩
        rw [this]
        simp
      case' roundEnd =>
        have hx : l[j]? = some x := hx
        have hno : layOk x = true := by
          rename_i hh
          simpa using hh
        refine ⟨⟨j + 1, hlt, by simp, by rw [all_take hx, T, hno]; rfl, hbel.trans (hw1.mono hsz)⟩, ?_⟩
        simp [intOf]
        omega
    · have ej : j = l.length := by omega
      subst ej
      have hge : ¬ ((l.length : Int) < (l.length : Int)) := by omega
      go_wp2_with fail
      go_ret
      refine ⟨-1, rfl, ?_, by (repeat (first | assumption | exact Below.refl _ _ | refine ballc ?_ _ | refine bdrew ?_ | refine bdrewN ?_ _ | refine bset ?_ _ _ | refine bsetN ?_ (by omega) _ _ | refine bthen ?_ (by assumption)))⟩
      rw [List.take_length] at T
      rw [T]
      rfl

theorem slices_ContainsFunc_Layer (a : Option Addr) (cap : Nat) (l : List Lay) (w : World) (h : Row w 3 a l.length cap (flat l)) :
    Calls Try.prog 43 #[.slice a l.length cap, .func (.func 44) #[] #[]] w fun e w' => e = .returned (.bool (!l.all layOk)) ∧ Below w.heap.size w w' := by
  go_enter Try.func43, Try.ntmps43
  go_wp2_with (first | (go_at_call 50; refine (slices_IndexFunc_Layer a cap l _ h).mono ?_; rintro e w' ⟨i, rfl, hi, hw1⟩))
  go_ret
  exact ⟨rfl, hw1⟩

theorem layOk_iff {x : Lay} : layOk x = true ↔ 1 ≤ x.q ∧ x.q ≤ 288230376151711744 ∧ 0 ≤ x.v ∧ x.v ≤ 288230376151711744 ∧ -288230376151711744 ≤ x.p ∧ x.p ≤ 288230376151711744 := by
  simp [layOk, and_assoc]
def swing (x : Lay) : Int := max x.p (-x.p)
theorem all_at {l : List Lay} {j : Nat} {x : Lay} {f : Lay → Bool} (h : l.all f = true) (hx : l[j]? = some x) : f x = true := List.all_eq_true.1 h x (List.mem_of_getElem? hx)
@[go_sem] theorem Lay.val_eq (x : Lay) : x.val = .agg #[.int .i64 x.q, .int .i64 x.v, .int .i64 x.p] := rfl
@[go_sem] theorem Lay.zero_q : Lay.zero.q = 0 := rfl
@[go_sem] theorem Lay.zero_v : Lay.zero.v = 0 := rfl
@[go_sem] theorem Lay.zero_p : Lay.zero.p = 0 := rfl
end Go.Proofs.Ytgahhifedgmicaa
