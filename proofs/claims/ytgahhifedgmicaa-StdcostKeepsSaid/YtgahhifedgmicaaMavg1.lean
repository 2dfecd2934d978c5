/-
  The moving average: In, Out; the document's own.
-/
import Derived.Test.YtgahhifedgmicaaMavgP
import Derived.Test.YtgahhifedgmicaaFifoLaw3
import Derived.Laws.EntriesVeiled
set_option linter.unusedVariables false
set_option linter.unusedSimpArgs false
namespace Go.Proofs.Ytgahhifedgmicaa
open Go.RowKit

theorem mavg_plain (w : World) :
    Calls Try.prog 25 #[] w fun e w' => e = .returned (.agg #[.func (.func 31) #[] #[], .func (.func 32) #[] #[], .func (.func 33) #[] #[]]) ∧ Below w.heap.size w w' := by
  go_enter Try.func25, Try.ntmps25
  go_wp2
  exact bodyPost_ret (v := .agg #[.func (.func 31) #[] #[], .func (.func 32) #[] #[], .func (.func 33) #[] #[]]) (by simp [results, Try.results25, go_sem]) rfl ⟨rfl, by (repeat (first | assumption | exact Below.refl _ _ | refine ballc ?_ _ | refine bdrew ?_ | refine bdrewN ?_ _ | refine bset ?_ _ _ | refine bsetN ?_ (by omega) _ _ | refine bthen ?_ (by assumption)))⟩

/-- Its three functions. -/
theorem calls_0 (w : World) : (Instr.field 51 (.agg #[.func (.func 31) #[] #[], .func (.func 32) #[] #[], .func (.func 33) #[] #[]]) 0).run Try.prog w = .ok (.func (.func 31) #[] #[]) w := by kernel_rfl
theorem calls_1 (w : World) : (Instr.field 51 (.agg #[.func (.func 31) #[] #[], .func (.func 32) #[] #[], .func (.func 33) #[] #[]]) 1).run Try.prog w = .ok (.func (.func 32) #[] #[]) w := by kernel_rfl
theorem calls_2 (w : World) : (Instr.field 51 (.agg #[.func (.func 31) #[] #[], .func (.func 32) #[] #[], .func (.func 33) #[] #[]]) 2).run Try.prog w = .ok (.func (.func 33) #[] #[]) w := by kernel_rfl
theorem Hold.lit {w : World} {x : Lay} {t base n : Nat} (hn : n = w.heap.size) (hb : base ≤ w.heap.size) : Hold (w.alloc (.cells #[.int .i64 x.q, .int .i64 x.v, .int .i64 x.p] t)) base (.slice (some ⟨n, 0, none⟩) 1 1) [x] := by
  subst hn
  refine ⟨_, 1, rfl, by simp, by unfold maxLen; omega, .inr ⟨_, _, rfl, hb, by simp, CellsAt.new w [x.q, x.v, x.p] t, fun i => by simp⟩⟩

set_option maxRecDepth 20000 in
set_option maxHeartbeats 2000000 in
theorem mavg_In (a : Option Addr) (cap : Nat) (l : List Lay) (x : Lay) (w : World) (h : Row w 3 a l.length cap (flat l)) (hn : l.length ≤ 900) (hx : AllI [x.q, x.v, x.p]) :
    Calls Try.prog 11 #[.slice a l.length cap, x.val] w (HoldE w (inM l x)) := by
  have h0 := h
  obtain ⟨m, e', hI⟩ : ∃ m e', inS l x = (m, e') := ⟨_, _, rfl⟩
  have hM : inM l x = if e' = 0 then ([tot m], 0) else (l, e') := by rw [inM, hI]
  have hno : e' ≠ 0 → m = l := fun hne => by have := inS_no (l := l) (x := x) (by rw [hI]; exact hne); rw [hI] at this; exact this
  have hyes : e' = 0 → LR m ∧ m.length ≤ 1000 := fun he => by
    obtain ⟨e1, e2⟩ := inS_yes (l := l) (x := x) (by rw [hI]; exact he)
    rw [hI] at e1
    simp only at e1
    rw [← e1] at e2
    exact ⟨e2, by have := e2.len; omega⟩
  have hmA : AllI (flat m) := by
    have e1 : (inS l x).1 = m := by rw [hI]
    rw [← e1]
    unfold inS
    split
    · exact h.all
    · split
      · exact h.all
      · split
        · exact AllI.snoc h.all hx
        · exact h.all
  have hIh := Lib.hid hI
  clear hI
  rw [hM]
  clear hM
  unfold Lay.val
  by_cases he : e' = 0
  · subst he
    obtain ⟨hLm, hml⟩ := hyes rfl
    have hT := Lib.hid hLm.tot
    simp only [if_true]
    clear hno hyes
    have hf0 := calls_0
    have hf2 := calls_2
    go_enter Try.func11, Try.ntmps11
    try simp only [List.append_eq, List.cons_append, List.nil_append]
    go_wp2_with fail
    go_region_held3 (fun w' => w'.cell? ⟨w.heap.size, 0, none⟩ = some (.int .i64 x.q) ∧ w'.cell? ⟨w.heap.size, 1, none⟩ = some (.int .i64 x.v) ∧ w'.cell? ⟨w.heap.size, 2, none⟩ = some (.int .i64 x.p))
      (first | go_keep | (go_split_ands; exact ⟨(hw2.cell hlt2).trans (by assumption), (hw2.cell hlt2).trans (by assumption), (hw2.cell hlt2).trans (by assumption)⟩) | (go_split_ands; exact ⟨(hw1.cell (by simp)).trans (by assumption), (hw1.cell (by simp)).trans (by assumption), (hw1.cell (by simp)).trans (by assumption)⟩))
      ((first
        | (go_at_call 25; refine (mavg_plain _).mono ?_; rintro e w1 ⟨rfl, hw1⟩; have hlt2 : w.heap.size < w1.heap.size := (by have := hw1.size; simp at this; omega))
        | (go_at_call 31; refine (fifo_In a cap l x _ (h0.below (by (repeat (first | assumption | exact Below.refl _ _ | refine ballc ?_ _ | refine bdrew ?_ | refine bdrewN ?_ _ | refine bset ?_ _ _ | refine bsetN ?_ (by omega) _ _ | refine bthen ?_ (by assumption))))) hn hx).mono ?_; rw [hIh.out]; rintro e w2 ⟨v2, rfl, hh2, hw2⟩)))
    all_goals
      obtain ⟨a2, c2, rfl, R2⟩ := hh2.row hmA
      have hbel2 : Below w.heap.size w w2 := by (repeat (first | assumption | exact Below.refl _ _ | refine ballc ?_ _ | refine bdrew ?_ | refine bdrewN ?_ _ | refine bset ?_ _ _ | refine bsetN ?_ (by omega) _ _ | refine bthen ?_ (by assumption)))
      clear hh2 hw1 hw2 hf0
      go_wp2_with fail
      refine (mavg_plain _).mono ?_
      rintro e w3 ⟨rfl, hw3⟩
      go_wp2_with fail
      refine (fifo_Total a2 c2 m _ (R2.below (by (repeat (first | assumption | exact Below.refl _ _ | refine ballc ?_ _ | refine bdrew ?_ | refine bdrewN ?_ _ | refine bset ?_ _ _ | refine bsetN ?_ (by omega) _ _ | refine bthen ?_ (by assumption))))) hml).mono ?_
      rw [hT.out.2]
      rintro e w4 ⟨rfl, hw4⟩
      have hbel4 : Below w.heap.size w w4 := by (repeat (first | assumption | exact Below.refl _ _ | refine ballc ?_ _ | refine bdrew ?_ | refine bdrewN ?_ _ | refine bset ?_ _ _ | refine bsetN ?_ (by omega) _ _ | refine bthen ?_ (by assumption)))
      clear hw3 hw4 R2
      go_wp2_with fail
      go_ret2
      exact ⟨_, rfl, Hold.lit (by simp) (by simp; have := hbel4.size; omega), by (repeat (first | assumption | exact Below.refl _ _ | refine ballc ?_ _ | refine bdrew ?_ | refine bdrewN ?_ _ | refine bset ?_ _ _ | refine bsetN ?_ (by omega) _ _ | refine bthen ?_ (by assumption)))⟩
  · obtain rfl : l = m := (hno he).symm
    rw [if_neg he]
    have hd : (e' != 0) = true := by simp [he]
    have hf0 := calls_0
    clear hno hyes
    go_enter Try.func11, Try.ntmps11
    try simp only [List.append_eq, List.cons_append, List.nil_append]
    go_wp2_with fail
    go_region_held3 (fun w' => w'.cell? ⟨w.heap.size, 0, none⟩ = some (.int .i64 x.q) ∧ w'.cell? ⟨w.heap.size, 1, none⟩ = some (.int .i64 x.v) ∧ w'.cell? ⟨w.heap.size, 2, none⟩ = some (.int .i64 x.p))
      (first | go_keep | (go_split_ands; exact ⟨(hw2.cell hlt2).trans (by assumption), (hw2.cell hlt2).trans (by assumption), (hw2.cell hlt2).trans (by assumption)⟩) | (go_split_ands; exact ⟨(hw1.cell (by simp)).trans (by assumption), (hw1.cell (by simp)).trans (by assumption), (hw1.cell (by simp)).trans (by assumption)⟩))
      ((first
        | (go_at_call 25; refine (mavg_plain _).mono ?_; rintro e w1 ⟨rfl, hw1⟩; have hlt2 : w.heap.size < w1.heap.size := (by have := hw1.size; simp at this; omega))
        | (go_at_call 31; refine (fifo_In a cap l x _ (h0.below (by (repeat (first | assumption | exact Below.refl _ _ | refine ballc ?_ _ | refine bdrew ?_ | refine bdrewN ?_ _ | refine bset ?_ _ _ | refine bsetN ?_ (by omega) _ _ | refine bthen ?_ (by assumption))))) hn hx).mono ?_; rw [hIh.out]; rintro e w2 ⟨v2, rfl, hh2, hw2⟩)))
    all_goals
      obtain ⟨a2, c2, rfl, R2⟩ := id (hh2.row hmA)
      have hbel2 : Below w.heap.size w w2 := by (repeat (first | assumption | exact Below.refl _ _ | refine ballc ?_ _ | refine bdrew ?_ | refine bdrewN ?_ _ | refine bset ?_ _ _ | refine bsetN ?_ (by omega) _ _ | refine bthen ?_ (by assumption)))
      have hh3 := hh2.mono (show w.heap.size ≤ _ by first | (simp; done) | (have := hw1.size; simp at this ⊢; omega))
      clear hh2 hw1 hw2 hf0
      go_wp2_with fail
      go_ret2
      exact ⟨_, rfl, hh3, by (repeat (first | assumption | exact Below.refl _ _ | refine ballc ?_ _ | refine bdrew ?_ | refine bdrewN ?_ _ | refine bset ?_ _ _ | refine bsetN ?_ (by omega) _ _ | refine bthen ?_ (by assumption)))⟩
end Go.Proofs.Ytgahhifedgmicaa
