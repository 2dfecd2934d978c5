/-
  The moving average: In, Out; the document's own.
  The moving average: Out; the document's In, Out.
  The moving average: the document's example; two prices mixed. The walks.
  The reference's moving average, with where its slice lies; all that came is what went and what is there. The walk.
  One layer and what came and went. No program in sight.
  The moving average: all that came is what went and what is there. The walk.
-/
import Derived.Test.YtjccjmmbebiegaaFifoB
import Derived.Test.YtjccjmmbebiegaaFifoC
import Derived.Laws.EntriesVeiled
import Derived.StillTailTactics
import Derived.IntWalk

/- Mavg1 -/

set_option linter.unusedVariables false
set_option linter.unusedSimpArgs false
namespace Go.Proofs.Ytjccjmmbebiegaa
open Go.RowKit

theorem mavg_plain (w : World) :
    Calls Try.prog 55 #[] w fun e w' => e = .returned (.agg #[.func (.func 69) #[] #[], .func (.func 70) #[] #[], .func (.func 54) #[] #[]]) ∧ Below w.heap.size w w' := by
  go_enter Try.func55, Try.ntmps55
  go_wp2
  exact bodyPost_ret (v := .agg #[.func (.func 69) #[] #[], .func (.func 70) #[] #[], .func (.func 54) #[] #[]]) (by simp [results, Try.results55, go_sem]) rfl ⟨rfl, by (repeat (first | assumption | exact Below.refl _ _ | refine ballc ?_ _ | refine bdrew ?_ | refine bdrewN ?_ _ | refine bset ?_ _ _ | refine bsetN ?_ (by omega) _ _ | refine bthen ?_ (by assumption)))⟩

/-- Its three functions. -/
theorem calls_0 (w : World) : (Instr.field 80 (.agg #[.func (.func 69) #[] #[], .func (.func 70) #[] #[], .func (.func 54) #[] #[]]) 0).run Try.prog w = .ok (.func (.func 69) #[] #[]) w := by kernel_rfl
theorem calls_1 (w : World) : (Instr.field 80 (.agg #[.func (.func 69) #[] #[], .func (.func 70) #[] #[], .func (.func 54) #[] #[]]) 1).run Try.prog w = .ok (.func (.func 70) #[] #[]) w := by kernel_rfl
theorem calls_2 (w : World) : (Instr.field 80 (.agg #[.func (.func 69) #[] #[], .func (.func 70) #[] #[], .func (.func 54) #[] #[]]) 2).run Try.prog w = .ok (.func (.func 54) #[] #[]) w := by kernel_rfl
theorem Hold.lit {w : World} {x : Lay} {t base n : Nat} (hn : n = w.heap.size) (hb : base ≤ w.heap.size) : Hold (w.alloc (.cells #[.int .i64 x.q, .int .i64 x.v, .int .i64 x.p] t)) base (.slice (some ⟨n, 0, none⟩) 1 1) [x] := by
  subst hn
  refine ⟨_, 1, rfl, by simp, by unfold maxLen; omega, .inr ⟨_, _, rfl, hb, by simp, CellsAt.new w [x.q, x.v, x.p] t, fun i => by simp⟩⟩

set_option maxRecDepth 20000 in
set_option maxHeartbeats 2000000 in
theorem mavg_In (a : Option Addr) (cap : Nat) (l : List Lay) (x : Lay) (w : World) (h : Row w 3 a l.length cap (flat l)) (hn : l.length ≤ 900) (hx : AllI [x.q, x.v, x.p]) :
    Calls Try.prog 27 #[.slice a l.length cap, x.val] w (HoldE w (inM l x)) := by
  have h0 := h
  obtain ⟨m, e', hI⟩ : ∃ m e', inS l x = (m, e') := ⟨_, _, rfl⟩
  have hM : inM l x = if e' = 0 then ([tot m], 0) else (l, e') := by rw [inM, hI]
  have hno : e' ≠ 0 → m = l := fun hne => by have := inS_no (l := l) (x := x) (by rw [hI]; exact hne); rw [hI] at this; exact this
  have hyes : e' = 0 → LR m ∧ m.length ≤ 1000 := fun he => by
    obtain ⟨e1, e2⟩ := inS_yes (l := l) (x := x) (by rw [hI]; exact he)
    rw [hI] at e1
    simp only at e1
    rw [← e1] at e2
    exact ⟨e2, by have := e2.len; omega⟩
  have hmA : AllI (flat m) := by
    have e1 : (inS l x).1 = m := by rw [hI]
    rw [← e1]
    unfold inS
    split
    · exact h.all
    · split
      · exact h.all
      · split
        · exact AllI.snoc h.all hx
        · exact h.all
  have hIh := Lib.hid hI
  clear hI
  rw [hM]
  clear hM
  unfold Lay.val
  by_cases he : e' = 0
  · subst he
    obtain ⟨hLm, hml⟩ := hyes rfl
    have hT := Lib.hid hLm.tot
    simp only [if_true]
    clear hno hyes
    have hf0 := calls_0
    have hf2 := calls_2
    go_enter Try.func27, Try.ntmps27
    try simp only [List.append_eq, List.cons_append, List.nil_append]
    go_wp2_with fail
    go_region_held3 (fun w' => w'.cell? ⟨w.heap.size, 0, none⟩ = some (.int .i64 x.q) ∧ w'.cell? ⟨w.heap.size, 1, none⟩ = some (.int .i64 x.v) ∧ w'.cell? ⟨w.heap.size, 2, none⟩ = some (.int .i64 x.p))
      (first | go_keep | (go_split_ands; exact ⟨(hw2.cell hlt2).trans (by assumption), (hw2.cell hlt2).trans (by assumption), (hw2.cell hlt2).trans (by assumption)⟩) | (go_split_ands; exact ⟨(hw1.cell (by simp)).trans (by assumption), (hw1.cell (by simp)).trans (by assumption), (hw1.cell (by simp)).trans (by assumption)⟩))
      ((first
        | (go_at_call 55; refine (mavg_plain _).mono ?_; rintro e w1 ⟨rfl, hw1⟩; have hlt2 : w.heap.size < w1.heap.size := (by have := hw1.size; simp at this; omega))
        | (go_at_call 69; refine (fifo_In a cap l x _ (h0.below (by (repeat (first | assumption | exact Below.refl _ _ | refine ballc ?_ _ | refine bdrew ?_ | refine bdrewN ?_ _ | refine bset ?_ _ _ | refine bsetN ?_ (by omega) _ _ | refine bthen ?_ (by assumption))))) hn hx).mono ?_; rw [hIh.out]; rintro e w2 ⟨v2, rfl, hh2, hw2⟩)))
    all_goals
      obtain ⟨a2, c2, rfl, R2⟩ := hh2.row hmA
      have hbel2 : Below w.heap.size w w2 := by (repeat (first | assumption | exact Below.refl _ _ | refine ballc ?_ _ | refine bdrew ?_ | refine bdrewN ?_ _ | refine bset ?_ _ _ | refine bsetN ?_ (by omega) _ _ | refine bthen ?_ (by assumption)))
      clear hh2 hw1 hw2 hf0
      go_wp2_with fail
      refine (mavg_plain _).mono ?_
      rintro e w3 ⟨rfl, hw3⟩
      go_wp2_with fail
      refine (fifo_Total a2 c2 m _ (R2.below (by (repeat (first | assumption | exact Below.refl _ _ | refine ballc ?_ _ | refine bdrew ?_ | refine bdrewN ?_ _ | refine bset ?_ _ _ | refine bsetN ?_ (by omega) _ _ | refine bthen ?_ (by assumption))))) hml).mono ?_
      rw [hT.out.2]
      rintro e w4 ⟨rfl, hw4⟩
      have hbel4 : Below w.heap.size w w4 := by (repeat (first | assumption | exact Below.refl _ _ | refine ballc ?_ _ | refine bdrew ?_ | refine bdrewN ?_ _ | refine bset ?_ _ _ | refine bsetN ?_ (by omega) _ _ | refine bthen ?_ (by assumption)))
      clear hw3 hw4 R2
      go_wp2_with fail
      go_ret2
      exact ⟨_, rfl, Hold.lit (by simp) (by simp; have := hbel4.size; omega), by (repeat (first | assumption | exact Below.refl _ _ | refine ballc ?_ _ | refine bdrew ?_ | refine bdrewN ?_ _ | refine bset ?_ _ _ | refine bsetN ?_ (by omega) _ _ | refine bthen ?_ (by assumption)))⟩
  · obtain rfl : l = m := (hno he).symm
    rw [if_neg he]
    have hd : (e' != 0) = true := by simp [he]
    have hf0 := calls_0
    clear hno hyes
    go_enter Try.func27, Try.ntmps27
    try simp only [List.append_eq, List.cons_append, List.nil_append]
    go_wp2_with fail
    go_region_held3 (fun w' => w'.cell? ⟨w.heap.size, 0, none⟩ = some (.int .i64 x.q) ∧ w'.cell? ⟨w.heap.size, 1, none⟩ = some (.int .i64 x.v) ∧ w'.cell? ⟨w.heap.size, 2, none⟩ = some (.int .i64 x.p))
      (first | go_keep | (go_split_ands; exact ⟨(hw2.cell hlt2).trans (by assumption), (hw2.cell hlt2).trans (by assumption), (hw2.cell hlt2).trans (by assumption)⟩) | (go_split_ands; exact ⟨(hw1.cell (by simp)).trans (by assumption), (hw1.cell (by simp)).trans (by assumption), (hw1.cell (by simp)).trans (by assumption)⟩))
      ((first
        | (go_at_call 55; refine (mavg_plain _).mono ?_; rintro e w1 ⟨rfl, hw1⟩; have hlt2 : w.heap.size < w1.heap.size := (by have := hw1.size; simp at this; omega))
        | (go_at_call 69; refine (fifo_In a cap l x _ (h0.below (by (repeat (first | assumption | exact Below.refl _ _ | refine ballc ?_ _ | refine bdrew ?_ | refine bdrewN ?_ _ | refine bset ?_ _ _ | refine bsetN ?_ (by omega) _ _ | refine bthen ?_ (by assumption))))) hn hx).mono ?_; rw [hIh.out]; rintro e w2 ⟨v2, rfl, hh2, hw2⟩)))
    all_goals
      obtain ⟨a2, c2, rfl, R2⟩ := id (hh2.row hmA)
      have hbel2 : Below w.heap.size w w2 := by (repeat (first | assumption | exact Below.refl _ _ | refine ballc ?_ _ | refine bdrew ?_ | refine bdrewN ?_ _ | refine bset ?_ _ _ | refine bsetN ?_ (by omega) _ _ | refine bthen ?_ (by assumption)))
      have hh3 := hh2.mono (show w.heap.size ≤ _ by first | (simp; done) | (have := hw1.size; simp at this ⊢; omega))
      clear hh2 hw1 hw2 hf0
      go_wp2_with fail
      go_ret2
      exact ⟨_, rfl, hh3, by (repeat (first | assumption | exact Below.refl _ _ | refine ballc ?_ _ | refine bdrew ?_ | refine bdrewN ?_ _ | refine bset ?_ _ _ | refine bsetN ?_ (by omega) _ _ | refine bthen ?_ (by assumption)))⟩
end Go.Proofs.Ytjccjmmbebiegaa

/- Mavg2 -/

set_option linter.unusedVariables false
set_option linter.unusedSimpArgs false
namespace Go.Proofs.Ytjccjmmbebiegaa
open Go.RowKit

set_option maxRecDepth 20000 in
set_option maxHeartbeats 1000000 in
theorem mavg_Out (a : Option Addr) (cap : Nat) (l : List Lay) (w : World) (h : Row w 3 a l.length cap (flat l)) (hL : LR l) (q : Int) (hq : I64 q) :
    Calls Try.prog 32 #[.slice a l.length cap, .int .i64 q] w (HoldO w (outS l q)) := by
  have hf1 := calls_1
  obtain ⟨m, y, e', hO⟩ : ∃ m y e', outS l q = (m, y, e') := ⟨_, _, _, rfl⟩
  rw [hO]
  have hOh := Lib.hid hO
  clear hO
  go_enter Try.func32, Try.ntmps32
  go_wp2_with fail
  refine (mavg_plain _).mono ?_
  rintro e w1 ⟨rfl, hw1⟩
  obtain ⟨⟨r0, r1, r2, z0, z1, z2⟩, hl1, hl2, hl3, hl4⟩ := res3 hw1
  go_wp2_with fail
  refine (fifo_Out a cap l _ (h.below (by (repeat (first | assumption | exact Below.refl _ _ | refine ballc ?_ _ | refine bdrew ?_ | refine bdrewN ?_ _ | refine bset ?_ _ _ | refine bsetN ?_ (by omega) _ _ | refine bthen ?_ (by assumption))))) hL q hq).mono ?_
  rw [hOh.out]
  rintro e w2 ⟨v2, rfl, hh, hw2⟩
  obtain ⟨⟨s0, s1, s2, t0, t1, t2⟩, hm1, hm2, hm3, hm4⟩ := Cell3.next ⟨r0, r1, r2, z0, z1, z2⟩ hl1 hw2
  have hh2 := (hh.mono (show w.heap.size + 1 ≤ _ from hl1)).set3 (.int .i64 y.q) (.int .i64 y.v) (.int .i64 y.p)
  have hbel : Below w.heap.size w w2 := by (repeat (first | assumption | exact Below.refl _ _ | refine ballc ?_ _ | refine bdrew ?_ | refine bdrewN ?_ _ | refine bset ?_ _ _ | refine bsetN ?_ (by omega) _ _ | refine bthen ?_ (by assumption)))
  clear r0 r1 r2 z0 z1 z2 hw1 hw2 hh hl1 hl2 hl3 hl4 hf1
  go_wp2_with fail
  exact bodyPost_ret (v := .tuple #[v2, y.val, .int .i64 e']) (by simp [results, Try.results32, go_sem, hm1, s0, s1, s2, t0, t1, t2]) rfl ⟨_, rfl, hh2, by (repeat (first | assumption | exact Below.refl _ _ | refine ballc ?_ _ | refine bdrew ?_ | refine bdrewN ?_ _ | refine bset ?_ _ _ | refine bsetN ?_ (by omega) _ _ | refine bthen ?_ (by assumption)))⟩

theorem Row.far {w w' : World} {k : Nat} {a : Option Addr} {n cap : Nat} {zs : List Int} {b : Nat} (h : Row w k a n cap zs) (hs : w.heap.size ≤ w'.heap.size) (g : ∀ j, j ≠ b → w'.heap[j]? = w.heap[j]?) (ha : n = 0 ∨ ∀ ad, a = some ad → ad.block ≠ b) : Row w' k a n cap zs := by
  refine ⟨h.len, h.le, h.max, h.all, ?_⟩
  rcases h.at_ with h0 | ⟨c, off, rfl, hb, hc⟩
  · exact .inl h0
  · rcases ha with ha | ha
    · exact .inl ha
    · refine .inr ⟨c, off, rfl, Nat.lt_of_lt_of_le hb hs, fun i hi => ?_⟩
      rw [World.cell?_of_block (g c (ha _ rfl))]
      exact hc i hi
theorem outS_zero {l : List Lay} {q : Int} (h : l.length = 0) : (outS l q).1.length = 0 := by
  have := outS_len (l := l) (q := q)
  omega

set_option maxRecDepth 20000 in
set_option maxHeartbeats 1000000 in
theorem ref_Out10 {a : Option Addr} {cap : Nat} {l : List Lay} {w : World} (h : Row w 3 a l.length cap (flat l)) (hL : LR l) {q : Int} (hq : I64 q) {m : List Lay} {y : Lay} {e' : Int} (hO : outS l q = (m, y, e')) :
    Calls Try.prog 45 #[.slice a l.length cap, .int .i64 q] w fun e w' => (∃ a' cap', e = .returned (.tuple #[.slice a' m.length cap', y.val, .int .i64 e']) ∧ Row w' 3 a' m.length cap' (flat m)) ∧ Below w.heap.size w w' := by
  have hOh := Lib.hid hO
  clear hO
  go_enter Try.func45, Try.ntmps45
  go_wp2_with fail
  refine (ref_Out9 a cap l _ (h.below (by (repeat (first | assumption | exact Below.refl _ _ | refine ballc ?_ _ | refine bdrew ?_ | refine bdrewN ?_ _ | refine bset ?_ _ _ | refine bsetN ?_ (by omega) _ _ | refine bthen ?_ (by assumption))))) hL.right q hq).mono ?_
  rw [hOh.out]
  rintro e w1 ⟨v1, rfl, ⟨a1, c1, rfl, R1⟩, hw1, hwh⟩
  obtain ⟨⟨r0, r1, r2, z0, z1, z2⟩, hl1, hl2, hl3, hl4⟩ := res3 hw1
  have hfar : m.length = 0 ∨ ∀ ad, a1 = some ad → ad.block ≠ w.heap.size := by
    by_cases hm : m.length = 0
    · exact .inl hm
    · right
      rintro ad rfl
      rcases hwh ad _ _ rfl with e | hge
      · rcases h.at_ with h0 | ⟨b, off, e2, hb, -⟩
        · exact absurd (by have := outS_zero (q := q) h0; rw [hOh.out] at this; exact this) hm
        · rw [e2] at e
          cases e
          simp only
          omega
      · simp at hge
        omega
  have R2 : Row (((w1.setCell ⟨w.heap.size, 0, none⟩ (.int .i64 y.q)).setCell ⟨w.heap.size, 1, none⟩ (.int .i64 y.v)).setCell ⟨w.heap.size, 2, none⟩ (.int .i64 y.p)) 3 a1 m.length c1 (flat m) := by
    refine Row.far (b := w.heap.size) R1 (by simp [World.setCell]) (fun j hj => ?_) hfar
    rw [Below.heap_setCell _ _ _ _ hj, Below.heap_setCell _ _ _ _ hj, Below.heap_setCell _ _ _ _ hj]
  have hbel : Below w.heap.size w w1 := by (repeat (first | assumption | exact Below.refl _ _ | refine ballc ?_ _ | refine bdrew ?_ | refine bdrewN ?_ _ | refine bset ?_ _ _ | refine bsetN ?_ (by omega) _ _ | refine bthen ?_ (by assumption)))
  clear hw1 R1 hfar hwh
  go_wp2_with fail
  exact bodyPost_ret (v := .tuple #[.slice a1 m.length c1, y.val, .int .i64 e']) (by simp [results, Try.results45, go_sem, hl1, r0, r1, r2, z0, z1, z2]) rfl ⟨⟨a1, c1, rfl, R2⟩, by (repeat (first | assumption | exact Below.refl _ _ | refine ballc ?_ _ | refine bdrew ?_ | refine bdrewN ?_ _ | refine bset ?_ _ _ | refine bsetN ?_ (by omega) _ _ | refine bthen ?_ (by assumption)))⟩

theorem inM_few {l : List Lay} {x : Lay} (hl : l.length < 30) : inM l x = if x.q < 1 ∨ x.v < 0 then (l, 1) else if rightL (l ++ [x]) then ([tot (l ++ [x])], 0) else (l, 2) := by
  unfold inM inS
  by_cases h1 : x.q < 1 ∨ x.v < 0
  · simp [h1]
  · simp only [h1, if_false, if_neg (show ¬ 30 ≤ l.length by omega)]
    split <;> simp

set_option maxRecDepth 20000 in
set_option maxHeartbeats 2000000 in
theorem ref_In10 (a : Option Addr) (cap : Nat) (l : List Lay) (x : Lay) (w : World) (h : Row w 3 a l.length cap (flat l)) (hn : l.length < 30) (hx : AllI [x.q, x.v, x.p]) :
    Calls Try.prog 40 #[.slice a l.length cap, x.val] w (LayE w (inM l x)) := by
  have h0 := h
  obtain ⟨hl, hcap, hmax, hall, hat⟩ := h
  unfold maxLen at hmax
  have hmA : AllI (flat (l ++ [x])) := AllI.snoc hall hx
  have hml := Lib.hid (show l.length + 1 = (l ++ [x]).length by simp)
  have hmf := Lib.hid (show flat l ++ [x.q, x.v, x.p] = flat (l ++ [x]) by simp [flat])
  have hL : (l ++ [x]).length ≤ 1000 := by simp; omega
  have hEo := Lib.hid (inM_few (x := x) hn)
  generalize inM l x = r at *
  generalize l ++ [x] = m at *
  unfold Lay.val
  go_enter Try.func40, Try.ntmps40
  try simp only [List.append_eq, List.cons_append, List.nil_append]
  have hE := hEo.out
  clear hEo
  by_cases q1 : x.q < 1
  · rw [if_pos (.inl q1)] at hE
    subst hE
    go_wp2_with fail
    go_ret2
    exact ⟨_, rfl, ⟨_, _, rfl, h0.below (by (repeat (first | assumption | exact Below.refl _ _ | refine ballc ?_ _ | refine bdrew ?_ | refine bdrewN ?_ _ | refine bset ?_ _ _ | refine bsetN ?_ (by omega) _ _ | refine bthen ?_ (by assumption))))⟩, by (repeat (first | assumption | exact Below.refl _ _ | refine ballc ?_ _ | refine bdrew ?_ | refine bdrewN ?_ _ | refine bset ?_ _ _ | refine bsetN ?_ (by omega) _ _ | refine bthen ?_ (by assumption)))⟩
  by_cases v1 : x.v < 0
  · rw [if_pos (.inr v1)] at hE
    subst hE
    go_wp2_with fail
    go_ret2
    exact ⟨_, rfl, ⟨_, _, rfl, h0.below (by (repeat (first | assumption | exact Below.refl _ _ | refine ballc ?_ _ | refine bdrew ?_ | refine bdrewN ?_ _ | refine bset ?_ _ _ | refine bsetN ?_ (by omega) _ _ | refine bthen ?_ (by assumption))))⟩, by (repeat (first | assumption | exact Below.refl _ _ | refine ballc ?_ _ | refine bdrew ?_ | refine bdrewN ?_ _ | refine bset ?_ _ _ | refine bsetN ?_ (by omega) _ _ | refine bthen ?_ (by assumption)))⟩
  rw [if_neg (by omega)] at hE
  have hEh := Lib.hid hE
  clear hE
  go_wp2_with fail
  go_region_held3 (fun w' => w'.cell? ⟨w.heap.size, 0, none⟩ = some (.int .i64 x.q) ∧ w'.cell? ⟨w.heap.size, 1, none⟩ = some (.int .i64 x.v) ∧ w'.cell? ⟨w.heap.size, 2, none⟩ = some (.int .i64 x.p))
    (first | go_keep | exact ⟨(hb3.cell hlt0).trans (by go_keep), (hb3.cell hlt0).trans (by go_keep), (hb3.cell hlt0).trans (by go_keep)⟩ | (go_split_ands; exact ⟨(hw2.cell (by first | (simp; done) | (simp; omega))).trans (by assumption), (hw2.cell (by first | (simp; done) | (simp; omega))).trans (by assumption), (hw2.cell (by first | (simp; done) | (simp; omega))).trans (by assumption)⟩))
    ((first
      | (refine step_copy (by rfl) _ 23 (by rfl) 32 3 elem_Layer a l.length cap (flat l) (by rfl) (h0.below (by (repeat (first | assumption | exact Below.refl _ _ | refine ballc ?_ _ | refine bdrew ?_ | refine bdrewN ?_ _ | refine bset ?_ _ _ | refine bsetN ?_ (by omega) _ _ | refine bthen ?_ (by assumption))))) (by omega) ?_; intro v2 w2 hown2 hw2; have hz2 : w.heap.size + 1 ≤ w2.heap.size := (by have := hw2.size; simp at this; omega); have hlt0 : w.heap.size < w.heap.size + 1 := Nat.lt_succ_self _)
      | (refine step_push (by rfl) _ _ 23 (by rfl) (w.heap.size + 1) 32 3 elem_Layer v2 l.length (flat l) (by rfl) ((by first | exact OwnI.mono hown2 (by simp) | exact OwnI.mono (hown2.alloc _) (by simp))) _ 0 1 [x.q, x.v, x.p] (by rfl) rfl (by first | exact lit3 rfl | exact CellsAt.below (w := ((w.alloc (.cells #[.int .i64 x.q, .int .i64 x.v, .int .i64 x.p] 32)).alloc (.cells #[.int .i64 x.q, .int .i64 x.v, .int .i64 x.p] 32)).drew) (lit3 (w := w.alloc (.cells #[.int .i64 x.q, .int .i64 x.v, .int .i64 x.p] 32)) (t := 32) (by simp)) (by simp) hw2) (by omega) (by first | exact hz2 | exact Nat.le_trans hz2 (by simp)) ?_; intro v3 w3 hown3 hb3)))
  all_goals
    have hbel : Below w.heap.size w w3 := by refine Below.trans ?_ (hb3.mono (by omega)); (repeat (first | assumption | exact Below.refl _ _ | refine ballc ?_ _ | refine bdrew ?_ | refine bdrewN ?_ _ | refine bset ?_ _ _ | refine bsetN ?_ (by omega) _ _ | refine bthen ?_ (by assumption)))
    have hown4 := OwnI.same hown3 hml.out hmf.out
    have R0 := h0.below hbel
    clear hown3 hown2 hb3 hw2 hat
    obtain ⟨a3, c3, rfl, R3⟩ := hown4.row hmA
    have hE := hEh.out
    clear hEh
    cases hr : rightL m
    · rw [hr] at hE
      simp only [Bool.false_eq_true, if_false] at hE
      subst hE
      go_wp2_with (first | (go_at_call 53; refine (ref_Right9 a3 c3 m _ R3 hL).mono ?_; rintro e w4 ⟨rfl, hw4⟩))
      go_ret2
      exact ⟨_, rfl, ⟨_, _, rfl, R0.below hw4⟩, by (repeat (first | assumption | exact Below.refl _ _ | refine ballc ?_ _ | refine bdrew ?_ | refine bdrewN ?_ _ | refine bset ?_ _ _ | refine bsetN ?_ (by omega) _ _ | refine bthen ?_ (by assumption)))⟩
    · rw [hr] at hE
      simp only [if_true] at hE
      subst hE
      have hT := (LR.of hr).tot.2
      have hth := Lib.hid hT
      clear hT
      have hok := (tot_LR (LR.of hr) (by intro e; have := hml.out; rw [e] at this; simp at this)).ok (tot m) (by simp)
      go_wp2_with fail
      refine (ref_Right9 a3 c3 m _ R3 hL).mono ?_
      rw [hr]
      rintro e w4 ⟨rfl, hw4⟩
      go_wp2_with fail
      refine (ref_Total9 a3 c3 m _ (R3.below hw4)).mono ?_
      rintro e w5 ⟨rfl, hw5⟩
      go_wp2_with fail
      go_ret2
      have hx2 := allI_one hok
      refine ⟨_, rfl, ?_, by (repeat (first | assumption | exact Below.refl _ _ | refine ballc ?_ _ | refine bdrew ?_ | refine bdrewN ?_ _ | refine bset ?_ _ _ | refine bsetN ?_ (by omega) _ _ | refine bthen ?_ (by assumption)))⟩
      have hh := Hold.lit (x := tot m) (w := w5.alloc (.cells #[.int .i64 (tot m).q, .int .i64 (tot m).v, .int .i64 (tot m).p] 32)) (t := 32) (base := 0) (n := w5.heap.size + 1) (by simp) (by omega)
      exact hh.row hx2
end Go.Proofs.Ytjccjmmbebiegaa

/- MavgLaw1 -/

set_option linter.unusedVariables false
set_option linter.unusedSimpArgs false
namespace Go.Proofs.Ytjccjmmbebiegaa
open Go.RowKit

theorem mavg_In_is {a : Option Addr} {cap : Nat} {l : List Lay} {x : Lay} {w : World} (h : Row w 3 a l.length cap (flat l)) (hL : LR l) (hx : AllI [x.q, x.v, x.p]) {m : List Lay} {e' : Int} (hI : inM l x = (m, e')) :
    Calls Try.prog 27 #[.slice a l.length cap, x.val] w fun e w' => (∃ a' cap', e = .returned (.tuple #[.slice a' m.length cap', .int .i64 e']) ∧ Row w' 3 a' m.length cap' (flat m)) ∧ Below w.heap.size w w' := by
  refine (mavg_In a cap l x w h (by have := hL.len; omega) hx).mono ?_
  rintro e w' ⟨v, rfl, hh, hb⟩
  have hm : LR m := by have := inM_LR (x := x) hL; rw [hI] at this; exact this
  rw [hI] at hh ⊢
  obtain ⟨a', cap', rfl, R⟩ := hh.row (flat_ok hm.ok)
  exact ⟨⟨a', cap', rfl, R⟩, hb⟩
theorem mavg_Out_is {a : Option Addr} {cap : Nat} {l : List Lay} {w : World} (h : Row w 3 a l.length cap (flat l)) (hL : LR l) {q : Int} (hq : I64 q) {m : List Lay} {y : Lay} {e' : Int} (hO : outS l q = (m, y, e')) :
    Calls Try.prog 32 #[.slice a l.length cap, .int .i64 q] w fun e w' => (∃ a' cap', e = .returned (.tuple #[.slice a' m.length cap', y.val, .int .i64 e']) ∧ Row w' 3 a' m.length cap' (flat m)) ∧ Below w.heap.size w w' := by
  refine (mavg_Out a cap l w h hL q hq).mono ?_
  rintro e w' ⟨v, rfl, hh, hb⟩
  rw [hO] at hh ⊢
  have hm : LR m := by have := outS_LR (q := q) hL; rw [hO] at this; exact this
  obtain ⟨a', cap', rfl, R⟩ := hh.row (flat_ok hm.ok)
  exact ⟨⟨a', cap', rfl, R⟩, hb⟩
/-- The first layer's cells. -/
theorem Row.first {w : World} {a : Option Addr} {cap : Nat} {x : Lay} {l : List Lay} {n : Nat} (h : Row w 3 a n cap (flat (x :: l))) (hn : 0 < n) :
    ∃ b off, a = some ⟨b, off, none⟩ ∧ b < w.heap.size ∧ w.cell? ⟨b, off, none⟩ = some (.int .i64 x.q) ∧ w.cell? ⟨b, off + 1, none⟩ = some (.int .i64 x.v) ∧ w.cell? ⟨b, off + 2, none⟩ = some (.int .i64 x.p) := by
  rcases h.at_ with h0 | ⟨b, off, e, hb, hc⟩
  · omega
  · exact ⟨b, off, e, hb, hc.head⟩

theorem drew3 {w w2 : World} {b o : Nat} {u v x y z : Value} {t : Nat} (h0 : w2.cell? ⟨b, o, none⟩ = some u) (h1 : w2.cell? ⟨b, o + 1, none⟩ = some v) (hb : b < w2.heap.size) (h : Below w.heap.size w w2) :
    ∃ V : World, { w2.alloc (.cells #[x, y, z] t) with drawn := (w2.alloc (.cells #[x, y, z] t)).drawn + 1 } = V ∧ V.cell? ⟨b, o, none⟩ = some u ∧ V.cell? ⟨b, o + 1, none⟩ = some v ∧ V.cell? ⟨w2.heap.size, 0, none⟩ = some x ∧ V.cell? ⟨w2.heap.size, 1, none⟩ = some y ∧ V.cell? ⟨w2.heap.size, 2, none⟩ = some z ∧ Below w.heap.size w V := by
  refine ⟨_, rfl, (World.cell?_alloc_lt _ _ _ hb).trans h0, (World.cell?_alloc_lt _ _ _ hb).trans h1, (World.cell?_alloc_new _ _ _ 0).trans (by simp), (World.cell?_alloc_new _ _ _ 1).trans (by simp), (World.cell?_alloc_new _ _ _ 2).trans (by simp), ?_⟩
  have := (h.alloc h.size (.cells #[x, y, z] t)).drew
  exact this

end Go.Proofs.Ytjccjmmbebiegaa

/- Mavg3 -/

set_option linter.unusedVariables false
set_option linter.unusedSimpArgs false
namespace Go.Proofs.Ytjccjmmbebiegaa
open Go.RowKit

def LayW (w : World) (a : Option Addr) (r : List Lay × Int) (e : Ending) (w' : World) : Prop := ∃ v, e = .returned (.tuple #[v, .int .i64 r.2]) ∧ LayRow w' v r.1 ∧ Below w.heap.size w w' ∧ Where w a v

set_option maxRecDepth 20000 in
set_option maxHeartbeats 1000000 in
theorem ref_Out10w {a : Option Addr} {cap : Nat} {l : List Lay} {w : World} (h : Row w 3 a l.length cap (flat l)) (hL : LR l) {q : Int} (hq : I64 q) {m : List Lay} {y : Lay} {e' : Int} (hO : outS l q = (m, y, e')) :
    Calls Try.prog 45 #[.slice a l.length cap, .int .i64 q] w fun e w' => (∃ a' cap', e = .returned (.tuple #[.slice a' m.length cap', y.val, .int .i64 e']) ∧ Row w' 3 a' m.length cap' (flat m) ∧ Where w a (.slice a' m.length cap')) ∧ Below w.heap.size w w' := by
  have hOh := Lib.hid hO
  clear hO
  go_enter Try.func45, Try.ntmps45
  go_wp2_with fail
  refine (ref_Out9 a cap l _ (h.below (by (repeat (first | assumption | exact Below.refl _ _ | refine ballc ?_ _ | refine bdrew ?_ | refine bdrewN ?_ _ | refine bset ?_ _ _ | refine bsetN ?_ (by omega) _ _ | refine bthen ?_ (by assumption))))) hL.right q hq).mono ?_
  rw [hOh.out]
  rintro e w1 ⟨v1, rfl, ⟨a1, c1, rfl, R1⟩, hw1, hwh⟩
  obtain ⟨⟨r0, r1, r2, z0, z1, z2⟩, hl1, hl2, hl3, hl4⟩ := res3 hw1
  have hwh2 : Where w a (.slice a1 m.length c1) := fun ad n' c' hv => by
    rcases hwh ad n' c' hv with h | h
    · exact .inl h
    · simp at h; exact .inr (by omega)
  have hfar : m.length = 0 ∨ ∀ ad, a1 = some ad → ad.block ≠ w.heap.size := by
    by_cases hm : m.length = 0
    · exact .inl hm
    · right
      rintro ad rfl
      rcases hwh ad _ _ rfl with e | hge
      · rcases h.at_ with h0 | ⟨b, off, e2, hb, -⟩
        · exact absurd (by have := outS_zero (q := q) h0; rw [hOh.out] at this; exact this) hm
        · rw [e2] at e
          cases e
          simp only
          omega
      · simp at hge
        omega
  have R2 : Row (((w1.setCell ⟨w.heap.size, 0, none⟩ (.int .i64 y.q)).setCell ⟨w.heap.size, 1, none⟩ (.int .i64 y.v)).setCell ⟨w.heap.size, 2, none⟩ (.int .i64 y.p)) 3 a1 m.length c1 (flat m) := by
    refine Row.far (b := w.heap.size) R1 (by simp [World.setCell]) (fun j hj => ?_) hfar
    rw [Below.heap_setCell _ _ _ _ hj, Below.heap_setCell _ _ _ _ hj, Below.heap_setCell _ _ _ _ hj]
  have hbel : Below w.heap.size w w1 := by (repeat (first | assumption | exact Below.refl _ _ | refine ballc ?_ _ | refine bdrew ?_ | refine bdrewN ?_ _ | refine bset ?_ _ _ | refine bsetN ?_ (by omega) _ _ | refine bthen ?_ (by assumption)))
  clear hw1 R1 hfar hwh
  go_wp2_with fail
  exact bodyPost_ret (v := .tuple #[.slice a1 m.length c1, y.val, .int .i64 e']) (by simp [results, Try.results45, go_sem, hl1, r0, r1, r2, z0, z1, z2]) rfl ⟨⟨a1, c1, rfl, R2, hwh2⟩, by (repeat (first | assumption | exact Below.refl _ _ | refine ballc ?_ _ | refine bdrew ?_ | refine bdrewN ?_ _ | refine bset ?_ _ _ | refine bsetN ?_ (by omega) _ _ | refine bthen ?_ (by assumption)))⟩

set_option maxRecDepth 20000 in
set_option maxHeartbeats 2000000 in
theorem ref_In10w (a : Option Addr) (cap : Nat) (l : List Lay) (x : Lay) (w : World) (h : Row w 3 a l.length cap (flat l)) (hn : l.length < 30) (hx : AllI [x.q, x.v, x.p]) :
    Calls Try.prog 40 #[.slice a l.length cap, x.val] w (LayW w a (inM l x)) := by
  have h0 := h
  obtain ⟨hl, hcap, hmax, hall, hat⟩ := h
  unfold maxLen at hmax
  have hmA : AllI (flat (l ++ [x])) := AllI.snoc hall hx
  have hml := Lib.hid (show l.length + 1 = (l ++ [x]).length by simp)
  have hmf := Lib.hid (show flat l ++ [x.q, x.v, x.p] = flat (l ++ [x]) by simp [flat])
  have hL : (l ++ [x]).length ≤ 1000 := by simp; omega
  have hEo := Lib.hid (inM_few (x := x) hn)
  generalize inM l x = r at *
  generalize l ++ [x] = m at *
  unfold Lay.val
  go_enter Try.func40, Try.ntmps40
  try simp only [List.append_eq, List.cons_append, List.nil_append]
  have hE := hEo.out
  clear hEo
  by_cases q1 : x.q < 1
  · rw [if_pos (.inl q1)] at hE
    subst hE
    go_wp2_with fail
    go_ret2
    exact ⟨_, rfl, ⟨_, _, rfl, h0.below (by (repeat (first | assumption | exact Below.refl _ _ | refine ballc ?_ _ | refine bdrew ?_ | refine bdrewN ?_ _ | refine bset ?_ _ _ | refine bsetN ?_ (by omega) _ _ | refine bthen ?_ (by assumption))))⟩, by (repeat (first | assumption | exact Below.refl _ _ | refine ballc ?_ _ | refine bdrew ?_ | refine bdrewN ?_ _ | refine bset ?_ _ _ | refine bsetN ?_ (by omega) _ _ | refine bthen ?_ (by assumption))), Where.same _ _ _ _⟩
  by_cases v1 : x.v < 0
  · rw [if_pos (.inr v1)] at hE
    subst hE
    go_wp2_with fail
    go_ret2
    exact ⟨_, rfl, ⟨_, _, rfl, h0.below (by (repeat (first | assumption | exact Below.refl _ _ | refine ballc ?_ _ | refine bdrew ?_ | refine bdrewN ?_ _ | refine bset ?_ _ _ | refine bsetN ?_ (by omega) _ _ | refine bthen ?_ (by assumption))))⟩, by (repeat (first | assumption | exact Below.refl _ _ | refine ballc ?_ _ | refine bdrew ?_ | refine bdrewN ?_ _ | refine bset ?_ _ _ | refine bsetN ?_ (by omega) _ _ | refine bthen ?_ (by assumption))), Where.same _ _ _ _⟩
  rw [if_neg (by omega)] at hE
  have hEh := Lib.hid hE
  clear hE
  go_wp2_with fail
  go_region_held3 (fun w' => w'.cell? ⟨w.heap.size, 0, none⟩ = some (.int .i64 x.q) ∧ w'.cell? ⟨w.heap.size, 1, none⟩ = some (.int .i64 x.v) ∧ w'.cell? ⟨w.heap.size, 2, none⟩ = some (.int .i64 x.p))
    (first | go_keep | exact ⟨(hb3.cell hlt0).trans (by go_keep), (hb3.cell hlt0).trans (by go_keep), (hb3.cell hlt0).trans (by go_keep)⟩ | (go_split_ands; exact ⟨(hw2.cell (by first | (simp; done) | (simp; omega))).trans (by assumption), (hw2.cell (by first | (simp; done) | (simp; omega))).trans (by assumption), (hw2.cell (by first | (simp; done) | (simp; omega))).trans (by assumption)⟩))
    ((first
      | (refine step_copy (by rfl) _ 23 (by rfl) 32 3 elem_Layer a l.length cap (flat l) (by rfl) (h0.below (by (repeat (first | assumption | exact Below.refl _ _ | refine ballc ?_ _ | refine bdrew ?_ | refine bdrewN ?_ _ | refine bset ?_ _ _ | refine bsetN ?_ (by omega) _ _ | refine bthen ?_ (by assumption))))) (by omega) ?_; intro v2 w2 hown2 hw2; have hz2 : w.heap.size + 1 ≤ w2.heap.size := (by have := hw2.size; simp at this; omega); have hlt0 : w.heap.size < w.heap.size + 1 := Nat.lt_succ_self _)
      | (refine step_push (by rfl) _ _ 23 (by rfl) (w.heap.size + 1) 32 3 elem_Layer v2 l.length (flat l) (by rfl) ((by first | exact OwnI.mono hown2 (by simp) | exact OwnI.mono (hown2.alloc _) (by simp))) _ 0 1 [x.q, x.v, x.p] (by rfl) rfl (by first | exact lit3 rfl | exact CellsAt.below (w := ((w.alloc (.cells #[.int .i64 x.q, .int .i64 x.v, .int .i64 x.p] 32)).alloc (.cells #[.int .i64 x.q, .int .i64 x.v, .int .i64 x.p] 32)).drew) (lit3 (w := w.alloc (.cells #[.int .i64 x.q, .int .i64 x.v, .int .i64 x.p] 32)) (t := 32) (by simp)) (by simp) hw2) (by omega) (by first | exact hz2 | exact Nat.le_trans hz2 (by simp)) ?_; intro v3 w3 hown3 hb3)))
  all_goals
    have hbel : Below w.heap.size w w3 := by refine Below.trans ?_ (hb3.mono (by omega)); (repeat (first | assumption | exact Below.refl _ _ | refine ballc ?_ _ | refine bdrew ?_ | refine bdrewN ?_ _ | refine bset ?_ _ _ | refine bsetN ?_ (by omega) _ _ | refine bthen ?_ (by assumption)))
    have hown4 := OwnI.same hown3 hml.out hmf.out
    have R0 := h0.below hbel
    clear hown3 hown2 hb3 hw2 hat
    obtain ⟨a3, c3, rfl, R3⟩ := hown4.row hmA
    have hE := hEh.out
    clear hEh
    cases hr : rightL m
    · rw [hr] at hE
      simp only [Bool.false_eq_true, if_false] at hE
      subst hE
      go_wp2_with (first | (go_at_call 53; refine (ref_Right9 a3 c3 m _ R3 hL).mono ?_; rintro e w4 ⟨rfl, hw4⟩))
      go_ret2
      exact ⟨_, rfl, ⟨_, _, rfl, R0.below hw4⟩, by (repeat (first | assumption | exact Below.refl _ _ | refine ballc ?_ _ | refine bdrew ?_ | refine bdrewN ?_ _ | refine bset ?_ _ _ | refine bsetN ?_ (by omega) _ _ | refine bthen ?_ (by assumption))), Where.same _ _ _ _⟩
    · rw [hr] at hE
      simp only [if_true] at hE
      subst hE
      have hT := (LR.of hr).tot.2
      have hth := Lib.hid hT
      clear hT
      have hok := (tot_LR (LR.of hr) (by intro e; have := hml.out; rw [e] at this; simp at this)).ok (tot m) (by simp)
      go_wp2_with fail
      refine (ref_Right9 a3 c3 m _ R3 hL).mono ?_
      rw [hr]
      rintro e w4 ⟨rfl, hw4⟩
      go_wp2_with fail
      refine (ref_Total9 a3 c3 m _ (R3.below hw4)).mono ?_
      rintro e w5 ⟨rfl, hw5⟩
      go_wp2_with fail
      go_ret2
      have hx2 := allI_one hok
      have hbel5 : Below w.heap.size w w5 := by (repeat (first | assumption | exact Below.refl _ _ | refine ballc ?_ _ | refine bdrew ?_ | refine bdrewN ?_ _ | refine bset ?_ _ _ | refine bsetN ?_ (by omega) _ _ | refine bthen ?_ (by assumption)))
      refine ⟨_, rfl, ?_, by (repeat (first | assumption | exact Below.refl _ _ | refine ballc ?_ _ | refine bdrew ?_ | refine bdrewN ?_ _ | refine bset ?_ _ _ | refine bsetN ?_ (by omega) _ _ | refine bthen ?_ (by assumption))), fun ad n' c' hv => by cases hv; exact .inr (by have := hbel5.size; simp only; omega)⟩
      have hh := Hold.lit (x := tot m) (w := w5.alloc (.cells #[.int .i64 (tot m).q, .int .i64 (tot m).v, .int .i64 (tot m).p] 32)) (t := 32) (base := 0) (n := w5.heap.size + 1) (by simp) (by omega)
      exact hh.row hx2
end Go.Proofs.Ytjccjmmbebiegaa

/- MavgP3 -/

set_option linter.unusedVariables false
set_option linter.unusedSimpArgs false
namespace Go.Proofs.Ytjccjmmbebiegaa
structure Got (m : List Lay) (j : Int) : Prop where
  lr : LR m
  len : m.length ≤ 1
  q : qs m ≤ 20 * j
  v : vs m ≤ 500 * j
  p : aps m ≤ 100 * j
theorem Got.nil : Got [] 0 := ⟨LR.nil, by simp, by simp [qs], by simp [vs], by simp [aps, absum]⟩
theorem Got.bd {m : List Lay} {j : Int} (h : Got m j) : 0 ≤ qs m ∧ qs m ≤ 20 * j ∧ 0 ≤ vs m ∧ vs m ≤ 500 * j ∧ -(100 * j) ≤ ps m ∧ ps m ≤ 100 * j := by
  have a := qs_pos h.lr.ok
  have b := ps_le m
  have := h.q; have := h.v; have := h.p
  omega
theorem Got.in_ {m : List Lay} {j : Int} (h : Got m j) (hj : j ≤ 100) {x : Lay} (q0 : 1 ≤ x.q) (q1 : x.q ≤ 20) (v0 : 0 ≤ x.v) (v1 : x.v ≤ 499) (p0 : -100 ≤ x.p) (p1 : x.p ≤ 99) :
    inM m x = ([⟨qs m + x.q, vs m + x.v, ps m + x.p⟩], 0) ∧ Got [⟨qs m + x.q, vs m + x.v, ps m + x.p⟩] (j + 1) := by
  have b := h.bd
  have := h.q; have := h.v; have := h.p; have := h.len
  have hk : layOk x = true := layOk_iff.2 ⟨q0, by omega, v0, by omega, by omega, by omega⟩
  have e := inM_ok (h.lr.snoc hk (by omega) (by omega) (by omega) (by omega))
  refine ⟨e, ?_⟩
  have hL := inM_LR (x := x) h.lr
  rw [e] at hL
  exact ⟨hL, by simp, by simp [qs]; simp only [qs] at *; omega, by simp [vs]; simp only [vs] at *; omega, by simp [aps, absum]; simp only [ps, aps, absum] at *; omega⟩
theorem Got.out {m m' : List Lay} {y : Lay} {e' j q : Int} (h : Got m j) (hj : 0 ≤ j) (q0 : 1 ≤ q) (hO : outS m q = (m', y, e')) :
    Got m' (j + 1) ∧ y.q + qs m' = qs m ∧ y.v + vs m' = vs m ∧ y.p + ps m' = ps m := by
  have b := h.bd
  have := h.q; have := h.v; have := h.p; have := h.len
  have hlen := outS_len (l := m) (q := q)
  rw [hO] at hlen
  by_cases hq : q ≤ qs m
  · rw [outS_ok h.lr q0 hq] at hO
    have s := outL_sum m .zero q h.lr (by omega) hq
    have t := outL_LR m .zero q h.lr
    generalize outL m .zero q = r at *
    cases hO
    obtain ⟨s1, s2, s3, s4⟩ := s
    obtain ⟨t0, t1, t2, t3⟩ := t
    simp [Lay.zero] at s1 s3 s4
    exact ⟨⟨t0, by simp only at hlen; omega, by omega, by omega, by omega⟩, by omega, s3, s4⟩
  · rw [outS_short h.lr q0 (by omega)] at hO
    cases hO
    exact ⟨⟨h.lr, h.len, by omega, by omega, by omega⟩, by simp [Lay.zero], by simp [Lay.zero], by simp [Lay.zero]⟩
end Go.Proofs.Ytjccjmmbebiegaa

/- MavgLaw4 -/

set_option linter.unusedVariables false
set_option linter.unusedSimpArgs false
namespace Go.Proofs.Ytjccjmmbebiegaa
open Go.RowKit

theorem Row.set3 {w : World} {k : Nat} {a : Option Addr} {n cap : Nat} {zs : List Int} (h : Row w k a n cap zs) {g : Nat} (off : Nat) (u : Lay) (ha : n = 0 ∨ ∀ ad, a = some ad → ad.block ≠ g) : Row (set3 w g off u) k a n cap zs :=
  Row.far (b := g) h (by rw [set3_size]; exact Nat.le_refl _) (fun j hj => by unfold Go.Proofs.Ytjccjmmbebiegaa.set3; rw [Below.heap_setCell _ _ _ _ hj, Below.heap_setCell _ _ _ _ hj, Below.heap_setCell _ _ _ _ hj]) ha
/-- Its block, if it has any, lies from B on. -/
def From (B n : Nat) (a : Option Addr) : Prop := n = 0 ∨ ∀ ad, a = some ad → B ≤ ad.block
theorem Hold.from_ {w : World} {B : Nat} {a : Option Addr} {n c : Nat} {l : List Lay} (h : Hold w B (.slice a n c) l) : From B n a := by
  obtain ⟨a', cap', e, -, -, h3⟩ := h
  cases e
  rcases h3 with h3 | ⟨b, off, rfl, h4, -⟩
  · exact .inl h3
  · right; rintro ad e; cases e; exact h4
theorem From.mono {B C n : Nat} {a : Option Addr} (h : From B n a) (hc : C ≤ B) : From C n a := h.imp id fun k ad e => Nat.le_trans hc (k ad e)
theorem From.ne {B n g : Nat} {a : Option Addr} (h : From B n a) (hg : g < B) : n = 0 ∨ ∀ ad, a = some ad → ad.block ≠ g := h.imp id fun k ad e => by have := k ad e; omega
theorem Where.from_ {w : World} {a b : Option Addr} {n c B : Nat} (h : Where w a (.slice b n c)) (ha : ∀ ad, a = some ad → B ≤ ad.block) (hB : B ≤ w.heap.size) : ∀ ad, b = some ad → B ≤ ad.block := by
  rintro ad rfl
  rcases h ad n c rfl with e | e
  · exact ha ad e.symm
  · omega

end Go.Proofs.Ytjccjmmbebiegaa