/-
  Standard cost: a rate, what so many are worth; what In, Out and Revalue answer.
-/
import Derived.Test.YtgahhifedgmicaaMavgLaw4
set_option linter.unusedVariables false
set_option linter.unusedSimpArgs false
namespace Go.Proofs.Ytgahhifedgmicaa
open Go.RowKit

def fitsR (r : Int) : Bool := decide (0 ≤ r) && decide (r ≤ 1073741824)
def ofV (r q : Int) : Int := mdQ (max q 0) r 1
def ofE (r q : Int) : Int := mdE (max q 0) r 1
theorem fitsR_iff {r : Int} : fitsR r = true ↔ 0 ≤ r ∧ r ≤ 1073741824 := by simp [fitsR]
theorem of_ok {r q : Int} (hr : fitsR r = true) (hq : 0 ≤ q) (h : q * r ≤ 288230376151711744) : ofV r q = q * r ∧ ofE r q = 0 := by
  have hr := fitsR_iff.1 hr
  have e : max q 0 = q := by omega
  simp only [ofV, ofE, mdQ, mdE, e, Int.ediv_one]
  rw [if_neg (by omega), if_neg (by omega), if_neg (by omega), if_neg (by omega)]
  exact ⟨rfl, rfl⟩
theorem of_bd {r q : Int} (hr : fitsR r = true) : 0 ≤ ofV r q ∧ ofV r q ≤ 288230376151711744 ∧ (ofE r q = 0 ∨ ofE r q = 2) := by
  have hr := fitsR_iff.1 hr
  have := Int.mul_nonneg (show 0 ≤ max q 0 by omega) hr.1
  simp only [ofV, ofE, mdQ, mdE, Int.ediv_one]
  have hneg : ¬ (max q 0 < 0 ∨ r < 0 ∨ (1 : Int) < 1) := by omega
  simp only [if_neg hneg]
  by_cases h : max q 0 * r > 288230376151711744
  · simp only [if_pos h]; exact ⟨by omega, by omega, .inr trivial⟩
  · simp only [if_neg h]; exact ⟨this, by omega, .inl trivial⟩

/-- What stdcost.In answers. -/
def inC (l : List Lay) (x : Lay) (c : Int) : List Lay × Int × Int :=
  if fitsR c = false ∨ x.q < 1 ∨ x.v < 0 then (l, 0, 1) else if ofE c x.q ≠ 0 ∨ 288230376151711744 < x.v then (l, 0, 2) else
    if (inM l ⟨x.q, ofV c x.q, x.p⟩).2 = 0 then ((inM l ⟨x.q, ofV c x.q, x.p⟩).1, x.v - ofV c x.q, 0) else (l, 0, (inM l ⟨x.q, ofV c x.q, x.p⟩).2)
/-- What stdcost.Revalue answers. -/
def revC (l : List Lay) (c : Int) : List Lay × Int × Int :=
  if fitsR c = false then (l, 0, 1) else match l with
    | [] => ([], 0, 0)
    | z :: t => if ofE c z.q ≠ 0 then (z :: t, 0, ofE c z.q) else (⟨z.q, ofV c z.q, z.p⟩ :: t, ofV c z.q - z.v, 0)
/-- What stdcost.Out answers. -/
def outC (l : List Lay) (q c : Int) : List Lay × Lay × Int :=
  if fitsR c = false then (l, .zero, 1) else match outS l q with
    | ([], y, e) => ([], y, e)
    | (z :: t, y, e) => if e ≠ 0 then (z :: t, y, e) else
      let v := if ofE c q ≠ 0 ∨ z.v + y.v < ofV c q then z.v + y.v else ofV c q
      (⟨z.q, z.v + (y.v - v), z.p⟩ :: t, ⟨y.q, v, y.p⟩, 0)

theorem std_fits (r : Int) (w : World) : Calls Try.prog 29 #[.int .i64 r] w fun e w' => e = .returned (.bool (fitsR r)) ∧ w = w' := by
  by_cases h0 : 0 ≤ r
  all_goals
    by_cases h1 : r ≤ 1073741824
    all_goals
      go_enter Try.func29, Try.ntmps29
      go_wp2_with fail
      go_ret
      exact ⟨ret_bool (by simp [fitsR, h0, h1]), rfl⟩
theorem std_of (r q : Int) (w : World) (hr : I64 r) (hq : I64 q) : Calls Try.prog 30 #[.int .i64 r, .int .i64 q] w fun e w' => e = .returned (.tuple #[.int .i64 (ofV r q), .int .i64 (ofE r q)]) ∧ Below w.heap.size w w' := by
  have hm : I64 (max q 0) := by have := hq.1; have := hq.2; exact ⟨by omega, by omega⟩
  go_enter Try.func30, Try.ntmps30
  go_wp2_with fail
  refine (money_MulDiv _ _ _ _ hm hr ⟨by omega, by omega⟩).mono ?_
  rintro e w1 ⟨rfl, hw1⟩
  go_wp2_with fail
  go_ret2
  exact ⟨rfl, by (repeat (first | assumption | exact Below.refl _ _ | refine ballc ?_ _ | refine bdrew ?_ | refine bdrewN ?_ _ | refine bset ?_ _ _ | refine bsetN ?_ (by omega) _ _ | refine bthen ?_ (by assumption)))⟩

theorem revC_len {l : List Lay} {c : Int} : (revC l c).1.length = l.length := by
  unfold revC
  split
  · rfl
  · cases l with
    | nil => rfl
    | cons z t => simp only; split <;> rfl

set_option maxRecDepth 20000 in
set_option maxHeartbeats 1000000 in
theorem std_In (a : Option Addr) (cap : Nat) (l : List Lay) (x : Lay) (c : Int) (w : World) (h : Row w 3 a l.length cap (flat l)) (hn : l.length < 30) (hx : AllI [x.q, x.v, x.p]) (hc : I64 c) :
    Calls Try.prog 19 #[.slice a l.length cap, x.val, .int .i64 c] w fun e w' => ∃ v, e = .returned (.tuple #[v, .int .i64 (inC l x c).2.1, .int .i64 (inC l x c).2.2]) ∧ Hold w' w.heap.size v (inC l x c).1 ∧ Below w.heap.size w w' := by
  have hqI : I64 x.q := ⟨(hx x.q (by simp)).1, (hx x.q (by simp)).2⟩
  generalize hI : inC l x c = r
  have hIh := Lib.hid hI
  clear hI
  unfold Lay.val
  go_enter Try.func19, Try.ntmps19
  try simp only [List.append_eq, List.cons_append, List.nil_append]
  go_wp2_with fail
  refine (Clone_Layer a l.length cap (flat l) _ (h.below (by (repeat (first | assumption | exact Below.refl _ _ | refine ballc ?_ _ | refine bdrew ?_ | refine bdrewN ?_ _ | refine bset ?_ _ _ | refine bsetN ?_ (by omega) _ _ | refine bthen ?_ (by assumption))))) (by omega)).mono ?_
  rintro e w1 ⟨⟨v1, rfl, O1⟩, hw1⟩
  obtain ⟨⟨r0, r1, r2, z0, z1, z2⟩, hl1, hl2, hl3, hl4⟩ := res3 hw1
  have hA : AllI (flat l) := h.all
  have hH := Hold.of_own O1 (show w.heap.size ≤ _ by simp)
  have hH1 := Hold.of_own O1 (show w.heap.size + 1 ≤ _ by simp)
  obtain ⟨a1, c1, rfl, R1⟩ := O1.row hA
  have hfar : l.length = 0 ∨ ∀ ad, a1 = some ad → ad.block ≠ w.heap.size := by
    obtain ⟨a', c', e, -, -, h3⟩ := Hold.of_own O1 (show w.heap.size + 1 ≤ _ by simp)
    cases e
    rcases h3 with h3 | ⟨b, off, rfl, h4, -⟩
    · exact .inl h3
    · right; rintro ad e; cases e; simp only; omega
  have hbel1 : Below w.heap.size w w1 := by (repeat (first | assumption | exact Below.refl _ _ | refine ballc ?_ _ | refine bdrew ?_ | refine bdrewN ?_ _ | refine bset ?_ _ _ | refine bsetN ?_ (by omega) _ _ | refine bthen ?_ (by assumption)))
  clear O1 hw1 hA
  go_wp2_with fail
  refine (std_fits c _).mono ?_
  rintro e w' ⟨rfl, rfl⟩
  by_cases q1 : fitsR c = false ∨ x.q < 1 ∨ x.v < 0
  · have hI : r = (l, 0, 1) := by rw [← hIh.out]; exact if_pos q1
    subst hI
    clear hIh
    cases hf : fitsR c
    · go_wp2_with fail
      go_ret3
      exact ⟨_, rfl, hH, by (repeat (first | assumption | exact Below.refl _ _ | refine ballc ?_ _ | refine bdrew ?_ | refine bdrewN ?_ _ | refine bset ?_ _ _ | refine bsetN ?_ (by omega) _ _ | refine bthen ?_ (by assumption)))⟩
    · by_cases q2 : x.q < 1
      · clear q1
        go_wp2_with fail
        go_ret3
        exact ⟨_, rfl, hH, by (repeat (first | assumption | exact Below.refl _ _ | refine ballc ?_ _ | refine bdrew ?_ | refine bdrewN ?_ _ | refine bset ?_ _ _ | refine bsetN ?_ (by omega) _ _ | refine bthen ?_ (by assumption)))⟩
      · have q3 : x.v < 0 := by rcases q1 with q1 | q1 | q1 <;> simp_all
        clear q1
        go_wp2_with fail
        go_ret3
        exact ⟨_, rfl, hH, by (repeat (first | assumption | exact Below.refl _ _ | refine ballc ?_ _ | refine bdrew ?_ | refine bdrewN ?_ _ | refine bset ?_ _ _ | refine bsetN ?_ (by omega) _ _ | refine bthen ?_ (by assumption)))⟩
  have hf : fitsR c = true := by cases hf : fitsR c <;> simp_all
  have q2 : ¬ x.q < 1 := fun h => q1 (.inr (.inl h))
  have q3 : ¬ x.v < 0 := fun h => q1 (.inr (.inr h))
  have hob := of_bd (q := x.q) hf
  rw [hf]
  go_wp2_with fail
  refine (std_of c x.q _ hc hqI).mono ?_
  rintro e w2 ⟨rfl, hw2⟩
  by_cases q4 : ofE c x.q ≠ 0 ∨ 288230376151711744 < x.v
  · have hI : r = (l, 0, 2) := by rw [← hIh.out, inC, if_neg q1, if_pos q4]
    subst hI
    clear hIh q1
    have X := (Cell3.next (w := w1) (w' := w2) ⟨r0, r1, r2, z0, z1, z2⟩ hl1 hw2).1
    have hH2 := hH.below hw2
    clear r0 r1 r2 z0 z1 z2
    obtain ⟨r0, r1, r2, z0, z1, z2⟩ := X
    by_cases q5 : ofE c x.q = 0
    · have q6 : 288230376151711744 < x.v := by rcases q4 with q4 | q4 <;> simp_all
      clear q4
      go_wp2_with fail
      go_ret3
      exact ⟨_, rfl, hH2, by (repeat (first | assumption | exact Below.refl _ _ | refine ballc ?_ _ | refine bdrew ?_ | refine bdrewN ?_ _ | refine bset ?_ _ _ | refine bsetN ?_ (by omega) _ _ | refine bthen ?_ (by assumption)))⟩
    · clear q4
      go_wp2_with fail
      go_ret3
      exact ⟨_, rfl, hH2, by (repeat (first | assumption | exact Below.refl _ _ | refine ballc ?_ _ | refine bdrew ?_ | refine bdrewN ?_ _ | refine bset ?_ _ _ | refine bsetN ?_ (by omega) _ _ | refine bthen ?_ (by assumption)))⟩
  have q5 : ofE c x.q = 0 := by by_cases h : ofE c x.q = 0 <;> simp_all
  have q6 : ¬ 288230376151711744 < x.v := fun h => q4 (.inr h)
  obtain ⟨m, e2, hM⟩ : ∃ m e2, inM l ⟨x.q, ofV c x.q, x.p⟩ = (m, e2) := ⟨_, _, rfl⟩
  have hr : r = if e2 = 0 then (m, x.v - ofV c x.q, 0) else (l, 0, e2) := by rw [← hIh.out, inC, if_neg q1, if_neg q4, hM]
  clear hIh q1 q4
  have hrh := Lib.hid hr
  clear hr
  have X := (Cell3.next (w := w1) (w' := w2) ⟨r0, r1, r2, z0, z1, z2⟩ hl1 hw2).1
  have hs2 := hw2.size
  have R2 : Row (w2.setCell ⟨w.heap.size, 1, none⟩ (.int .i64 (ofV c x.q))) 3 a1 l.length c1 (flat l) := Row.far (b := w.heap.size) (R1.below hw2) (by simp [World.setCell]) (fun j hj => Below.heap_setCell _ _ _ _ hj) hfar
  clear r0 r1 r2 z0 z1 z2
  obtain ⟨r0, r1, r2, z0, z1, z2⟩ := id X
  obtain ⟨v, hv⟩ : ∃ v, ofV c x.q = v := ⟨_, rfl⟩
  rw [hv] at hob hM hrh R2 ⊢
  clear hv
  have hx2 : AllI [(⟨x.q, v, x.p⟩ : Lay).q, (⟨x.q, v, x.p⟩ : Lay).v, (⟨x.q, v, x.p⟩ : Lay).p] := by
    intro y hy
    simp at hy
    rcases hy with rfl | rfl | rfl
    · exact hx _ (by simp)
    · exact ⟨by omega, by omega⟩
    · exact hx _ (by simp)
  have f1 : IntKind.i64.wrap (x.v - v) = x.v - v := IntWalk.i64_in _ (by omega)
  rw [q5]
  have hMh := Lib.hid hM
  clear hM
  go_wp2_with fail
  refine (mavg_In a1 c1 l ⟨x.q, v, x.p⟩ _ R2 (by omega) hx2).mono ?_
  rw [hMh.out]
  rintro e w3 ⟨v3, rfl, hh, hw3⟩
  have hbel3 : Below w.heap.size w w3 := by (repeat (first | assumption | exact Below.refl _ _ | refine ballc ?_ _ | refine bdrew ?_ | refine bdrewN ?_ _ | refine bset ?_ _ _ | refine bsetN ?_ (by omega) _ _ | refine bthen ?_ (by assumption)))
  have hH3 : Hold w3 w.heap.size (.slice a1 l.length c1) l := (((hH1.below hw2).set (Nat.lt_succ_self _) 1 (.int .i64 v)).below hw3).mono (Nat.le_succ _)
  have hs3 : w.heap.size ≤ (w2.setCell ⟨w.heap.size, 1, none⟩ (.int .i64 v)).heap.size := by simp [World.setCell]; omega
  by_cases he : e2 = 0
  · have hr : r = (m, x.v - v, 0) := by rw [hrh.out, if_pos he]
    subst hr
    subst he
    clear hrh
    go_wp2_with fail
    go_ret3
    exact ⟨_, rfl, hh.mono hs3, hbel3⟩
  · have hr : r = (l, 0, e2) := by rw [hrh.out, if_neg he]
    subst hr
    clear hrh
    go_wp2_with fail
    go_ret3
    exact ⟨_, rfl, hH3, hbel3⟩
end Go.Proofs.Ytgahhifedgmicaa
