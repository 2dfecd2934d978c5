/-
  Standard cost: a rate, what so many are worth; what In, Out and Revalue answer.
  Standard cost: Revalue and Out.
  The world behind stdcost.Out: its cells.
  Standard cost: Out.
  One layer at one price: what comes and goes. No program in sight.
  Standard cost: one layer at its cost, with more, with less, at another cost. No program in sight.
-/
import Derived.Test.YtjccjmmbebiegaaMavgA
import Derived.RegionTactic
import Derived.ChangeAlike
import Derived.Test.YtjccjmmbebiegaaFifoB

/- Std1 -/

set_option linter.unusedVariables false
set_option linter.unusedSimpArgs false
namespace Go.Proofs.Ytjccjmmbebiegaa
open Go.RowKit

def fitsR (r : Int) : Bool := decide (0 ≤ r) && decide (r ≤ 1073741824)
def ofV (r q : Int) : Int := mdQ (max q 0) r 1
def ofE (r q : Int) : Int := mdE (max q 0) r 1
theorem fitsR_iff {r : Int} : fitsR r = true ↔ 0 ≤ r ∧ r ≤ 1073741824 := by simp [fitsR]
theorem of_ok {r q : Int} (hr : fitsR r = true) (hq : 0 ≤ q) (h : q * r ≤ 288230376151711744) : ofV r q = q * r ∧ ofE r q = 0 := by
  have hr := fitsR_iff.1 hr
  have e : max q 0 = q := by omega
  simp only [ofV, ofE, mdQ, mdE, e, Int.ediv_one]
  rw [if_neg (by omega), if_neg (by omega), if_neg (by omega), if_neg (by omega)]
  exact ⟨rfl, rfl⟩
theorem of_bd {r q : Int} (hr : fitsR r = true) : 0 ≤ ofV r q ∧ ofV r q ≤ 288230376151711744 ∧ (ofE r q = 0 ∨ ofE r q = 2) := by
  have hr := fitsR_iff.1 hr
  have := Int.mul_nonneg (show 0 ≤ max q 0 by omega) hr.1
  simp only [ofV, ofE, mdQ, mdE, Int.ediv_one]
  have hneg : ¬ (max q 0 < 0 ∨ r < 0 ∨ (1 : Int) < 1) := by omega
  simp only [if_neg hneg]
  by_cases h : max q 0 * r > 288230376151711744
  · simp only [if_pos h]; exact ⟨by omega, by omega, .inr trivial⟩
  · simp only [if_neg h]; exact ⟨this, by omega, .inl trivial⟩

/-- What stdcost.In answers. -/
def inC (l : List Lay) (x : Lay) (c : Int) : List Lay × Int × Int :=
  if fitsR c = false ∨ x.q < 1 ∨ x.v < 0 then (l, 0, 1) else if ofE c x.q ≠ 0 ∨ 288230376151711744 < x.v then (l, 0, 2) else
    if (inM l ⟨x.q, ofV c x.q, x.p⟩).2 = 0 then ((inM l ⟨x.q, ofV c x.q, x.p⟩).1, x.v - ofV c x.q, 0) else (l, 0, (inM l ⟨x.q, ofV c x.q, x.p⟩).2)
/-- What stdcost.Revalue answers. -/
def revC (l : List Lay) (c : Int) : List Lay × Int × Int :=
  if fitsR c = false then (l, 0, 1) else match l with
    | [] => ([], 0, 0)
    | z :: t => if ofE c z.q ≠ 0 then (z :: t, 0, ofE c z.q) else (⟨z.q, ofV c z.q, z.p⟩ :: t, ofV c z.q - z.v, 0)
/-- What stdcost.Out answers. -/
def outC (l : List Lay) (q c : Int) : List Lay × Lay × Int :=
  if fitsR c = false then (l, .zero, 1) else match outS l q with
    | ([], y, e) => ([], y, e)
    | (z :: t, y, e) => if e ≠ 0 then (z :: t, y, e) else
      let v := if ofE c q ≠ 0 ∨ z.v + y.v < ofV c q then z.v + y.v else ofV c q
      (⟨z.q, z.v + (y.v - v), z.p⟩ :: t, ⟨y.q, v, y.p⟩, 0)

theorem std_fits (r : Int) (w : World) : Calls Try.prog 103 #[.int .i64 r] w fun e w' => e = .returned (.bool (fitsR r)) ∧ w = w' := by
  by_cases h0 : 0 ≤ r
  all_goals
    by_cases h1 : r ≤ 1073741824
    all_goals
      go_enter Try.func103, Try.ntmps103
      go_wp2_with fail
      go_ret
      exact ⟨ret_bool (by simp [fitsR, h0, h1]), rfl⟩
theorem std_of (r q : Int) (w : World) (hr : I64 r) (hq : I64 q) : Calls Try.prog 104 #[.int .i64 r, .int .i64 q] w fun e w' => e = .returned (.tuple #[.int .i64 (ofV r q), .int .i64 (ofE r q)]) ∧ Below w.heap.size w w' := by
  have hm : I64 (max q 0) := by have := hq.1; have := hq.2; exact ⟨by omega, by omega⟩
  go_enter Try.func104, Try.ntmps104
  go_wp2_with fail
  refine (money_MulDiv _ _ _ _ hm hr ⟨by omega, by omega⟩).mono ?_
  rintro e w1 ⟨rfl, hw1⟩
  go_wp2_with fail
  go_ret2
  exact ⟨rfl, by (repeat (first | assumption | exact Below.refl _ _ | refine ballc ?_ _ | refine bdrew ?_ | refine bdrewN ?_ _ | refine bset ?_ _ _ | refine bsetN ?_ (by omega) _ _ | refine bthen ?_ (by assumption)))⟩

theorem revC_len {l : List Lay} {c : Int} : (revC l c).1.length = l.length := by
  unfold revC
  split
  · rfl
  · cases l with
    | nil => rfl
    | cons z t => simp only; split <;> rfl

set_option maxRecDepth 20000 in
set_option maxHeartbeats 1000000 in
theorem std_In (a : Option Addr) (cap : Nat) (l : List Lay) (x : Lay) (c : Int) (w : World) (h : Row w 3 a l.length cap (flat l)) (hn : l.length < 30) (hx : AllI [x.q, x.v, x.p]) (hc : I64 c) :
    Calls Try.prog 101 #[.slice a l.length cap, x.val, .int .i64 c] w fun e w' => ∃ v, e = .returned (.tuple #[v, .int .i64 (inC l x c).2.1, .int .i64 (inC l x c).2.2]) ∧ Hold w' w.heap.size v (inC l x c).1 ∧ Below w.heap.size w w' := by
  have hqI : I64 x.q := ⟨(hx x.q (by simp)).1, (hx x.q (by simp)).2⟩
  generalize hI : inC l x c = r
  have hIh := Lib.hid hI
  clear hI
  unfold Lay.val
  go_enter Try.func101, Try.ntmps101
  try simp only [List.append_eq, List.cons_append, List.nil_append]
  go_wp2_with fail
  refine (Clone_Layer a l.length cap (flat l) _ (h.below (by (repeat (first | assumption | exact Below.refl _ _ | refine ballc ?_ _ | refine bdrew ?_ | refine bdrewN ?_ _ | refine bset ?_ _ _ | refine bsetN ?_ (by omega) _ _ | refine bthen ?_ (by assumption))))) (by omega)).mono ?_
  rintro e w1 ⟨⟨v1, rfl, O1⟩, hw1⟩
  obtain ⟨⟨r0, r1, r2, z0, z1, z2⟩, hl1, hl2, hl3, hl4⟩ := res3 hw1
  have hA : AllI (flat l) := h.all
  have hH := Hold.of_own O1 (show w.heap.size ≤ _ by simp)
  have hH1 := Hold.of_own O1 (show w.heap.size + 1 ≤ _ by simp)
  obtain ⟨a1, c1, rfl, R1⟩ := O1.row hA
  have hfar : l.length = 0 ∨ ∀ ad, a1 = some ad → ad.block ≠ w.heap.size := by
    obtain ⟨a', c', e, -, -, h3⟩ := Hold.of_own O1 (show w.heap.size + 1 ≤ _ by simp)
    cases e
    rcases h3 with h3 | ⟨b, off, rfl, h4, -⟩
    · exact .inl h3
    · right; rintro ad e; cases e; simp only; omega
  have hbel1 : Below w.heap.size w w1 := by (repeat (first | assumption | exact Below.refl _ _ | refine ballc ?_ _ | refine bdrew ?_ | refine bdrewN ?_ _ | refine bset ?_ _ _ | refine bsetN ?_ (by omega) _ _ | refine bthen ?_ (by assumption)))
  clear O1 hw1 hA
  go_wp2_with fail
  refine (std_fits c _).mono ?_
  rintro e w' ⟨rfl, rfl⟩
  by_cases q1 : fitsR c = false ∨ x.q < 1 ∨ x.v < 0
  · have hI : r = (l, 0, 1) := by rw [← hIh.out]; exact if_pos q1
    subst hI
    clear hIh
    cases hf : fitsR c
    · go_wp2_with fail
      go_ret3
      exact ⟨_, rfl, hH, by (repeat (first | assumption | exact Below.refl _ _ | refine ballc ?_ _ | refine bdrew ?_ | refine bdrewN ?_ _ | refine bset ?_ _ _ | refine bsetN ?_ (by omega) _ _ | refine bthen ?_ (by assumption)))⟩
    · by_cases q2 : x.q < 1
      · clear q1
        go_wp2_with fail
        go_ret3
        exact ⟨_, rfl, hH, by (repeat (first | assumption | exact Below.refl _ _ | refine ballc ?_ _ | refine bdrew ?_ | refine bdrewN ?_ _ | refine bset ?_ _ _ | refine bsetN ?_ (by omega) _ _ | refine bthen ?_ (by assumption)))⟩
      · have q3 : x.v < 0 := by rcases q1 with q1 | q1 | q1 <;> simp_all
        clear q1
        go_wp2_with fail
        go_ret3
        exact ⟨_, rfl, hH, by (repeat (first | assumption | exact Below.refl _ _ | refine ballc ?_ _ | refine bdrew ?_ | refine bdrewN ?_ _ | refine bset ?_ _ _ | refine bsetN ?_ (by omega) _ _ | refine bthen ?_ (by assumption)))⟩
  have hf : fitsR c = true := by cases hf : fitsR c <;> simp_all
  have q2 : ¬ x.q < 1 := fun h => q1 (.inr (.inl h))
  have q3 : ¬ x.v < 0 := fun h => q1 (.inr (.inr h))
  have hob := of_bd (q := x.q) hf
  rw [hf]
  go_wp2_with fail
  refine (std_of c x.q _ hc hqI).mono ?_
  rintro e w2 ⟨rfl, hw2⟩
  by_cases q4 : ofE c x.q ≠ 0 ∨ 288230376151711744 < x.v
  · have hI : r = (l, 0, 2) := by rw [← hIh.out, inC, if_neg q1, if_pos q4]
    subst hI
    clear hIh q1
    have X := (Cell3.next (w := w1) (w' := w2) ⟨r0, r1, r2, z0, z1, z2⟩ hl1 hw2).1
    have hH2 := hH.below hw2
    clear r0 r1 r2 z0 z1 z2
    obtain ⟨r0, r1, r2, z0, z1, z2⟩ := X
    by_cases q5 : ofE c x.q = 0
    · have q6 : 288230376151711744 < x.v := by rcases q4 with q4 | q4 <;> simp_all
      clear q4
      go_wp2_with fail
      go_ret3
      exact ⟨_, rfl, hH2, by (repeat (first | assumption | exact Below.refl _ _ | refine ballc ?_ _ | refine bdrew ?_ | refine bdrewN ?_ _ | refine bset ?_ _ _ | refine bsetN ?_ (by omega) _ _ | refine bthen ?_ (by assumption)))⟩
    · clear q4
      go_wp2_with fail
      go_ret3
      exact ⟨_, rfl, hH2, by (repeat (first | assumption | exact Below.refl _ _ | refine ballc ?_ _ | refine bdrew ?_ | refine bdrewN ?_ _ | refine bset ?_ _ _ | refine bsetN ?_ (by omega) _ _ | refine bthen ?_ (by assumption)))⟩
  have q5 : ofE c x.q = 0 := by by_cases h : ofE c x.q = 0 <;> simp_all
  have q6 : ¬ 288230376151711744 < x.v := fun h => q4 (.inr h)
  obtain ⟨m, e2, hM⟩ : ∃ m e2, inM l ⟨x.q, ofV c x.q, x.p⟩ = (m, e2) := ⟨_, _, rfl⟩
  have hr : r = if e2 = 0 then (m, x.v - ofV c x.q, 0) else (l, 0, e2) := by rw [← hIh.out, inC, if_neg q1, if_neg q4, hM]
  clear hIh q1 q4
  have hrh := Lib.hid hr
  clear hr
  have X := (Cell3.next (w := w1) (w' := w2) ⟨r0, r1, r2, z0, z1, z2⟩ hl1 hw2).1
  have hs2 := hw2.size
  have R2 : Row (w2.setCell ⟨w.heap.size, 1, none⟩ (.int .i64 (ofV c x.q))) 3 a1 l.length c1 (flat l) := Row.far (b := w.heap.size) (R1.below hw2) (by simp [World.setCell]) (fun j hj => Below.heap_setCell _ _ _ _ hj) hfar
  clear r0 r1 r2 z0 z1 z2
  obtain ⟨r0, r1, r2, z0, z1, z2⟩ := id X
  obtain ⟨v, hv⟩ : ∃ v, ofV c x.q = v := ⟨_, rfl⟩
  rw [hv] at hob hM hrh R2 ⊢
  clear hv
  have hx2 : AllI [(⟨x.q, v, x.p⟩ : Lay).q, (⟨x.q, v, x.p⟩ : Lay).v, (⟨x.q, v, x.p⟩ : Lay).p] := by
    intro y hy
    simp at hy
    rcases hy with rfl | rfl | rfl
    · exact hx _ (by simp)
    · exact ⟨by omega, by omega⟩
    · exact hx _ (by simp)
  have f1 : IntKind.i64.wrap (x.v - v) = x.v - v := IntWalk.i64_in _ (by omega)
  rw [q5]
  have hMh := Lib.hid hM
  clear hM
  go_wp2_with fail
  refine (mavg_In a1 c1 l ⟨x.q, v, x.p⟩ _ R2 (by omega) hx2).mono ?_
  rw [hMh.out]
  rintro e w3 ⟨v3, rfl, hh, hw3⟩
  have hbel3 : Below w.heap.size w w3 := by (repeat (first | assumption | exact Below.refl _ _ | refine ballc ?_ _ | refine bdrew ?_ | refine bdrewN ?_ _ | refine bset ?_ _ _ | refine bsetN ?_ (by omega) _ _ | refine bthen ?_ (by assumption)))
  have hH3 : Hold w3 w.heap.size (.slice a1 l.length c1) l := (((hH1.below hw2).set (Nat.lt_succ_self _) 1 (.int .i64 v)).below hw3).mono (Nat.le_succ _)
  have hs3 : w.heap.size ≤ (w2.setCell ⟨w.heap.size, 1, none⟩ (.int .i64 v)).heap.size := by simp [World.setCell]; omega
  by_cases he : e2 = 0
  · have hr : r = (m, x.v - v, 0) := by rw [hrh.out, if_pos he]
    subst hr
    subst he
    clear hrh
    go_wp2_with fail
    go_ret3
    exact ⟨_, rfl, hh.mono hs3, hbel3⟩
  · have hr : r = (l, 0, e2) := by rw [hrh.out, if_neg he]
    subst hr
    clear hrh
    go_wp2_with fail
    go_ret3
    exact ⟨_, rfl, hH3, hbel3⟩
end Go.Proofs.Ytjccjmmbebiegaa

/- Std2 -/

set_option linter.unusedVariables false
set_option linter.unusedSimpArgs false
namespace Go.Proofs.Ytjccjmmbebiegaa
open Go.RowKit

theorem cells_put1 {w : World} {b off : Nat} {x : Lay} {l : List Lay} {v : Int} (h : CellsAt w b off (flat (x :: l))) : CellsAt (w.setCell ⟨b, off + 1, none⟩ (.int .i64 v)) b off (flat (⟨x.q, v, x.p⟩ :: l)) := by
  intro i hi
  have hi' : i < (flat (x :: l)).length := by simpa [flat] using hi
  have k := h i hi'
  by_cases e : i = 1
  · subst e
    rw [World.cell?_setCell_same _ _ _ k]
    simp [flat]
  · rw [World.cell?_setCell_other _ _ _ _ (by intro e2; injection e2; omega), k]
    match i, e with
    | 0, _ => simp [flat]
    | 2, _ => simp [flat]
    | i + 3, _ => simp [flat]

end Go.Proofs.Ytjccjmmbebiegaa

/- Std2e -/

set_option linter.unusedVariables false
set_option linter.unusedSimpArgs false
namespace Go.Proofs.Ytjccjmmbebiegaa
open Go.RowKit
def outW (W : World) (n0 n1 b off : Nat) (u v yq yp : Int) : World :=
  (((((W.setCell ⟨b, off + 1, none⟩ (.int .i64 u)).setCell ⟨n1, 1, none⟩ (.int .i64 v)).setCell ⟨n0, 0, none⟩ (.int .i64 yq)).setCell ⟨n0, 1, none⟩ (.int .i64 v)).setCell ⟨n0, 2, none⟩ (.int .i64 yp))
theorem outW_cells {W : World} {n0 n1 b off : Nat} {u v yq yp : Int} {z : Lay} {t : List Lay} (g1 : b ≠ n1) (g2 : b ≠ n0) (g3 : n1 ≠ n0)
    (h : CellsAt W b off (flat (z :: t))) (x : Cell3 W n0 0 0 0) :
    CellsAt (outW W n0 n1 b off u v yq yp) b off (flat (⟨z.q, u, z.p⟩ :: t)) ∧ Cell3 (outW W n0 n1 b off u v yq yp) n0 yq v yp ∧ (outW W n0 n1 b off u v yq yp).heap.size = W.heap.size ∧ ∀ p, (outW W n0 n1 b off u v yq yp).frozen? p = W.frozen? p := by
  have hfr : ∀ p, (outW W n0 n1 b off u v yq yp).frozen? p = W.frozen? p := fun p => by unfold outW; simp
  have k := cells_put1 (v := u) h
  refine ⟨fun i hi => ?_, ?_, by unfold outW; simp [World.setCell], hfr⟩
  · unfold outW
    rw [World.cell?_put_far _ g2, World.cell?_put_far _ g2, World.cell?_put_far _ g2, World.cell?_put_far _ g1]
    exact k i hi
  · have g2' : n0 ≠ b := fun e => g2 e.symm
    have g3' : n0 ≠ n1 := fun e => g3 e.symm
    have y : Cell3 ((W.setCell ⟨b, off + 1, none⟩ (.int .i64 u)).setCell ⟨n1, 1, none⟩ (.int .i64 v)) n0 0 0 0 := by
      refine ⟨?_, ?_, ?_, ?_, ?_, ?_⟩
      · rw [World.cell?_put_far _ g3', World.cell?_put_far _ g2']; exact x.c0
      · rw [World.cell?_put_far _ g3', World.cell?_put_far _ g2']; exact x.c1
      · rw [World.cell?_put_far _ g3', World.cell?_put_far _ g2']; exact x.c2
      · rw [World.frozen?_put_far _ g3', World.frozen?_put_far _ g2']; exact x.f0
      · rw [World.frozen?_put_far _ g3', World.frozen?_put_far _ g2']; exact x.f1
      · rw [World.frozen?_put_far _ g3', World.frozen?_put_far _ g2']; exact x.f2
    exact y.put ⟨yq, v, yp⟩
end Go.Proofs.Ytjccjmmbebiegaa

/- Std3 -/

set_option linter.unusedVariables false
set_option linter.unusedSimpArgs false
namespace Go.Proofs.Ytjccjmmbebiegaa
open Go.RowKit

theorem outS_sum {l m : List Lay} {y : Lay} {q : Int} (h : LR l) (hO : outS l q = (m, y, 0)) : 0 ≤ y.v ∧ y.v ≤ 288230376151711744 ∧ y.v + vs m = vs l := by
  by_cases h1 : q < 1
  · rw [outS, if_pos h1] at hO; cases hO
  by_cases h2 : q ≤ qs l
  · rw [outS_ok h (by omega) h2] at hO
    have s := (outL_sum l .zero q h (by omega) h2).2.2.1
    have t := outL_LR l .zero q h
    generalize outL l .zero q = r at *
    cases hO
    have a := qs_pos t.1.ok
    have b := h.v
    simp [Lay.zero] at s
    have := t.2.2.1
    omega
  · rw [outS_short h (by omega) (by omega)] at hO; cases hO

set_option maxRecDepth 20000 in
set_option maxHeartbeats 2000000 in
theorem std_Out (a : Option Addr) (cap : Nat) (l : List Lay) (q c : Int) (w : World) (h : Row w 3 a l.length cap (flat l)) (hL : LR l) (hq : I64 q) (hc : I64 c) :
    Calls Try.prog 102 #[.slice a l.length cap, .int .i64 q, .int .i64 c] w (HoldO w (outC l q c)) := by
  generalize hI : outC l q c = r
  have hIh := Lib.hid hI
  clear hI
  have hln := hL.len
  go_enter Try.func102, Try.ntmps102
  try simp only [List.append_eq, List.cons_append, List.nil_append]
  go_wp2_with fail
  refine (std_fits c _).mono ?_
  rintro e w' ⟨rfl, rfl⟩
  cases hf : fitsR c
  · have hI : r = (l, .zero, 1) := by rw [← hIh.out]; simp [outC, hf]
    subst hI
    clear hIh
    go_wp2_with fail
    refine (Clone_Layer a l.length cap (flat l) _ (h.below (by (repeat (first | assumption | exact Below.refl _ _ | refine ballc ?_ _ | refine bdrew ?_ | refine bdrewN ?_ _ | refine bset ?_ _ _ | refine bsetN ?_ (by omega) _ _ | refine bthen ?_ (by assumption))))) (by omega)).mono ?_
    rintro e w1 ⟨⟨v1, rfl, O1⟩, hw1⟩
    obtain ⟨⟨r0, r1, r2, z0, z1, z2⟩, hl1, hl2, hl3, hl4⟩ := res3 hw1
    have hH := (Hold.of_own O1 (show w.heap.size + 1 ≤ _ by simp)).set3 (.int .i64 0) (.int .i64 0) (.int .i64 0)
    have hbel : Below w.heap.size w w1 := by (repeat (first | assumption | exact Below.refl _ _ | refine ballc ?_ _ | refine bdrew ?_ | refine bdrewN ?_ _ | refine bset ?_ _ _ | refine bsetN ?_ (by omega) _ _ | refine bthen ?_ (by assumption)))
    clear O1 hw1
    go_wp2_with fail
    exact bodyPost_ret (v := .tuple #[v1, Lay.zero.val, .int .i64 1]) (by simp [results, Try.results102, go_sem, hl1, r0, r1, r2, z0, z1, z2]) rfl ⟨_, rfl, hH, by (repeat (first | assumption | exact Below.refl _ _ | refine ballc ?_ _ | refine bdrew ?_ | refine bdrewN ?_ _ | refine bset ?_ _ _ | refine bsetN ?_ (by omega) _ _ | refine bthen ?_ (by assumption)))⟩
  obtain ⟨m, y, e', hO⟩ : ∃ m y e', outS l q = (m, y, e') := ⟨_, _, _, rfl⟩
  have hOh := Lib.hid hO
  have hLm : LR m := by have := outS_LR (q := q) hL; rw [hO] at this; exact this
  have hLmh := Lib.hid hLm
  clear hO hLm
  go_wp2_with fail
  refine (mavg_Out a cap l _ (h.below (by (repeat (first | assumption | exact Below.refl _ _ | refine ballc ?_ _ | refine bdrew ?_ | refine bdrewN ?_ _ | refine bset ?_ _ _ | refine bsetN ?_ (by omega) _ _ | refine bthen ?_ (by assumption))))) hL q hq).mono ?_
  rw [hOh.out]
  rintro e w1 ⟨v1, rfl, hh, hw1⟩
  obtain ⟨X, lX, hl2, hl3, hl4⟩ := res3 hw1
  obtain ⟨r0, r1, r2, z0, z1, z2⟩ := id X
  by_cases hend : e' ≠ 0 ∨ m = []
  · have hr : r = (m, y, e') := by
      rw [← hIh.out]
      simp only [outC, hf, hOh.out]
      cases m with
      | nil => simp
      | cons z t => simp at hend; simp [hend]
    subst hr
    clear hIh
    have hH := (hh.mono (show w.heap.size + 1 ≤ _ by simp)).below ((Below.refl w1.heap.size w1).alloc (Nat.le_refl _) (.cells #[.int .i64 y.q, .int .i64 y.v, .int .i64 y.p] 32))
    obtain ⟨a1, c1, rfl, hm1, hm2, hm3⟩ := id hh
    have hbel : Below w.heap.size w w1 := by (repeat (first | assumption | exact Below.refl _ _ | refine ballc ?_ _ | refine bdrew ?_ | refine bdrewN ?_ _ | refine bset ?_ _ _ | refine bsetN ?_ (by omega) _ _ | refine bthen ?_ (by assumption)))
    clear hw1 hh
    have Y := (res3 (Below.refl _ (w1.alloc (.cells #[.int .i64 y.q, .int .i64 y.v, .int .i64 y.p] 32)))).1
    have X2 := Cell3.behind (o := .cells #[.int .i64 y.q, .int .i64 y.v, .int .i64 y.p] 32) X lX (B := w.heap.size + 1) (Nat.lt_succ_self _) (Below.refl _ _)
    have hbel2 := hbel.alloc hbel.size (.cells #[.int .i64 y.q, .int .i64 y.v, .int .i64 y.p] 32)
    have hsz : w.heap.size < (w1.alloc (.cells #[.int .i64 y.q, .int .i64 y.v, .int .i64 y.p] 32)).heap.size := by simp; omega
    have hn1 : w1.heap.size ≠ w.heap.size := by omega
    clear r0 r1 r2 z0 z1 z2 X
    by_cases he : e' = 0
    · have hm : m = [] := by rcases hend with h | h; exact absurd he h; exact h
      subst hm
      subst he
      clear hend
      go_wp2_with fail
      generalize hV : w1.alloc (.cells #[.int .i64 y.q, .int .i64 y.v, .int .i64 y.p] 32) = V at *
      obtain ⟨r0, r1, r2, z0, z1, z2⟩ := X2
      obtain ⟨s0, s1, s2, t0, t1, t2⟩ := Y
      go_region
      all_goals
        have hD : Hold V.drew (w.heap.size + 1) (.slice a1 0 c1) [] := hH
        have hD2 := hD.set3 (.int .i64 y.q) (.int .i64 y.v) (.int .i64 y.p)
        have q0 : V.drew.cell? ⟨w.heap.size, 0, none⟩ = some (.int .i64 0) := r0
        have q1 : V.drew.cell? ⟨w.heap.size, 1, none⟩ = some (.int .i64 0) := r1
        have q2 : V.drew.cell? ⟨w.heap.size, 2, none⟩ = some (.int .i64 0) := r2
        go_wp2_with fail
        exact bodyPost_ret (v := .tuple #[.slice a1 0 c1, y.val, .int .i64 0]) (by simp [results, Try.results102, go_sem, hsz, r0, r1, r2, z0, z1, z2, q0, q1, q2]) rfl ⟨_, rfl, hD2, by (repeat (first | assumption | exact Below.refl _ _ | refine ballc ?_ _ | refine bdrew ?_ | refine bdrewN ?_ _ | refine bset ?_ _ _ | refine bsetN ?_ (by omega) _ _ | refine bthen ?_ (by assumption)))⟩
    · clear hend
      go_wp2_with fail
      generalize hV : w1.alloc (.cells #[.int .i64 y.q, .int .i64 y.v, .int .i64 y.p] 32) = V at *
      obtain ⟨r0, r1, r2, z0, z1, z2⟩ := X2
      obtain ⟨s0, s1, s2, t0, t1, t2⟩ := Y
      go_region
      all_goals
        have hD : Hold V.drew (w.heap.size + 1) (.slice a1 m.length c1) m := hH
        have hD2 := hD.set3 (.int .i64 y.q) (.int .i64 y.v) (.int .i64 y.p)
        have q0 : V.drew.cell? ⟨w.heap.size, 0, none⟩ = some (.int .i64 0) := r0
        have q1 : V.drew.cell? ⟨w.heap.size, 1, none⟩ = some (.int .i64 0) := r1
        have q2 : V.drew.cell? ⟨w.heap.size, 2, none⟩ = some (.int .i64 0) := r2
        go_wp2_with fail
        exact bodyPost_ret (v := .tuple #[.slice a1 m.length c1, y.val, .int .i64 e']) (by simp [results, Try.results102, go_sem, hsz, r0, r1, r2, z0, z1, z2, q0, q1, q2]) rfl ⟨_, rfl, hD2, by (repeat (first | assumption | exact Below.refl _ _ | refine ballc ?_ _ | refine bdrew ?_ | refine bdrewN ?_ _ | refine bset ?_ _ _ | refine bsetN ?_ (by omega) _ _ | refine bthen ?_ (by assumption)))⟩
  have he : e' = 0 := by by_cases h : e' = 0; exact h; exact absurd (.inl h) hend
  subst he
  cases m with
  | nil => exact absurd (.inr rfl) hend
  | cons z t =>
    clear hend
    have hys := outS_sum hL hOh.out
    have hz := hLmh.out.at_ (x := z) (by simp)
    obtain ⟨v, hv⟩ : ∃ v, (if ofE c q ≠ 0 ∨ z.v + y.v < ofV c q then z.v + y.v else ofV c q) = v := ⟨_, rfl⟩
    have hr : r = (⟨z.q, z.v + (y.v - v), z.p⟩ :: t, ⟨y.q, v, y.p⟩, 0) := by
      rw [← hIh.out, ← hv]
      simp [outC, hf, hOh.out]
    subst hr
    clear hIh
    have hob := of_bd (q := q) hf
    have hvb : 0 ≤ v ∧ v ≤ 576460752303423488 := by rw [← hv]; split <;> omega
    obtain ⟨b, off, c1, rfl, hcap, hmax, hb, hb2, hcs, hfz⟩ : ∃ b off c1, v1 = .slice (some ⟨b, off, none⟩) (z :: t).length c1 ∧ (z :: t).length ≤ c1 ∧ c1 ≤ maxLen ∧ w.heap.size + 1 ≤ b ∧ b < w1.heap.size ∧ CellsAt w1 b off (flat (z :: t)) ∧ ∀ i, w1.frozen? ⟨b, i, none⟩ = false := by
      obtain ⟨a', c', e, h1, h2, h3⟩ := hh.mono (show w.heap.size + 1 ≤ _ by simp)
      rcases h3 with h3 | ⟨b, off, rfl, h3, h4, h5, h6⟩
      · simp at h3
      · exact ⟨b, off, c', e, h1, h2, h3, h4, h5, h6⟩
    have hlen : ¬ ((z :: t).length : Int) = 0 := by simp; omega
    have hbel : Below w.heap.size w w1 := by (repeat (first | assumption | exact Below.refl _ _ | refine ballc ?_ _ | refine bdrew ?_ | refine bdrewN ?_ _ | refine bset ?_ _ _ | refine bsetN ?_ (by omega) _ _ | refine bthen ?_ (by assumption)))
    clear hw1 hh
    go_wp2_with fail
    refine (std_of c q _ hc hq).mono ?_
    rintro e w2 ⟨rfl, hw2⟩
    have Y2 := (res3 hw2).1
    have X2 := Cell3.behind X lX (B := (w1.alloc (.cells #[.int .i64 y.q, .int .i64 y.v, .int .i64 y.p] 32)).heap.size) (by simp; omega) hw2
    have hs2 := hw2.size
    simp only [World.size_alloc] at hs2
    have hB2 : Below w1.heap.size w1 w2 := ((Below.refl w1.heap.size w1).alloc (Nat.le_refl _) _).trans (hw2.mono (by simp))
    have k0 := (hB2.cell hb2).trans hcs.head.1
    have k1 := (hB2.cell hb2).trans hcs.head.2.1
    have hfz2 : ∀ i, w2.frozen? ⟨b, i, none⟩ = false := fun i => (hB2.frozen hb2).trans (hfz i)
    have hf1 := hfz2 (off + 1)
    have hcs2 := hcs.below hb2 hB2
    have hbel2 : Below w.heap.size w w2 := hbel.trans (hB2.mono hbel.size)
    have f1 : IntKind.i64.wrap (z.v + y.v) = z.v + y.v := IntWalk.i64_in _ (by omega)
    have f2 : IntKind.i64.wrap (y.v - v) = y.v - v := IntWalk.i64_in _ (by omega)
    have f3 : IntKind.i64.wrap (z.v + (y.v - v)) = z.v + (y.v - v) := IntWalk.i64_in _ (by omega)
    have g1 : b ≠ w1.heap.size := by omega
    have g2 : b ≠ w.heap.size := by omega
    have g3 : w1.heap.size ≠ w.heap.size := by omega
    clear r0 r1 r2 z0 z1 z2 X hw2 hcs hfz hB2
    have hvh := Lib.hid hv
    clear hv
    obtain ⟨r0, r1, r2, z0, z1, z2⟩ := id X2
    obtain ⟨s0, s1, s2, t0, t1, t2⟩ := id Y2
    by_cases he : ofE c q = 0
    · rw [he]
      by_cases hlt : z.v + y.v < ofV c q
      · have hv : z.v + y.v = v := by have := hvh.out; rwa [if_pos (.inr hlt)] at this
        clear hvh
        go_wp2_with fail
        go_quiet (fail)
        go_wp2_with fail
        go_region
        all_goals
          go_wp2_with fail
          go_region
          all_goals
            go_wp2_with fail
            have hE := outW_cells (W := w2.drewN (nq + 1)) (u := z.v + (y.v - v)) (v := v) (yq := y.q) (yp := y.p) g1 g2 g3 hcs2 ⟨X2.c0, X2.c1, X2.c2, X2.f0, X2.f1, X2.f2⟩
            have hbE : Below w.heap.size w (outW (w2.drewN (nq + 1)) w.heap.size w1.heap.size b off (z.v + (y.v - v)) v y.q y.p) := ((((((show Below w.heap.size w (w2.drewN (nq + 1)) from ⟨hbel2.os, hbel2.tape, hbel2.output, hbel2.size, hbel2.block⟩).setCell (p := ⟨b, off + 1, none⟩) (Nat.le_of_succ_le hb) _).setCell (p := ⟨w1.heap.size, 1, none⟩) (Nat.le_of_lt lX) _).setCell (p := ⟨w.heap.size, 0, none⟩) (Nat.le_refl _) _).setCell (p := ⟨w.heap.size, 1, none⟩) (Nat.le_refl _) _).setCell (p := ⟨w.heap.size, 2, none⟩) (Nat.le_refl _) _)
            change bodyPost _ _ _ _ _ (outW (w2.drewN (nq + 1)) w.heap.size w1.heap.size b off (z.v + (y.v - v)) v y.q y.p).drew
            generalize outW (w2.drewN (nq + 1)) w.heap.size w1.heap.size b off (z.v + (y.v - v)) v y.q y.p = E at *
            have hEs : w.heap.size < E.heap.size := by rw [hE.2.2.1]; show w.heap.size < w2.heap.size; omega
            have hEb : b < E.heap.size := by rw [hE.2.2.1]; show b < w2.heap.size; omega
            have hEf : ∀ i, E.frozen? ⟨b, i, none⟩ = false := fun i => (hE.2.2.2 _).trans (hfz2 i)
            have hEc := hE.1
            have q0 : E.drew.cell? ⟨w.heap.size, 0, none⟩ = some (.int .i64 y.q) := hE.2.1.c0
            have q1 : E.drew.cell? ⟨w.heap.size, 1, none⟩ = some (.int .i64 v) := hE.2.1.c1
            have q2 : E.drew.cell? ⟨w.heap.size, 2, none⟩ = some (.int .i64 y.p) := hE.2.1.c2
            have hEs2 : w.heap.size < E.drew.heap.size := hEs
            clear hE
            exact bodyPost_ret (v := .tuple #[.slice (some ⟨b, off, none⟩) (z :: t).length c1, (⟨y.q, v, y.p⟩ : Lay).val, .int .i64 0]) (by simp [results, Try.results102, go_sem, hEs2, q0, q1, q2, Lay.val]) rfl ⟨_, rfl, ⟨_, c1, rfl, hcap, hmax, .inr ⟨b, off, rfl, by omega, hEb, hEc, hEf⟩⟩, hbE.drew⟩
      · have hv : ofV c q = v := by have := hvh.out; rwa [if_neg (by simp [he]; omega)] at this
        clear hvh
        go_wp2_with fail
        go_quiet (fail)
        go_wp2_with fail
        go_region
        all_goals
          go_wp2_with fail
          go_region
          all_goals
            go_wp2_with fail
            have hE := outW_cells (W := w2.drewN (nq + 1)) (u := z.v + (y.v - v)) (v := v) (yq := y.q) (yp := y.p) g1 g2 g3 hcs2 ⟨X2.c0, X2.c1, X2.c2, X2.f0, X2.f1, X2.f2⟩
            have hbE : Below w.heap.size w (outW (w2.drewN (nq + 1)) w.heap.size w1.heap.size b off (z.v + (y.v - v)) v y.q y.p) := ((((((show Below w.heap.size w (w2.drewN (nq + 1)) from ⟨hbel2.os, hbel2.tape, hbel2.output, hbel2.size, hbel2.block⟩).setCell (p := ⟨b, off + 1, none⟩) (Nat.le_of_succ_le hb) _).setCell (p := ⟨w1.heap.size, 1, none⟩) (Nat.le_of_lt lX) _).setCell (p := ⟨w.heap.size, 0, none⟩) (Nat.le_refl _) _).setCell (p := ⟨w.heap.size, 1, none⟩) (Nat.le_refl _) _).setCell (p := ⟨w.heap.size, 2, none⟩) (Nat.le_refl _) _)
            change bodyPost _ _ _ _ _ (outW (w2.drewN (nq + 1)) w.heap.size w1.heap.size b off (z.v + (y.v - v)) v y.q y.p).drew
            generalize outW (w2.drewN (nq + 1)) w.heap.size w1.heap.size b off (z.v + (y.v - v)) v y.q y.p = E at *
            have hEs : w.heap.size < E.heap.size := by rw [hE.2.2.1]; show w.heap.size < w2.heap.size; omega
            have hEb : b < E.heap.size := by rw [hE.2.2.1]; show b < w2.heap.size; omega
            have hEf : ∀ i, E.frozen? ⟨b, i, none⟩ = false := fun i => (hE.2.2.2 _).trans (hfz2 i)
            have hEc := hE.1
            have q0 : E.drew.cell? ⟨w.heap.size, 0, none⟩ = some (.int .i64 y.q) := hE.2.1.c0
            have q1 : E.drew.cell? ⟨w.heap.size, 1, none⟩ = some (.int .i64 v) := hE.2.1.c1
            have q2 : E.drew.cell? ⟨w.heap.size, 2, none⟩ = some (.int .i64 y.p) := hE.2.1.c2
            have hEs2 : w.heap.size < E.drew.heap.size := hEs
            clear hE
            exact bodyPost_ret (v := .tuple #[.slice (some ⟨b, off, none⟩) (z :: t).length c1, (⟨y.q, v, y.p⟩ : Lay).val, .int .i64 0]) (by simp [results, Try.results102, go_sem, hEs2, q0, q1, q2, Lay.val]) rfl ⟨_, rfl, ⟨_, c1, rfl, hcap, hmax, .inr ⟨b, off, rfl, by omega, hEb, hEc, hEf⟩⟩, hbE.drew⟩
    · have hv : z.v + y.v = v := by have := hvh.out; rwa [if_pos (.inl he)] at this
      clear hvh
      · go_wp2_with fail
        go_quiet (fail)
        go_wp2_with fail
        go_region
        all_goals
          go_wp2_with fail
          go_region
          all_goals
            go_wp2_with fail
            have hE := outW_cells (W := w2.drewN (nq + 1)) (u := z.v + (y.v - v)) (v := v) (yq := y.q) (yp := y.p) g1 g2 g3 hcs2 ⟨X2.c0, X2.c1, X2.c2, X2.f0, X2.f1, X2.f2⟩
            have hbE : Below w.heap.size w (outW (w2.drewN (nq + 1)) w.heap.size w1.heap.size b off (z.v + (y.v - v)) v y.q y.p) := ((((((show Below w.heap.size w (w2.drewN (nq + 1)) from ⟨hbel2.os, hbel2.tape, hbel2.output, hbel2.size, hbel2.block⟩).setCell (p := ⟨b, off + 1, none⟩) (Nat.le_of_succ_le hb) _).setCell (p := ⟨w1.heap.size, 1, none⟩) (Nat.le_of_lt lX) _).setCell (p := ⟨w.heap.size, 0, none⟩) (Nat.le_refl _) _).setCell (p := ⟨w.heap.size, 1, none⟩) (Nat.le_refl _) _).setCell (p := ⟨w.heap.size, 2, none⟩) (Nat.le_refl _) _)
            change bodyPost _ _ _ _ _ (outW (w2.drewN (nq + 1)) w.heap.size w1.heap.size b off (z.v + (y.v - v)) v y.q y.p).drew
            generalize outW (w2.drewN (nq + 1)) w.heap.size w1.heap.size b off (z.v + (y.v - v)) v y.q y.p = E at *
            have hEs : w.heap.size < E.heap.size := by rw [hE.2.2.1]; show w.heap.size < w2.heap.size; omega
            have hEb : b < E.heap.size := by rw [hE.2.2.1]; show b < w2.heap.size; omega
            have hEf : ∀ i, E.frozen? ⟨b, i, none⟩ = false := fun i => (hE.2.2.2 _).trans (hfz2 i)
            have hEc := hE.1
            have q0 : E.drew.cell? ⟨w.heap.size, 0, none⟩ = some (.int .i64 y.q) := hE.2.1.c0
            have q1 : E.drew.cell? ⟨w.heap.size, 1, none⟩ = some (.int .i64 v) := hE.2.1.c1
            have q2 : E.drew.cell? ⟨w.heap.size, 2, none⟩ = some (.int .i64 y.p) := hE.2.1.c2
            have hEs2 : w.heap.size < E.drew.heap.size := hEs
            clear hE
            exact bodyPost_ret (v := .tuple #[.slice (some ⟨b, off, none⟩) (z :: t).length c1, (⟨y.q, v, y.p⟩ : Lay).val, .int .i64 0]) (by simp [results, Try.results102, go_sem, hEs2, q0, q1, q2, Lay.val]) rfl ⟨_, rfl, ⟨_, c1, rfl, hcap, hmax, .inr ⟨b, off, rfl, by omega, hEb, hEc, hEf⟩⟩, hbE.drew⟩
end Go.Proofs.Ytjccjmmbebiegaa

/- MavgP2 -/

set_option linter.unusedVariables false
set_option linter.unusedSimpArgs false
namespace Go.Proofs.Ytjccjmmbebiegaa
def pot (h p : Int) : List Lay := if h = 0 then [] else [⟨h, h * p, 0⟩]
theorem pot_LR {h p : Int} (h0 : 0 ≤ h) (h1 : h ≤ 1800) (p0 : 0 ≤ p) (p1 : p ≤ 999) : LR (pot h p) := by
  unfold pot
  split
  · exact LR.nil
  · have := mul_bd (a := h) (b := p) (n := 1800) (m := 999) h0 h1 p0 p1
    exact LR.one (layOk_iff.2 ⟨by simp only; omega, by simp only; omega, by simp only; omega, by simp only; omega, by simp only; omega, by simp only; omega⟩)
theorem pot_qs {h p : Int} : qs (pot h p) = h := by
  unfold pot
  split <;> simp [qs, *]
theorem in_pot {h p q : Int} (h0 : 0 ≤ h) (h1 : h + q ≤ 1800) (p0 : 0 ≤ p) (p1 : p ≤ 999) (q0 : 1 ≤ q) : inM (pot h p) ⟨q, q * p, 0⟩ = (pot (h + q) p, 0) := by
  have b1 := mul_bd (a := h) (b := p) (n := 1800) (m := 999) h0 (by omega) p0 p1
  have b2 := mul_bd (a := q) (b := p) (n := 1800) (m := 999) (by omega) (by omega) p0 p1
  have hk : layOk ⟨q, q * p, 0⟩ = true := layOk_iff.2 ⟨by simp only; omega, by simp only; omega, by simp only; omega, by simp only; omega, by simp only; omega, by simp only; omega⟩
  have e : (h + q) * p = h * p + q * p := Int.add_mul _ _ _
  by_cases hz : h = 0
  · subst hz
    rw [show pot 0 p = [] by simp [pot], inM_ok (LR.one hk)]
    rw [pot, if_neg (by omega)]
    simp [qs, vs, ps]
  · have hL : LR (pot h p) := pot_LR h0 (by omega) p0 p1
    rw [pot, if_neg hz] at hL ⊢
    have hL2 : LR ([⟨h, h * p, 0⟩] ++ [⟨q, q * p, 0⟩]) := hL.snoc hk (by simp) (by simp [qs]; omega) (by simp [vs]; omega) (by simp [aps, absum])
    rw [inM_ok hL2, pot, if_neg (by omega), e]
    simp [qs, vs, ps]
theorem out_pot {h p q : Int} (h0 : 0 ≤ h) (h1 : h ≤ 1800) (p0 : 0 ≤ p) (p1 : p ≤ 999) (q0 : 1 ≤ q) (q1 : q ≤ h) : outS (pot h p) q = (pot (h - q) p, ⟨q, q * p, 0⟩, 0) := by
  have hL := pot_LR h0 h1 p0 p1
  rw [outS_ok hL q0 (by rw [pot_qs]; exact q1)]
  have hz : h ≠ 0 := by omega
  rw [pot, if_neg hz]
  by_cases he : h = q
  · subst he
    rw [outL_whole q0 rfl]
    simp [pot]
  · rw [outL_one q0 (by simp only; omega)]
    have e : (h - q) * p = h * p - q * p := Int.sub_mul _ _ _
    rw [pot, if_neg (by omega), e]
    have pz : partS 0 q h = 0 := by rw [part_pos (by rw [show inB 0 = true from by decide +kernel]; simp; omega) (by omega)]; simp
    simp [minusL, cutL, part_price (q := h) (k := q) (p := p) (by omega) (by omega) (by omega) (by omega) p0 (by omega), pz]
theorem out_pot_short {h p q : Int} (h0 : 0 ≤ h) (h1 : h ≤ 1800) (p0 : 0 ≤ p) (p1 : p ≤ 999) (q0 : 1 ≤ q) (q1 : h < q) : outS (pot h p) q = (pot h p, .zero, 5) :=
  outS_short (pot_LR h0 h1 p0 p1) q0 (by rw [pot_qs]; exact q1)
end Go.Proofs.Ytjccjmmbebiegaa

/- StdP -/

set_option linter.unusedVariables false
set_option linter.unusedSimpArgs false
namespace Go.Proofs.Ytjccjmmbebiegaa
theorem of_pot {c q : Int} (c0 : 0 ≤ c) (c1 : c ≤ 999) (q0 : 0 ≤ q) (q1 : q ≤ 1800) : fitsR c = true ∧ ofV c q = q * c ∧ ofE c q = 0 := by
  have hf : fitsR c = true := fitsR_iff.2 ⟨c0, by omega⟩
  have hb := mul_bd (a := q) (b := c) (n := 1800) (m := 999) q0 q1 c0 c1
  have hb2 : q * c ≤ 1798200 := hb.2
  have := of_ok (r := c) (q := q) hf q0 (by omega)
  exact ⟨hf, this.1, this.2⟩
theorem inC_pot {h c q v : Int} (h0 : 0 ≤ h) (h1 : h + q ≤ 1800) (c0 : 0 ≤ c) (c1 : c ≤ 999) (q0 : 1 ≤ q) (v0 : 0 ≤ v) (v1 : v ≤ 1000000) : inC (pot h c) ⟨q, v, 0⟩ c = (pot (h + q) c, v - q * c, 0) := by
  obtain ⟨hf, e1, e2⟩ := of_pot (c := c) (q := q) c0 c1 (by omega) (by omega)
  have := in_pot (h := h) (p := c) (q := q) h0 h1 c0 c1 q0
  rw [inC, if_neg (by simp [hf]; omega), if_neg (by simp [e2]; omega)]
  simp only [e1, this]
  simp
theorem outC_pot {h c q : Int} (h0 : 0 ≤ h) (h1 : h ≤ 1800) (c0 : 0 ≤ c) (c1 : c ≤ 999) (q0 : 1 ≤ q) (q1 : q ≤ h) : outC (pot h c) q c = (pot (h - q) c, ⟨q, q * c, 0⟩, 0) := by
  obtain ⟨hf, e1, e2⟩ := of_pot (c := c) (q := q) c0 c1 (by omega) (by omega)
  have e := out_pot (h := h) (p := c) (q := q) h0 h1 c0 c1 q0 q1
  have hb := mul_bd (a := h - q) (b := c) (n := 1800) (m := 999) (by omega) (by omega) c0 c1
  rw [outC, if_neg (by simp [hf]), e]
  unfold pot
  by_cases hz : h - q = 0
  · simp [hz]
  · simp only [if_neg hz]
    have hlt : ¬ ((h - q) * c + q * c < q * c) := by omega
    simp [e1, e2, hlt]
theorem outC_pot_short {h c q : Int} (h0 : 0 ≤ h) (h1 : h ≤ 1800) (c0 : 0 ≤ c) (c1 : c ≤ 999) (q0 : 1 ≤ q) (q1 : h < q) : outC (pot h c) q c = (pot h c, .zero, 5) := by
  have hf : fitsR c = true := fitsR_iff.2 ⟨c0, by omega⟩
  have e := out_pot_short (h := h) (p := c) (q := q) h0 h1 c0 c1 q0 q1
  rw [outC, if_neg (by simp [hf]), e]
  unfold pot
  by_cases hz : h = 0
  · simp [hz]
  · simp [hz]
theorem revC_pot {h c d : Int} (h0 : 0 ≤ h) (h1 : h ≤ 1800) (c0 : 0 ≤ d) (c1 : d ≤ 999) : revC (pot h c) d = (pot h d, h * d - h * c, 0) := by
  obtain ⟨hf, e1, e2⟩ := of_pot (c := d) (q := h) c0 c1 h0 h1
  unfold pot
  by_cases hz : h = 0
  · subst hz; simp [revC, hf]
  · simp [revC, hf, hz, e1, e2]
theorem pot_len {h p : Int} : (pot h p).length ≤ 1 := by unfold pot; split <;> simp
end Go.Proofs.Ytjccjmmbebiegaa
