/-
  The document's In.
-/
import Derived.Test.YtmipgkgcdacokaaFifo10
set_option linter.unusedVariables false
set_option linter.unusedSimpArgs false
namespace Go.Proofs.Ytmipgkgcdacokaa
open Go.RowKit

theorem run_append_nil_nil {P : Program} (w : World) (t ty e : TypeId) (i : TypeInfo) (c : Nat) (ht : P.underlying t = some (.slice e)) (hi : P.info? e = some i) :
    (Builtin.append_ #[t, t] ty #[.slice none 0 0, .slice none 0 c]).run P w = .ok (.slice none 0 0) w := by
  simp [Builtin.append_, run_underlying ht, sizeOf, typeInfo, hi, Builtin.lenOf, Builtin.firstCells, loadCells, loadCellsFrom]

/-- 'append([]T(nil), l...)': a row of the call's own that reads as l. -/
theorem step_copy {P : Program} {w : World} {ops : Array Oper} {o : Oper} {fr : Act} {K : Act → World → Prop} {Q : Exit → Act → World → Prop} {F : Prop} (hgd : o.guard = none) (x : Operand) (t : TypeId)
    (ho : o.op = .call { callee := .builtin .append, args := #[.const (.slice none 0 0), x], argTypes := #[t, t] })
    (e : TypeId) (size : Nat) (E : Elem P t e size) (a : Option Addr) (n cap : Nat) (zs : List Int) (hx : fr.eval x = .slice a n cap) (hrow : Row w size a n cap zs) (hn : n * (size * 8) ≤ 140737488355328)
    (h : ∀ v' w', OwnI w' w.heap.size e size v' n zs → Below w.heap.size w w' → K (fr.put o.dst v') w') :
    if Region.wanted o (yielded ops fr.tmps) = true then Oper.wp P o fr w K Q else F := by
  have hw : Region.wanted o (yielded ops fr.tmps) = true := by simp [Region.wanted, hgd]
  rw [if_pos hw]
  obtain ⟨ht, ⟨i, z, hi, hz, hsize, hby, hzs⟩, hp⟩ := E
  have h8 : n ≤ n * (size * 8) := Nat.le_mul_of_pos_right _ (by omega)
  cases a with
  | none =>
    have hz0 : n = 0 := by
      rcases hrow.at_ with h0 | ⟨b, off, e, -⟩
      · exact h0
      · cases e
    subst hz0
    have hzs0 : zs = [] := List.eq_nil_of_length_eq_zero (by have := hrow.len; omega)
    subst hzs0
    have hr := run_append_nil_nil (P := P) w t o.type e i cap ht hi
    unfold Oper.wp execOp
    simp only [ho, resolve, invoke, builtin, Sem.run_bind, Sem.run_pure, Result.andThen_ok, List.map_toArray, List.map_cons, List.map_nil, hx]
    have hc : fr.eval (.const (.slice none 0 0)) = .slice none 0 0 := rfl
    simp only [hc, hr]
    exact h _ _ (OwnI.nil _ _ _ _) (Below.refl _ _)
  | some ad =>
    refine wp_append_own w (.const (.slice none 0 0)) x t ho w.heap.size e i z size (size * 8) ht hi hz hsize hby hzs hp (.slice none 0 0) 0 [] rfl (World.ownsRow_nil _ _ _ _) ad n cap (ints zs) hx (by rw [ints_length]; exact hrow.len) hrow.cells ?_ (by unfold maxLen; omega) (by rw [Nat.zero_add]; exact hn) (Nat.le_refl _) ?_
    · intro u hu
      simp only [ints, List.mem_map] at hu
      obtain ⟨y, -, rfl⟩ := hu
      rfl
    · intro v' w' hown' hg _
      refine h v' w' ?_ ((Below.refl _ w).grown hg (Nat.le_refl _) fun k hk => by simp [Value.ownBlock] at hk)
      rw [Nat.zero_add] at hown'
      exact hown'

/-- Layers, and an error. -/
def LayE (w : World) (r : List Lay × Int) (e : Ending) (w' : World) : Prop := ∃ v, e = .returned (.tuple #[v, .int .i64 r.2]) ∧ LayRow w' v r.1 ∧ Below w.heap.size w w'

set_option maxRecDepth 20000 in
set_option maxHeartbeats 2000000 in
theorem ref_In9 (a : Option Addr) (cap : Nat) (l : List Lay) (x : Lay) (w : World) (h : Row w 3 a l.length cap (flat l)) (hn : l.length ≤ 900) (hx : AllI [x.q, x.v, x.p]) :
    Calls Try.prog 14 #[.slice a l.length cap, x.val] w (LayE w (inS l x)) := by
  have h0 := h
  obtain ⟨hl, hcap, hmax, hall, hat⟩ := h
  unfold maxLen at hmax
  have hmA : AllI (flat (l ++ [x])) := AllI.snoc hall hx
  have hml := Lib.hid (show l.length + 1 = (l ++ [x]).length by simp)
  have hmf := Lib.hid (show flat l ++ [x.q, x.v, x.p] = flat (l ++ [x]) by simp [flat])
  have hL : (l ++ [x]).length ≤ 1000 := by simp; omega
  have hE := Lib.hid (show inS l x = if x.q < 1 ∨ x.v < 0 then (l, 1) else if 30 ≤ l.length then (l, 6) else if rightL (l ++ [x]) then (l ++ [x], 0) else (l, 2) from rfl)
  generalize inS l x = r at *
  generalize l ++ [x] = m at *
  unfold Lay.val
  go_enter Try.func14, Try.ntmps14
  try simp only [List.append_eq, List.cons_append, List.nil_append]
  go_wp2_with fail
  go_region_held3 (fun w' => w'.cell? ⟨w.heap.size, 0, none⟩ = some (.int .i64 x.q) ∧ w'.cell? ⟨w.heap.size, 1, none⟩ = some (.int .i64 x.v) ∧ w'.cell? ⟨w.heap.size, 2, none⟩ = some (.int .i64 x.p))
    (first | go_keep | exact ⟨(hb3.cell hlt0).trans (by go_keep), (hb3.cell hlt0).trans (by go_keep), (hb3.cell hlt0).trans (by go_keep)⟩ | (go_split_ands; exact ⟨(hw2.cell (by first | (simp; done) | (simp; omega))).trans (by assumption), (hw2.cell (by first | (simp; done) | (simp; omega))).trans (by assumption), (hw2.cell (by first | (simp; done) | (simp; omega))).trans (by assumption)⟩))
    ((first
      | (refine step_copy (by rfl) _ 25 (by rfl) 24 3 elem_Layer a l.length cap (flat l) (by rfl) (h0.below (by (repeat (first | assumption | exact Below.refl _ _ | refine ballc ?_ _ | refine bdrew ?_ | refine bdrewN ?_ _ | refine bset ?_ _ _ | refine bsetN ?_ (by omega) _ _ | refine bthen ?_ (by assumption))))) (by omega) ?_; intro v2 w2 hown2 hw2; have hz2 : w.heap.size + 1 ≤ w2.heap.size := (by have := hw2.size; simp at this; omega); have hlt0 : w.heap.size < w.heap.size + 1 := Nat.lt_succ_self _)
      | (refine step_push (by rfl) _ _ 25 (by rfl) (w.heap.size + 1) 24 3 elem_Layer v2 l.length (flat l) (by rfl) ((by first | exact OwnI.mono hown2 (by simp) | exact OwnI.mono (hown2.alloc _) (by simp))) _ 0 1 [x.q, x.v, x.p] (by rfl) rfl (by first | exact lit3 rfl | exact CellsAt.below (w := ((w.alloc (.cells #[.int .i64 x.q, .int .i64 x.v, .int .i64 x.p] 24)).alloc (.cells #[.int .i64 x.q, .int .i64 x.v, .int .i64 x.p] 24)).drew) (lit3 (w := w.alloc (.cells #[.int .i64 x.q, .int .i64 x.v, .int .i64 x.p] 24)) (t := 24) (by simp)) (by simp) hw2) (by omega) (by first | exact hz2 | exact Nat.le_trans hz2 (by simp)) ?_; intro v3 w3 hown3 hb3)))
  all_goals
    have hbel : Below w.heap.size w w3 := by refine Below.trans ?_ (hb3.mono (by omega)); (repeat (first | assumption | exact Below.refl _ _ | refine ballc ?_ _ | refine bdrew ?_ | refine bdrewN ?_ _ | refine bset ?_ _ _ | refine bsetN ?_ (by omega) _ _ | refine bthen ?_ (by assumption)))
    have hown4 := OwnI.same hown3 hml.out hmf.out
    have R0 := h0.below hbel
    obtain ⟨r0, r1, r2⟩ : w3.cell? ⟨w.heap.size, 0, none⟩ = some (.int .i64 x.q) ∧ w3.cell? ⟨w.heap.size, 1, none⟩ = some (.int .i64 x.v) ∧ w3.cell? ⟨w.heap.size, 2, none⟩ = some (.int .i64 x.p) := by assumption
    clear hown3 hown2 hb3 hw2 hat
    obtain ⟨a3, c3, rfl, R3⟩ := hown4.row hmA
    have hE := hE.out
    by_cases q1 : x.q < 1
    · rw [if_pos (.inl q1)] at hE
      subst hE
      go_wp2_with fail
      go_ret2
      exact ⟨_, rfl, ⟨_, _, rfl, R0⟩, hbel⟩
    by_cases v1 : x.v < 0
    · rw [if_pos (.inr v1)] at hE
      subst hE
      go_wp2_with fail
      go_ret2
      exact ⟨_, rfl, ⟨_, _, rfl, R0⟩, hbel⟩
    rw [if_neg (by omega)] at hE
    by_cases n1 : 30 ≤ l.length
    · rw [if_pos n1] at hE
      subst hE
      have n2 : (30 : Int) ≤ (l.length : Int) := by omega
      go_wp2_with fail
      go_ret2
      exact ⟨_, rfl, ⟨_, _, rfl, R0⟩, hbel⟩
    rw [if_neg n1] at hE
    have n2 : ¬ (30 : Int) ≤ (l.length : Int) := by omega
    cases hr : rightL m
    all_goals
      rw [hr] at hE
      simp only [Bool.false_eq_true, if_false, if_true] at hE
      subst hE
      go_wp2_with (first | (go_at_call 11; refine (ref_Right9 a3 c3 m _ R3 hL).mono ?_; rintro e w4 ⟨rfl, hw4⟩))
      try go_ret2
      first
        | exact ⟨_, rfl, ⟨_, _, rfl, R0.below hw4⟩, by (repeat (first | assumption | exact Below.refl _ _ | refine ballc ?_ _ | refine bdrew ?_ | refine bdrewN ?_ _ | refine bset ?_ _ _ | refine bsetN ?_ (by omega) _ _ | refine bthen ?_ (by assumption)))⟩
        | exact ⟨_, rfl, ⟨_, _, rfl, R3.below hw4⟩, by (repeat (first | assumption | exact Below.refl _ _ | refine ballc ?_ _ | refine bdrew ?_ | refine bdrewN ?_ _ | refine bset ?_ _ _ | refine bsetN ?_ (by omega) _ _ | refine bthen ?_ (by assumption)))⟩
end Go.Proofs.Ytmipgkgcdacokaa
