/-
  The reference's moving average, with where its slice lies; all that came is what went and what is there. The walk.
-/
import Derived.Test.YtgahhifedgmicaaMavgLaw1
import Derived.Test.YtgahhifedgmicaaFifoLaw3
set_option linter.unusedVariables false
set_option linter.unusedSimpArgs false
namespace Go.Proofs.Ytgahhifedgmicaa
open Go.RowKit

def LayW (w : World) (a : Option Addr) (r : List Lay × Int) (e : Ending) (w' : World) : Prop := ∃ v, e = .returned (.tuple #[v, .int .i64 r.2]) ∧ LayRow w' v r.1 ∧ Below w.heap.size w w' ∧ Where w a v

set_option maxRecDepth 20000 in
set_option maxHeartbeats 1000000 in
theorem ref_Out10w {a : Option Addr} {cap : Nat} {l : List Lay} {w : World} (h : Row w 3 a l.length cap (flat l)) (hL : LR l) {q : Int} (hq : I64 q) {m : List Lay} {y : Lay} {e' : Int} (hO : outS l q = (m, y, e')) :
    Calls Try.prog 14 #[.slice a l.length cap, .int .i64 q] w fun e w' => (∃ a' cap', e = .returned (.tuple #[.slice a' m.length cap', y.val, .int .i64 e']) ∧ Row w' 3 a' m.length cap' (flat m) ∧ Where w a (.slice a' m.length cap')) ∧ Below w.heap.size w w' := by
  have hOh := Lib.hid hO
  clear hO
  go_enter Try.func14, Try.ntmps14
  go_wp2_with fail
  refine (ref_Out9 a cap l _ (h.below (by (repeat (first | assumption | exact Below.refl _ _ | refine ballc ?_ _ | refine bdrew ?_ | refine bdrewN ?_ _ | refine bset ?_ _ _ | refine bsetN ?_ (by omega) _ _ | refine bthen ?_ (by assumption))))) hL.right q hq).mono ?_
  rw [hOh.out]
  rintro e w1 ⟨v1, rfl, ⟨a1, c1, rfl, R1⟩, hw1, hwh⟩
  obtain ⟨⟨r0, r1, r2, z0, z1, z2⟩, hl1, hl2, hl3, hl4⟩ := res3 hw1
  have hwh2 : Where w a (.slice a1 m.length c1) := fun ad n' c' hv => by
    rcases hwh ad n' c' hv with h | h
    · exact .inl h
    · simp at h; exact .inr (by omega)
  have hfar : m.length = 0 ∨ ∀ ad, a1 = some ad → ad.block ≠ w.heap.size := by
    by_cases hm : m.length = 0
    · exact .inl hm
    · right
      rintro ad rfl
      rcases hwh ad _ _ rfl with e | hge
      · rcases h.at_ with h0 | ⟨b, off, e2, hb, -⟩
        · exact absurd (by have := outS_zero (q := q) h0; rw [hOh.out] at this; exact this) hm
        · rw [e2] at e
          cases e
          simp only
          omega
      · simp at hge
        omega
  have R2 : Row (((w1.setCell ⟨w.heap.size, 0, none⟩ (.int .i64 y.q)).setCell ⟨w.heap.size, 1, none⟩ (.int .i64 y.v)).setCell ⟨w.heap.size, 2, none⟩ (.int .i64 y.p)) 3 a1 m.length c1 (flat m) := by
    refine Row.far (b := w.heap.size) R1 (by simp [World.setCell]) (fun j hj => ?_) hfar
    rw [Below.heap_setCell _ _ _ _ hj, Below.heap_setCell _ _ _ _ hj, Below.heap_setCell _ _ _ _ hj]
  have hbel : Below w.heap.size w w1 := by (repeat (first | assumption | exact Below.refl _ _ | refine ballc ?_ _ | refine bdrew ?_ | refine bdrewN ?_ _ | refine bset ?_ _ _ | refine bsetN ?_ (by omega) _ _ | refine bthen ?_ (by assumption)))
  clear hw1 R1 hfar hwh
  go_wp2_with fail
  exact bodyPost_ret (v := .tuple #[.slice a1 m.length c1, y.val, .int .i64 e']) (by simp [results, Try.results14, go_sem, hl1, r0, r1, r2, z0, z1, z2]) rfl ⟨⟨a1, c1, rfl, R2, hwh2⟩, by (repeat (first | assumption | exact Below.refl _ _ | refine ballc ?_ _ | refine bdrew ?_ | refine bdrewN ?_ _ | refine bset ?_ _ _ | refine bsetN ?_ (by omega) _ _ | refine bthen ?_ (by assumption)))⟩

set_option maxRecDepth 20000 in
set_option maxHeartbeats 2000000 in
theorem ref_In10w (a : Option Addr) (cap : Nat) (l : List Lay) (x : Lay) (w : World) (h : Row w 3 a l.length cap (flat l)) (hn : l.length < 30) (hx : AllI [x.q, x.v, x.p]) :
    Calls Try.prog 12 #[.slice a l.length cap, x.val] w (LayW w a (inM l x)) := by
  have h0 := h
  obtain ⟨hl, hcap, hmax, hall, hat⟩ := h
  unfold maxLen at hmax
  have hmA : AllI (flat (l ++ [x])) := AllI.snoc hall hx
  have hml := Lib.hid (show l.length + 1 = (l ++ [x]).length by simp)
  have hmf := Lib.hid (show flat l ++ [x.q, x.v, x.p] = flat (l ++ [x]) by simp [flat])
  have hL : (l ++ [x]).length ≤ 1000 := by simp; omega
  have hEo := Lib.hid (inM_few (x := x) hn)
  generalize inM l x = r at *
  generalize l ++ [x] = m at *
  unfold Lay.val
  go_enter Try.func12, Try.ntmps12
  try simp only [List.append_eq, List.cons_append, List.nil_append]
  have hE := hEo.out
  clear hEo
  by_cases q1 : x.q < 1
  · rw [if_pos (.inl q1)] at hE
    subst hE
    go_wp2_with fail
    go_ret2
    exact ⟨_, rfl, ⟨_, _, rfl, h0.below (by (repeat (first | assumption | exact Below.refl _ _ | refine ballc ?_ _ | refine bdrew ?_ | refine bdrewN ?_ _ | refine bset ?_ _ _ | refine bsetN ?_ (by omega) _ _ | refine bthen ?_ (by assumption))))⟩, by (repeat (first | assumption | exact Below.refl _ _ | refine ballc ?_ _ | refine bdrew ?_ | refine bdrewN ?_ _ | refine bset ?_ _ _ | refine bsetN ?_ (by omega) _ _ | refine bthen ?_ (by assumption))), Where.same _ _ _ _⟩
  by_cases v1 : x.v < 0
  · rw [if_pos (.inr v1)] at hE
    subst hE
    go_wp2_with fail
    go_ret2
    exact ⟨_, rfl, ⟨_, _, rfl, h0.below (by (repeat (first | assumption | exact Below.refl _ _ | refine ballc ?_ _ | refine bdrew ?_ | refine bdrewN ?_ _ | refine bset ?_ _ _ | refine bsetN ?_ (by omega) _ _ | refine bthen ?_ (by assumption))))⟩, by (repeat (first | assumption | exact Below.refl _ _ | refine ballc ?_ _ | refine bdrew ?_ | refine bdrewN ?_ _ | refine bset ?_ _ _ | refine bsetN ?_ (by omega) _ _ | refine bthen ?_ (by assumption))), Where.same _ _ _ _⟩
  rw [if_neg (by omega)] at hE
  have hEh := Lib.hid hE
  clear hE
  go_wp2_with fail
  go_region_held3 (fun w' => w'.cell? ⟨w.heap.size, 0, none⟩ = some (.int .i64 x.q) ∧ w'.cell? ⟨w.heap.size, 1, none⟩ = some (.int .i64 x.v) ∧ w'.cell? ⟨w.heap.size, 2, none⟩ = some (.int .i64 x.p))
    (first | go_keep | exact ⟨(hb3.cell hlt0).trans (by go_keep), (hb3.cell hlt0).trans (by go_keep), (hb3.cell hlt0).trans (by go_keep)⟩ | (go_split_ands; exact ⟨(hw2.cell (by first | (simp; done) | (simp; omega))).trans (by assumption), (hw2.cell (by first | (simp; done) | (simp; omega))).trans (by assumption), (hw2.cell (by first | (simp; done) | (simp; omega))).trans (by assumption)⟩))
    ((first
      | (refine step_copy (by rfl) _ 22 (by rfl) 24 3 elem_Layer a l.length cap (flat l) (by rfl) (h0.below (by (repeat (first | assumption | exact Below.refl _ _ | refine ballc ?_ _ | refine bdrew ?_ | refine bdrewN ?_ _ | refine bset ?_ _ _ | refine bsetN ?_ (by omega) _ _ | refine bthen ?_ (by assumption))))) (by omega) ?_; intro v2 w2 hown2 hw2; have hz2 : w.heap.size + 1 ≤ w2.heap.size := (by have := hw2.size; simp at this; omega); have hlt0 : w.heap.size < w.heap.size + 1 := Nat.lt_succ_self _)
      | (refine step_push (by rfl) _ _ 22 (by rfl) (w.heap.size + 1) 24 3 elem_Layer v2 l.length (flat l) (by rfl) ((by first | exact OwnI.mono hown2 (by simp) | exact OwnI.mono (hown2.alloc _) (by simp))) _ 0 1 [x.q, x.v, x.p] (by rfl) rfl (by first | exact lit3 rfl | exact CellsAt.below (w := ((w.alloc (.cells #[.int .i64 x.q, .int .i64 x.v, .int .i64 x.p] 24)).alloc (.cells #[.int .i64 x.q, .int .i64 x.v, .int .i64 x.p] 24)).drew) (lit3 (w := w.alloc (.cells #[.int .i64 x.q, .int .i64 x.v, .int .i64 x.p] 24)) (t := 24) (by simp)) (by simp) hw2) (by omega) (by first | exact hz2 | exact Nat.le_trans hz2 (by simp)) ?_; intro v3 w3 hown3 hb3)))
  all_goals
    have hbel : Below w.heap.size w w3 := by refine Below.trans ?_ (hb3.mono (by omega)); (repeat (first | assumption | exact Below.refl _ _ | refine ballc ?_ _ | refine bdrew ?_ | refine bdrewN ?_ _ | refine bset ?_ _ _ | refine bsetN ?_ (by omega) _ _ | refine bthen ?_ (by assumption)))
    have hown4 := OwnI.same hown3 hml.out hmf.out
    have R0 := h0.below hbel
    clear hown3 hown2 hb3 hw2 hat
    obtain ⟨a3, c3, rfl, R3⟩ := hown4.row hmA
    have hE := hEh.out
    clear hEh
    cases hr : rightL m
    · rw [hr] at hE
      simp only [Bool.false_eq_true, if_false] at hE
      subst hE
      go_wp2_with (first | (go_at_call 9; refine (ref_Right9 a3 c3 m _ R3 hL).mono ?_; rintro e w4 ⟨rfl, hw4⟩))
      go_ret2
      exact ⟨_, rfl, ⟨_, _, rfl, R0.below hw4⟩, by (repeat (first | assumption | exact Below.refl _ _ | refine ballc ?_ _ | refine bdrew ?_ | refine bdrewN ?_ _ | refine bset ?_ _ _ | refine bsetN ?_ (by omega) _ _ | refine bthen ?_ (by assumption))), Where.same _ _ _ _⟩
    · rw [hr] at hE
      simp only [if_true] at hE
      subst hE
      have hT := (LR.of hr).tot.2
      have hth := Lib.hid hT
      clear hT
      have hok := (tot_LR (LR.of hr) (by intro e; have := hml.out; rw [e] at this; simp at this)).ok (tot m) (by simp)
      go_wp2_with fail
      refine (ref_Right9 a3 c3 m _ R3 hL).mono ?_
      rw [hr]
      rintro e w4 ⟨rfl, hw4⟩
      go_wp2_with fail
      refine (ref_Total9 a3 c3 m _ (R3.below hw4)).mono ?_
      rintro e w5 ⟨rfl, hw5⟩
      go_wp2_with fail
      go_ret2
      have hx2 := allI_one hok
      have hbel5 : Below w.heap.size w w5 := by (repeat (first | assumption | exact Below.refl _ _ | refine ballc ?_ _ | refine bdrew ?_ | refine bdrewN ?_ _ | refine bset ?_ _ _ | refine bsetN ?_ (by omega) _ _ | refine bthen ?_ (by assumption)))
      refine ⟨_, rfl, ?_, by (repeat (first | assumption | exact Below.refl _ _ | refine ballc ?_ _ | refine bdrew ?_ | refine bdrewN ?_ _ | refine bset ?_ _ _ | refine bsetN ?_ (by omega) _ _ | refine bthen ?_ (by assumption))), fun ad n' c' hv => by cases hv; exact .inr (by have := hbel5.size; simp only; omega)⟩
      have hh := Hold.lit (x := tot m) (w := w5.alloc (.cells #[.int .i64 (tot m).q, .int .i64 (tot m).v, .int .i64 (tot m).p] 24)) (t := 24) (base := 0) (n := w5.heap.size + 1) (by simp) (by omega)
      exact hh.row hx2
end Go.Proofs.Ytgahhifedgmicaa
