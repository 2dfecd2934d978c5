/-
  Standard cost: Out.
-/
import Derived.Test.YtgahhifedgmicaaStd2e
import Derived.RegionTactic
import Derived.ChangeAlike
set_option linter.unusedVariables false
set_option linter.unusedSimpArgs false
namespace Go.Proofs.Ytgahhifedgmicaa
open Go.RowKit

theorem outS_sum {l m : List Lay} {y : Lay} {q : Int} (h : LR l) (hO : outS l q = (m, y, 0)) : 0 ≤ y.v ∧ y.v ≤ 288230376151711744 ∧ y.v + vs m = vs l := by
  by_cases h1 : q < 1
  · rw [outS, if_pos h1] at hO; cases hO
  by_cases h2 : q ≤ qs l
  · rw [outS_ok h (by omega) h2] at hO
    have s := (outL_sum l .zero q h (by omega) h2).2.2.1
    have t := outL_LR l .zero q h
    generalize outL l .zero q = r at *
    cases hO
    have a := qs_pos t.1.ok
    have b := h.v
    simp [Lay.zero] at s
    have := t.2.2.1
    omega
  · rw [outS_short h (by omega) (by omega)] at hO; cases hO

set_option maxRecDepth 20000 in
set_option maxHeartbeats 2000000 in
theorem std_Out (a : Option Addr) (cap : Nat) (l : List Lay) (q c : Int) (w : World) (h : Row w 3 a l.length cap (flat l)) (hL : LR l) (hq : I64 q) (hc : I64 c) :
    Calls Try.prog 20 #[.slice a l.length cap, .int .i64 q, .int .i64 c] w (HoldO w (outC l q c)) := by
  generalize hI : outC l q c = r
  have hIh := Lib.hid hI
  clear hI
  have hln := hL.len
  go_enter Try.func20, Try.ntmps20
  try simp only [List.append_eq, List.cons_append, List.nil_append]
  go_wp2_with fail
  refine (std_fits c _).mono ?_
  rintro e w' ⟨rfl, rfl⟩
  cases hf : fitsR c
  · have hI : r = (l, .zero, 1) := by rw [← hIh.out]; simp [outC, hf]
    subst hI
    clear hIh
    go_wp2_with fail
    refine (Clone_Layer a l.length cap (flat l) _ (h.below (by (repeat (first | assumption | exact Below.refl _ _ | refine ballc ?_ _ | refine bdrew ?_ | refine bdrewN ?_ _ | refine bset ?_ _ _ | refine bsetN ?_ (by omega) _ _ | refine bthen ?_ (by assumption))))) (by omega)).mono ?_
    rintro e w1 ⟨⟨v1, rfl, O1⟩, hw1⟩
    obtain ⟨⟨r0, r1, r2, z0, z1, z2⟩, hl1, hl2, hl3, hl4⟩ := res3 hw1
    have hH := (Hold.of_own O1 (show w.heap.size + 1 ≤ _ by simp)).set3 (.int .i64 0) (.int .i64 0) (.int .i64 0)
    have hbel : Below w.heap.size w w1 := by (repeat (first | assumption | exact Below.refl _ _ | refine ballc ?_ _ | refine bdrew ?_ | refine bdrewN ?_ _ | refine bset ?_ _ _ | refine bsetN ?_ (by omega) _ _ | refine bthen ?_ (by assumption)))
    clear O1 hw1
    go_wp2_with fail
    exact bodyPost_ret (v := .tuple #[v1, Lay.zero.val, .int .i64 1]) (by simp [results, Try.results20, go_sem, hl1, r0, r1, r2, z0, z1, z2]) rfl ⟨_, rfl, hH, by (repeat (first | assumption | exact Below.refl _ _ | refine ballc ?_ _ | refine bdrew ?_ | refine bdrewN ?_ _ | refine bset ?_ _ _ | refine bsetN ?_ (by omega) _ _ | refine bthen ?_ (by assumption)))⟩
  obtain ⟨m, y, e', hO⟩ : ∃ m y e', outS l q = (m, y, e') := ⟨_, _, _, rfl⟩
  have hOh := Lib.hid hO
  have hLm : LR m := by have := outS_LR (q := q) hL; rw [hO] at this; exact this
  have hLmh := Lib.hid hLm
  clear hO hLm
  go_wp2_with fail
  refine (mavg_Out a cap l _ (h.below (by (repeat (first | assumption | exact Below.refl _ _ | refine ballc ?_ _ | refine bdrew ?_ | refine bdrewN ?_ _ | refine bset ?_ _ _ | refine bsetN ?_ (by omega) _ _ | refine bthen ?_ (by assumption))))) hL q hq).mono ?_
  rw [hOh.out]
  rintro e w1 ⟨v1, rfl, hh, hw1⟩
  obtain ⟨X, lX, hl2, hl3, hl4⟩ := res3 hw1
  obtain ⟨r0, r1, r2, z0, z1, z2⟩ := id X
  by_cases hend : e' ≠ 0 ∨ m = []
  · have hr : r = (m, y, e') := by
      rw [← hIh.out]
      simp only [outC, hf, hOh.out]
      cases m with
      | nil => simp
      | cons z t => simp at hend; simp [hend]
    subst hr
    clear hIh
    have hH := (hh.mono (show w.heap.size + 1 ≤ _ by simp)).below ((Below.refl w1.heap.size w1).alloc (Nat.le_refl _) (.cells #[.int .i64 y.q, .int .i64 y.v, .int .i64 y.p] 24))
    obtain ⟨a1, c1, rfl, hm1, hm2, hm3⟩ := id hh
    have hbel : Below w.heap.size w w1 := by (repeat (first | assumption | exact Below.refl _ _ | refine ballc ?_ _ | refine bdrew ?_ | refine bdrewN ?_ _ | refine bset ?_ _ _ | refine bsetN ?_ (by omega) _ _ | refine bthen ?_ (by assumption)))
    clear hw1 hh
    have Y := (res3 (Below.refl _ (w1.alloc (.cells #[.int .i64 y.q, .int .i64 y.v, .int .i64 y.p] 24)))).1
    have X2 := Cell3.behind (o := .cells #[.int .i64 y.q, .int .i64 y.v, .int .i64 y.p] 24) X lX (B := w.heap.size + 1) (Nat.lt_succ_self _) (Below.refl _ _)
    have hbel2 := hbel.alloc hbel.size (.cells #[.int .i64 y.q, .int .i64 y.v, .int .i64 y.p] 24)
    have hsz : w.heap.size < (w1.alloc (.cells #[.int .i64 y.q, .int .i64 y.v, .int .i64 y.p] 24)).heap.size := by simp; omega
    have hn1 : w1.heap.size ≠ w.heap.size := by omega
    clear r0 r1 r2 z0 z1 z2 X
    by_cases he : e' = 0
    · have hm : m = [] := by rcases hend with h | h; exact absurd he h; exact h
      subst hm
      subst he
      clear hend
      go_wp2_with fail
      generalize hV : w1.alloc (.cells #[.int .i64 y.q, .int .i64 y.v, .int .i64 y.p] 24) = V at *
      obtain ⟨r0, r1, r2, z0, z1, z2⟩ := X2
      obtain ⟨s0, s1, s2, t0, t1, t2⟩ := Y
      go_region
      all_goals
        have hD : Hold V.drew (w.heap.size + 1) (.slice a1 0 c1) [] := hH
        have hD2 := hD.set3 (.int .i64 y.q) (.int .i64 y.v) (.int .i64 y.p)
        have q0 : V.drew.cell? ⟨w.heap.size, 0, none⟩ = some (.int .i64 0) := r0
        have q1 : V.drew.cell? ⟨w.heap.size, 1, none⟩ = some (.int .i64 0) := r1
        have q2 : V.drew.cell? ⟨w.heap.size, 2, none⟩ = some (.int .i64 0) := r2
        go_wp2_with fail
        exact bodyPost_ret (v := .tuple #[.slice a1 0 c1, y.val, .int .i64 0]) (by simp [results, Try.results20, go_sem, hsz, r0, r1, r2, z0, z1, z2, q0, q1, q2]) rfl ⟨_, rfl, hD2, by (repeat (first | assumption | exact Below.refl _ _ | refine ballc ?_ _ | refine bdrew ?_ | refine bdrewN ?_ _ | refine bset ?_ _ _ | refine bsetN ?_ (by omega) _ _ | refine bthen ?_ (by assumption)))⟩
    · clear hend
      go_wp2_with fail
      generalize hV : w1.alloc (.cells #[.int .i64 y.q, .int .i64 y.v, .int .i64 y.p] 24) = V at *
      obtain ⟨r0, r1, r2, z0, z1, z2⟩ := X2
      obtain ⟨s0, s1, s2, t0, t1, t2⟩ := Y
      go_region
      all_goals
        have hD : Hold V.drew (w.heap.size + 1) (.slice a1 m.length c1) m := hH
        have hD2 := hD.set3 (.int .i64 y.q) (.int .i64 y.v) (.int .i64 y.p)
        have q0 : V.drew.cell? ⟨w.heap.size, 0, none⟩ = some (.int .i64 0) := r0
        have q1 : V.drew.cell? ⟨w.heap.size, 1, none⟩ = some (.int .i64 0) := r1
        have q2 : V.drew.cell? ⟨w.heap.size, 2, none⟩ = some (.int .i64 0) := r2
        go_wp2_with fail
        exact bodyPost_ret (v := .tuple #[.slice a1 m.length c1, y.val, .int .i64 e']) (by simp [results, Try.results20, go_sem, hsz, r0, r1, r2, z0, z1, z2, q0, q1, q2]) rfl ⟨_, rfl, hD2, by (repeat (first | assumption | exact Below.refl _ _ | refine ballc ?_ _ | refine bdrew ?_ | refine bdrewN ?_ _ | refine bset ?_ _ _ | refine bsetN ?_ (by omega) _ _ | refine bthen ?_ (by assumption)))⟩
  have he : e' = 0 := by by_cases h : e' = 0; exact h; exact absurd (.inl h) hend
  subst he
  cases m with
  | nil => exact absurd (.inr rfl) hend
  | cons z t =>
    clear hend
    have hys := outS_sum hL hOh.out
    have hz := hLmh.out.at_ (x := z) (by simp)
    obtain ⟨v, hv⟩ : ∃ v, (if ofE c q ≠ 0 ∨ z.v + y.v < ofV c q then z.v + y.v else ofV c q) = v := ⟨_, rfl⟩
    have hr : r = (⟨z.q, z.v + (y.v - v), z.p⟩ :: t, ⟨y.q, v, y.p⟩, 0) := by
      rw [← hIh.out, ← hv]
      simp [outC, hf, hOh.out]
    subst hr
    clear hIh
    have hob := of_bd (q := q) hf
    have hvb : 0 ≤ v ∧ v ≤ 576460752303423488 := by rw [← hv]; split <;> omega
    obtain ⟨b, off, c1, rfl, hcap, hmax, hb, hb2, hcs, hfz⟩ : ∃ b off c1, v1 = .slice (some ⟨b, off, none⟩) (z :: t).length c1 ∧ (z :: t).length ≤ c1 ∧ c1 ≤ maxLen ∧ w.heap.size + 1 ≤ b ∧ b < w1.heap.size ∧ CellsAt w1 b off (flat (z :: t)) ∧ ∀ i, w1.frozen? ⟨b, i, none⟩ = false := by
      obtain ⟨a', c', e, h1, h2, h3⟩ := hh.mono (show w.heap.size + 1 ≤ _ by simp)
      rcases h3 with h3 | ⟨b, off, rfl, h3, h4, h5, h6⟩
      · simp at h3
      · exact ⟨b, off, c', e, h1, h2, h3, h4, h5, h6⟩
    have hlen : ¬ ((z :: t).length : Int) = 0 := by simp; omega
    have hbel : Below w.heap.size w w1 := by (repeat (first | assumption | exact Below.refl _ _ | refine ballc ?_ _ | refine bdrew ?_ | refine bdrewN ?_ _ | refine bset ?_ _ _ | refine bsetN ?_ (by omega) _ _ | refine bthen ?_ (by assumption)))
    clear hw1 hh
    go_wp2_with fail
    refine (std_of c q _ hc hq).mono ?_
    rintro e w2 ⟨rfl, hw2⟩
    have Y2 := (res3 hw2).1
    have X2 := Cell3.behind X lX (B := (w1.alloc (.cells #[.int .i64 y.q, .int .i64 y.v, .int .i64 y.p] 24)).heap.size) (by simp; omega) hw2
    have hs2 := hw2.size
    simp only [World.size_alloc] at hs2
    have hB2 : Below w1.heap.size w1 w2 := ((Below.refl w1.heap.size w1).alloc (Nat.le_refl _) _).trans (hw2.mono (by simp))
    have k0 := (hB2.cell hb2).trans hcs.head.1
    have k1 := (hB2.cell hb2).trans hcs.head.2.1
    have hfz2 : ∀ i, w2.frozen? ⟨b, i, none⟩ = false := fun i => (hB2.frozen hb2).trans (hfz i)
    have hf1 := hfz2 (off + 1)
    have hcs2 := hcs.below hb2 hB2
    have hbel2 : Below w.heap.size w w2 := hbel.trans (hB2.mono hbel.size)
    have f1 : IntKind.i64.wrap (z.v + y.v) = z.v + y.v := IntWalk.i64_in _ (by omega)
    have f2 : IntKind.i64.wrap (y.v - v) = y.v - v := IntWalk.i64_in _ (by omega)
    have f3 : IntKind.i64.wrap (z.v + (y.v - v)) = z.v + (y.v - v) := IntWalk.i64_in _ (by omega)
    have g1 : b ≠ w1.heap.size := by omega
    have g2 : b ≠ w.heap.size := by omega
    have g3 : w1.heap.size ≠ w.heap.size := by omega
    clear r0 r1 r2 z0 z1 z2 X hw2 hcs hfz hB2
    have hvh := Lib.hid hv
    clear hv
    obtain ⟨r0, r1, r2, z0, z1, z2⟩ := id X2
    obtain ⟨s0, s1, s2, t0, t1, t2⟩ := id Y2
    by_cases he : ofE c q = 0
    · rw [he]
      by_cases hlt : z.v + y.v < ofV c q
      · have hv : z.v + y.v = v := by have := hvh.out; rwa [if_pos (.inr hlt)] at this
        clear hvh
        go_wp2_with fail
        go_quiet (fail)
        go_wp2_with fail
        go_region
        all_goals
          go_wp2_with fail
          go_region
          all_goals
            go_wp2_with fail
            have hE := outW_cells (W := w2.drewN (nq + 1)) (u := z.v + (y.v - v)) (v := v) (yq := y.q) (yp := y.p) g1 g2 g3 hcs2 ⟨X2.c0, X2.c1, X2.c2, X2.f0, X2.f1, X2.f2⟩
            have hbE : Below w.heap.size w (outW (w2.drewN (nq + 1)) w.heap.size w1.heap.size b off (z.v + (y.v - v)) v y.q y.p) := ((((((show Below w.heap.size w (w2.drewN (nq + 1)) from ⟨hbel2.os, hbel2.tape, hbel2.output, hbel2.size, hbel2.block⟩).setCell (p := ⟨b, off + 1, none⟩) (Nat.le_of_succ_le hb) _).setCell (p := ⟨w1.heap.size, 1, none⟩) (Nat.le_of_lt lX) _).setCell (p := ⟨w.heap.size, 0, none⟩) (Nat.le_refl _) _).setCell (p := ⟨w.heap.size, 1, none⟩) (Nat.le_refl _) _).setCell (p := ⟨w.heap.size, 2, none⟩) (Nat.le_refl _) _)
            change bodyPost _ _ _ _ _ (outW (w2.drewN (nq + 1)) w.heap.size w1.heap.size b off (z.v + (y.v - v)) v y.q y.p).drew
            generalize outW (w2.drewN (nq + 1)) w.heap.size w1.heap.size b off (z.v + (y.v - v)) v y.q y.p = E at *
            have hEs : w.heap.size < E.heap.size := by rw [hE.2.2.1]; show w.heap.size < w2.heap.size; omega
            have hEb : b < E.heap.size := by rw [hE.2.2.1]; show b < w2.heap.size; omega
            have hEf : ∀ i, E.frozen? ⟨b, i, none⟩ = false := fun i => (hE.2.2.2 _).trans (hfz2 i)
            have hEc := hE.1
            have q0 : E.drew.cell? ⟨w.heap.size, 0, none⟩ = some (.int .i64 y.q) := hE.2.1.c0
            have q1 : E.drew.cell? ⟨w.heap.size, 1, none⟩ = some (.int .i64 v) := hE.2.1.c1
            have q2 : E.drew.cell? ⟨w.heap.size, 2, none⟩ = some (.int .i64 y.p) := hE.2.1.c2
            have hEs2 : w.heap.size < E.drew.heap.size := hEs
            clear hE
            exact bodyPost_ret (v := .tuple #[.slice (some ⟨b, off, none⟩) (z :: t).length c1, (⟨y.q, v, y.p⟩ : Lay).val, .int .i64 0]) (by simp [results, Try.results20, go_sem, hEs2, q0, q1, q2, Lay.val]) rfl ⟨_, rfl, ⟨_, c1, rfl, hcap, hmax, .inr ⟨b, off, rfl, by omega, hEb, hEc, hEf⟩⟩, hbE.drew⟩
      · have hv : ofV c q = v := by have := hvh.out; rwa [if_neg (by simp [he]; omega)] at this
        clear hvh
        go_wp2_with fail
        go_quiet (fail)
        go_wp2_with fail
        go_region
        all_goals
          go_wp2_with fail
          go_region
          all_goals
            go_wp2_with fail
            have hE := outW_cells (W := w2.drewN (nq + 1)) (u := z.v + (y.v - v)) (v := v) (yq := y.q) (yp := y.p) g1 g2 g3 hcs2 ⟨X2.c0, X2.c1, X2.c2, X2.f0, X2.f1, X2.f2⟩
            have hbE : Below w.heap.size w (outW (w2.drewN (nq + 1)) w.heap.size w1.heap.size b off (z.v + (y.v - v)) v y.q y.p) := ((((((show Below w.heap.size w (w2.drewN (nq + 1)) from ⟨hbel2.os, hbel2.tape, hbel2.output, hbel2.size, hbel2.block⟩).setCell (p := ⟨b, off + 1, none⟩) (Nat.le_of_succ_le hb) _).setCell (p := ⟨w1.heap.size, 1, none⟩) (Nat.le_of_lt lX) _).setCell (p := ⟨w.heap.size, 0, none⟩) (Nat.le_refl _) _).setCell (p := ⟨w.heap.size, 1, none⟩) (Nat.le_refl _) _).setCell (p := ⟨w.heap.size, 2, none⟩) (Nat.le_refl _) _)
            change bodyPost _ _ _ _ _ (outW (w2.drewN (nq + 1)) w.heap.size w1.heap.size b off (z.v + (y.v - v)) v y.q y.p).drew
            generalize outW (w2.drewN (nq + 1)) w.heap.size w1.heap.size b off (z.v + (y.v - v)) v y.q y.p = E at *
            have hEs : w.heap.size < E.heap.size := by rw [hE.2.2.1]; show w.heap.size < w2.heap.size; omega
            have hEb : b < E.heap.size := by rw [hE.2.2.1]; show b < w2.heap.size; omega
            have hEf : ∀ i, E.frozen? ⟨b, i, none⟩ = false := fun i => (hE.2.2.2 _).trans (hfz2 i)
            have hEc := hE.1
            have q0 : E.drew.cell? ⟨w.heap.size, 0, none⟩ = some (.int .i64 y.q) := hE.2.1.c0
            have q1 : E.drew.cell? ⟨w.heap.size, 1, none⟩ = some (.int .i64 v) := hE.2.1.c1
            have q2 : E.drew.cell? ⟨w.heap.size, 2, none⟩ = some (.int .i64 y.p) := hE.2.1.c2
            have hEs2 : w.heap.size < E.drew.heap.size := hEs
            clear hE
            exact bodyPost_ret (v := .tuple #[.slice (some ⟨b, off, none⟩) (z :: t).length c1, (⟨y.q, v, y.p⟩ : Lay).val, .int .i64 0]) (by simp [results, Try.results20, go_sem, hEs2, q0, q1, q2, Lay.val]) rfl ⟨_, rfl, ⟨_, c1, rfl, hcap, hmax, .inr ⟨b, off, rfl, by omega, hEb, hEc, hEf⟩⟩, hbE.drew⟩
    · have hv : z.v + y.v = v := by have := hvh.out; rwa [if_pos (.inl he)] at this
      clear hvh
      · go_wp2_with fail
        go_quiet (fail)
        go_wp2_with fail
        go_region
        all_goals
          go_wp2_with fail
          go_region
          all_goals
            go_wp2_with fail
            have hE := outW_cells (W := w2.drewN (nq + 1)) (u := z.v + (y.v - v)) (v := v) (yq := y.q) (yp := y.p) g1 g2 g3 hcs2 ⟨X2.c0, X2.c1, X2.c2, X2.f0, X2.f1, X2.f2⟩
            have hbE : Below w.heap.size w (outW (w2.drewN (nq + 1)) w.heap.size w1.heap.size b off (z.v + (y.v - v)) v y.q y.p) := ((((((show Below w.heap.size w (w2.drewN (nq + 1)) from ⟨hbel2.os, hbel2.tape, hbel2.output, hbel2.size, hbel2.block⟩).setCell (p := ⟨b, off + 1, none⟩) (Nat.le_of_succ_le hb) _).setCell (p := ⟨w1.heap.size, 1, none⟩) (Nat.le_of_lt lX) _).setCell (p := ⟨w.heap.size, 0, none⟩) (Nat.le_refl _) _).setCell (p := ⟨w.heap.size, 1, none⟩) (Nat.le_refl _) _).setCell (p := ⟨w.heap.size, 2, none⟩) (Nat.le_refl _) _)
            change bodyPost _ _ _ _ _ (outW (w2.drewN (nq + 1)) w.heap.size w1.heap.size b off (z.v + (y.v - v)) v y.q y.p).drew
            generalize outW (w2.drewN (nq + 1)) w.heap.size w1.heap.size b off (z.v + (y.v - v)) v y.q y.p = E at *
            have hEs : w.heap.size < E.heap.size := by rw [hE.2.2.1]; show w.heap.size < w2.heap.size; omega
            have hEb : b < E.heap.size := by rw [hE.2.2.1]; show b < w2.heap.size; omega
            have hEf : ∀ i, E.frozen? ⟨b, i, none⟩ = false := fun i => (hE.2.2.2 _).trans (hfz2 i)
            have hEc := hE.1
            have q0 : E.drew.cell? ⟨w.heap.size, 0, none⟩ = some (.int .i64 y.q) := hE.2.1.c0
            have q1 : E.drew.cell? ⟨w.heap.size, 1, none⟩ = some (.int .i64 v) := hE.2.1.c1
            have q2 : E.drew.cell? ⟨w.heap.size, 2, none⟩ = some (.int .i64 y.p) := hE.2.1.c2
            have hEs2 : w.heap.size < E.drew.heap.size := hEs
            clear hE
            exact bodyPost_ret (v := .tuple #[.slice (some ⟨b, off, none⟩) (z :: t).length c1, (⟨y.q, v, y.p⟩ : Lay).val, .int .i64 0]) (by simp [results, Try.results20, go_sem, hEs2, q0, q1, q2, Lay.val]) rfl ⟨_, rfl, ⟨_, c1, rfl, hcap, hmax, .inr ⟨b, off, rfl, by omega, hEb, hEc, hEf⟩⟩, hbE.drew⟩
end Go.Proofs.Ytgahhifedgmicaa
