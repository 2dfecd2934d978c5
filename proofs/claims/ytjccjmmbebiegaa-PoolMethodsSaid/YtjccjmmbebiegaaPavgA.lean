/-
  Pools as they are read; pavg.own, pavg.Free.
  pavg.Free, pavg.In, pavg.is. Their walks.
  pavg.In, pavg.Wait, pavg.Back. Their walks.
  pavg.Back, pavg.Out. Their walks.
-/
import Derived.Test.YtjccjmmbebiegaaStdA
import Derived.Deep.RegionHeld3
import Derived.Deep.Cut
import Derived.Deep.CutRange
import Derived.Deep.RegionWith

/- Pavg1 -/

set_option linter.unusedVariables false
set_option linter.unusedSimpArgs false
namespace Go.Proofs.Ytjccjmmbebiegaa
open Go.RowKit

/-- 'append([]T(nil), l...)', in the text's order: a row of the call's own that reads as l. -/
theorem wpList_copy {P : Program} (w : World) {ops : Array Oper} {rest : List Oper} {o : Oper} {fr : Act} {Q : Exit → Act → World → Prop} (hgd : o.guard = none) (x : Operand) (t : TypeId)
    (ho : o.op = .call { callee := .builtin .append, args := #[.const (.slice none 0 0), x], argTypes := #[t, t] })
    (e : TypeId) (size : Nat) (E : Elem P t e size) (a : Option Addr) (n cap : Nat) (zs : List Int) (hx : fr.eval x = .slice a n cap) (hrow : Row w size a n cap zs) (hn : n * (size * 8) ≤ 140737488355328)
    (h : ∀ v' w', OwnI w' w.heap.size e size v' n zs → Below w.heap.size w w' → wpList P ops Q rest (fr.put o.dst v') w') : wpList P ops Q (o :: rest) fr w := by
  have hs := step_copy (P := P) (w := w) (ops := ops) (o := o) (fr := fr) (K := fun a' w' => wpList P ops Q rest a' w') (Q := Q) (F := wpList P ops Q rest fr w) hgd x t ho e size E a n cap zs hx hrow hn h
  have hw : Region.wanted o (yielded ops fr.tmps) = true := by simp [Region.wanted, hgd]
  rw [if_pos hw] at hs
  rw [wpList, if_pos hw]
  exact .inl hs

/-- What waits, of each kind. -/
structure Pnd where
  a : Int
  b : Int
  c : Int
def poolV (v : Value) (d : Pnd) : Value := .agg #[v, .int .i64 d.a, .int .i64 d.b, .int .i64 d.c]

/-- A pool in a block. -/
structure CellP (w : World) (b : Nat) (v : Value) (d : Pnd) : Prop where
  c0 : w.cell? ⟨b, 0, none⟩ = some v
  c1 : w.cell? ⟨b, 1, none⟩ = some (.int .i64 d.a)
  c2 : w.cell? ⟨b, 2, none⟩ = some (.int .i64 d.b)
  c3 : w.cell? ⟨b, 3, none⟩ = some (.int .i64 d.c)
  f0 : w.frozen? ⟨b, 0, none⟩ = false
  f1 : w.frozen? ⟨b, 1, none⟩ = false
  f2 : w.frozen? ⟨b, 2, none⟩ = false
  f3 : w.frozen? ⟨b, 3, none⟩ = false
theorem CellP.new (w : World) (v : Value) (d : Pnd) (t : TypeId) : CellP (w.alloc (.cells #[v, .int .i64 d.a, .int .i64 d.b, .int .i64 d.c] t)) w.heap.size v d := ⟨by simp, by simp, by simp, by simp, by simp, by simp, by simp, by simp⟩
theorem CellP.below {w w' : World} {b B : Nat} {v : Value} {d : Pnd} (h : CellP w b v d) (g : Below B w w') (hb : b < B) : CellP w' b v d :=
  ⟨(g.cell hb).trans h.c0, (g.cell hb).trans h.c1, (g.cell hb).trans h.c2, (g.cell hb).trans h.c3, (g.frozen hb).trans h.f0, (g.frozen hb).trans h.f1, (g.frozen hb).trans h.f2, (g.frozen hb).trans h.f3⟩
theorem CellP.alloc {w : World} {b : Nat} {v : Value} {d : Pnd} (h : CellP w b v d) (hb : b < w.heap.size) (o : Obj) : CellP (w.alloc o) b v d := h.below ((Below.refl w.heap.size w).alloc (Nat.le_refl _) o) hb

set_option maxHeartbeats 1000000 in
theorem pavg_own (a : Option Addr) (cap : Nat) (l : List Lay) (u : Value) (d : Pnd) (w : World) (h : Row w 3 a l.length cap (flat l)) (hn : l.length ≤ 900) :
    Calls Try.prog 28 #[poolV u d, .slice a l.length cap] w fun e w' => ∃ v, e = .returned (poolV v d) ∧ Hold w' w.heap.size v l ∧ Below w.heap.size w w' := by
  unfold poolV
  go_enter Try.func28, Try.ntmps28
  go_wp2_with (at_builtin; refine wpList_copy _ rfl _ 23 rfl 32 3 elem_Layer a l.length cap (flat l) rfl (h.below (by (repeat (first | assumption | exact Below.refl _ _ | refine ballc ?_ _ | refine bdrew ?_ | refine bdrewN ?_ _ | refine bset ?_ _ _ | refine bsetN ?_ (by omega) _ _ | refine bthen ?_ (by assumption))))) (by omega) ?_)
  intro v1 w1 O1 hw1
  have hA : AllI (flat l) := h.all
  have hH := Hold.of_own (base' := w.heap.size + 1 + 1) O1 (by first | (simp; done) | exact Nat.le_refl _)
  obtain ⟨a1, c1, rfl, R1⟩ := O1.row hA
  have hs := hw1.size
  simp only [World.size_alloc] at hs
  have P0 := ((CellP.new w u d 26).alloc (by simp) (.cells #[.slice none 0 0, .int .i64 0, .int .i64 0, .int .i64 0] 26)).below hw1 (by first | (simp; done) | omega)
  have P1 := (CellP.new (w.alloc (.cells #[u, .int .i64 d.a, .int .i64 d.b, .int .i64 d.c] 26)) (.slice none 0 0) ⟨0, 0, 0⟩ 26).below hw1 (by first | (simp; done) | omega)
  simp only [World.size_alloc] at P1
  obtain ⟨p0, p1, p2, p3, q0, q1, q2, q3⟩ := P0
  obtain ⟨r0, r1, r2, r3, s0, s1, s2, s3⟩ := P1
  have hbel : Below w.heap.size w w1 := Below.trans (((Below.refl _ _).alloc (Nat.le_refl _) _).alloc (by simp) _) (hw1.mono (by first | omega | (simp; omega)))
  have hn1 : w.heap.size + 1 ≠ w.heap.size := by omega
  have hl1 : w.heap.size < w1.heap.size := by omega
  have hl2 : w.heap.size + 1 < w1.heap.size := by omega
  clear O1 R1 hw1
  simp only at r0 r1 r2 r3
  go_wp2_with fail
  refine bodyPost_ret (v := .agg #[.slice a1 l.length c1, .int .i64 d.a, .int .i64 d.b, .int .i64 d.c]) (by simp [results, Try.results28, go_sem, hl1, hl2, hn1, p0, p1, p2, p3, r0, r1, r2, r3, q0, s0, s1, s2, s3]) rfl ⟨_, rfl, Hold.mono (base := w.heap.size + 1 + 1) ?_ (by omega), ?_⟩
  · repeat (first | refine Hold.set ?_ (by omega) _ _ | exact hH)
  · repeat (first | refine Below.setCell ?_ (by simp only; omega) _ | exact hbel)
end Go.Proofs.Ytjccjmmbebiegaa

/- Pavg2 -/

set_option linter.unusedVariables false
set_option linter.unusedSimpArgs false
namespace Go.Proofs.Ytjccjmmbebiegaa
open Go.RowKit

/-- What waits is within the limits. -/
structure PndOk (d : Pnd) : Prop where
  a0 : 0 ≤ d.a
  b0 : 0 ≤ d.b
  c0 : 0 ≤ d.c
  a1 : d.a ≤ 288230376151711744
  b1 : d.b ≤ 288230376151711744
  c1 : d.c ≤ 288230376151711744
/-- What does not wait. -/
def freeP (l : List Lay) (d : Pnd) : Int := qs l - d.a - d.b - d.c
theorem qs_take_bd {l : List Lay} (h : LR l) (j : Nat) : 0 ≤ qs (l.take j) ∧ qs (l.take j) ≤ 288230376151711744 := by
  have h1 := qs_pos (l := l.take j) fun x hx => h.ok x (List.mem_of_mem_take hx)
  have h2 := qs_pos (l := l.drop j) fun x hx => h.ok x (List.mem_of_mem_drop hx)
  have h3 : qs (l.take j) + qs (l.drop j) = qs l := by rw [← qs_append, List.take_append_drop]
  have := h.q
  omega
theorem qs_take_snoc {l : List Lay} {j : Nat} {x : Lay} (hx : l[j]? = some x) : qs (l.take (j + 1)) = qs (l.take j) + x.q := by
  rw [List.take_add_one, hx]; simp [qs]
/-- The cells of one layer. -/
theorem CellsAt.lay {w : World} {b off : Nat} {l : List Lay} {j : Nat} {x : Lay} (hc : CellsAt w b off (flat l)) (hx : l[j]? = some x) :
    w.cell? ⟨b, off + j * 3, none⟩ = some (.int .i64 x.q) ∧ w.cell? ⟨b, off + j * 3 + 1, none⟩ = some (.int .i64 x.v) ∧ w.cell? ⟨b, off + j * 3 + 2, none⟩ = some (.int .i64 x.p) := by
  obtain ⟨h0, h1, h2⟩ := flat_get l j x hx
  have hfl := flat_len l
  have hj : j < l.length := by
    rcases Nat.lt_or_ge j l.length with h | h
    · exact h
    · rw [List.getElem?_eq_none h] at hx; cases hx
  exact ⟨by rw [hc (j * 3) (by omega), h0], by rw [Nat.add_assoc, hc (j * 3 + 1) (by omega), h1], by rw [Nat.add_assoc, hc (j * 3 + 2) (by omega), h2]⟩

set_option maxRecDepth 20000 in
set_option maxHeartbeats 2000000 in
theorem pavg_Free (a : Option Addr) (cap : Nat) (l : List Lay) (d : Pnd) (w : World) (h : Row w 3 a l.length cap (flat l)) (hL : LR l) (hd : PndOk d) :
    Calls Try.prog 12 #[poolV (.slice a l.length cap) d] w fun e w' => e = .returned (.int .i64 (freeP l d)) ∧ Below w.heap.size w w' := by
  obtain ⟨da, db, dc⟩ := d
  obtain ⟨ha0, hb0, hc0, ha1, hb1, hc1⟩ := hd
  simp only at ha0 hb0 hc0 ha1 hb1 hc1
  unfold poolV freeP
  simp only
  have hn30 := hL.len
  obtain ⟨n, hN⟩ : ∃ n, l.length = n := ⟨_, rfl⟩
  have hat := h.at_
  have hle := h.le
  have hmax := h.max
  unfold maxLen at hmax
  rw [hN] at hat hle hn30 ⊢
  have hNh := Lib.hid hN
  have hLh := Lib.hid hL
  obtain ⟨r, hr⟩ : ∃ r, qs l - da - db - dc = r := ⟨_, rfl⟩
  rw [hr]
  have hrh := Lib.hid hr
  clear h hN hL hr
  go_enter Try.func12, Try.ntmps12
  go_wp2_with fail
  have hb0' : Below w.heap.size w (w.alloc (.cells #[.slice a n cap, .int .i64 da, .int .i64 db, .int .i64 dc] 26)) := by (repeat (first | assumption | exact Below.refl _ _ | refine ballc ?_ _ | refine bdrew ?_ | refine bdrewN ?_ _ | refine bset ?_ _ _ | refine bsetN ?_ (by omega) _ _ | refine bthen ?_ (by assumption)))
  have P0 := CellP.new w (.slice a n cap) ⟨da, db, dc⟩ 26
  have hs0 : w.heap.size < (w.alloc (.cells #[.slice a n cap, .int .i64 da, .int .i64 db, .int .i64 dc] 26)).heap.size := by simp
  generalize w.alloc (.cells #[.slice a n cap, .int .i64 da, .int .i64 db, .int .i64 dc] 26) = W0 at *
  go_loopw [3, 11] (fun s i wr => ∃ j : Nat, j ≤ n ∧ i = .int .i64 j ∧ s = .int .i64 (qs (l.take j)) ∧ Below W0.heap.size W0 wr) (fun _ i _ => n - (intOf i).toNat)
  case atStart => exact ⟨0, by omega, rfl, rfl, Below.refl _ _⟩
  case round =>
    obtain ⟨j, hj, rfl, rfl, hbel⟩ := hrel
    have hsz := hbel.size
    have hqb := qs_take_bd hLh.out j
    by_cases hlt : j < n
    · obtain ⟨b, off, rfl, hb, hc⟩ : ∃ b off, a = some ⟨b, off, none⟩ ∧ b < w.heap.size ∧ CellsAt w b off (flat l) := by
        rcases hat with h0 | h0
        · omega
        · exact h0
      obtain ⟨x, hx⟩ : ∃ x, l[j]? = some x := ⟨l[j]'(by rw [hNh.out]; exact hlt), List.getElem?_eq_getElem _⟩
      have hcw : CellsAt wr b off (flat l) := fun i hi => (hbel.cell (p := ⟨b, off + i, none⟩) (by simp only; omega)).trans ((hb0'.cell (p := ⟨b, off + i, none⟩) hb).trans (hc i hi))
      obtain ⟨c0, c1, c2⟩ := hcw.lay hx
      have hst := qs_take_snoc hx
      have hqb2 := qs_take_bd hLh.out (j + 1)
      have hltI : (j : Int) < (n : Int) := by omega
      have hj0 : (0 : Int) ≤ (j : Int) := by omega
      obtain ⟨S, hS⟩ : ∃ S, qs (l.take j) = S := ⟨_, rfl⟩
      rw [hS] at hst hqb ⊢
      rw [hst] at hqb2
      obtain ⟨hq1, hq2⟩ := hqb
      obtain ⟨hq3, hq4⟩ := hqb2
      have hbr : b < wr.heap.size := by omega
      have hsth := Lib.hid hst
      clear hc hx hst hS hcw
      go_wp2_with fail
      go_roundw
      case rel => exact ⟨j + 1, by omega, by go_num, by rw [hsth.out], by (repeat (first | assumption | exact Below.refl _ _ | refine ballc ?_ _ | refine bdrew ?_ | refine bdrewN ?_ _ | refine bset ?_ _ _ | refine bsetN ?_ (by omega) _ _ | refine bthen ?_ (by assumption)))⟩
      case measure => simp [intOf]; omega
    · have ej : j = n := by omega
      subst ej
      have hge : ¬ (j : Int) < (j : Int) := by omega
      have htk : l.take j = l := List.take_of_length_le (by rw [hNh.out]; omega)
      rw [htk] at hqb ⊢
      obtain ⟨hq1, hq2⟩ := hqb
      obtain ⟨S, hS⟩ : ∃ S, qs l = S := ⟨_, rfl⟩
      rw [hS] at hq1 hq2 hrh ⊢
      have P1 := P0.below hbel hs0
      obtain ⟨p0, p1, p2, p3, -, -, -, -⟩ := P1
      simp only at p1 p2 p3
      have hsr : w.heap.size < wr.heap.size := by omega
      clear htk hS P0
      have i0 : ∀ W, (Instr.index 24 (.agg #[.int .i64 da, .int .i64 db, .int .i64 dc]) (.int .i64 0)).run Try.prog W = .ok (.int .i64 da) W := fun _ => by kernel_rfl
      have i1 : ∀ W, (Instr.index 24 (.agg #[.int .i64 da, .int .i64 db, .int .i64 dc]) (.int .i64 1)).run Try.prog W = .ok (.int .i64 db) W := fun _ => by kernel_rfl
      have i2 : ∀ W, (Instr.index 24 (.agg #[.int .i64 da, .int .i64 db, .int .i64 dc]) (.int .i64 2)).run Try.prog W = .ok (.int .i64 dc) W := fun _ => by kernel_rfl
      go_wp2_with fail
      refine wp_loop_rounds 4 ?_
      rw [rounds_succ]
      go_wp2_with fail
      rw [rounds_succ]
      go_wp2_with fail
      rw [rounds_succ]
      go_wp2_with fail
      rw [rounds_succ]
      go_wp2_with fail
      go_ret
      exact ⟨ret_int hrh.out, hb0'.trans (hbel.mono (by omega))⟩

theorem pavg_is (k : Int) (w : World) : Calls Try.prog 29 #[.int .i64 k] w fun e w' => e = .returned (.bool (decide (0 ≤ k) && decide (k < 3))) ∧ w = w' := by
  go_enter Try.func29, Try.ntmps29
  by_cases h0 : 0 ≤ k
  · by_cases h1 : k < 3
    · go_wp2_with fail
      go_ret
      exact ⟨ret_bool (by simp [h0, h1]), rfl⟩
    · go_wp2_with fail
      go_ret
      exact ⟨ret_bool (by simp [h1]), rfl⟩
  · go_wp2_with fail
    go_ret
    exact ⟨ret_bool (by simp; omega), rfl⟩
end Go.Proofs.Ytjccjmmbebiegaa

/- Pavg3 -/

set_option linter.unusedVariables false
set_option linter.unusedSimpArgs false
namespace Go.Proofs.Ytjccjmmbebiegaa
open Go.RowKit

/-- A pool that is answered, and an error. -/
def HoldPE (w : World) (l : List Lay) (d : Pnd) (e' : Int) (e : Ending) (w' : World) : Prop :=
  ∃ v, e = .returned (.tuple #[poolV v d, .int .i64 e']) ∧ Hold w' w.heap.size v l ∧ Below w.heap.size w w'
theorem LR.all {l : List Lay} (h : LR l) : AllI (flat l) := by
  intro z hz
  obtain ⟨x, hx, hz⟩ := List.mem_flatMap.1 hz
  have := h.at_ hx
  simp at hz
  rcases hz with rfl | rfl | rfl
  · exact ⟨by omega, by omega⟩
  · exact ⟨by omega, by omega⟩
  · exact ⟨by omega, by omega⟩
theorem LayRow.slice {w : World} {v : Value} {l : List Lay} (h : LayRow w v l) : ∃ a cap, v = .slice a l.length cap ∧ Row w 3 a l.length cap (flat l) := h

set_option maxRecDepth 20000 in
set_option maxHeartbeats 2000000 in
theorem pavg_In (a : Option Addr) (cap : Nat) (l : List Lay) (d : Pnd) (x : Lay) (w : World) (h : Row w 3 a l.length cap (flat l)) (hL : LR l) (hx : AllI [x.q, x.v, x.p]) :
    Calls Try.prog 8 #[poolV (.slice a l.length cap) d, x.val] w (HoldPE w (inM l x).1 d (inM l x).2) := by
  have hm : LR (inM l x).1 := inM_LR hL
  have hcall := fun W (hW : Row W 3 a l.length cap (flat l)) => mavg_In a cap l x W hW (by have := hL.len; omega) hx
  obtain ⟨m, e', hI⟩ : ∃ m e', inM l x = (m, e') := ⟨_, _, rfl⟩
  rw [hI] at hm hcall ⊢
  obtain ⟨n, hN⟩ : ∃ n, l.length = n := ⟨_, rfl⟩
  rw [hN] at h hcall ⊢
  have hcallh := Lib.hid hcall
  have hmh := Lib.hid hm
  clear hN hI hcall hm hL
  obtain ⟨xq, xv, xp⟩ := x
  obtain ⟨da, db, dc⟩ := d
  unfold poolV Lay.val
  simp only
  go_enter Try.func8, Try.ntmps8
  go_wp2_with fail
  have hB0 : Below w.heap.size w (((w.alloc (.cells #[.slice a n cap, .int .i64 da, .int .i64 db, .int .i64 dc] 26)).alloc (.cells #[.int .i64 xq, .int .i64 xv, .int .i64 xp] 32)).alloc (.cells #[.slice none 0 0, .int .i64 0, .int .i64 0, .int .i64 0] 26)) := by (repeat (first | assumption | exact Below.refl _ _ | refine ballc ?_ _ | refine bdrew ?_ | refine bdrewN ?_ _ | refine bset ?_ _ _ | refine bsetN ?_ (by omega) _ _ | refine bthen ?_ (by assumption)))
  have P0 := ((CellP.new w (.slice a n cap) ⟨da, db, dc⟩ 26).alloc (by simp) (.cells #[.int .i64 xq, .int .i64 xv, .int .i64 xp] 32)).alloc (by simp; omega) (.cells #[.slice none 0 0, .int .i64 0, .int .i64 0, .int .i64 0] 26)
  have PR := CellP.new ((w.alloc (.cells #[.slice a n cap, .int .i64 da, .int .i64 db, .int .i64 dc] 26)).alloc (.cells #[.int .i64 xq, .int .i64 xv, .int .i64 xp] 32)) (.slice none 0 0) ⟨0, 0, 0⟩ 26
  simp only [World.size_alloc] at PR
  have hS0 : (((w.alloc (.cells #[.slice a n cap, .int .i64 da, .int .i64 db, .int .i64 dc] 26)).alloc (.cells #[.int .i64 xq, .int .i64 xv, .int .i64 xp] 32)).alloc (.cells #[.slice none 0 0, .int .i64 0, .int .i64 0, .int .i64 0] 26)).heap.size = w.heap.size + 1 + 1 + 1 := by simp
  generalize ((w.alloc (.cells #[.slice a n cap, .int .i64 da, .int .i64 db, .int .i64 dc] 26)).alloc (.cells #[.int .i64 xq, .int .i64 xv, .int .i64 xp] 32)).alloc (.cells #[.slice none 0 0, .int .i64 0, .int .i64 0, .int .i64 0] 26) = W0 at *
  refine (hcallh.out W0 (h.below hB0)).mono ?_
  rintro e w1 ⟨v1, rfl, hh1, hw1⟩
  have hw1s := hw1.size
  have P1 := P0.below hw1 (by omega)
  have PR1 := PR.below hw1 (by omega)
  obtain ⟨a1, c1, rfl, R1⟩ := hh1.row hmh.out.all
  have hb1 : w.heap.size < w1.heap.size := by omega
  have hb3 : w.heap.size + 1 + 1 < w1.heap.size := by omega
  have hbel1 : Below w.heap.size w w1 := hB0.trans (hw1.mono (by omega))
  obtain ⟨p0, p1, p2, p3, -, -, -, -⟩ := P1
  simp only at p1 p2 p3
  clear hS0 P0 PR hw1 hh1 hB0
  go_wp2_with fail
  refine (pavg_own a1 c1 m (.slice a n cap) ⟨da, db, dc⟩ _ R1 (by have := hmh.out.len; omega)).mono ?_
  rintro e w2 ⟨v2, rfl, hh2, hw2⟩
  have hw2s := hw2.size
  obtain ⟨a2, c2, rfl, -⟩ := hh2.row hmh.out.all
  obtain ⟨r0, r1, r2, r3, s0, s1, s2, s3⟩ := PR1.below hw2 (by omega)
  simp only at r1 r2 r3
  have hl2 : w.heap.size + 1 + 1 < w2.heap.size := by omega
  have hbel2 : Below w.heap.size w w2 := hbel1.trans (hw2.mono (by omega))
  clear p0 p1 p2 p3 PR1 R1 hw2
  unfold poolV
  go_wp2_with fail
  refine bodyPost_ret (v := .tuple #[.agg #[.slice a2 m.length c2, .int .i64 da, .int .i64 db, .int .i64 dc], .int .i64 e']) (by simp [results, Try.results8, go_sem, hl2, r0, r1, r2, r3, s0, s1, s2, s3]) rfl ⟨_, rfl, Hold.mono (base := w1.heap.size) ?_ (by omega), ?_⟩
  · repeat (first | refine Hold.set ?_ (by omega) _ _ | exact hh2)
  · repeat (first | refine Below.setCell ?_ (by simp only; omega) _ | exact hbel2)

theorem CellP.far {w : World} {b c : Nat} {v : Value} {d : Pnd} (h : CellP w b v d) (hne : b ≠ c) (i : Nat) (x : Value) : CellP (w.setCell ⟨c, i, none⟩ x) b v d := by
  have e : ∀ j, (w.setCell ⟨c, i, none⟩ x).cell? ⟨b, j, none⟩ = w.cell? ⟨b, j, none⟩ := fun j => World.cell?_of_block (w := w) (Below.heap_setCell _ _ _ _ hne)
  exact ⟨(e 0).trans h.c0, (e 1).trans h.c1, (e 2).trans h.c2, (e 3).trans h.c3, by simpa using h.f0, by simpa using h.f1, by simpa using h.f2, by simpa using h.f3⟩
theorem CellP.put {w : World} {b : Nat} {u : Value} {d0 : Pnd} (h : CellP w b u d0) (v : Value) (x y z : Int) :
    CellP ((((w.setCell ⟨b, 0, none⟩ v).setCell ⟨b, 1, none⟩ (.int .i64 x)).setCell ⟨b, 2, none⟩ (.int .i64 y)).setCell ⟨b, 3, none⟩ (.int .i64 z)) b v ⟨x, y, z⟩ := by
  obtain ⟨p0, p1, p2, p3, q0, q1, q2, q3⟩ := h
  exact ⟨by simp [go_sem, p0], by simp [go_sem, p1], by simp [go_sem, p2], by simp [go_sem, p3], by simpa using q0, by simpa using q1, by simpa using q2, by simpa using q3⟩
theorem Hold.rowIs {w : World} {base n c : Nat} {a : Option Addr} {l : List Lay} (h : Hold w base (.slice a n c) l) (ha : AllI (flat l)) : Row w 3 a n c (flat l) := by
  obtain ⟨a', c', e, R⟩ := h.row ha
  injection e with e1 e2 e3
  subst e1; subst e2; subst e3
  exact R
def Pnd.get (d : Pnd) (k : Int) : Int := if k = 0 then d.a else if k = 1 then d.b else d.c
def Pnd.add (d : Pnd) (k q : Int) : Pnd := if k = 0 then ⟨d.a + q, d.b, d.c⟩ else if k = 1 then ⟨d.a, d.b + q, d.c⟩ else ⟨d.a, d.b, d.c + q⟩
def waitS (l : List Lay) (d : Pnd) (k q : Int) : Pnd × Int := if k < 0 ∨ 3 ≤ k ∨ q < 1 then (d, 1) else if freeP l d < q then (d, 5) else (d.add k q, 0)
def backS (d : Pnd) (k q : Int) : Pnd × Int := if k < 0 ∨ 3 ≤ k ∨ q < 1 then (d, 1) else if d.get k < q then (d, 5) else (d.add k (-q), 0)

set_option maxRecDepth 20000 in
set_option maxHeartbeats 4000000 in
theorem pavg_Wait (a : Option Addr) (cap : Nat) (l : List Lay) (d : Pnd) (k q : Int) (w : World) (h : Row w 3 a l.length cap (flat l)) (hL : LR l) (hd : PndOk d) (hk : I64 k) (hq : I64 q) :
    Calls Try.prog 9 #[poolV (.slice a l.length cap) d, .int .i64 k, .int .i64 q] w (HoldPE w l (waitS l d k q).1 (waitS l d k q).2) := by
  have h1 : (k < 0 ∨ 3 ≤ k ∨ q < 1) → waitS l d k q = (d, 1) := fun h => by unfold waitS; rw [if_pos h]
  have h2 : ¬ (k < 0 ∨ 3 ≤ k ∨ q < 1) → freeP l d < q → waitS l d k q = (d, 5) := fun h g => by unfold waitS; rw [if_neg h, if_pos g]
  have h3 : ¬ (k < 0 ∨ 3 ≤ k ∨ q < 1) → ¬ freeP l d < q → waitS l d k q = (d.add k q, 0) := fun h g => by unfold waitS; rw [if_neg h, if_neg g]
  obtain ⟨r, hr⟩ : ∃ r, waitS l d k q = r := ⟨_, rfl⟩
  rw [hr] at h1 h2 h3 ⊢
  have h1h := Lib.hid h1
  have h2h := Lib.hid h2
  have h3h := Lib.hid h3
  clear h1 h2 h3 hr
  have hown := fun a cap u W (hW : Row W 3 a l.length cap (flat l)) => pavg_own a cap l u d W hW (by have := hL.len; omega)
  have hfree := fun a cap W (hW : Row W 3 a l.length cap (flat l)) => pavg_Free a cap l d W hW hL hd
  have hfb : freeP l d ≤ 288230376151711744 := by have := hL.q; have := hd.a0; have := hd.b0; have := hd.c0; unfold freeP; omega
  obtain ⟨n, hN⟩ : ∃ n, l.length = n := ⟨_, rfl⟩
  rw [hN] at h hown hfree ⊢
  obtain ⟨f, hf⟩ : ∃ f, freeP l d = f := ⟨_, rfl⟩
  rw [hf] at h2h h3h hfree hfb
  obtain ⟨da, db, dc⟩ := d
  obtain ⟨ha0, hb0, hc0, ha1, hb1, hc1⟩ := hd
  simp only at ha0 hb0 hc0 ha1 hb1 hc1
  have hallh := Lib.hid hL.all
  unfold poolV at hown hfree ⊢
  simp only at hown hfree ⊢
  have hownh := Lib.hid hown
  have hfreeh := Lib.hid hfree
  have hNh := Lib.hid hN
  clear hown hfree hN hf hL
  go_enter Try.func9, Try.ntmps9
  go_wp2_with fail
  have hB0 : Below w.heap.size w ((w.alloc (.cells #[.slice a n cap, .int .i64 da, .int .i64 db, .int .i64 dc] 26)).alloc (.cells #[.slice none 0 0, .int .i64 0, .int .i64 0, .int .i64 0] 26)) := by (repeat (first | assumption | exact Below.refl _ _ | refine ballc ?_ _ | refine bdrew ?_ | refine bdrewN ?_ _ | refine bset ?_ _ _ | refine bsetN ?_ (by omega) _ _ | refine bthen ?_ (by assumption)))
  have P0 := (CellP.new w (.slice a n cap) ⟨da, db, dc⟩ 26).alloc (by simp) (.cells #[.slice none 0 0, .int .i64 0, .int .i64 0, .int .i64 0] 26)
  have PR := CellP.new (w.alloc (.cells #[.slice a n cap, .int .i64 da, .int .i64 db, .int .i64 dc] 26)) (.slice none 0 0) ⟨0, 0, 0⟩ 26
  simp only [World.size_alloc] at PR
  have hS0 : ((w.alloc (.cells #[.slice a n cap, .int .i64 da, .int .i64 db, .int .i64 dc] 26)).alloc (.cells #[.slice none 0 0, .int .i64 0, .int .i64 0, .int .i64 0] 26)).heap.size = w.heap.size + 1 + 1 := by simp
  generalize (w.alloc (.cells #[.slice a n cap, .int .i64 da, .int .i64 db, .int .i64 dc] 26)).alloc (.cells #[.slice none 0 0, .int .i64 0, .int .i64 0, .int .i64 0] 26) = W0 at *
  have hS1 : w.heap.size + 1 < W0.heap.size := by omega
  clear hS0
  refine (hownh.out a cap _ W0 (h.below hB0)).mono ?_
  rintro e w1 ⟨v1, rfl, hh1, hw1⟩
  have hw1s := hw1.size
  obtain ⟨a1, c1, rfl, R1⟩ := hh1.row hallh.out
  rw [hNh.out] at hh1 R1 ⊢
  have P1 := P0.below hw1 (by omega)
  have PR1 := PR.below hw1 (by omega)
  have hbel1 : Below w.heap.size w w1 := hB0.trans (hw1.mono (by omega))
  have hl0 : w.heap.size < w1.heap.size := by omega
  have hl1 : w.heap.size + 1 < w1.heap.size := by omega
  obtain ⟨p0, p1, p2, p3, q0, q1, q2, q3⟩ := P1
  obtain ⟨r0, r1, r2, r3, s0, s1, s2, s3⟩ := PR1
  simp only at p1 p2 p3 r1 r2 r3
  clear P0 PR hw1 hB0
  by_cases hbad : k < 0 ∨ 3 ≤ k ∨ q < 1
  · obtain rfl := h1h.out hbad
    go_wp2_with (go_at_call 29; refine (pavg_is _ _).mono ?_; rintro e w' ⟨rfl, rfl⟩)
    all_goals
      first
        | (exfalso; simp_all; omega)
        | (refine bodyPost_ret (v := .tuple #[.agg #[.slice a1 n c1, .int .i64 da, .int .i64 db, .int .i64 dc], .int .i64 1]) (by simp [results, Try.results9, go_sem, hl0, hl1, p0, p1, p2, p3, q0, q1, q2, q3, r0, r1, r2, r3, s0, s1, s2, s3]) rfl ⟨_, rfl, Hold.mono (base := W0.heap.size) ?_ (by omega), ?_⟩
           · repeat (first | refine Hold.set ?_ (by omega) _ _ | exact hh1)
           · repeat (first | refine Below.setCell ?_ (by simp only; omega) _ | exact hbel1))
  · obtain ⟨hk0, hk3, hq1⟩ : 0 ≤ k ∧ k < 3 ∧ 1 ≤ q := by omega
    have hP2 := (show CellP w1 w.heap.size (.slice a n cap) ⟨da, db, dc⟩ from ⟨p0, p1, p2, p3, q0, q1, q2, q3⟩).put (.slice a1 n c1) da db dc
    have hR2 := ((((show CellP w1 (w.heap.size + 1) (.slice none 0 0) ⟨0, 0, 0⟩ from ⟨r0, r1, r2, r3, s0, s1, s2, s3⟩).far (c := w.heap.size) (by omega) 0 (.slice a1 n c1)).far (c := w.heap.size) (by omega) 1 (.int .i64 da)).far (c := w.heap.size) (by omega) 2 (.int .i64 db)).far (c := w.heap.size) (by omega) 3 (.int .i64 dc)
    have hH2 : Hold ((((w1.setCell ⟨w.heap.size, 0, none⟩ (.slice a1 n c1)).setCell ⟨w.heap.size, 1, none⟩ (.int .i64 da)).setCell ⟨w.heap.size, 2, none⟩ (.int .i64 db)).setCell ⟨w.heap.size, 3, none⟩ (.int .i64 dc)) W0.heap.size (.slice a1 n c1) l := by
      repeat (first | refine Hold.set ?_ (by omega) _ _ | exact hh1)
    have hb2 : Below w.heap.size w ((((w1.setCell ⟨w.heap.size, 0, none⟩ (.slice a1 n c1)).setCell ⟨w.heap.size, 1, none⟩ (.int .i64 da)).setCell ⟨w.heap.size, 2, none⟩ (.int .i64 db)).setCell ⟨w.heap.size, 3, none⟩ (.int .i64 dc)) := by
      repeat (first | refine Below.setCell ?_ (by simp only; omega) _ | exact hbel1)
    have hsz2 : ((((w1.setCell ⟨w.heap.size, 0, none⟩ (.slice a1 n c1)).setCell ⟨w.heap.size, 1, none⟩ (.int .i64 da)).setCell ⟨w.heap.size, 2, none⟩ (.int .i64 db)).setCell ⟨w.heap.size, 3, none⟩ (.int .i64 dc)).heap.size = w1.heap.size := by simp [World.setCell]
    have h1f := h1h
    have hk1 : ¬ k < 0 := by omega
    have hk2 : ¬ 3 ≤ k := by omega
    have hq2 : ¬ q < 1 := by omega
    have hkd : (decide (0 ≤ k) && decide (k < 3)) = true := by simp [hk0, hk3]
    have g2 := fun g => h2h.out hbad g
    have g3 := fun g => h3h.out hbad g
    have g2h := Lib.hid g2
    have g3h := Lib.hid g3
    clear g2 g3 h1f hbad h1h h2h h3h
    go_wp2_with (go_at_call 29; refine (pavg_is _ _).mono ?_; rw [hkd]; rintro e w' ⟨rfl, rfl⟩)
    generalize (((w1.setCell ⟨w.heap.size, 0, none⟩ (.slice a1 n c1)).setCell ⟨w.heap.size, 1, none⟩ (.int .i64 da)).setCell ⟨w.heap.size, 2, none⟩ (.int .i64 db)).setCell ⟨w.heap.size, 3, none⟩ (.int .i64 dc) = w2 at *
    refine (hfreeh.out a1 c1 w2 (hH2.rowIs hallh.out)).mono ?_
    rintro e w3 ⟨rfl, hw3⟩
    have hw3s := hw3.size
    obtain ⟨p0, p1, p2, p3, q0, q1, q2, q3⟩ := hP2.below hw3 (by omega)
    obtain ⟨r0, r1, r2, r3, s0, s1, s2, s3⟩ := hR2.below hw3 (by omega)
    simp only at p1 p2 p3 r1 r2 r3
    have hH3 := hH2.below hw3
    have hb3 : Below w.heap.size w w3 := hb2.trans (hw3.mono (by omega))
    have hl0 : w.heap.size < w3.heap.size := by omega
    have hl1 : w.heap.size + 1 < w3.heap.size := by omega
    clear hP2 hR2 hH2 hb2 hw3
    by_cases hfq : f < q
    · obtain rfl := g2h.out hfq
      go_wp2_with fail
      refine bodyPost_ret (v := .tuple #[.agg #[.slice a1 n c1, .int .i64 da, .int .i64 db, .int .i64 dc], .int .i64 5]) (by simp [results, Try.results9, go_sem, hl0, hl1, p0, p1, p2, p3, q0, q1, q2, q3, r0, r1, r2, r3, s0, s1, s2, s3]) rfl ⟨_, rfl, Hold.mono (base := W0.heap.size) ?_ (by omega), ?_⟩
      · repeat (first | refine Hold.set ?_ (by omega) _ _ | exact hH3)
      · repeat (first | refine Below.setCell ?_ (by simp only; omega) _ | exact hb3)
    · have g4 := g3h.out (by omega)
      have hk : k = 0 ∨ k = 1 ∨ k = 2 := by omega
      rcases hk with rfl | rfl | rfl
      · obtain rfl : r = (⟨da + q, db, dc⟩, 0) := by rw [g4]; simp [Pnd.add]
        go_wp2_with fail
        refine bodyPost_ret (v := .tuple #[.agg #[.slice a1 n c1, .int .i64 (da + q), .int .i64 db, .int .i64 dc], .int .i64 0]) (by simp [results, Try.results9, go_sem, hl0, hl1, p0, p1, p2, p3, q0, q1, q2, q3, r0, r1, r2, r3, s0, s1, s2, s3]) rfl ⟨_, rfl, Hold.mono (base := W0.heap.size) ?_ (by omega), ?_⟩
        · repeat (first | refine Hold.set ?_ (by omega) _ _ | exact hH3)
        · repeat (first | refine Below.setCell ?_ (by simp only; omega) _ | exact hb3)
      · obtain rfl : r = (⟨da, db + q, dc⟩, 0) := by rw [g4]; simp [Pnd.add]
        go_wp2_with fail
        refine bodyPost_ret (v := .tuple #[.agg #[.slice a1 n c1, .int .i64 da, .int .i64 (db + q), .int .i64 dc], .int .i64 0]) (by simp [results, Try.results9, go_sem, hl0, hl1, p0, p1, p2, p3, q0, q1, q2, q3, r0, r1, r2, r3, s0, s1, s2, s3]) rfl ⟨_, rfl, Hold.mono (base := W0.heap.size) ?_ (by omega), ?_⟩
        · repeat (first | refine Hold.set ?_ (by omega) _ _ | exact hH3)
        · repeat (first | refine Below.setCell ?_ (by simp only; omega) _ | exact hb3)
      · obtain rfl : r = (⟨da, db, dc + q⟩, 0) := by rw [g4]; simp [Pnd.add]
        go_wp2_with fail
        refine bodyPost_ret (v := .tuple #[.agg #[.slice a1 n c1, .int .i64 da, .int .i64 db, .int .i64 (dc + q)], .int .i64 0]) (by simp [results, Try.results9, go_sem, hl0, hl1, p0, p1, p2, p3, q0, q1, q2, q3, r0, r1, r2, r3, s0, s1, s2, s3]) rfl ⟨_, rfl, Hold.mono (base := W0.heap.size) ?_ (by omega), ?_⟩
        · repeat (first | refine Hold.set ?_ (by omega) _ _ | exact hH3)
        · repeat (first | refine Below.setCell ?_ (by simp only; omega) _ | exact hb3)
end Go.Proofs.Ytjccjmmbebiegaa

/- Pavg4 -/

set_option linter.unusedVariables false
set_option linter.unusedSimpArgs false
namespace Go.Proofs.Ytjccjmmbebiegaa
open Go.RowKit

theorem pavg_is_ok {k : Int} (h0 : 0 ≤ k) (h1 : k < 3) (w : World) : Calls Try.prog 29 #[.int .i64 k] w fun e w' => e = .returned (.bool true) ∧ w = w' := by
  have := pavg_is k w
  rw [show (decide (0 ≤ k) && decide (k < 3)) = true by simp [h0, h1]] at this
  exact this

set_option maxRecDepth 20000 in
set_option maxHeartbeats 4000000 in
theorem pavg_Back (a : Option Addr) (cap : Nat) (l : List Lay) (d : Pnd) (k q : Int) (w : World) (h : Row w 3 a l.length cap (flat l)) (hL : LR l) (hd : PndOk d) (hk : I64 k) (hq : I64 q) :
    Calls Try.prog 14 #[poolV (.slice a l.length cap) d, .int .i64 k, .int .i64 q] w (HoldPE w l (backS d k q).1 (backS d k q).2) := by
  have h1 : (k < 0 ∨ 3 ≤ k ∨ q < 1) → backS d k q = (d, 1) := fun h => by unfold backS; rw [if_pos h]
  have h2 : ¬ (k < 0 ∨ 3 ≤ k ∨ q < 1) → d.get k < q → backS d k q = (d, 5) := fun h g => by unfold backS; rw [if_neg h, if_pos g]
  have h3 : ¬ (k < 0 ∨ 3 ≤ k ∨ q < 1) → ¬ d.get k < q → backS d k q = (d.add k (-q), 0) := fun h g => by unfold backS; rw [if_neg h, if_neg g]
  obtain ⟨r, hr⟩ : ∃ r, backS d k q = r := ⟨_, rfl⟩
  rw [hr] at h1 h2 h3 ⊢
  have h1h := Lib.hid h1
  have h2h := Lib.hid h2
  have h3h := Lib.hid h3
  clear h1 h2 h3 hr
  have hown := fun a cap u W (hW : Row W 3 a l.length cap (flat l)) => pavg_own a cap l u d W hW (by have := hL.len; omega)
  obtain ⟨n, hN⟩ : ∃ n, l.length = n := ⟨_, rfl⟩
  rw [hN] at h hown ⊢
  obtain ⟨da, db, dc⟩ := d
  obtain ⟨ha0, hb0, hc0, ha1, hb1, hc1⟩ := hd
  simp only at ha0 hb0 hc0 ha1 hb1 hc1
  have hallh := Lib.hid hL.all
  unfold poolV at hown ⊢
  simp only at hown ⊢
  have hownh := Lib.hid hown
  have hNh := Lib.hid hN
  clear hown hN hL
  go_enter Try.func14, Try.ntmps14
  go_wp2_with fail
  have hB0 : Below w.heap.size w ((w.alloc (.cells #[.slice a n cap, .int .i64 da, .int .i64 db, .int .i64 dc] 26)).alloc (.cells #[.slice none 0 0, .int .i64 0, .int .i64 0, .int .i64 0] 26)) := by (repeat (first | assumption | exact Below.refl _ _ | refine ballc ?_ _ | refine bdrew ?_ | refine bdrewN ?_ _ | refine bset ?_ _ _ | refine bsetN ?_ (by omega) _ _ | refine bthen ?_ (by assumption)))
  have P0 := (CellP.new w (.slice a n cap) ⟨da, db, dc⟩ 26).alloc (by simp) (.cells #[.slice none 0 0, .int .i64 0, .int .i64 0, .int .i64 0] 26)
  have PR := CellP.new (w.alloc (.cells #[.slice a n cap, .int .i64 da, .int .i64 db, .int .i64 dc] 26)) (.slice none 0 0) ⟨0, 0, 0⟩ 26
  simp only [World.size_alloc] at PR
  have hS0 : ((w.alloc (.cells #[.slice a n cap, .int .i64 da, .int .i64 db, .int .i64 dc] 26)).alloc (.cells #[.slice none 0 0, .int .i64 0, .int .i64 0, .int .i64 0] 26)).heap.size = w.heap.size + 1 + 1 := by simp
  generalize (w.alloc (.cells #[.slice a n cap, .int .i64 da, .int .i64 db, .int .i64 dc] 26)).alloc (.cells #[.slice none 0 0, .int .i64 0, .int .i64 0, .int .i64 0] 26) = W0 at *
  have hS1 : w.heap.size + 1 < W0.heap.size := by omega
  clear hS0
  refine (hownh.out a cap _ W0 (h.below hB0)).mono ?_
  rintro e w1 ⟨v1, rfl, hh1, hw1⟩
  have hw1s := hw1.size
  obtain ⟨a1, c1, rfl, R1⟩ := hh1.row hallh.out
  rw [hNh.out] at hh1 R1 ⊢
  have P1 := P0.below hw1 (by omega)
  have PR1 := PR.below hw1 (by omega)
  have hbel1 : Below w.heap.size w w1 := hB0.trans (hw1.mono (by omega))
  have hl0 : w.heap.size < w1.heap.size := by omega
  have hl1 : w.heap.size + 1 < w1.heap.size := by omega
  obtain ⟨p0, p1, p2, p3, q0, q1, q2, q3⟩ := P1
  obtain ⟨r0, r1, r2, r3, s0, s1, s2, s3⟩ := PR1
  simp only at p1 p2 p3 r1 r2 r3
  clear P0 PR hw1 hB0
  by_cases hbad : k < 0 ∨ 3 ≤ k ∨ q < 1
  · obtain rfl := h1h.out hbad
    go_wp2_with (go_at_call 29; refine (pavg_is _ _).mono ?_; rintro e w' ⟨rfl, rfl⟩)
    all_goals
      first
        | (exfalso; simp_all; omega)
        | (refine bodyPost_ret (v := .tuple #[.agg #[.slice a1 n c1, .int .i64 da, .int .i64 db, .int .i64 dc], .int .i64 1]) (by simp [results, Try.results14, go_sem, hl0, hl1, p0, p1, p2, p3, q0, q1, q2, q3, r0, r1, r2, r3, s0, s1, s2, s3]) rfl ⟨_, rfl, Hold.mono (base := W0.heap.size) ?_ (by omega), ?_⟩
           · repeat (first | refine Hold.set ?_ (by omega) _ _ | exact hh1)
           · repeat (first | refine Below.setCell ?_ (by simp only; omega) _ | exact hbel1))
  · obtain ⟨hk0, hk3, hq1⟩ : 0 ≤ k ∧ k < 3 ∧ 1 ≤ q := by omega
    have hq2 : ¬ q < 1 := by omega
    have g2 := fun g => h2h.out hbad g
    have g3 := fun g => h3h.out hbad g
    have g2h := Lib.hid g2
    have g3h := Lib.hid g3
    have hP2 := (show CellP w1 w.heap.size (.slice a n cap) ⟨da, db, dc⟩ from ⟨p0, p1, p2, p3, q0, q1, q2, q3⟩).put (.slice a1 n c1) da db dc
    have hR2 := ((((show CellP w1 (w.heap.size + 1) (.slice none 0 0) ⟨0, 0, 0⟩ from ⟨r0, r1, r2, r3, s0, s1, s2, s3⟩).far (c := w.heap.size) (by omega) 0 (.slice a1 n c1)).far (c := w.heap.size) (by omega) 1 (.int .i64 da)).far (c := w.heap.size) (by omega) 2 (.int .i64 db)).far (c := w.heap.size) (by omega) 3 (.int .i64 dc)
    have hH2 : Hold ((((w1.setCell ⟨w.heap.size, 0, none⟩ (.slice a1 n c1)).setCell ⟨w.heap.size, 1, none⟩ (.int .i64 da)).setCell ⟨w.heap.size, 2, none⟩ (.int .i64 db)).setCell ⟨w.heap.size, 3, none⟩ (.int .i64 dc)) W0.heap.size (.slice a1 n c1) l := by
      repeat (first | refine Hold.set ?_ (by omega) _ _ | exact hh1)
    have hb2 : Below w.heap.size w ((((w1.setCell ⟨w.heap.size, 0, none⟩ (.slice a1 n c1)).setCell ⟨w.heap.size, 1, none⟩ (.int .i64 da)).setCell ⟨w.heap.size, 2, none⟩ (.int .i64 db)).setCell ⟨w.heap.size, 3, none⟩ (.int .i64 dc)) := by
      repeat (first | refine Below.setCell ?_ (by simp only; omega) _ | exact hbel1)
    have hsz2 : ((((w1.setCell ⟨w.heap.size, 0, none⟩ (.slice a1 n c1)).setCell ⟨w.heap.size, 1, none⟩ (.int .i64 da)).setCell ⟨w.heap.size, 2, none⟩ (.int .i64 db)).setCell ⟨w.heap.size, 3, none⟩ (.int .i64 dc)).heap.size = w1.heap.size := by simp [World.setCell]
    clear g2 g3 hbad h1h h2h h3h
    go_wp2_with fail
    refine (pavg_is_ok (k := k) hk0 hk3 _).mono ?_
    rintro e w' ⟨rfl, rfl⟩
    generalize (((w1.setCell ⟨w.heap.size, 0, none⟩ (.slice a1 n c1)).setCell ⟨w.heap.size, 1, none⟩ (.int .i64 da)).setCell ⟨w.heap.size, 2, none⟩ (.int .i64 db)).setCell ⟨w.heap.size, 3, none⟩ (.int .i64 dc) = w2 at *
    clear p0 p1 p2 p3 q0 q1 q2 q3 r0 r1 r2 r3 s0 s1 s2 s3 hh1 R1 hbel1
    obtain ⟨p0, p1, p2, p3, q0, q1, q2, q3⟩ := hP2
    obtain ⟨r0, r1, r2, r3, s0, s1, s2, s3⟩ := hR2
    simp only at p1 p2 p3 r1 r2 r3
    have hl0 : w.heap.size < w2.heap.size := by omega
    have hl1 : w.heap.size + 1 < w2.heap.size := by omega
    clear hsz2
    have hk : k = 0 ∨ k = 1 ∨ k = 2 := by omega
    rcases hk with rfl | rfl | rfl
    · by_cases hfq : da < q
      · obtain rfl := g2h.out (by simp [Pnd.get]; exact hfq)
        go_wp2_with fail
        refine bodyPost_ret (v := .tuple #[.agg #[.slice a1 n c1, .int .i64 da, .int .i64 db, .int .i64 dc], .int .i64 5]) (by simp [results, Try.results14, go_sem, hl0, hl1, p0, p1, p2, p3, q0, q1, q2, q3, r0, r1, r2, r3, s0, s1, s2, s3]) rfl ⟨_, rfl, Hold.mono (base := W0.heap.size) ?_ (by omega), ?_⟩
        · repeat (first | refine Hold.set ?_ (by omega) _ _ | exact hH2)
        · repeat (first | refine Below.setCell ?_ (by simp only; omega) _ | exact hb2)
      · have g4 := g3h.out (by simp [Pnd.get]; omega)
        have hqs : q ≤ 288230376151711744 := by omega
        have hr : r = (⟨(da - q), db, dc⟩, 0) := by rw [g4]; unfold Pnd.add; simp; try omega
        clear g4 g2h g3h
        subst hr
        go_wp2_with fail
        refine bodyPost_ret (v := .tuple #[.agg #[.slice a1 n c1, .int .i64 (da - q), .int .i64 db, .int .i64 dc], .int .i64 0]) (by simp [results, Try.results14, go_sem, hl0, hl1, p0, p1, p2, p3, q0, q1, q2, q3, r0, r1, r2, r3, s0, s1, s2, s3]) rfl ⟨_, rfl, Hold.mono (base := W0.heap.size) ?_ (by omega), ?_⟩
        · repeat (first | refine Hold.set ?_ (by omega) _ _ | exact hH2)
        · repeat (first | refine Below.setCell ?_ (by simp only; omega) _ | exact hb2)
    · by_cases hfq : db < q
      · obtain rfl := g2h.out (by simp [Pnd.get]; exact hfq)
        go_wp2_with fail
        refine bodyPost_ret (v := .tuple #[.agg #[.slice a1 n c1, .int .i64 da, .int .i64 db, .int .i64 dc], .int .i64 5]) (by simp [results, Try.results14, go_sem, hl0, hl1, p0, p1, p2, p3, q0, q1, q2, q3, r0, r1, r2, r3, s0, s1, s2, s3]) rfl ⟨_, rfl, Hold.mono (base := W0.heap.size) ?_ (by omega), ?_⟩
        · repeat (first | refine Hold.set ?_ (by omega) _ _ | exact hH2)
        · repeat (first | refine Below.setCell ?_ (by simp only; omega) _ | exact hb2)
      · have g4 := g3h.out (by simp [Pnd.get]; omega)
        have hqs : q ≤ 288230376151711744 := by omega
        have hr : r = (⟨da, (db - q), dc⟩, 0) := by rw [g4]; unfold Pnd.add; simp; try omega
        clear g4 g2h g3h
        subst hr
        go_wp2_with fail
        refine bodyPost_ret (v := .tuple #[.agg #[.slice a1 n c1, .int .i64 da, .int .i64 (db - q), .int .i64 dc], .int .i64 0]) (by simp [results, Try.results14, go_sem, hl0, hl1, p0, p1, p2, p3, q0, q1, q2, q3, r0, r1, r2, r3, s0, s1, s2, s3]) rfl ⟨_, rfl, Hold.mono (base := W0.heap.size) ?_ (by omega), ?_⟩
        · repeat (first | refine Hold.set ?_ (by omega) _ _ | exact hH2)
        · repeat (first | refine Below.setCell ?_ (by simp only; omega) _ | exact hb2)
    · by_cases hfq : dc < q
      · obtain rfl := g2h.out (by simp [Pnd.get]; exact hfq)
        go_wp2_with fail
        refine bodyPost_ret (v := .tuple #[.agg #[.slice a1 n c1, .int .i64 da, .int .i64 db, .int .i64 dc], .int .i64 5]) (by simp [results, Try.results14, go_sem, hl0, hl1, p0, p1, p2, p3, q0, q1, q2, q3, r0, r1, r2, r3, s0, s1, s2, s3]) rfl ⟨_, rfl, Hold.mono (base := W0.heap.size) ?_ (by omega), ?_⟩
        · repeat (first | refine Hold.set ?_ (by omega) _ _ | exact hH2)
        · repeat (first | refine Below.setCell ?_ (by simp only; omega) _ | exact hb2)
      · have g4 := g3h.out (by simp [Pnd.get]; omega)
        have hqs : q ≤ 288230376151711744 := by omega
        have hr : r = (⟨da, db, (dc - q)⟩, 0) := by rw [g4]; unfold Pnd.add; simp; try omega
        clear g4 g2h g3h
        subst hr
        go_wp2_with fail
        refine bodyPost_ret (v := .tuple #[.agg #[.slice a1 n c1, .int .i64 da, .int .i64 db, .int .i64 (dc - q)], .int .i64 0]) (by simp [results, Try.results14, go_sem, hl0, hl1, p0, p1, p2, p3, q0, q1, q2, q3, r0, r1, r2, r3, s0, s1, s2, s3]) rfl ⟨_, rfl, Hold.mono (base := W0.heap.size) ?_ (by omega), ?_⟩
        · repeat (first | refine Hold.set ?_ (by omega) _ _ | exact hH2)
        · repeat (first | refine Below.setCell ?_ (by simp only; omega) _ | exact hb2)

/-- A layer in a block. -/
structure CellL (w : World) (b : Nat) (x : Lay) : Prop where
  c0 : w.cell? ⟨b, 0, none⟩ = some (.int .i64 x.q)
  c1 : w.cell? ⟨b, 1, none⟩ = some (.int .i64 x.v)
  c2 : w.cell? ⟨b, 2, none⟩ = some (.int .i64 x.p)
  f0 : w.frozen? ⟨b, 0, none⟩ = false
  f1 : w.frozen? ⟨b, 1, none⟩ = false
  f2 : w.frozen? ⟨b, 2, none⟩ = false
theorem CellL.new (w : World) (x : Lay) (t : TypeId) : CellL (w.alloc (.cells #[.int .i64 x.q, .int .i64 x.v, .int .i64 x.p] t)) w.heap.size x := ⟨by simp, by simp, by simp, by simp, by simp, by simp⟩
theorem CellL.below {w w' : World} {b B : Nat} {x : Lay} (h : CellL w b x) (g : Below B w w') (hb : b < B) : CellL w' b x :=
  ⟨(g.cell hb).trans h.c0, (g.cell hb).trans h.c1, (g.cell hb).trans h.c2, (g.frozen hb).trans h.f0, (g.frozen hb).trans h.f1, (g.frozen hb).trans h.f2⟩
/-- What Out answers. -/
def outP (l : List Lay) (d : Pnd) (q : Int) : List Lay × Lay × Int := if q < 1 then (l, .zero, 1) else if freeP l d < q then (l, .zero, 5) else outS l q
/-- A pool that is answered, a layer, an error. -/
def HoldPO (w : World) (d : Pnd) (r : List Lay × Lay × Int) (e : Ending) (w' : World) : Prop :=
  ∃ v, e = .returned (.tuple #[poolV v d, r.2.1.val, .int .i64 r.2.2]) ∧ Hold w' w.heap.size v r.1 ∧ Below w.heap.size w w'

set_option maxRecDepth 20000 in
set_option maxHeartbeats 4000000 in
theorem pavg_Out (a : Option Addr) (cap : Nat) (l : List Lay) (d : Pnd) (q : Int) (w : World) (h : Row w 3 a l.length cap (flat l)) (hL : LR l) (hd : PndOk d) (hq : I64 q) :
    Calls Try.prog 15 #[poolV (.slice a l.length cap) d, .int .i64 q] w (HoldPO w d (outP l d q)) := by
  have h1 : q < 1 → outP l d q = (l, .zero, 1) := fun h => by unfold outP; rw [if_pos h]
  have h2 : ¬ q < 1 → freeP l d < q → outP l d q = (l, .zero, 5) := fun h g => by unfold outP; rw [if_neg h, if_pos g]
  have h3 : ¬ q < 1 → ¬ freeP l d < q → outP l d q = outS l q := fun h g => by unfold outP; rw [if_neg h, if_neg g]
  have hmL : LR (outS l q).1 := outS_LR hL
  have hcall := fun a cap W (hW : Row W 3 a l.length cap (flat l)) => mavg_Out a cap l W hW hL q hq
  obtain ⟨m, y, e', hO⟩ : ∃ m y e', outS l q = (m, y, e') := ⟨_, _, _, rfl⟩
  rw [hO] at h3 hmL hcall
  have hmL : LR m := hmL
  obtain ⟨r, hr⟩ : ∃ r, outP l d q = r := ⟨_, rfl⟩
  rw [hr] at h1 h2 h3 ⊢
  have h1h := Lib.hid h1
  have h2h := Lib.hid h2
  have h3h := Lib.hid h3
  clear h1 h2 h3 hr hO
  have hown := fun a cap u W (hW : Row W 3 a l.length cap (flat l)) => pavg_own a cap l u d W hW (by have := hL.len; omega)
  have hown2 := fun a cap u W (hW : Row W 3 a m.length cap (flat m)) => pavg_own a cap m u d W hW (by have := hmL.len; omega)
  have hfree := fun a cap W (hW : Row W 3 a l.length cap (flat l)) => pavg_Free a cap l d W hW hL hd
  obtain ⟨n, hN⟩ : ∃ n, l.length = n := ⟨_, rfl⟩
  rw [hN] at h hown hfree hcall ⊢
  obtain ⟨f, hf⟩ : ∃ f, freeP l d = f := ⟨_, rfl⟩
  rw [hf] at h2h h3h hfree
  obtain ⟨da, db, dc⟩ := d
  have hallh := Lib.hid hL.all
  have hmh := Lib.hid hmL.all
  unfold poolV at hown hown2 hfree ⊢
  simp only at hown hown2 hfree ⊢
  have hownh := Lib.hid hown
  have hown2h := Lib.hid hown2
  have hfreeh := Lib.hid hfree
  have hcallh := Lib.hid hcall
  have hNh := Lib.hid hN
  clear hown hown2 hfree hcall hN hf hL hmL hd
  obtain ⟨yq, yv, yp⟩ := y
  go_enter Try.func15, Try.ntmps15
  by_cases hq1 : q < 1
  · obtain rfl := h1h.out hq1
    go_wp2_with fail
    have hB0 : Below w.heap.size w (((w.alloc (.cells #[.slice a n cap, .int .i64 da, .int .i64 db, .int .i64 dc] 26)).alloc (.cells #[.slice none 0 0, .int .i64 0, .int .i64 0, .int .i64 0] 26)).alloc (.cells #[.int .i64 0, .int .i64 0, .int .i64 0] 32)) := by (repeat (first | assumption | exact Below.refl _ _ | refine ballc ?_ _ | refine bdrew ?_ | refine bdrewN ?_ _ | refine bset ?_ _ _ | refine bsetN ?_ (by omega) _ _ | refine bthen ?_ (by assumption)))
    have P0 := ((CellP.new w (.slice a n cap) ⟨da, db, dc⟩ 26).alloc (by simp) (.cells #[.slice none 0 0, .int .i64 0, .int .i64 0, .int .i64 0] 26)).alloc (by simp; omega) (.cells #[.int .i64 0, .int .i64 0, .int .i64 0] 32)
    have PR := (CellP.new (w.alloc (.cells #[.slice a n cap, .int .i64 da, .int .i64 db, .int .i64 dc] 26)) (.slice none 0 0) ⟨0, 0, 0⟩ 26).alloc (by simp) (.cells #[.int .i64 0, .int .i64 0, .int .i64 0] 32)
    have PL : CellL (((w.alloc (.cells #[.slice a n cap, .int .i64 da, .int .i64 db, .int .i64 dc] 26)).alloc (.cells #[.slice none 0 0, .int .i64 0, .int .i64 0, .int .i64 0] 26)).alloc (.cells #[.int .i64 0, .int .i64 0, .int .i64 0] 32)) (((w.alloc (.cells #[.slice a n cap, .int .i64 da, .int .i64 db, .int .i64 dc] 26)).alloc (.cells #[.slice none 0 0, .int .i64 0, .int .i64 0, .int .i64 0] 26))).heap.size ⟨0, 0, 0⟩ := CellL.new ((w.alloc (.cells #[.slice a n cap, .int .i64 da, .int .i64 db, .int .i64 dc] 26)).alloc (.cells #[.slice none 0 0, .int .i64 0, .int .i64 0, .int .i64 0] 26)) ⟨0, 0, 0⟩ 32
    simp only [World.size_alloc] at PR PL
    have hS0 : (((w.alloc (.cells #[.slice a n cap, .int .i64 da, .int .i64 db, .int .i64 dc] 26)).alloc (.cells #[.slice none 0 0, .int .i64 0, .int .i64 0, .int .i64 0] 26)).alloc (.cells #[.int .i64 0, .int .i64 0, .int .i64 0] 32)).heap.size = w.heap.size + 1 + 1 + 1 := by simp
    generalize ((w.alloc (.cells #[.slice a n cap, .int .i64 da, .int .i64 db, .int .i64 dc] 26)).alloc (.cells #[.slice none 0 0, .int .i64 0, .int .i64 0, .int .i64 0] 26)).alloc (.cells #[.int .i64 0, .int .i64 0, .int .i64 0] 32) = W0 at *
    refine (hownh.out a cap _ W0 (h.below hB0)).mono ?_
    rintro e w1 ⟨v1, rfl, hh1, hw1⟩
    have hw1s := hw1.size
    obtain ⟨a1, c1, rfl, -⟩ := hh1.row hallh.out
    rw [hNh.out] at hh1 ⊢
    obtain ⟨r0, r1, r2, r3, s0, s1, s2, s3⟩ := PR.below hw1 (by omega)
    obtain ⟨l0, l1, l2, t0, t1, t2⟩ := PL.below hw1 (by omega)
    have hbel1 : Below w.heap.size w w1 := hB0.trans (hw1.mono (by omega))
    have hl1 : w.heap.size + 1 < w1.heap.size := by omega
    have hl2 : w.heap.size + 1 + 1 < w1.heap.size := by omega
    have hS1 : w.heap.size + 1 + 1 < W0.heap.size := by omega
    simp only at r1 r2 r3
    simp only at l0 l1 l2
    clear hS0 P0 PR PL hw1 hB0
    go_wp2_with fail
    refine bodyPost_ret (v := .tuple #[.agg #[.slice a1 n c1, .int .i64 da, .int .i64 db, .int .i64 dc], .agg #[.int .i64 0, .int .i64 0, .int .i64 0], .int .i64 1]) (by simp [results, Try.results15, go_sem, hl1, hl2, r0, r1, r2, r3, s0, s1, s2, s3, l0, l1, l2, t0, t1, t2]) rfl ⟨_, rfl, Hold.mono (base := W0.heap.size) ?_ (by omega), ?_⟩
    · repeat (first | refine Hold.set ?_ (by omega) _ _ | exact hh1)
    · repeat (first | refine Below.setCell ?_ (by simp only; omega) _ | exact hbel1)
  · have hq1' : 1 ≤ q := by omega
    go_wp2_with fail
    have hB0 : Below w.heap.size w (((w.alloc (.cells #[.slice a n cap, .int .i64 da, .int .i64 db, .int .i64 dc] 26)).alloc (.cells #[.slice none 0 0, .int .i64 0, .int .i64 0, .int .i64 0] 26)).alloc (.cells #[.int .i64 0, .int .i64 0, .int .i64 0] 32)) := by (repeat (first | assumption | exact Below.refl _ _ | refine ballc ?_ _ | refine bdrew ?_ | refine bdrewN ?_ _ | refine bset ?_ _ _ | refine bsetN ?_ (by omega) _ _ | refine bthen ?_ (by assumption)))
    have P0 := ((CellP.new w (.slice a n cap) ⟨da, db, dc⟩ 26).alloc (by simp) (.cells #[.slice none 0 0, .int .i64 0, .int .i64 0, .int .i64 0] 26)).alloc (by simp; omega) (.cells #[.int .i64 0, .int .i64 0, .int .i64 0] 32)
    have PR := (CellP.new (w.alloc (.cells #[.slice a n cap, .int .i64 da, .int .i64 db, .int .i64 dc] 26)) (.slice none 0 0) ⟨0, 0, 0⟩ 26).alloc (by simp) (.cells #[.int .i64 0, .int .i64 0, .int .i64 0] 32)
    have PL : CellL (((w.alloc (.cells #[.slice a n cap, .int .i64 da, .int .i64 db, .int .i64 dc] 26)).alloc (.cells #[.slice none 0 0, .int .i64 0, .int .i64 0, .int .i64 0] 26)).alloc (.cells #[.int .i64 0, .int .i64 0, .int .i64 0] 32)) (((w.alloc (.cells #[.slice a n cap, .int .i64 da, .int .i64 db, .int .i64 dc] 26)).alloc (.cells #[.slice none 0 0, .int .i64 0, .int .i64 0, .int .i64 0] 26))).heap.size ⟨0, 0, 0⟩ := CellL.new ((w.alloc (.cells #[.slice a n cap, .int .i64 da, .int .i64 db, .int .i64 dc] 26)).alloc (.cells #[.slice none 0 0, .int .i64 0, .int .i64 0, .int .i64 0] 26)) ⟨0, 0, 0⟩ 32
    simp only [World.size_alloc] at PR PL
    have hS0 : (((w.alloc (.cells #[.slice a n cap, .int .i64 da, .int .i64 db, .int .i64 dc] 26)).alloc (.cells #[.slice none 0 0, .int .i64 0, .int .i64 0, .int .i64 0] 26)).alloc (.cells #[.int .i64 0, .int .i64 0, .int .i64 0] 32)).heap.size = w.heap.size + 1 + 1 + 1 := by simp
    generalize ((w.alloc (.cells #[.slice a n cap, .int .i64 da, .int .i64 db, .int .i64 dc] 26)).alloc (.cells #[.slice none 0 0, .int .i64 0, .int .i64 0, .int .i64 0] 26)).alloc (.cells #[.int .i64 0, .int .i64 0, .int .i64 0] 32) = W0 at *
    have hS1 : w.heap.size + 1 + 1 < W0.heap.size := by omega
    clear hS0
    refine (hfreeh.out a cap W0 (h.below hB0)).mono ?_
    rintro e w1 ⟨rfl, hw1⟩
    have hw1s := hw1.size
    have hP1 := P0.below hw1 (by omega)
    have hR1 := PR.below hw1 (by omega)
    have hL1 := PL.below hw1 (by omega)
    have hbel1 : Below w.heap.size w w1 := hB0.trans (hw1.mono (by omega))
    have hrow1 := h.below hbel1
    have g2 := fun g => h2h.out hq1 g
    have g3 := fun g => h3h.out hq1 g
    have g2h := Lib.hid g2
    have g3h := Lib.hid g3
    obtain ⟨p0, p1, p2, p3, -, -, -, -⟩ := hP1
    simp only at p1 p2 p3
    have hl0 : w.heap.size < w1.heap.size := by omega
    have hl1 : w.heap.size + 1 < w1.heap.size := by omega
    have hl2 : w.heap.size + 1 + 1 < w1.heap.size := by omega
    clear P0 PR PL hw1 hB0 g2 g3 h1h h2h h3h
    by_cases hfq : f < q
    · obtain rfl := g2h.out hfq
      go_wp2_with fail
      refine (hownh.out a cap _ w1 hrow1).mono ?_
      rintro e w2 ⟨v1, rfl, hh1, hw2⟩
      have hw2s := hw2.size
      obtain ⟨a1, c1, rfl, -⟩ := hh1.row hallh.out
      rw [hNh.out] at hh1 ⊢
      obtain ⟨r0, r1, r2, r3, s0, s1, s2, s3⟩ := hR1.below hw2 (by omega)
      obtain ⟨l0, l1, l2, t0, t1, t2⟩ := hL1.below hw2 (by omega)
      have hbel2 : Below w.heap.size w w2 := hbel1.trans (hw2.mono (by omega))
      have hm1 : w.heap.size + 1 < w2.heap.size := by omega
      have hm2 : w.heap.size + 1 + 1 < w2.heap.size := by omega
      simp only at r1 r2 r3 l0 l1 l2
      clear hR1 hL1 hw2 hbel1 p0 p1 p2 p3
      go_wp2_with fail
      refine bodyPost_ret (v := .tuple #[.agg #[.slice a1 n c1, .int .i64 da, .int .i64 db, .int .i64 dc], .agg #[.int .i64 0, .int .i64 0, .int .i64 0], .int .i64 5]) (by simp [results, Try.results15, go_sem, hm1, hm2, r0, r1, r2, r3, s0, s1, s2, s3, l0, l1, l2, t0, t1, t2]) rfl ⟨_, rfl, Hold.mono (base := w1.heap.size) ?_ (by omega), ?_⟩
      · repeat (first | refine Hold.set ?_ (by omega) _ _ | exact hh1)
      · repeat (first | refine Below.setCell ?_ (by simp only; omega) _ | exact hbel2)
    · obtain rfl := g3h.out (by omega)
      go_wp2_with fail
      refine (hcallh.out a cap w1 hrow1).mono ?_
      rintro e w2 ⟨v1, rfl, hh1, hw2⟩
      have hw2s := hw2.size
      obtain ⟨a1, c1, rfl, Rm⟩ := hh1.row hmh.out
      have hR2 := hR1.below hw2 (by omega)
      have hL2 := hL1.below hw2 (by omega)
      have hbel2 : Below w.heap.size w w2 := hbel1.trans (hw2.mono (by omega))
      obtain ⟨p0, p1, p2, p3⟩ : w2.cell? ⟨w.heap.size, 0, none⟩ = some (.slice a n cap) ∧ w2.cell? ⟨w.heap.size, 1, none⟩ = some (.int .i64 da) ∧ w2.cell? ⟨w.heap.size, 2, none⟩ = some (.int .i64 db) ∧ w2.cell? ⟨w.heap.size, 3, none⟩ = some (.int .i64 dc) :=
        ⟨(hw2.cell hl0).trans p0, (hw2.cell hl0).trans p1, (hw2.cell hl0).trans p2, (hw2.cell hl0).trans p3⟩
      unfold Lay.val
      simp only
      have hY3 : CellL (w2.alloc (.cells #[.int .i64 yq, .int .i64 yv, .int .i64 yp] 32)) w2.heap.size ⟨yq, yv, yp⟩ := CellL.new w2 ⟨yq, yv, yp⟩ 32
      have hb3 : Below w2.heap.size w2 (w2.alloc (.cells #[.int .i64 yq, .int .i64 yv, .int .i64 yp] 32)) := by (repeat (first | assumption | exact Below.refl _ _ | refine ballc ?_ _ | refine bdrew ?_ | refine bdrewN ?_ _ | refine bset ?_ _ _ | refine bsetN ?_ (by omega) _ _ | refine bthen ?_ (by assumption)))
      have hs3 : (w2.alloc (.cells #[.int .i64 yq, .int .i64 yv, .int .i64 yp] 32)).heap.size = w2.heap.size + 1 := by simp
      go_upto_region 6 with fail
      generalize w2.alloc (.cells #[.int .i64 yq, .int .i64 yv, .int .i64 yp] 32) = w3 at *
      obtain ⟨By, hBy⟩ : ∃ By, w2.heap.size = By := ⟨_, rfl⟩
      have hd3 : Below w3.heap.size w3 w3.drew := (Below.refl _ _).drew
      have Rm3 := (Rm.below hb3).below hd3
      have hR3 := (hR2.below hb3 (by omega)).below hd3 (by omega)
      have hL3 := (hL2.below hb3 (by omega)).below hd3 (by omega)
      obtain ⟨y0, y1, y2, -, -, -⟩ := hY3
      simp only at y0 y1 y2
      have hbel3 : Below w.heap.size w w3.drew := (hbel2.trans (hb3.mono (by omega))).trans (hd3.mono (by omega))
      have x0 := (hb3.cell (p := ⟨w.heap.size, 0, none⟩) (by simp only; omega)).trans p0
      have x1 := (hb3.cell (p := ⟨w.heap.size, 1, none⟩) (by simp only; omega)).trans p1
      have x2 := (hb3.cell (p := ⟨w.heap.size, 2, none⟩) (by simp only; omega)).trans p2
      have x3 := (hb3.cell (p := ⟨w.heap.size, 3, none⟩) (by simp only; omega)).trans p3
      have hown3 := hown2h.out a1 c1 (.slice a n cap) w3.drew Rm3
      have hown3h := Lib.hid hown3
      have hq4 : By < w3.heap.size := by omega
      have hq5 : w.heap.size + 1 + 1 < w3.heap.size := by omega
      have hq6 : w.heap.size + 1 + 1 < By := by omega
      rw [hBy] at y0 y1 y2 ⊢
      have hds : w3.drew.heap.size = w3.heap.size := rfl
      have hdsh := Lib.hid hds
      clear hds hown3 p0 p1 p2 p3 hs3 hb3 hd3 Rm Rm3 hR2 hL2 hbel2 hh1 hBy hrow1 hR1 hL1 hw2 hbel1
      go_region_with (go_at_call 28; refine hown3h.out.mono ?_; rintro e w4 ⟨v2, rfl, hh2, hw4⟩; obtain ⟨a2, c2, rfl, -⟩ := hh2.row hmh.out; obtain ⟨r0, r1, r2, r3, s0, s1, s2, s3⟩ := hR3.below hw4 (by rw [hdsh.out]; omega); obtain ⟨l0, l1, l2, t0, t1, t2⟩ := hL3.below hw4 (by rw [hdsh.out]; omega); have z0 := (hw4.cell (p := ⟨By, 0, none⟩) (by simp only; rw [hdsh.out]; omega)).trans y0; have z1 := (hw4.cell (p := ⟨By, 1, none⟩) (by simp only; rw [hdsh.out]; omega)).trans y1; have z2 := (hw4.cell (p := ⟨By, 2, none⟩) (by simp only; rw [hdsh.out]; omega)).trans y2; have hw4s := hw4.size; rw [hdsh.out] at hw4s; simp only at r1 r2 r3 l0 l1 l2; have hbel4 : Below w.heap.size w w4 := hbel3.trans (hw4.mono (by rw [hdsh.out]; omega)))
      all_goals
        have hm1 : w.heap.size + 1 < w4.heap.size := by omega
        have hm2 : w.heap.size + 1 + 1 < w4.heap.size := by omega
        go_wp2_with fail
        refine bodyPost_ret (v := .tuple #[.agg #[.slice a2 m.length c2, .int .i64 da, .int .i64 db, .int .i64 dc], .agg #[.int .i64 yq, .int .i64 yv, .int .i64 yp], .int .i64 e']) (by simp [results, Try.results15, go_sem, hm1, hm2, r0, r1, r2, r3, s0, s1, s2, s3, l0, l1, l2, t0, t1, t2]) rfl ⟨_, rfl, Hold.mono (base := w3.heap.size) ?_ (by omega), ?_⟩
        · repeat (first | refine Hold.set ?_ (by omega) _ _ | exact hh2)
        · repeat (first | refine Below.setCell ?_ (by simp only; omega) _ | exact hbel4)
end Go.Proofs.Ytjccjmmbebiegaa
