/-
  pavg.Settle: its inner function. Its walk.
  pavg.Settle. Its walk.
  pavg: what its functions answer, as rows; the document's example. The walk.
-/
import Derived.Test.YtjccjmmbebiegaaPavgA
import Derived.Deep.Cut
import Derived.Deep.CutRange
import Derived.Deep.RegionWith

/- Pavg5 -/

set_option linter.unusedVariables false
set_option linter.unusedSimpArgs false
namespace Go.Proofs.Ytjccjmmbebiegaa
open Go.RowKit

/-- Blocks p and o alone may have turned. -/
structure Keep2 (p o : Nat) (w w' : World) : Prop where
  os : w'.os = w.os
  tape : w'.tape = w.tape
  output : w'.output = w.output
  size : w.heap.size ≤ w'.heap.size
  block : ∀ k, k < w.heap.size → k ≠ p → k ≠ o → w'.heap[k]? = w.heap[k]?
theorem Keep2.refl (p o : Nat) (w : World) : Keep2 p o w w := ⟨rfl, rfl, rfl, Nat.le_refl _, fun _ _ _ _ => rfl⟩
theorem Keep2.trans {p o : Nat} {u v w : World} (h : Keep2 p o u v) (k : Keep2 p o v w) : Keep2 p o u w :=
  ⟨k.os.trans h.os, k.tape.trans h.tape, k.output.trans h.output, Nat.le_trans h.size k.size, fun i hi h1 h2 => (k.block i (Nat.lt_of_lt_of_le hi h.size) h1 h2).trans (h.block i hi h1 h2)⟩
theorem Keep2.of {p o : Nat} {w w' : World} (h : Below w.heap.size w w') : Keep2 p o w w' := ⟨h.os, h.tape, h.output, h.size, fun i hi _ _ => h.block i hi⟩
theorem Keep2.then {p o : Nat} {u v w : World} (h : Keep2 p o u v) (k : Below v.heap.size v w) : Keep2 p o u w := h.trans (Keep2.of k)
theorem Keep2.setP {p o : Nat} {u v : World} (h : Keep2 p o u v) (i : Nat) (x : Value) : Keep2 p o u (v.setCell ⟨p, i, none⟩ x) :=
  ⟨h.os, h.tape, h.output, by simpa [World.setCell] using h.size, fun k hk h1 h2 => (Below.heap_setCell _ _ _ _ h1).trans (h.block k hk h1 h2)⟩
theorem Keep2.setO {p o : Nat} {u v : World} (h : Keep2 p o u v) (i : Nat) (x : Value) : Keep2 p o u (v.setCell ⟨o, i, none⟩ x) :=
  ⟨h.os, h.tape, h.output, by simpa [World.setCell] using h.size, fun k hk h1 h2 => (Below.heap_setCell _ _ _ _ h2).trans (h.block k hk h1 h2)⟩
theorem Keep2.cell {p o : Nat} {w w' : World} (h : Keep2 p o w w') {c i : Nat} (hc : c < w.heap.size) (h1 : c ≠ p) (h2 : c ≠ o) : w'.cell? ⟨c, i, none⟩ = w.cell? ⟨c, i, none⟩ := World.cell?_of_block (w := w) (h.block c hc h1 h2)
theorem Keep2.below {p o B : Nat} {w w' : World} (h : Keep2 p o w w') (hB : B ≤ w.heap.size) (hp : B ≤ p) (ho : B ≤ o) : Below B w w' :=
  ⟨h.os, h.tape, h.output, h.size, fun k hk => h.block k (Nat.lt_of_lt_of_le hk hB) (by omega) (by omega)⟩

/-- Three layers in a block. -/
structure CellO (w : World) (b : Nat) (x y z : Lay) : Prop where
  c : CellsAt w b 0 [x.q, x.v, x.p, y.q, y.v, y.p, z.q, z.v, z.p]
  f : ∀ i, i < 9 → w.frozen? ⟨b, i, none⟩ = false
theorem CellO.below {w w' : World} {b B : Nat} {x y z : Lay} (h : CellO w b x y z) (g : Below B w w') (hb : b < B) : CellO w' b x y z :=
  ⟨fun i hi => (g.cell hb).trans (h.c i hi), fun i hi => (g.frozen hb).trans (h.f i hi)⟩

/-- One kind's turn. -/
def setK (o : Lay × Lay × Lay) (k : Int) (y : Lay) : Lay × Lay × Lay := if k = 0 then (y, o.2) else if k = 1 then (o.1, y, o.2.2) else (o.1, o.2.1, y)
def turnK (d : Pnd) (s : List Lay × (Lay × Lay × Lay)) (k : Int) : List Lay × (Lay × Lay × Lay) :=
  if (outS s.1 (d.get k)).2.2 = 0 then ((outS s.1 (d.get k)).1, setK s.2 k (outS s.1 (d.get k)).2.1) else s
/-- What Settle leaves in its two blocks. -/
structure Sett (w : World) (base p o : Nat) (d : Pnd) (s : List Lay × (Lay × Lay × Lay)) : Prop where
  pool : ∃ v, CellP w p v d ∧ Hold w base v s.1
  out : CellO w o s.2.1 s.2.2.1 s.2.2.2
  lr : LR s.1
  pl : p < w.heap.size
  ol : o < w.heap.size

theorem CellsAt.putI {w : World} {b off : Nat} {zs : List Int} (h : CellsAt w b off zs) {j : Nat} (hj : j < zs.length) (z : Int) : CellsAt (w.setCell ⟨b, off + j, none⟩ (.int .i64 z)) b off (zs.set j z) := by
  intro i hi
  rw [List.length_set] at hi
  have k := h i hi
  by_cases e : i = j
  · subst e
    rw [World.cell?_setCell_same _ _ _ k, List.getD_eq_getElem?_getD, List.getElem?_set_self hi]
    rfl
  · rw [World.cell?_setCell_other _ _ _ _ (by intro e2; injection e2; omega), k, List.getD_eq_getElem?_getD, List.getD_eq_getElem?_getD, List.getElem?_set_ne (fun e2 => e e2.symm)]
theorem CellsAt.farI {w : World} {b c off i : Nat} {zs : List Int} {x : Value} (h : CellsAt w b off zs) (hne : b ≠ c) : CellsAt (w.setCell ⟨c, i, none⟩ x) b off zs := fun j hj => (World.cell?_of_block (w := w) (Below.heap_setCell _ _ _ _ hne)).trans (h j hj)
theorem CellP.put0 {w : World} {b : Nat} {u : Value} {d : Pnd} (h : CellP w b u d) (v : Value) : CellP (w.setCell ⟨b, 0, none⟩ v) b v d := by
  obtain ⟨p0, p1, p2, p3, q0, q1, q2, q3⟩ := h
  exact ⟨by simp [go_sem, p0], by simp [go_sem, p1], by simp [go_sem, p2], by simp [go_sem, p3], by simpa using q0, by simpa using q1, by simpa using q2, by simpa using q3⟩
theorem CellO.store {w : World} {o : Nat} {x y z : Lay} (h : CellO w o x y z) (kk : Nat) (hk : kk < 3) (u : Lay) :
    CellO (((w.setCell ⟨o, kk * 3, none⟩ (.int .i64 u.q)).setCell ⟨o, kk * 3 + 1, none⟩ (.int .i64 u.v)).setCell ⟨o, kk * 3 + 2, none⟩ (.int .i64 u.p)) o (setK (x, y, z) kk u).1 (setK (x, y, z) kk u).2.1 (setK (x, y, z) kk u).2.2 := by
  refine ⟨?_, fun i hi => by simpa using h.f i hi⟩
  have h1 := ((h.c.putI (j := kk * 3) (by simp; omega) u.q).putI (j := kk * 3 + 1) (by simp; omega) u.v).putI (j := kk * 3 + 2) (by simp; omega) u.p
  simp only [Nat.zero_add] at h1
  have hk' : kk = 0 ∨ kk = 1 ∨ kk = 2 := by omega
  rcases hk' with rfl | rfl | rfl
  · exact h1
  · exact h1
  · exact h1
theorem Sett.store {w : World} {base p o : Nat} {d : Pnd} {v0 v : Value} {m : List Lay} {x y z u : Lay} (kk : Nat) (hk : kk < 3) (hP : CellP w p v0 d) (hO : CellO w o x y z) (hH : Hold w base v m) (hm : LR m) (hpo : p ≠ o) (hpb : p < base) (hob : o < base) (hpl : p < w.heap.size) (hol : o < w.heap.size) :
    Sett ((((w.setCell ⟨p, 0, none⟩ v).setCell ⟨o, kk * 3, none⟩ (.int .i64 u.q)).setCell ⟨o, kk * 3 + 1, none⟩ (.int .i64 u.v)).setCell ⟨o, kk * 3 + 2, none⟩ (.int .i64 u.p)).drew base p o d (m, setK (x, y, z) kk u) := by
  have hO2 : CellO (w.setCell ⟨p, 0, none⟩ v) o x y z := ⟨hO.c.farI (Ne.symm hpo), fun i hi => by simpa using hO.f i hi⟩
  have hP2 := (((hP.put0 v).far hpo (kk * 3) (.int .i64 u.q)).far hpo (kk * 3 + 1) (.int .i64 u.v)).far hpo (kk * 3 + 2) (.int .i64 u.p)
  have hO3 := hO2.store kk hk u
  have hH2 : Hold ((((w.setCell ⟨p, 0, none⟩ v).setCell ⟨o, kk * 3, none⟩ (.int .i64 u.q)).setCell ⟨o, kk * 3 + 1, none⟩ (.int .i64 u.v)).setCell ⟨o, kk * 3 + 2, none⟩ (.int .i64 u.p)) base v m := by
    repeat (first | refine Hold.set ?_ (by omega) _ _ | exact hH)
  exact ⟨⟨v, hP2.below (Below.refl (p + 1) _).drew (by omega), hH2.below (Below.refl _ _).drew⟩, hO3.below (Below.refl (o + 1) _).drew (by omega), hm, by simpa [World.setCell] using hpl, by simpa [World.setCell] using hol⟩

set_option maxRecDepth 20000 in
set_option maxHeartbeats 4000000 in
theorem pavg_turn (p o kb base : Nat) (d : Pnd) (s : List Lay × (Lay × Lay × Lay)) (k : Int) (w : World) (h : Sett w base p o d s) (hd : PndOk d) (hk0 : 0 ≤ k) (hk3 : k < 3) (hkc : w.cell? ⟨kb, 0, none⟩ = some (.int .i64 k)) (hkl : kb < w.heap.size)
    (hpo : p ≠ o) (hpb : p < base) (hob : o < base) (hkp : kb ≠ p) (hko : kb ≠ o) (hbw : base ≤ w.heap.size) :
    Calls Try.prog 31 #[.pointer (some ⟨p, 0, none⟩), .pointer (some ⟨kb, 0, none⟩), .pointer (some ⟨o, 0, none⟩)] w fun e w' => e = .returned (.tuple #[]) ∧ Sett w' base p o d (turnK d s k) ∧ Keep2 p o w w' := by
  obtain ⟨l, ox, oy, oz⟩ := s
  obtain ⟨⟨v, hP, hH⟩, hO, hL, hpl, hol⟩ := h
  simp only at hH hO hL
  obtain ⟨a, c, rfl, R⟩ := hH.row hL.all
  have hO0 := hO
  have hmd : ∀ k, I64 (d.get k) := fun k => by
    have := hd.a0; have := hd.b0; have := hd.c0; have := hd.a1; have := hd.b1; have := hd.c1
    unfold Pnd.get
    split
    · exact ⟨by omega, by omega⟩
    · split
      · exact ⟨by omega, by omega⟩
      · exact ⟨by omega, by omega⟩
  have hcall := fun W (hW : Row W 3 a l.length c (flat l)) => mavg_Out a c l W hW hL (d.get k) (hmd k)
  have hmL : LR (outS l (d.get k)).1 := outS_LR hL
  have ht0 : (outS l (d.get k)).2.2 = 0 → turnK d (l, ox, oy, oz) k = ((outS l (d.get k)).1, setK (ox, oy, oz) k (outS l (d.get k)).2.1) := fun h => by unfold turnK; rw [if_pos h]
  have ht1 : (outS l (d.get k)).2.2 ≠ 0 → turnK d (l, ox, oy, oz) k = (l, ox, oy, oz) := fun h => by unfold turnK; rw [if_neg h]
  obtain ⟨m, y, e', hOut⟩ : ∃ m y e', outS l (d.get k) = (m, y, e') := ⟨_, _, _, rfl⟩
  rw [hOut] at hcall hmL ht0 ht1
  simp only at hmL ht0 ht1
  obtain ⟨t, ht⟩ : ∃ t, turnK d (l, ox, oy, oz) k = t := ⟨_, rfl⟩
  rw [ht] at ht0 ht1 ⊢
  have ht0h := Lib.hid ht0
  have ht1h := Lib.hid ht1
  obtain ⟨z, hz⟩ : ∃ z, d.get k = z := ⟨_, rfl⟩
  rw [hz] at hcall
  have hPc : w.cell? ⟨p, 1 + k.toNat, none⟩ = some (.int .i64 z) := by
    have hk : k = 0 ∨ k = 1 ∨ k = 2 := by omega
    rcases hk with rfl | rfl | rfl
    · rw [← hz]; exact hP.c1
    · rw [← hz]; exact hP.c2
    · rw [← hz]; exact hP.c3
  obtain ⟨kk, rfl⟩ : ∃ kk : Nat, k = (kk : Int) := ⟨k.toNat, by omega⟩
  rw [Int.toNat_natCast] at hPc
  have hcallh := Lib.hid hcall
  have hmh := Lib.hid hmL
  have hLh := Lib.hid hL
  have hPh := Lib.hid hP
  have hOh := Lib.hid hO
  have c0 := hP.c0
  clear hcall hmL ht0 ht1 ht hz hOut hmd hP hO hO0
  go_enter Try.func31, Try.ntmps31
  have hdr : Below w.heap.size w w.drew := (Below.refl _ _).drew
  have Rd := R.below hdr
  have hal : Below w.heap.size w (w.alloc (.cells #[.int .i64 0, .int .i64 0, .int .i64 0] 32)).drew := ((Below.refl _ _).alloc (Nat.le_refl _) _).drew
  have Rd2 := R.below hal
  have hYa : CellL (w.alloc (.cells #[.int .i64 0, .int .i64 0, .int .i64 0] 32)).drew w.heap.size ⟨0, 0, 0⟩ := (show CellL (w.alloc (.cells #[.int .i64 0, .int .i64 0, .int .i64 0] 32)) w.heap.size ⟨0, 0, 0⟩ from CellL.new w ⟨0, 0, 0⟩ 32).below (Below.refl (w.heap.size + 1) _).drew (by simp)
  obtain ⟨yq, yv, yp⟩ := y
  go_wp2_with fail
  go_cut [3, 4, 5] from 6 to 16 (fun s3 s4 s5 wx => ∃ (a2 : Option Addr) (c2 By : Nat), s3 = .slice a2 m.length c2 ∧ s4 = .pointer (some ⟨By, 0, none⟩) ∧ s5 = .int .i64 e' ∧ w.heap.size ≤ By ∧ By < wx.heap.size ∧ CellL wx By ⟨yq, yv, yp⟩ ∧ Hold wx w.heap.size (.slice a2 m.length c2) m ∧ Below w.heap.size w wx)
  case first =>
    go_region_with (go_at_call 32; refine (hcallh.out _ (by first | exact Rd | exact Rd2)).mono ?_; rintro e w4 ⟨v2, rfl, hh2, hw4⟩; obtain ⟨a2, c2, rfl, -⟩ := hh2.row hmh.out.all; have hw4s := hw4.size; (first | (have hY := hYa.below hw4 (by simp); obtain ⟨y0, y1, y2, g0, g1, g2⟩ := hY; have hlt4 : w.heap.size < w4.heap.size := by simp at hw4s; omega) | skip); unfold Lay.val; simp only)
    all_goals
      go_wp2_with fail
      go_meet
      case rel =>
        first
          | exact ⟨a2, c2, w4.heap.size, rfl, rfl, rfl, by simp at hw4s; omega, by simp, CellL.new w4 ⟨yq, yv, yp⟩ 32, (hh2.below ((Below.refl _ _).alloc (Nat.le_refl _) _)).mono (by simp), (hdr.trans (hw4.mono (by simp))).alloc (by simp at hw4s; omega) _⟩
          | exact ⟨a2, c2, w.heap.size, rfl, rfl, rfl, Nat.le_refl _, by simpa [World.setCell] using hlt4, ⟨by simp [go_sem, y0], by simp [go_sem, y1], by simp [go_sem, y2], by simpa using g0, by simpa using g1, by simpa using g2⟩, Hold.mono (base := w.heap.size + 1) (by (refine Hold.set ?_ (by omega) _ _; refine Hold.set ?_ (by omega) _ _; refine Hold.set ?_ (by omega) _ _; exact hh2.mono (by simp))) (by omega), ((((hal.trans (hw4.mono (by simp))).setCell (p := ⟨w.heap.size, 0, none⟩) (by simp) _).setCell (p := ⟨w.heap.size, 1, none⟩) (by simp) _).setCell (p := ⟨w.heap.size, 2, none⟩) (by simp) _)⟩
  case rest =>
  obtain ⟨a2, c2, By, rfl, rfl, rfl, hBy1, hBy2, hY, hH2, hbel⟩ := hcut
  have hP := hPh.out.below hbel hpl
  have hO := hOh.out.below hbel hol
  have hkc2 := (hbel.cell (p := ⟨kb, 0, none⟩) hkl).trans hkc
  have hK2 : Keep2 p o w wc := Keep2.of hbel
  have hs2 := hbel.size
  have hH0 := hH.below hbel
  have hpl2 : p < wc.heap.size := by omega
  have hol2 : o < wc.heap.size := by omega
  have hkl2 : kb < wc.heap.size := by omega
  by_cases he : e' = 0
  · have ht := ht0h.out he
    subst ht
    subst he
    obtain ⟨y0, y1, y2, -, -, -⟩ := hY
    simp only at y0 y1 y2
    have f0 := hP.f0
    have c1 := hP.c0
    have hk : kk = 0 ∨ kk = 1 ∨ kk = 2 := by omega
    have hop : o ≠ p := fun e => hpo e.symm
    have hByp : By ≠ p := by omega
    have hByo : By ≠ o := by omega
    rcases hk with rfl | rfl | rfl
    · have o0 := hO.c 0 (by simp)
      have o1 := hO.c 1 (by simp)
      have o2 := hO.c 2 (by simp)
      have g0 := hO.f 0 (by omega)
      have g1 := hO.f 1 (by omega)
      have g2 := hO.f 2 (by omega)
      simp at o0 o1 o2
      have hfin := Sett.store (u := ⟨yq, yv, yp⟩) 0 (by omega) hP hO (hH2.mono hbw) hmh.out hpo hpb hob hpl2 hol2
      have hkeep := ((((hK2.setP 0 (.slice a2 m.length c2)).setO 0 (.int .i64 yq)).setO 1 (.int .i64 yv)).setO 2 (.int .i64 yp)).then (Below.refl _ _).drew
      have hfinh := Lib.hid hfin
      clear hfin
      go_wp2_with fail
      go_region
      all_goals
        go_wp2_with fail
        exact bodyPost_end (v := .tuple #[]) (by simp [results, Try.results31, go_sem]) rfl ⟨rfl, hfinh.out, hkeep⟩
    · have o0 := hO.c 3 (by simp)
      have o1 := hO.c 4 (by simp)
      have o2 := hO.c 5 (by simp)
      have g0 := hO.f 3 (by omega)
      have g1 := hO.f 4 (by omega)
      have g2 := hO.f 5 (by omega)
      simp at o0 o1 o2
      have hfin := Sett.store (u := ⟨yq, yv, yp⟩) 1 (by omega) hP hO (hH2.mono hbw) hmh.out hpo hpb hob hpl2 hol2
      have hkeep := ((((hK2.setP 0 (.slice a2 m.length c2)).setO 3 (.int .i64 yq)).setO 4 (.int .i64 yv)).setO 5 (.int .i64 yp)).then (Below.refl _ _).drew
      have hfinh := Lib.hid hfin
      clear hfin
      go_wp2_with fail
      go_region
      all_goals
        go_wp2_with fail
        exact bodyPost_end (v := .tuple #[]) (by simp [results, Try.results31, go_sem]) rfl ⟨rfl, hfinh.out, hkeep⟩
    · have o0 := hO.c 6 (by simp)
      have o1 := hO.c 7 (by simp)
      have o2 := hO.c 8 (by simp)
      have g0 := hO.f 6 (by omega)
      have g1 := hO.f 7 (by omega)
      have g2 := hO.f 8 (by omega)
      simp at o0 o1 o2
      have hfin := Sett.store (u := ⟨yq, yv, yp⟩) 2 (by omega) hP hO (hH2.mono hbw) hmh.out hpo hpb hob hpl2 hol2
      have hkeep := ((((hK2.setP 0 (.slice a2 m.length c2)).setO 6 (.int .i64 yq)).setO 7 (.int .i64 yv)).setO 8 (.int .i64 yp)).then (Below.refl _ _).drew
      have hfinh := Lib.hid hfin
      clear hfin
      go_wp2_with fail
      go_region
      all_goals
        go_wp2_with fail
        exact bodyPost_end (v := .tuple #[]) (by simp [results, Try.results31, go_sem]) rfl ⟨rfl, hfinh.out, hkeep⟩
  · have ht := ht1h.out he
    subst ht
    have heB : (e' == 0) = false := by rw [beq_eq_false_iff_ne]; exact he
    go_wp2_with fail
    exact bodyPost_end (v := .tuple #[]) (by simp [results, Try.results31, go_sem]) rfl ⟨rfl, ⟨⟨_, hP, hH0⟩, hO, hLh.out, hpl2, hol2⟩, hK2⟩
end Go.Proofs.Ytjccjmmbebiegaa

/- Pavg6 -/

set_option linter.unusedVariables false
set_option linter.unusedSimpArgs false
namespace Go.Proofs.Ytjccjmmbebiegaa
open Go.RowKit

theorem CellP.keep2 {w w' : World} {b p o : Nat} {v : Value} {d : Pnd} (h : CellP w b v d) (g : Keep2 p o w w') (hb : b < w.heap.size) (h1 : b ≠ p) (h2 : b ≠ o) : CellP w' b v d := by
  have e := g.block b hb h1 h2
  have c : ∀ i, w'.cell? ⟨b, i, none⟩ = w.cell? ⟨b, i, none⟩ := fun i => World.cell?_of_block (w := w) e
  have f : ∀ i, w'.frozen? ⟨b, i, none⟩ = w.frozen? ⟨b, i, none⟩ := fun i => World.frozen?_of_block (w := w) e
  exact ⟨(c 0).trans h.c0, (c 1).trans h.c1, (c 2).trans h.c2, (c 3).trans h.c3, (f 0).trans h.f0, (f 1).trans h.f1, (f 2).trans h.f2, (f 3).trans h.f3⟩
theorem CellO.keep2 {w w' : World} {b p o : Nat} {x y z : Lay} (h : CellO w b x y z) (g : Keep2 p o w w') (hb : b < w.heap.size) (h1 : b ≠ p) (h2 : b ≠ o) : CellO w' b x y z := by
  have e := g.block b hb h1 h2
  exact ⟨fun i hi => (World.cell?_of_block (w := w) e).trans (h.c i hi), fun i hi => (World.frozen?_of_block (w := w) e).trans (h.f i hi)⟩
theorem pavg_take (k : Int) (p o : Nat) (w : World) :
    Calls Try.prog 30 #[.int .i64 k, .pointer (some ⟨p, 0, none⟩), .pointer (some ⟨o, 0, none⟩)] w fun e w' => e = .returned (.func (.func 31) #[] #[.pointer (some ⟨p, 0, none⟩), .pointer (some ⟨w.heap.size, 0, none⟩), .pointer (some ⟨o, 0, none⟩)]) ∧ w' = w.alloc (.cells #[.int .i64 k] 3) := by
  go_enter Try.func30, Try.ntmps30
  go_wp2_with fail
  go_ret
  exact ⟨rfl, rfl⟩

/-- What Settle answers. -/
def settS (l : List Lay) (d : Pnd) : List Lay × (Lay × Lay × Lay) := turnK d (turnK d (turnK d (l, .zero, .zero, .zero) 0) 1) 2
def outV (o : Lay × Lay × Lay) : Value := .agg #[.int .i64 o.1.q, .int .i64 o.1.v, .int .i64 o.1.p, .int .i64 o.2.1.q, .int .i64 o.2.1.v, .int .i64 o.2.1.p, .int .i64 o.2.2.q, .int .i64 o.2.2.v, .int .i64 o.2.2.p]

set_option maxRecDepth 20000 in
set_option maxHeartbeats 2000000 in
theorem pavg_Settle (a : Option Addr) (cap : Nat) (l : List Lay) (d : Pnd) (w : World) (h : Row w 3 a l.length cap (flat l)) (hL : LR l) (hd : PndOk d) :
    Calls Try.prog 10 #[poolV (.slice a l.length cap) d] w fun e w' => ∃ v, e = .returned (.tuple #[poolV v ⟨0, 0, 0⟩, outV (settS l d).2]) ∧ Hold w' w.heap.size v (settS l d).1 ∧ Below w.heap.size w w' := by
  have hown := fun a cap u W (hW : Row W 3 a l.length cap (flat l)) => pavg_own a cap l u d W hW (by have := hL.len; omega)
  obtain ⟨n, hN⟩ : ∃ n, l.length = n := ⟨_, rfl⟩
  rw [hN] at h hown ⊢
  obtain ⟨da, db, dc⟩ := d
  unfold poolV at hown ⊢
  simp only at hown ⊢
  have hownh := Lib.hid hown
  have hNh := Lib.hid hN
  have hLh := Lib.hid hL
  clear hown hN hL
  obtain ⟨r, hr⟩ : ∃ r, settS l ⟨da, db, dc⟩ = r := ⟨_, rfl⟩
  rw [hr]
  obtain ⟨m, ⟨xq, xv, xp⟩, ⟨yq, yv, yp⟩, ⟨zq, zv, zp⟩⟩ := r
  have hrh := Lib.hid hr
  clear hr
  go_enter Try.func10, Try.ntmps10
  go_wp2_with fail
  have hB0 : Below w.heap.size w ((((w.alloc (.cells #[.slice a n cap, .int .i64 da, .int .i64 db, .int .i64 dc] 26)).alloc (.cells #[.slice none 0 0, .int .i64 0, .int .i64 0, .int .i64 0] 26)).alloc (.cells #[.int .i64 0, .int .i64 0, .int .i64 0, .int .i64 0, .int .i64 0, .int .i64 0, .int .i64 0, .int .i64 0, .int .i64 0] 34)).alloc (.cells #[.int .i64 0, .int .i64 0, .int .i64 0, .int .i64 0, .int .i64 0, .int .i64 0, .int .i64 0, .int .i64 0, .int .i64 0] 34)) := by (repeat (first | assumption | exact Below.refl _ _ | refine ballc ?_ _ | refine bdrew ?_ | refine bdrewN ?_ _ | refine bset ?_ _ _ | refine bsetN ?_ (by omega) _ _ | refine bthen ?_ (by assumption)))
  have P0 := (((CellP.new w (.slice a n cap) ⟨da, db, dc⟩ 26).alloc (by simp) (.cells #[.slice none 0 0, .int .i64 0, .int .i64 0, .int .i64 0] 26)).alloc (by first | (simp; done) | (simp; omega)) (.cells #[.int .i64 0, .int .i64 0, .int .i64 0, .int .i64 0, .int .i64 0, .int .i64 0, .int .i64 0, .int .i64 0, .int .i64 0] 34)).alloc (by first | (simp; done) | (simp; omega)) (.cells #[.int .i64 0, .int .i64 0, .int .i64 0, .int .i64 0, .int .i64 0, .int .i64 0, .int .i64 0, .int .i64 0, .int .i64 0] 34)
  have PR := ((CellP.new (w.alloc (.cells #[.slice a n cap, .int .i64 da, .int .i64 db, .int .i64 dc] 26)) (.slice none 0 0) ⟨0, 0, 0⟩ 26).alloc (by first | (simp; done) | (simp; omega)) (.cells #[.int .i64 0, .int .i64 0, .int .i64 0, .int .i64 0, .int .i64 0, .int .i64 0, .int .i64 0, .int .i64 0, .int .i64 0] 34)).alloc (by first | (simp; done) | (simp; omega)) (.cells #[.int .i64 0, .int .i64 0, .int .i64 0, .int .i64 0, .int .i64 0, .int .i64 0, .int .i64 0, .int .i64 0, .int .i64 0] 34)
  have OR : CellO ((((w.alloc (.cells #[.slice a n cap, .int .i64 da, .int .i64 db, .int .i64 dc] 26)).alloc (.cells #[.slice none 0 0, .int .i64 0, .int .i64 0, .int .i64 0] 26)).alloc (.cells #[.int .i64 0, .int .i64 0, .int .i64 0, .int .i64 0, .int .i64 0, .int .i64 0, .int .i64 0, .int .i64 0, .int .i64 0] 34)).alloc (.cells #[.int .i64 0, .int .i64 0, .int .i64 0, .int .i64 0, .int .i64 0, .int .i64 0, .int .i64 0, .int .i64 0, .int .i64 0] 34)) ((w.alloc (.cells #[.slice a n cap, .int .i64 da, .int .i64 db, .int .i64 dc] 26)).alloc (.cells #[.slice none 0 0, .int .i64 0, .int .i64 0, .int .i64 0] 26)).heap.size .zero .zero .zero := (show CellO (((w.alloc (.cells #[.slice a n cap, .int .i64 da, .int .i64 db, .int .i64 dc] 26)).alloc (.cells #[.slice none 0 0, .int .i64 0, .int .i64 0, .int .i64 0] 26)).alloc (.cells #[.int .i64 0, .int .i64 0, .int .i64 0, .int .i64 0, .int .i64 0, .int .i64 0, .int .i64 0, .int .i64 0, .int .i64 0] 34)) ((w.alloc (.cells #[.slice a n cap, .int .i64 da, .int .i64 db, .int .i64 dc] 26)).alloc (.cells #[.slice none 0 0, .int .i64 0, .int .i64 0, .int .i64 0] 26)).heap.size .zero .zero .zero from ⟨CellsAt.new ((w.alloc (.cells #[.slice a n cap, .int .i64 da, .int .i64 db, .int .i64 dc] 26)).alloc (.cells #[.slice none 0 0, .int .i64 0, .int .i64 0, .int .i64 0] 26)) [0, 0, 0, 0, 0, 0, 0, 0, 0] 34, fun i _ => World.frozen?_alloc_new ((w.alloc (.cells #[.slice a n cap, .int .i64 da, .int .i64 db, .int .i64 dc] 26)).alloc (.cells #[.slice none 0 0, .int .i64 0, .int .i64 0, .int .i64 0] 26)) _ 34 i⟩).below ((Below.refl _ _).alloc (Nat.le_refl _) _) (by simp)
  have OO : CellO ((((w.alloc (.cells #[.slice a n cap, .int .i64 da, .int .i64 db, .int .i64 dc] 26)).alloc (.cells #[.slice none 0 0, .int .i64 0, .int .i64 0, .int .i64 0] 26)).alloc (.cells #[.int .i64 0, .int .i64 0, .int .i64 0, .int .i64 0, .int .i64 0, .int .i64 0, .int .i64 0, .int .i64 0, .int .i64 0] 34)).alloc (.cells #[.int .i64 0, .int .i64 0, .int .i64 0, .int .i64 0, .int .i64 0, .int .i64 0, .int .i64 0, .int .i64 0, .int .i64 0] 34)) (((w.alloc (.cells #[.slice a n cap, .int .i64 da, .int .i64 db, .int .i64 dc] 26)).alloc (.cells #[.slice none 0 0, .int .i64 0, .int .i64 0, .int .i64 0] 26)).alloc (.cells #[.int .i64 0, .int .i64 0, .int .i64 0, .int .i64 0, .int .i64 0, .int .i64 0, .int .i64 0, .int .i64 0, .int .i64 0] 34)).heap.size .zero .zero .zero := ⟨CellsAt.new (((w.alloc (.cells #[.slice a n cap, .int .i64 da, .int .i64 db, .int .i64 dc] 26)).alloc (.cells #[.slice none 0 0, .int .i64 0, .int .i64 0, .int .i64 0] 26)).alloc (.cells #[.int .i64 0, .int .i64 0, .int .i64 0, .int .i64 0, .int .i64 0, .int .i64 0, .int .i64 0, .int .i64 0, .int .i64 0] 34)) [0, 0, 0, 0, 0, 0, 0, 0, 0] 34, fun i _ => World.frozen?_alloc_new (((w.alloc (.cells #[.slice a n cap, .int .i64 da, .int .i64 db, .int .i64 dc] 26)).alloc (.cells #[.slice none 0 0, .int .i64 0, .int .i64 0, .int .i64 0] 26)).alloc (.cells #[.int .i64 0, .int .i64 0, .int .i64 0, .int .i64 0, .int .i64 0, .int .i64 0, .int .i64 0, .int .i64 0, .int .i64 0] 34)) _ 34 i⟩
  simp only [World.size_alloc] at PR OR OO
  have hS0 : ((((w.alloc (.cells #[.slice a n cap, .int .i64 da, .int .i64 db, .int .i64 dc] 26)).alloc (.cells #[.slice none 0 0, .int .i64 0, .int .i64 0, .int .i64 0] 26)).alloc (.cells #[.int .i64 0, .int .i64 0, .int .i64 0, .int .i64 0, .int .i64 0, .int .i64 0, .int .i64 0, .int .i64 0, .int .i64 0] 34)).alloc (.cells #[.int .i64 0, .int .i64 0, .int .i64 0, .int .i64 0, .int .i64 0, .int .i64 0, .int .i64 0, .int .i64 0, .int .i64 0] 34)).heap.size = w.heap.size + 1 + 1 + 1 + 1 := by simp
  generalize ((((w.alloc (.cells #[.slice a n cap, .int .i64 da, .int .i64 db, .int .i64 dc] 26)).alloc (.cells #[.slice none 0 0, .int .i64 0, .int .i64 0, .int .i64 0] 26)).alloc (.cells #[.int .i64 0, .int .i64 0, .int .i64 0, .int .i64 0, .int .i64 0, .int .i64 0, .int .i64 0, .int .i64 0, .int .i64 0] 34)).alloc (.cells #[.int .i64 0, .int .i64 0, .int .i64 0, .int .i64 0, .int .i64 0, .int .i64 0, .int .i64 0, .int .i64 0, .int .i64 0] 34)) = W0 at *
  refine (hownh.out a cap _ W0 (h.below hB0)).mono ?_
  rintro e w1 ⟨v1, rfl, hh1, hw1⟩
  have hw1s := hw1.size
  obtain ⟨a1, c1, rfl, -⟩ := hh1.row hLh.out.all
  rw [hNh.out] at hh1 ⊢
  have P1 := P0.below hw1 (by omega)
  have R1 := PR.below hw1 (by omega)
  have O1 := OR.below hw1 (by omega)
  have Q1 := OO.below hw1 (by omega)
  have hbel1 : Below w.heap.size w w1 := hB0.trans (hw1.mono (by omega))
  have hP2 := P1.put (.slice a1 n c1) da db dc
  have hR2 := (((R1.far (c := w.heap.size) (by omega) 0 (.slice a1 n c1)).far (c := w.heap.size) (by omega) 1 (.int .i64 da)).far (c := w.heap.size) (by omega) 2 (.int .i64 db)).far (c := w.heap.size) (by omega) 3 (.int .i64 dc)
  have hO2 : CellO ((((w1.setCell ⟨w.heap.size, 0, none⟩ (.slice a1 n c1)).setCell ⟨w.heap.size, 1, none⟩ (.int .i64 da)).setCell ⟨w.heap.size, 2, none⟩ (.int .i64 db)).setCell ⟨w.heap.size, 3, none⟩ (.int .i64 dc)) (w.heap.size + 1 + 1) .zero .zero .zero := ⟨(((O1.c.farI (by omega)).farI (by omega)).farI (by omega)).farI (by omega), fun i hi => by simpa using O1.f i hi⟩
  have hQ2 : CellO ((((w1.setCell ⟨w.heap.size, 0, none⟩ (.slice a1 n c1)).setCell ⟨w.heap.size, 1, none⟩ (.int .i64 da)).setCell ⟨w.heap.size, 2, none⟩ (.int .i64 db)).setCell ⟨w.heap.size, 3, none⟩ (.int .i64 dc)) (w.heap.size + 1 + 1 + 1) .zero .zero .zero := ⟨(((Q1.c.farI (by omega)).farI (by omega)).farI (by omega)).farI (by omega), fun i hi => by simpa using Q1.f i hi⟩
  have hH2 : Hold ((((w1.setCell ⟨w.heap.size, 0, none⟩ (.slice a1 n c1)).setCell ⟨w.heap.size, 1, none⟩ (.int .i64 da)).setCell ⟨w.heap.size, 2, none⟩ (.int .i64 db)).setCell ⟨w.heap.size, 3, none⟩ (.int .i64 dc)) W0.heap.size (.slice a1 n c1) l := by
    repeat (first | refine Hold.set ?_ (by omega) _ _ | exact hh1)
  have hb2 : Below w.heap.size w ((((w1.setCell ⟨w.heap.size, 0, none⟩ (.slice a1 n c1)).setCell ⟨w.heap.size, 1, none⟩ (.int .i64 da)).setCell ⟨w.heap.size, 2, none⟩ (.int .i64 db)).setCell ⟨w.heap.size, 3, none⟩ (.int .i64 dc)) := by
    repeat (first | refine Below.setCell ?_ (by simp only; omega) _ | exact hbel1)
  have hsz2 : w1.heap.size ≤ ((((w1.setCell ⟨w.heap.size, 0, none⟩ (.slice a1 n c1)).setCell ⟨w.heap.size, 1, none⟩ (.int .i64 da)).setCell ⟨w.heap.size, 2, none⟩ (.int .i64 db)).setCell ⟨w.heap.size, 3, none⟩ (.int .i64 dc)).heap.size := by simp [World.setCell]
  have hl0 : w.heap.size < w1.heap.size := by omega
  have hS1 : w.heap.size + 1 + 1 + 1 < W0.heap.size := by omega
  obtain ⟨p0, p1, p2, p3, q0, q1, q2, q3⟩ := P1
  simp only at p1 p2 p3
  clear P0 PR OR OO hw1 hB0 hS0 R1 O1 Q1
  go_wp2_with fail
  generalize (((w1.setCell ⟨w.heap.size, 0, none⟩ (.slice a1 n c1)).setCell ⟨w.heap.size, 1, none⟩ (.int .i64 da)).setCell ⟨w.heap.size, 2, none⟩ (.int .i64 db)).setCell ⟨w.heap.size, 3, none⟩ (.int .i64 dc) = w2 at *
  clear p0 p1 p2 p3 q0 q1 q2 q3 hbel1 hh1 hl0
  refine (pavg_take 0 w.heap.size (w.heap.size + 1 + 1 + 1) w2).mono ?_
  rintro e w' ⟨rfl, rfl⟩
  go_wp2_with fail
  refine (pavg_take 1 w.heap.size (w.heap.size + 1 + 1 + 1) _).mono ?_
  rintro e w' ⟨rfl, rfl⟩
  go_wp2_with fail
  refine (pavg_take 2 w.heap.size (w.heap.size + 1 + 1 + 1) _).mono ?_
  rintro e w' ⟨rfl, rfl⟩
  simp only [World.size_alloc]
  have hb5 : Below w2.heap.size w2 (((w2.alloc (.cells #[.int .i64 0] 3)).alloc (.cells #[.int .i64 1] 3)).alloc (.cells #[.int .i64 2] 3)) := by (repeat (first | assumption | exact Below.refl _ _ | refine ballc ?_ _ | refine bdrew ?_ | refine bdrewN ?_ _ | refine bset ?_ _ _ | refine bsetN ?_ (by omega) _ _ | refine bthen ?_ (by assumption)))
  have hk0 : (((w2.alloc (.cells #[.int .i64 0] 3)).alloc (.cells #[.int .i64 1] 3)).alloc (.cells #[.int .i64 2] 3)).cell? ⟨w2.heap.size, 0, none⟩ = some (.int .i64 0) := by
    first | (simp; done) | (rw [World.cell?_alloc_lt _ _ _ (by simp; omega), World.cell?_alloc_lt _ _ _ (by simp)]; simp)
  have hk1 : (((w2.alloc (.cells #[.int .i64 0] 3)).alloc (.cells #[.int .i64 1] 3)).alloc (.cells #[.int .i64 2] 3)).cell? ⟨w2.heap.size + 1, 0, none⟩ = some (.int .i64 1) := by
    first | (simp; done) | (rw [World.cell?_alloc_lt _ _ _ (by simp)]; simp)
  have hk2 : (((w2.alloc (.cells #[.int .i64 0] 3)).alloc (.cells #[.int .i64 1] 3)).alloc (.cells #[.int .i64 2] 3)).cell? ⟨w2.heap.size + 1 + 1, 0, none⟩ = some (.int .i64 2) := by
    first | (simp; done) | (have := (CellsAt.new ((w2.alloc (.cells #[.int .i64 0] 3)).alloc (.cells #[.int .i64 1] 3)) [2] 3) 0 (by simp); simpa using this)
  have hs5 : (((w2.alloc (.cells #[.int .i64 0] 3)).alloc (.cells #[.int .i64 1] 3)).alloc (.cells #[.int .i64 2] 3)).heap.size = w2.heap.size + 1 + 1 + 1 := by simp
  generalize ((w2.alloc (.cells #[.int .i64 0] 3)).alloc (.cells #[.int .i64 1] 3)).alloc (.cells #[.int .i64 2] 3) = w5 at *
  obtain ⟨kb, hkb⟩ : ∃ kb, w2.heap.size = kb := ⟨_, rfl⟩
  obtain ⟨p, hp⟩ : ∃ p, w.heap.size = p := ⟨_, rfl⟩
  have hP5 := hP2.below hb5 (by omega)
  have hR5 := hR2.below hb5 (by omega)
  have hO5 := hO2.below hb5 (by omega)
  have hQ5 := hQ2.below hb5 (by omega)
  have hH5 := hH2.below hb5
  have hbel5 : Below w.heap.size w w5 := hb2.trans (hb5.mono (by omega))
  rw [hkb] at hk0 hk1 hk2 hs5 ⊢
  rw [hp] at hP5 hR5 hO5 hQ5 hS1 ⊢
  obtain ⟨o, ho⟩ : ∃ o, p + 1 + 1 + 1 = o := ⟨_, rfl⟩
  rw [ho] at hQ5 hS1 ⊢
  have hSt : Sett w5 W0.heap.size p o ⟨da, db, dc⟩ (l, (.zero, .zero, .zero)) := ⟨⟨_, hP5, hH5⟩, hQ5, hLh.out, by omega, by omega⟩
  have hbig : W0.heap.size ≤ kb := by omega
  have hpo : p < o := by omega
  have hoo : p + 1 + 1 < o := by omega
  have hpb : p < W0.heap.size := by omega
  have hpB := Lib.hid hp
  clear hp ho hkb hsz2 hw1s hP2 hR2 hO2 hQ2 hH2 hb2 hb5 hP5 hQ5 hH5
  have i0 : ∀ W, (Instr.index 63 (.agg #[.func (.func 31) #[] #[.pointer (some ⟨p, 0, none⟩), .pointer (some ⟨kb, 0, none⟩), .pointer (some ⟨o, 0, none⟩)], .func (.func 31) #[] #[.pointer (some ⟨p, 0, none⟩), .pointer (some ⟨kb + 1, 0, none⟩), .pointer (some ⟨o, 0, none⟩)], .func (.func 31) #[] #[.pointer (some ⟨p, 0, none⟩), .pointer (some ⟨kb + 1 + 1, 0, none⟩), .pointer (some ⟨o, 0, none⟩)]]) (.int .i64 0)).run Try.prog W = .ok (.func (.func 31) #[] #[.pointer (some ⟨p, 0, none⟩), .pointer (some ⟨kb, 0, none⟩), .pointer (some ⟨o, 0, none⟩)]) W := fun _ => by kernel_rfl
  have i1 : ∀ W, (Instr.index 63 (.agg #[.func (.func 31) #[] #[.pointer (some ⟨p, 0, none⟩), .pointer (some ⟨kb, 0, none⟩), .pointer (some ⟨o, 0, none⟩)], .func (.func 31) #[] #[.pointer (some ⟨p, 0, none⟩), .pointer (some ⟨kb + 1, 0, none⟩), .pointer (some ⟨o, 0, none⟩)], .func (.func 31) #[] #[.pointer (some ⟨p, 0, none⟩), .pointer (some ⟨kb + 1 + 1, 0, none⟩), .pointer (some ⟨o, 0, none⟩)]]) (.int .i64 1)).run Try.prog W = .ok (.func (.func 31) #[] #[.pointer (some ⟨p, 0, none⟩), .pointer (some ⟨kb + 1, 0, none⟩), .pointer (some ⟨o, 0, none⟩)]) W := fun _ => by kernel_rfl
  have i2 : ∀ W, (Instr.index 63 (.agg #[.func (.func 31) #[] #[.pointer (some ⟨p, 0, none⟩), .pointer (some ⟨kb, 0, none⟩), .pointer (some ⟨o, 0, none⟩)], .func (.func 31) #[] #[.pointer (some ⟨p, 0, none⟩), .pointer (some ⟨kb + 1, 0, none⟩), .pointer (some ⟨o, 0, none⟩)], .func (.func 31) #[] #[.pointer (some ⟨p, 0, none⟩), .pointer (some ⟨kb + 1 + 1, 0, none⟩), .pointer (some ⟨o, 0, none⟩)]]) (.int .i64 2)).run Try.prog W = .ok (.func (.func 31) #[] #[.pointer (some ⟨p, 0, none⟩), .pointer (some ⟨kb + 1 + 1, 0, none⟩), .pointer (some ⟨o, 0, none⟩)]) W := fun _ => by kernel_rfl
  go_wp2_with fail
  refine wp_loop_rounds 4 ?_
  rw [rounds_succ]
  go_wp2_with fail
  have hkb1 : kb < w5.heap.size := by omega
  have hkb2 : kb + 1 < w5.heap.size := by omega
  have hkb3 : kb + 1 + 1 < w5.heap.size := by omega
  have hbw5 : W0.heap.size ≤ w5.heap.size := by omega
  have hob : o < W0.heap.size := by omega
  have hr5 : p + 1 + 1 < w5.heap.size := by omega
  have hs5h := Lib.hid hs5
  clear hs5
  refine (pavg_turn p o kb W0.heap.size ⟨da, db, dc⟩ (l, (.zero, .zero, .zero)) 0 w5 hSt hd (by omega) (by omega) hk0 hkb1 (by omega) hpb hob (by omega) (by omega) hbw5).mono ?_
  rintro e w6 ⟨rfl, hSt6, hKe6⟩
  have hk16 := (hKe6.cell (c := kb + 1) (i := 0) hkb2 (by omega) (by omega)).trans hk1
  have hk26 := (hKe6.cell (c := kb + 1 + 1) (i := 0) hkb3 (by omega) (by omega)).trans hk2
  have hs6 := hKe6.size
  have hKt6 := hKe6
  clear hk0 hk1 hk2 hSt hKe6
  go_wp2_with fail
  rw [rounds_succ]
  go_wp2_with fail
  refine (pavg_turn p o (kb + 1) W0.heap.size ⟨da, db, dc⟩ (turnK ⟨da, db, dc⟩ (l, (.zero, .zero, .zero)) 0) 1 w6 hSt6 hd (by omega) (by omega) hk16 (by omega) (by omega) hpb hob (by omega) (by omega) (by omega)).mono ?_
  rintro e w7 ⟨rfl, hSt7, hKe7⟩
  have hk27 := (hKe7.cell (c := kb + 1 + 1) (i := 0) (by omega) (by omega) (by omega)).trans hk26
  have hs7 := hKe7.size
  have hKt7 := hKt6.trans hKe7
  clear hk16 hk26 hSt6 hKe7 hKt6
  go_wp2_with fail
  rw [rounds_succ]
  go_wp2_with fail
  refine (pavg_turn p o (kb + 1 + 1) W0.heap.size ⟨da, db, dc⟩ (turnK ⟨da, db, dc⟩ (turnK ⟨da, db, dc⟩ (l, (.zero, .zero, .zero)) 0) 1) 2 w7 hSt7 hd (by omega) (by omega) hk27 (by omega) (by omega) hpb hob (by omega) (by omega) (by omega)).mono ?_
  rintro e w8 ⟨rfl, hSt8, hKe8⟩
  have hKt8 := hKt7.trans hKe8
  have hs8 := hKe8.size
  clear hk27 hSt7 hKe8 hKt7
  have hSt9 : Sett w8 W0.heap.size p o ⟨da, db, dc⟩ (settS l ⟨da, db, dc⟩) := hSt8
  rw [hrh.out] at hSt9
  clear hSt8
  obtain ⟨⟨v, hP8, hH8⟩, hO8, hL8, hpl8, hol8⟩ := hSt9
  simp only at hH8 hO8 hL8
  obtain ⟨a8, c8, rfl, -⟩ := hH8.row hL8.all
  have hR8 := hR5.keep2 hKt8 (by omega) (by omega) (by omega)
  have hA8 := hO5.keep2 hKt8 (by omega) (by omega) (by omega)
  have hbel8 : Below w.heap.size w w8 := hbel5.trans (hKt8.below (by rw [hpB.out]; omega) (by rw [hpB.out]; omega) (by rw [hpB.out]; omega))
  obtain ⟨p0, p1, p2, p3, q0, q1, q2, q3⟩ := hP8
  obtain ⟨r0, r1, r2, r3, s0, s1, s2, s3⟩ := hR8
  obtain ⟨oc, of⟩ := hO8
  obtain ⟨ac, af⟩ := hA8
  have o0 := oc 0 (by simp)
  have o1 := oc 1 (by simp)
  have o2 := oc 2 (by simp)
  have o3 := oc 3 (by simp)
  have o4 := oc 4 (by simp)
  have o5 := oc 5 (by simp)
  have o6 := oc 6 (by simp)
  have o7 := oc 7 (by simp)
  have o8 := oc 8 (by simp)
  have t0 := ac 0 (by simp)
  have u0 := af 0 (by omega)
  have t1 := ac 1 (by simp)
  have u1 := af 1 (by omega)
  have t2 := ac 2 (by simp)
  have u2 := af 2 (by omega)
  have t3 := ac 3 (by simp)
  have u3 := af 3 (by omega)
  have t4 := ac 4 (by simp)
  have u4 := af 4 (by omega)
  have t5 := ac 5 (by simp)
  have u5 := af 5 (by omega)
  have t6 := ac 6 (by simp)
  have u6 := af 6 (by omega)
  have t7 := ac 7 (by simp)
  have u7 := af 7 (by omega)
  have t8 := ac 8 (by simp)
  have u8 := af 8 (by omega)
  simp at o0 o1 o2 o3 o4 o5 o6 o7 o8 t0 t1 t2 t3 t4 t5 t6 t7 t8
  simp only at p1 p2 p3 r1 r2 r3
  have hr8 : p + 1 + 1 < w8.heap.size := by omega
  have hr9 : p + 1 < w8.heap.size := by omega
  clear oc ac af of hR5 hO5 hKt8 i0 i1 i2
  go_wp2_with fail
  rw [rounds_succ]
  go_wp2_with fail
  have x0 : (((w8.setCell ⟨p, 1, none⟩ (.int .i64 0)).setCell ⟨p, 2, none⟩ (.int .i64 0)).setCell ⟨p, 3, none⟩ (.int .i64 0)).cell? ⟨p, 0, none⟩ = some (.slice a8 m.length c8) := by simp [go_sem, p0]
  have x1 : (((w8.setCell ⟨p, 1, none⟩ (.int .i64 0)).setCell ⟨p, 2, none⟩ (.int .i64 0)).setCell ⟨p, 3, none⟩ (.int .i64 0)).cell? ⟨p, 1, none⟩ = some (.int .i64 0) := by simp [go_sem, p1]
  have x2 : (((w8.setCell ⟨p, 1, none⟩ (.int .i64 0)).setCell ⟨p, 2, none⟩ (.int .i64 0)).setCell ⟨p, 3, none⟩ (.int .i64 0)).cell? ⟨p, 2, none⟩ = some (.int .i64 0) := by simp [go_sem, p2]
  have x3 : (((w8.setCell ⟨p, 1, none⟩ (.int .i64 0)).setCell ⟨p, 2, none⟩ (.int .i64 0)).setCell ⟨p, 3, none⟩ (.int .i64 0)).cell? ⟨p, 3, none⟩ = some (.int .i64 0) := by simp [go_sem, p3]
  have hfar : ∀ b i, b ≠ p → (((w8.setCell ⟨p, 1, none⟩ (.int .i64 0)).setCell ⟨p, 2, none⟩ (.int .i64 0)).setCell ⟨p, 3, none⟩ (.int .i64 0)).cell? ⟨b, i, none⟩ = w8.cell? ⟨b, i, none⟩ := fun b i hb => ((World.cell?_of_block (w := (w8.setCell ⟨p, 1, none⟩ (.int .i64 0)).setCell ⟨p, 2, none⟩ (.int .i64 0)) (Below.heap_setCell _ _ _ _ hb)).trans (World.cell?_of_block (w := w8.setCell ⟨p, 1, none⟩ (.int .i64 0)) (Below.heap_setCell _ _ _ _ hb))).trans (World.cell?_of_block (w := w8) (Below.heap_setCell _ _ _ _ hb))
  have hfz : ∀ b i, (((w8.setCell ⟨p, 1, none⟩ (.int .i64 0)).setCell ⟨p, 2, none⟩ (.int .i64 0)).setCell ⟨p, 3, none⟩ (.int .i64 0)).frozen? ⟨b, i, none⟩ = w8.frozen? ⟨b, i, none⟩ := fun b i => by simp
  have hH9 : Hold (((w8.setCell ⟨p, 1, none⟩ (.int .i64 0)).setCell ⟨p, 2, none⟩ (.int .i64 0)).setCell ⟨p, 3, none⟩ (.int .i64 0)) W0.heap.size (.slice a8 m.length c8) m := by
    repeat (first | refine Hold.set ?_ (by omega) _ _ | exact hH8)
  have hb9 : Below w.heap.size w (((w8.setCell ⟨p, 1, none⟩ (.int .i64 0)).setCell ⟨p, 2, none⟩ (.int .i64 0)).setCell ⟨p, 3, none⟩ (.int .i64 0)) := by
    have := hpB.out
    repeat (first | refine Below.setCell ?_ (by simp only; omega) _ | exact hbel8)
  have hs9 : w8.heap.size ≤ (((w8.setCell ⟨p, 1, none⟩ (.int .i64 0)).setCell ⟨p, 2, none⟩ (.int .i64 0)).setCell ⟨p, 3, none⟩ (.int .i64 0)).heap.size := by simp [World.setCell]
  have o0 := (hfar o 0 (by omega)).trans o0
  have o1 := (hfar o 1 (by omega)).trans o1
  have o2 := (hfar o 2 (by omega)).trans o2
  have o3 := (hfar o 3 (by omega)).trans o3
  have o4 := (hfar o 4 (by omega)).trans o4
  have o5 := (hfar o 5 (by omega)).trans o5
  have o6 := (hfar o 6 (by omega)).trans o6
  have o7 := (hfar o 7 (by omega)).trans o7
  have o8 := (hfar o 8 (by omega)).trans o8
  have r0 := (hfar (p + 1) 0 (by omega)).trans r0
  have s0 := (hfz (p + 1) 0).trans s0
  have r1 := (hfar (p + 1) 1 (by omega)).trans r1
  have s1 := (hfz (p + 1) 1).trans s1
  have r2 := (hfar (p + 1) 2 (by omega)).trans r2
  have s2 := (hfz (p + 1) 2).trans s2
  have r3 := (hfar (p + 1) 3 (by omega)).trans r3
  have s3 := (hfz (p + 1) 3).trans s3
  have t0 := (hfar (p + 1 + 1) 0 (by omega)).trans t0
  have u0 := (hfz (p + 1 + 1) 0).trans u0
  have t1 := (hfar (p + 1 + 1) 1 (by omega)).trans t1
  have u1 := (hfz (p + 1 + 1) 1).trans u1
  have t2 := (hfar (p + 1 + 1) 2 (by omega)).trans t2
  have u2 := (hfz (p + 1 + 1) 2).trans u2
  have t3 := (hfar (p + 1 + 1) 3 (by omega)).trans t3
  have u3 := (hfz (p + 1 + 1) 3).trans u3
  have t4 := (hfar (p + 1 + 1) 4 (by omega)).trans t4
  have u4 := (hfz (p + 1 + 1) 4).trans u4
  have t5 := (hfar (p + 1 + 1) 5 (by omega)).trans t5
  have u5 := (hfz (p + 1 + 1) 5).trans u5
  have t6 := (hfar (p + 1 + 1) 6 (by omega)).trans t6
  have u6 := (hfz (p + 1 + 1) 6).trans u6
  have t7 := (hfar (p + 1 + 1) 7 (by omega)).trans t7
  have u7 := (hfz (p + 1 + 1) 7).trans u7
  have t8 := (hfar (p + 1 + 1) 8 (by omega)).trans t8
  have u8 := (hfz (p + 1 + 1) 8).trans u8
  generalize ((w8.setCell ⟨p, 1, none⟩ (.int .i64 0)).setCell ⟨p, 2, none⟩ (.int .i64 0)).setCell ⟨p, 3, none⟩ (.int .i64 0) = w9 at *
  clear hfar hfz p0 p1 p2 p3 q0 q1 q2 q3 hH8 hbel8
  have hr8 : p + 1 + 1 < w9.heap.size := by omega
  have hr9 : p + 1 < w9.heap.size := by omega
  go_region
  all_goals
    go_wp2_with fail
    refine bodyPost_ret (v := .tuple #[.agg #[.slice a8 m.length c8, .int .i64 0, .int .i64 0, .int .i64 0], .agg #[.int .i64 xq, .int .i64 xv, .int .i64 xp, .int .i64 yq, .int .i64 yv, .int .i64 yp, .int .i64 zq, .int .i64 zv, .int .i64 zp]]) (by simp [results, Try.results10, go_sem, hr8, hr9, r0, r1, r2, r3, s0, s1, s2, s3, t0, u0, t1, u1, t2, u2, t3, u3, t4, u4, t5, u5, t6, u6, t7, u7, t8, u8]) rfl ⟨_, rfl, Hold.mono (base := W0.heap.size) ?_ (by rw [hpB.out]; omega), ?_⟩
    · refine Hold.below ?_ (Below.refl _ _).drew
      repeat (first | refine Hold.set ?_ (by omega) _ _ | exact hH9)
    · have := hpB.out
      refine Below.drew ?_
      repeat (first | refine Below.setCell ?_ (by simp only; omega) _ | exact hb9)
end Go.Proofs.Ytjccjmmbebiegaa

/- Pavg7 -/

set_option linter.unusedVariables false
set_option linter.unusedSimpArgs false
namespace Go.Proofs.Ytjccjmmbebiegaa
open Go.RowKit

/-- A pool as it is read, and an error. -/
def RowPE (w : World) (m : List Lay) (d : Pnd) (e' : Int) (e : Ending) (w' : World) : Prop :=
  (∃ a c, e = .returned (.tuple #[.agg #[.slice a m.length c, .int .i64 d.a, .int .i64 d.b, .int .i64 d.c], .int .i64 e']) ∧ Hold w' w.heap.size (.slice a m.length c) m) ∧ Below w.heap.size w w'
theorem HoldPE.row {w w' : World} {m : List Lay} {d : Pnd} {e' : Int} {e : Ending} (h : HoldPE w m d e' e w') (hm : LR m) : RowPE w m d e' e w' := by
  obtain ⟨v, rfl, hh, hb⟩ := h
  have hh2 := hh
  obtain ⟨a, c, rfl, -⟩ := hh.row hm.all
  exact ⟨⟨a, c, rfl, hh2⟩, hb⟩
theorem pavg_In_is {a : Option Addr} {cap : Nat} {l m : List Lay} {d : Pnd} {x : Lay} {e' : Int} {w : World} (h : Row w 3 a l.length cap (flat l)) (hL : LR l) (hx : AllI [x.q, x.v, x.p]) (hI : inM l x = (m, e')) :
    Calls Try.prog 8 #[.agg #[.slice a l.length cap, .int .i64 d.a, .int .i64 d.b, .int .i64 d.c], .agg #[.int .i64 x.q, .int .i64 x.v, .int .i64 x.p]] w (RowPE w m d e') := by
  have hm : LR (inM l x).1 := inM_LR hL
  have := pavg_In a cap l d x w h hL hx
  rw [hI] at this hm
  exact this.mono fun e w' h => h.row hm
theorem pavg_Wait_is {a : Option Addr} {cap : Nat} {l : List Lay} {d d' : Pnd} {k q e' : Int} {w : World} (h : Row w 3 a l.length cap (flat l)) (hL : LR l) (hd : PndOk d) (hk : I64 k) (hq : I64 q) (hW : waitS l d k q = (d', e')) :
    Calls Try.prog 9 #[.agg #[.slice a l.length cap, .int .i64 d.a, .int .i64 d.b, .int .i64 d.c], .int .i64 k, .int .i64 q] w (RowPE w l d' e') := by
  have := pavg_Wait a cap l d k q w h hL hd hk hq
  rw [hW] at this
  exact this.mono fun e w' h => h.row hL
theorem pavg_Back_is {a : Option Addr} {cap : Nat} {l : List Lay} {d d' : Pnd} {k q e' : Int} {w : World} (h : Row w 3 a l.length cap (flat l)) (hL : LR l) (hd : PndOk d) (hk : I64 k) (hq : I64 q) (hW : backS d k q = (d', e')) :
    Calls Try.prog 14 #[.agg #[.slice a l.length cap, .int .i64 d.a, .int .i64 d.b, .int .i64 d.c], .int .i64 k, .int .i64 q] w (RowPE w l d' e') := by
  have := pavg_Back a cap l d k q w h hL hd hk hq
  rw [hW] at this
  exact this.mono fun e w' h => h.row hL
theorem pavg_Free_is {a : Option Addr} {cap : Nat} {l : List Lay} {d : Pnd} {f : Int} {w : World} (h : Row w 3 a l.length cap (flat l)) (hL : LR l) (hd : PndOk d) (hf : freeP l d = f) :
    Calls Try.prog 12 #[.agg #[.slice a l.length cap, .int .i64 d.a, .int .i64 d.b, .int .i64 d.c]] w fun e w' => e = .returned (.int .i64 f) ∧ Below w.heap.size w w' := by
  have := pavg_Free a cap l d w h hL hd
  rw [hf] at this
  exact this
theorem turnK_LR {d : Pnd} {s : List Lay × (Lay × Lay × Lay)} {k : Int} (h : LR s.1) : LR (turnK d s k).1 := by
  unfold turnK
  split
  · exact outS_LR h
  · exact h
theorem pavg_Settle_is {a : Option Addr} {cap : Nat} {l m : List Lay} {d : Pnd} {o : Lay × Lay × Lay} {w : World} (h : Row w 3 a l.length cap (flat l)) (hL : LR l) (hd : PndOk d) (hS : settS l d = (m, o)) :
    Calls Try.prog 10 #[.agg #[.slice a l.length cap, .int .i64 d.a, .int .i64 d.b, .int .i64 d.c]] w fun e w' => (∃ a' c', e = .returned (.tuple #[.agg #[.slice a' m.length c', .int .i64 0, .int .i64 0, .int .i64 0], outV o]) ∧ Hold w' w.heap.size (.slice a' m.length c') m) ∧ Below w.heap.size w w' := by
  have hm : LR (settS l d).1 := turnK_LR (turnK_LR (turnK_LR hL))
  have := pavg_Settle a cap l d w h hL hd
  rw [hS] at this hm
  refine this.mono ?_
  rintro e w' ⟨v, rfl, hh, hb⟩
  have hh2 := hh
  obtain ⟨a', c', rfl, -⟩ := hh.row hm.all
  exact ⟨⟨a', c', rfl, hh2⟩, hb⟩
theorem PndOk.zero : PndOk ⟨0, 0, 0⟩ := ⟨by simp, by simp, by simp, by simp, by simp, by simp⟩
theorem RowNil (w : World) : Row w 3 none 0 0 (flat []) := Row.nil w 3

set_option maxRecDepth 20000 in
set_option maxHeartbeats 2000000 in
theorem pavg_awake (w : World) :
    Calls Try.prog 13 #[] w fun e w' => e = .returned (.bool true) ∧ Below w.heap.size w w' := by
  have I1 := Lib.hid (show inM [] ⟨2, 10, 0⟩ = ([⟨2, 10, 0⟩], 0) by decide +kernel)
  have W1 := Lib.hid (show waitS [⟨2, 10, 0⟩] ⟨0, 0, 0⟩ 0 1 = (⟨1, 0, 0⟩, 0) by kernel_rfl)
  have I2 := Lib.hid (show inM [⟨2, 10, 0⟩] ⟨2, 30, 0⟩ = ([⟨4, 40, 0⟩], 0) by decide +kernel)
  have S1 := Lib.hid (show settS [⟨4, 40, 0⟩] ⟨1, 0, 0⟩ = ([⟨3, 30, 0⟩], (⟨1, 10, 0⟩, ⟨0, 0, 0⟩, ⟨0, 0, 0⟩)) by kernel_rfl)
  have F1 := Lib.hid (show freeP [⟨4, 40, 0⟩] ⟨1, 0, 0⟩ = 3 by kernel_rfl)
  have F2 := Lib.hid (show freeP [⟨3, 30, 0⟩] ⟨0, 0, 0⟩ = 3 by kernel_rfl)
  have L1 := Lib.hid (LR.of (l := [⟨2, 10, 0⟩]) (by decide +kernel))
  have L2 := Lib.hid (LR.of (l := [⟨4, 40, 0⟩]) (by decide +kernel))
  have L3 := Lib.hid (LR.of (l := [⟨3, 30, 0⟩]) (by decide +kernel))
  have D1 := Lib.hid (show PndOk ⟨1, 0, 0⟩ from ⟨by simp, by simp, by simp, by simp, by simp, by simp⟩)
  go_enter Try.func13, Try.ntmps13
  go_wp2_with fail
  refine (pavg_In_is (l := []) (d := ⟨0, 0, 0⟩) (x := ⟨2, 10, 0⟩) (RowNil w) LR.nil (AllI.of_B (by decide +kernel)) I1.out).mono ?_
  rintro e w1 ⟨⟨a1, c1, rfl, H1⟩, hw1⟩
  go_wp2_with fail
  have hb1 : Below w.heap.size w (w1.alloc (.cells #[.slice a1 1 c1, .int .i64 0, .int .i64 0, .int .i64 0] 26)) := by (repeat (first | assumption | exact Below.refl _ _ | refine ballc ?_ _ | refine bdrew ?_ | refine bdrewN ?_ _ | refine bset ?_ _ _ | refine bsetN ?_ (by omega) _ _ | refine bthen ?_ (by assumption)))
  have P1 := CellP.new w1 (.slice a1 1 c1) ⟨0, 0, 0⟩ 26
  have H1b := H1.below ((Below.refl w1.heap.size w1).alloc (Nat.le_refl _) (.cells #[.slice a1 1 c1, .int .i64 0, .int .i64 0, .int .i64 0] 26))
  have hs1 : w1.heap.size < (w1.alloc (.cells #[.slice a1 1 c1, .int .i64 0, .int .i64 0, .int .i64 0] 26)).heap.size := by simp
  have hws := hw1.size
  generalize w1.alloc (.cells #[.slice a1 1 c1, .int .i64 0, .int .i64 0, .int .i64 0] 26) = u1 at *
  obtain ⟨P, hP⟩ : ∃ P, w1.heap.size = P := ⟨_, rfl⟩
  rw [hP] at P1 hs1 hws ⊢
  clear hP H1 hw1
  refine (pavg_Wait_is (l := [⟨2, 10, 0⟩]) (d := ⟨0, 0, 0⟩) (k := 0) (q := 1) (H1b.rowIs L1.out.all) L1.out PndOk.zero ⟨by omega, by omega⟩ ⟨by omega, by omega⟩ W1.out).mono ?_
  rintro e w2 ⟨⟨a2, c2, rfl, H2⟩, hw2⟩
  have hs2 := hw2.size
  have P2 := P1.below hw2 hs1
  have hl2 : P < w2.heap.size := by omega
  have hbel2 : Below w.heap.size w w2 := hb1.trans (hw2.mono (by omega))
  have P3 := P2.put (.slice a2 1 c2) 1 0 0
  have H3 : Hold ((((w2.setCell ⟨P, 0, none⟩ (.slice a2 1 c2)).setCell ⟨P, 1, none⟩ (.int .i64 1)).setCell ⟨P, 2, none⟩ (.int .i64 0)).setCell ⟨P, 3, none⟩ (.int .i64 0)) u1.heap.size (.slice a2 1 c2) [⟨2, 10, 0⟩] := by
    repeat (first | refine Hold.set ?_ (by omega) _ _ | exact H2)
  have hb3 : Below w.heap.size w ((((w2.setCell ⟨P, 0, none⟩ (.slice a2 1 c2)).setCell ⟨P, 1, none⟩ (.int .i64 1)).setCell ⟨P, 2, none⟩ (.int .i64 0)).setCell ⟨P, 3, none⟩ (.int .i64 0)) := by
    repeat (first | refine Below.setCell ?_ (by simp only; omega) _ | exact hbel2)
  have hs3 : w2.heap.size ≤ ((((w2.setCell ⟨P, 0, none⟩ (.slice a2 1 c2)).setCell ⟨P, 1, none⟩ (.int .i64 1)).setCell ⟨P, 2, none⟩ (.int .i64 0)).setCell ⟨P, 3, none⟩ (.int .i64 0)).heap.size := by simp [World.setCell]
  obtain ⟨p0, p1, p2, p3, q0, q1, q2, q3⟩ := P2
  simp only at p1 p2 p3
  clear P1 H1b hw2 hb1
  go_wp2_with fail
  generalize (((w2.setCell ⟨P, 0, none⟩ (.slice a2 1 c2)).setCell ⟨P, 1, none⟩ (.int .i64 1)).setCell ⟨P, 2, none⟩ (.int .i64 0)).setCell ⟨P, 3, none⟩ (.int .i64 0) = u2 at *
  clear p0 p1 p2 p3 q0 q1 q2 q3 H2 hbel2 hl2
  refine (pavg_In_is (l := [⟨2, 10, 0⟩]) (d := ⟨1, 0, 0⟩) (x := ⟨2, 30, 0⟩) (H3.rowIs L1.out.all) L1.out (AllI.of_B (by decide +kernel)) I2.out).mono ?_
  rintro e w4 ⟨⟨a4, c4, rfl, H4⟩, hw4⟩
  have hs4 := hw4.size
  have P4 := P3.below hw4 (by omega)
  have hl4 : P < w4.heap.size := by omega
  have hbel4 : Below w.heap.size w w4 := hb3.trans (hw4.mono (by omega))
  have P5 := P4.put (.slice a4 1 c4) 1 0 0
  have H5 : Hold ((((w4.setCell ⟨P, 0, none⟩ (.slice a4 1 c4)).setCell ⟨P, 1, none⟩ (.int .i64 1)).setCell ⟨P, 2, none⟩ (.int .i64 0)).setCell ⟨P, 3, none⟩ (.int .i64 0)) u2.heap.size (.slice a4 1 c4) [⟨4, 40, 0⟩] := by
    repeat (first | refine Hold.set ?_ (by omega) _ _ | exact H4)
  have hb5 : Below w.heap.size w ((((w4.setCell ⟨P, 0, none⟩ (.slice a4 1 c4)).setCell ⟨P, 1, none⟩ (.int .i64 1)).setCell ⟨P, 2, none⟩ (.int .i64 0)).setCell ⟨P, 3, none⟩ (.int .i64 0)) := by
    repeat (first | refine Below.setCell ?_ (by simp only; omega) _ | exact hbel4)
  have hs5 : w4.heap.size ≤ ((((w4.setCell ⟨P, 0, none⟩ (.slice a4 1 c4)).setCell ⟨P, 1, none⟩ (.int .i64 1)).setCell ⟨P, 2, none⟩ (.int .i64 0)).setCell ⟨P, 3, none⟩ (.int .i64 0)).heap.size := by simp [World.setCell]
  obtain ⟨p0, p1, p2, p3, q0, q1, q2, q3⟩ := P4
  simp only at p1 p2 p3
  clear P3 H3 hw4 hb3
  go_wp2_with fail
  generalize (((w4.setCell ⟨P, 0, none⟩ (.slice a4 1 c4)).setCell ⟨P, 1, none⟩ (.int .i64 1)).setCell ⟨P, 2, none⟩ (.int .i64 0)).setCell ⟨P, 3, none⟩ (.int .i64 0) = u4 at *
  clear p0 p1 p2 p3 q0 q1 q2 q3 H4 hbel4 hl4
  refine (pavg_Settle_is (l := [⟨4, 40, 0⟩]) (d := ⟨1, 0, 0⟩) (H5.rowIs L2.out.all) L2.out D1.out S1.out).mono ?_
  unfold outV
  simp only
  rintro e w6 ⟨⟨a6, c6, rfl, H6⟩, hw6⟩
  have hs6 := hw6.size
  have hbel6 : Below w.heap.size w w6 := hb5.trans (hw6.mono (by omega))
  have P6 := P5.below hw6 (by omega)
  have H5b := H5.below hw6
  obtain ⟨p0, p1, p2, p3, -, -, -, -⟩ := P6
  simp only at p1 p2 p3
  have hl6 : P < w6.heap.size := by omega
  clear P5 H5 hw6 hb5
  go_wp2_with fail
  have hbA : Below w6.heap.size w6 ((w6.alloc (.cells #[.slice a6 1 c6, .int .i64 0, .int .i64 0, .int .i64 0] 26)).alloc (.cells #[.int .i64 1, .int .i64 10, .int .i64 0, .int .i64 0, .int .i64 0, .int .i64 0, .int .i64 0, .int .i64 0, .int .i64 0] 34)) := by (repeat (first | assumption | exact Below.refl _ _ | refine ballc ?_ _ | refine bdrew ?_ | refine bdrewN ?_ _ | refine bset ?_ _ _ | refine bsetN ?_ (by omega) _ _ | refine bthen ?_ (by assumption)))
  have P7 := (CellP.new w6 (.slice a6 1 c6) ⟨0, 0, 0⟩ 26).alloc (by simp) (.cells #[.int .i64 1, .int .i64 10, .int .i64 0, .int .i64 0, .int .i64 0, .int .i64 0, .int .i64 0, .int .i64 0, .int .i64 0] 34)
  have O7 := CellsAt.new (w6.alloc (.cells #[.slice a6 1 c6, .int .i64 0, .int .i64 0, .int .i64 0] 26)) [1, 10, 0, 0, 0, 0, 0, 0, 0] 34
  have hO7 : CellsAt ((w6.alloc (.cells #[.slice a6 1 c6, .int .i64 0, .int .i64 0, .int .i64 0] 26)).alloc (.cells #[.int .i64 1, .int .i64 10, .int .i64 0, .int .i64 0, .int .i64 0, .int .i64 0, .int .i64 0, .int .i64 0, .int .i64 0] 34)) (w6.heap.size + 1) 0 [1, 10, 0, 0, 0, 0, 0, 0, 0] := by rw [World.size_alloc] at O7; exact O7
  have hs7 : ((w6.alloc (.cells #[.slice a6 1 c6, .int .i64 0, .int .i64 0, .int .i64 0] 26)).alloc (.cells #[.int .i64 1, .int .i64 10, .int .i64 0, .int .i64 0, .int .i64 0, .int .i64 0, .int .i64 0, .int .i64 0, .int .i64 0] 34)).heap.size = w6.heap.size + 1 + 1 := by simp
  generalize (w6.alloc (.cells #[.slice a6 1 c6, .int .i64 0, .int .i64 0, .int .i64 0] 26)).alloc (.cells #[.int .i64 1, .int .i64 10, .int .i64 0, .int .i64 0, .int .i64 0, .int .i64 0, .int .i64 0, .int .i64 0, .int .i64 0] 34) = u6 at *
  have H7 := H6.below hbA
  have H5c := H5b.below hbA
  have hb7 : Below w.heap.size w u6 := hbel6.trans (hbA.mono (by omega))
  obtain ⟨B, hB⟩ : ∃ B, w6.heap.size = B := ⟨_, rfl⟩
  rw [hB] at P7 hO7 hs7 ⊢
  have hB1 : B < u6.heap.size := by omega
  have hB2 : B + 1 < u6.heap.size := by omega
  clear hs7 hB O7 hbA H6 H5b hbel6 p0 p1 p2 p3
  refine (pavg_Free_is (l := [⟨4, 40, 0⟩]) (d := ⟨1, 0, 0⟩) (H5c.rowIs L2.out.all) L2.out D1.out F1.out).mono ?_
  rintro e w8 ⟨rfl, hw8⟩
  have hs8 := hw8.size
  have P8 := P7.below hw8 hB1
  have O8 := hO7.below hB2 hw8
  have H8 := H7.below hw8
  have hb8 : Below w.heap.size w w8 := hb7.trans (hw8.mono (by have := hb7.size; omega))
  have o0 := O8 0 (by simp)
  have o1 := O8 1 (by simp)
  simp at o0 o1
  obtain ⟨p0, p1, p2, p3, -, -, -, -⟩ := P8
  simp only at p1 p2 p3
  have hB3 : B < w8.heap.size := by omega
  have hB4 : B + 1 < w8.heap.size := by omega
  clear P7 hO7 H7 H5c hw8 hb7 O8
  go_wp2_with fail
  refine (pavg_Free_is (l := [⟨3, 30, 0⟩]) (d := ⟨0, 0, 0⟩) (H8.rowIs L3.out.all) L3.out PndOk.zero F2.out).mono ?_
  rintro e w9 ⟨rfl, hw9⟩
  have hs9 := hw9.size
  have p0' := (hw9.cell (p := ⟨B, 0, none⟩) hB3).trans p0
  have R9 := (H8.below hw9).rowIs L3.out.all
  have hb9 : Below w.heap.size w w9 := hb8.trans (hw9.mono (by have := hb8.size; omega))
  obtain ⟨b, off, rfl, hbl, hc⟩ : ∃ b off, a6 = some ⟨b, off, none⟩ ∧ b < w9.heap.size ∧ CellsAt w9 b off (flat [⟨3, 30, 0⟩]) := by
    rcases R9.at_ with h0 | h0
    · cases h0
    · exact h0
  have c1' := (hc.lay (j := 0) (x := ⟨3, 30, 0⟩) rfl).2.1
  simp only [Nat.zero_mul, Nat.add_zero] at c1'
  have hB5 : B < w9.heap.size := by omega
  clear o0 o1 p0 p1 p2 p3 H8 hw9 hb8 hc R9
  go_wp2_with fail
  go_ret
  exact ⟨rfl, hb9⟩
end Go.Proofs.Ytjccjmmbebiegaa
