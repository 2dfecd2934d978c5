/-
  pool.Out: what waits. The walk.
-/
import Derived.Test.YtjccjmmbebiegaaPool5
set_option linter.unusedVariables false
set_option linter.unusedSimpArgs false
namespace Go.Proofs.Ytjccjmmbebiegaa
open Go.RowKit

set_option maxRecDepth 20000 in
set_option maxHeartbeats 1000000 in
theorem pool_Out_wait (m c : Int) (T : Nat) (recv : Value) (hof : ∀ W, Calls Try.prog 34 #[.int .i64 m, .int .i64 c] W fun e w' => e = .returned (.iface T recv) ∧ W = w') (hwaits : ∀ W, Calls Try.prog 36 #[.iface T recv] W fun e w' => e = .returned (.bool true) ∧ Below W.heap.size W w') (a : Option Addr) (cap : Nat) (l : List Lay) (d : Pnd) (kind q : Int) (w : World) (h : Row w 3 a l.length cap (flat l)) (hL : LR l) (hd : PndOk d) (hq : I64 q) (d' : Pnd) (e' : Int) (hW : waitS l d kind q = (d', e')) (hno : e' ≠ 0 → d' = d) (hk : 0 ≤ kind ∧ kind < 3) (wt : Bool) (hwt : decide (e' = 0) = wt) :
    Calls Try.prog 17 #[.int .i64 m, .int .i64 c, poolV (.slice a l.length cap) d, .int .i64 kind, .int .i64 q] w (HoldP4 w (l, d', .zero, wt, e')) := by
  have hofh := Lib.hid hof
  have hwaitsh := Lib.hid hwaits
  have hn : l.length ≤ 900 := by have := hL.len; omega
  have hWh := Lib.hid hW
  have hnoh := Lib.hid hno
  have hwth := Lib.hid hwt
  have hcall := fun W (hR : Row W 3 a l.length cap (flat l)) => pavg_Wait_is (k := kind) (q := q) hR hL hd ⟨by omega, by omega⟩ hq hW
  clear hof hwaits hW hno hwt
  have hkb : (kind != 3) = true := bne_iff_ne.2 (by omega)
  have hA := Lib.hid h.all
  obtain ⟨n, hN⟩ : ∃ n, l.length = n := ⟨_, rfl⟩
  have hNh := Lib.hid hN
  have hownc := fun W (hW : Row W 3 a l.length cap (flat l)) => pool_own a cap l d W hW hn
  rw [hN] at h hownc hcall ⊢
  clear hN
  obtain ⟨da, db, dc⟩ := d
  unfold poolV at *
  simp only at hownc hcall ⊢
  have hownh := Lib.hid hownc
  clear hownc
  have hcallh := Lib.hid hcall
  clear hcall
  go_enter Try.func17, Try.ntmps17
  have hB0 : Below w.heap.size w (((w.alloc (.cells #[.slice a n cap, .int .i64 da, .int .i64 db, .int .i64 dc] 26)).alloc (.cells #[.slice none 0 0, .int .i64 0, .int .i64 0, .int .i64 0] 26)).alloc (.cells #[.int .i64 0, .int .i64 0, .int .i64 0] 32)) := by (repeat (first | assumption | exact Below.refl _ _ | refine ballc ?_ _ | refine bdrew ?_ | refine bdrewN ?_ _ | refine bset ?_ _ _ | refine bsetN ?_ (by omega) _ _ | refine bthen ?_ (by assumption)))
  have P0 := ((CellP.new w (.slice a n cap) ⟨da, db, dc⟩ 26).alloc (by simp) (.cells #[.slice none 0 0, .int .i64 0, .int .i64 0, .int .i64 0] 26)).alloc (by simp; omega) (.cells #[.int .i64 0, .int .i64 0, .int .i64 0] 32)
  have PR := (CellP.new (w.alloc (.cells #[.slice a n cap, .int .i64 da, .int .i64 db, .int .i64 dc] 26)) (.slice none 0 0) ⟨0, 0, 0⟩ 26).alloc (by simp) (.cells #[.int .i64 0, .int .i64 0, .int .i64 0] 32)
  have PX := CellL.new ((w.alloc (.cells #[.slice a n cap, .int .i64 da, .int .i64 db, .int .i64 dc] 26)).alloc (.cells #[.slice none 0 0, .int .i64 0, .int .i64 0, .int .i64 0] 26)) ⟨0, 0, 0⟩ 32
  simp only [World.size_alloc] at PR PX
  have hS0 : (((w.alloc (.cells #[.slice a n cap, .int .i64 da, .int .i64 db, .int .i64 dc] 26)).alloc (.cells #[.slice none 0 0, .int .i64 0, .int .i64 0, .int .i64 0] 26)).alloc (.cells #[.int .i64 0, .int .i64 0, .int .i64 0] 32)).heap.size = w.heap.size + 1 + 1 + 1 := by simp
  go_upto_region 1 with fail
  generalize ((w.alloc (.cells #[.slice a n cap, .int .i64 da, .int .i64 db, .int .i64 dc] 26)).alloc (.cells #[.slice none 0 0, .int .i64 0, .int .i64 0, .int .i64 0] 26)).alloc (.cells #[.int .i64 0, .int .i64 0, .int .i64 0] 32) = W0 at *
  have b0 : w.heap.size < W0.heap.size := by omega
  have b1 : w.heap.size + 1 < W0.heap.size := by omega
  have b2 : w.heap.size + 1 + 1 < W0.heap.size := by omega
  have hbl : w.heap.size ≤ W0.heap.size := by omega
  clear hS0
  have hRow := h.below hB0
  obtain ⟨p0, p1, p2, p3, -, -, -, -⟩ := id P0
  simp only at p1 p2 p3
  have hk0 : ¬ kind < 0 := by omega
  have hk3 : ¬ 3 < kind := by omega
  go_wp2_with fail
  refine (hofh.out W0).mono ?_
  rintro e w' ⟨rfl, rfl⟩
  have hal : Below W0.heap.size W0 ((W0.alloc (.cells #[.int .i64 0, .int .i64 0, .int .i64 0] 32)).alloc (.cells #[.slice none 0 0, .int .i64 0, .int .i64 0, .int .i64 0] 26)) := by (repeat (first | assumption | exact Below.refl _ _ | refine ballc ?_ _ | refine bdrew ?_ | refine bdrewN ?_ _ | refine bset ?_ _ _ | refine bsetN ?_ (by omega) _ _ | refine bthen ?_ (by assumption)))
  have PY := (CellL.new W0 ⟨0, 0, 0⟩ 32).alloc2 (.cells #[.slice none 0 0, .int .i64 0, .int .i64 0, .int .i64 0] 26)
  have PN := CellP.new (W0.alloc (.cells #[.int .i64 0, .int .i64 0, .int .i64 0] 32)) (.slice none 0 0) ⟨0, 0, 0⟩ 26
  simp only [World.size_alloc] at PN
  have hs1 : ((W0.alloc (.cells #[.int .i64 0, .int .i64 0, .int .i64 0] 32)).alloc (.cells #[.slice none 0 0, .int .i64 0, .int .i64 0, .int .i64 0] 26)).heap.size = W0.heap.size + 1 + 1 := by simp
  go_upto_region 9 with fail
  have P1 := P0.below hal b0
  have PR1 := PR.below hal b1
  have PX1 := PX.below hal b2
  have hRow1 := hRow.below hal
  have hB1 := hB0.trans (hal.mono hbl)
  clear P0 PR PX hRow hB0 hal p0 p1 p2 p3
  generalize (W0.alloc (.cells #[.int .i64 0, .int .i64 0, .int .i64 0] 32)).alloc (.cells #[.slice none 0 0, .int .i64 0, .int .i64 0, .int .i64 0] 26) = W1 at *
  obtain ⟨Y, hY⟩ : ∃ Y, W0.heap.size = Y := ⟨_, rfl⟩
  rw [hY] at PY PN hs1 b0 b1 b2 hbl ⊢
  have bY : Y < W1.heap.size := by omega
  have bN : Y + 1 < W1.heap.size := by omega
  have c0 : w.heap.size < W1.heap.size := by omega
  have c1 : w.heap.size + 1 < W1.heap.size := by omega
  have c2 : w.heap.size + 1 + 1 < W1.heap.size := by omega
  have hbl1 : w.heap.size ≤ W1.heap.size := by omega
  have hYg : w.heap.size + 1 + 1 < Y := by omega
  clear hs1 hY b0 b1 b2 hbl
  go_wp2_with fail
  refine (hwaitsh.out W1).mono ?_
  rintro e w2 ⟨rfl, hw2⟩
  have hw2s := hw2.size
  have P2 := P1.below hw2 c0
  have PR2 := PR1.below hw2 c1
  have PX2 := PX1.below hw2 c2
  have PY2 := PY.below hw2 bY
  have PN2 := PN.below hw2 bN
  have hRow2 := hRow1.below hw2
  have hB2 := hB1.trans (hw2.mono hbl1)
  have d0 : w.heap.size < w2.heap.size := by omega
  have d1 : w.heap.size + 1 < w2.heap.size := by omega
  have d2 : w.heap.size + 1 + 1 < w2.heap.size := by omega
  have dY : Y < w2.heap.size := by omega
  have dN : Y + 1 < w2.heap.size := by omega
  have hbl2 : w.heap.size ≤ w2.heap.size := by omega
  clear P1 PR1 PX1 PY PN hRow1 hB1 hw2 bY bN c0 c1 c2 hbl1 hw2s
  obtain ⟨p0, p1, p2, p3, -, -, -, -⟩ := id P2
  simp only at p1 p2 p3
  have hk33 : ¬ kind = 3 := by omega
  go_wp2_with fail
  refine (hcallh.out w2 hRow2).mono ?_
  unfold RowPE
  rintro e w3 ⟨⟨a1, c1, rfl, hh⟩, hw3⟩
  have hw3s := hw3.size
  obtain ⟨xa, xb, xc⟩ := d'
  simp only at hw3 ⊢
  have eN0 : w.heap.size ≠ Y + 1 := by omega
  have eN1 : w.heap.size + 1 ≠ Y + 1 := by omega
  have eN2 : w.heap.size + 1 + 1 ≠ Y + 1 := by omega
  have eNY : Y ≠ Y + 1 := by omega
  have P3 := ((((P2.below hw3 d0).far eN0 0 (.slice a1 l.length c1)).far eN0 1 (.int .i64 xa)).far eN0 2 (.int .i64 xb)).far eN0 3 (.int .i64 xc)
  have PR3 := ((((PR2.below hw3 d1).far eN1 0 (.slice a1 l.length c1)).far eN1 1 (.int .i64 xa)).far eN1 2 (.int .i64 xb)).far eN1 3 (.int .i64 xc)
  have PX3 := ((((PX2.below hw3 d2).far eN2 0 (.slice a1 l.length c1)).far eN2 1 (.int .i64 xa)).far eN2 2 (.int .i64 xb)).far eN2 3 (.int .i64 xc)
  have PY3 := ((((PY2.below hw3 dY).far eNY 0 (.slice a1 l.length c1)).far eNY 1 (.int .i64 xa)).far eNY 2 (.int .i64 xb)).far eNY 3 (.int .i64 xc)
  have PN3 := (PN2.below hw3 dN).put (.slice a1 l.length c1) xa xb xc
  have hh3 : Hold ((((w3.setCell ⟨Y + 1, 0, none⟩ (.slice a1 l.length c1)).setCell ⟨Y + 1, 1, none⟩ (.int .i64 xa)).setCell ⟨Y + 1, 2, none⟩ (.int .i64 xb)).setCell ⟨Y + 1, 3, none⟩ (.int .i64 xc)) w2.heap.size (.slice a1 l.length c1) l := by
    repeat (first | refine Hold.set ?_ (by omega) _ _ | exact hh)
  have hB3 : Below w.heap.size w ((((w3.setCell ⟨Y + 1, 0, none⟩ (.slice a1 l.length c1)).setCell ⟨Y + 1, 1, none⟩ (.int .i64 xa)).setCell ⟨Y + 1, 2, none⟩ (.int .i64 xb)).setCell ⟨Y + 1, 3, none⟩ (.int .i64 xc)) := by
    repeat (first | refine Below.setCell ?_ (by simp only; omega) _ | exact hB2.trans (hw3.mono hbl2))
  have hS3 : ((((w3.setCell ⟨Y + 1, 0, none⟩ (.slice a1 l.length c1)).setCell ⟨Y + 1, 1, none⟩ (.int .i64 xa)).setCell ⟨Y + 1, 2, none⟩ (.int .i64 xb)).setCell ⟨Y + 1, 3, none⟩ (.int .i64 xc)).heap.size = w3.heap.size := by simp [World.setCell]
  have hRow3 := h.below hB3
  obtain ⟨-, -, -, -, q0, q1, q2, q3⟩ := PN2.below hw3 dN
  obtain ⟨n0, n1, n2, n3, -, -, -, -⟩ := PN2.below hw3 dN
  simp only at n1 n2 n3
  have dN3 : Y + 1 < w3.heap.size := by omega
  go_upto_region 13 with fail
  clear P2 PR2 PX2 PY2 PN2 hRow2 hB2 hw3 hh p0 p1 p2 p3 q0 q1 q2 q3 n0 n1 n2 n3
  generalize (((w3.setCell ⟨Y + 1, 0, none⟩ (.slice a1 l.length c1)).setCell ⟨Y + 1, 1, none⟩ (.int .i64 xa)).setCell ⟨Y + 1, 2, none⟩ (.int .i64 xb)).setCell ⟨Y + 1, 3, none⟩ (.int .i64 xc) = W3 at *
  have g0 : w.heap.size < W3.heap.size := by omega
  have g1 : w.heap.size + 1 < W3.heap.size := by omega
  have g2 : w.heap.size + 1 + 1 < W3.heap.size := by omega
  have gY : Y < W3.heap.size := by omega
  have gN : Y + 1 < W3.heap.size := by omega
  have hbl3 : w2.heap.size ≤ W3.heap.size := by omega
  clear hS3 d0 d1 d2 dY dN3 hw3s
  obtain ⟨p0, p1, p2, p3, -, -, -, -⟩ := id P3
  simp only at p1 p2 p3
  by_cases he : e' = 0
  · subst he
    have hwt2 : wt = true := by rw [← hwth.out]; rfl
    subst hwt2
    have PR3k := PR3
    have PX3k := PX3
    obtain ⟨r0, r1, r2, r3, s0, s1, s2, s3⟩ := PR3
    obtain ⟨z0, z1, z2, o0, o1, o2⟩ := PX3
    obtain ⟨y0, y1, y2, -, -, -⟩ := PY3
    obtain ⟨n0, n1, n2, n3, -, -, -, -⟩ := PN3
    simp only at r1 r2 r3 z0 z1 z2 y0 y1 y2 n1 n2 n3
    have e12 : w.heap.size + 1 ≠ w.heap.size + 1 + 1 := by omega
    have e21 : w.heap.size + 1 + 1 ≠ w.heap.size + 1 := by omega
    have e1Y : w.heap.size + 1 ≠ Y := by omega
    have eY1 : Y ≠ w.heap.size + 1 := by omega
    have eN1' : Y + 1 ≠ w.heap.size + 1 := by omega
    have eN2' : Y + 1 ≠ w.heap.size + 1 + 1 := by omega
    have eY2 : Y ≠ w.heap.size + 1 + 1 := by omega
    clear P3 hRow3 hownh p0 p1 p2 p3
    go_upto_region 15 with fail
    go_region
    have PR4 := (((PR3k.put (.slice a1 l.length c1) xa xb xc).far e12 0 (.int .i64 (0))).far e12 1 (.int .i64 (0))).far e12 2 (.int .i64 (0))
    have PX4 := ((((PX3k.far e21 0 (.slice a1 l.length c1)).far e21 1 (.int .i64 xa)).far e21 2 (.int .i64 xb)).far e21 3 (.int .i64 xc)).put (0) (0) (0)
    have hh4 : Hold (((((((W3.setCell ⟨w.heap.size + 1, 0, none⟩ (.slice a1 l.length c1)).setCell ⟨w.heap.size + 1, 1, none⟩ (.int .i64 xa)).setCell ⟨w.heap.size + 1, 2, none⟩ (.int .i64 xb)).setCell ⟨w.heap.size + 1, 3, none⟩ (.int .i64 xc)).setCell ⟨w.heap.size + 1 + 1, 0, none⟩ (.int .i64 (0))).setCell ⟨w.heap.size + 1 + 1, 1, none⟩ (.int .i64 (0))).setCell ⟨w.heap.size + 1 + 1, 2, none⟩ (.int .i64 (0))) w2.heap.size (.slice a1 l.length c1) l := by
      repeat (first | refine Hold.set ?_ (by omega) _ _ | exact hh3)
    have hB4 : Below w.heap.size w (((((((W3.setCell ⟨w.heap.size + 1, 0, none⟩ (.slice a1 l.length c1)).setCell ⟨w.heap.size + 1, 1, none⟩ (.int .i64 xa)).setCell ⟨w.heap.size + 1, 2, none⟩ (.int .i64 xb)).setCell ⟨w.heap.size + 1, 3, none⟩ (.int .i64 xc)).setCell ⟨w.heap.size + 1 + 1, 0, none⟩ (.int .i64 (0))).setCell ⟨w.heap.size + 1 + 1, 1, none⟩ (.int .i64 (0))).setCell ⟨w.heap.size + 1 + 1, 2, none⟩ (.int .i64 (0))) := by
      repeat (first | refine Below.setCell ?_ (by simp only; omega) _ | exact hB3)
    have hS4 : (((((((W3.setCell ⟨w.heap.size + 1, 0, none⟩ (.slice a1 l.length c1)).setCell ⟨w.heap.size + 1, 1, none⟩ (.int .i64 xa)).setCell ⟨w.heap.size + 1, 2, none⟩ (.int .i64 xb)).setCell ⟨w.heap.size + 1, 3, none⟩ (.int .i64 xc)).setCell ⟨w.heap.size + 1 + 1, 0, none⟩ (.int .i64 (0))).setCell ⟨w.heap.size + 1 + 1, 1, none⟩ (.int .i64 (0))).setCell ⟨w.heap.size + 1 + 1, 2, none⟩ (.int .i64 (0))).heap.size = W3.heap.size := by simp [World.setCell]
    generalize ((((((W3.setCell ⟨w.heap.size + 1, 0, none⟩ (.slice a1 l.length c1)).setCell ⟨w.heap.size + 1, 1, none⟩ (.int .i64 xa)).setCell ⟨w.heap.size + 1, 2, none⟩ (.int .i64 xb)).setCell ⟨w.heap.size + 1, 3, none⟩ (.int .i64 xc)).setCell ⟨w.heap.size + 1 + 1, 0, none⟩ (.int .i64 (0))).setCell ⟨w.heap.size + 1 + 1, 1, none⟩ (.int .i64 (0))).setCell ⟨w.heap.size + 1 + 1, 2, none⟩ (.int .i64 (0)) = U at *
    have u1 : w.heap.size + 1 < U.heap.size := by omega
    have u2 : w.heap.size + 1 + 1 < U.heap.size := by omega
    clear r0 r1 r2 r3 s0 s1 s2 s3 z0 z1 z2 o0 o1 o2 y0 y1 y2 n0 n1 n2 n3 PR3k PX3k hh3 hB3 hS4
    obtain ⟨r0, r1, r2, r3, s0, s1, s2, s3⟩ := PR4
    obtain ⟨z0, z1, z2, o0, o1, o2⟩ := PX4
    simp only at r1 r2 r3 z0 z1 z2
    go_wp2_with fail
    refine bodyPost_ret (v := .tuple #[.agg #[.slice a1 l.length c1, .int .i64 xa, .int .i64 xb, .int .i64 xc], .agg #[.int .i64 (0), .int .i64 (0), .int .i64 (0)], .bool true, .int .i64 0]) (by simp [results, Try.results17, go_sem, u1, u2, r0, r1, r2, r3, s0, s1, s2, s3, z0, z1, z2, o0, o1, o2]) rfl ⟨_, rfl, Hold.mono (base := w2.heap.size) (hh4.below (Below.refl _ _).drew) hbl2, hB4.drew⟩
  · have hde : (⟨xa, xb, xc⟩ : Pnd) = ⟨da, db, dc⟩ := hnoh.out he
    cases hde
    have hwt2 : wt = false := by rw [← hwth.out]; exact decide_eq_false he
    subst hwt2
    go_wp2_with fail
    refine (hownh.out W3 hRow3).mono ?_
    rintro e w2 ⟨v2, rfl, hh3, hw2⟩
    obtain ⟨a2, c2, rfl, -⟩ := hh3.row hA.out
    obtain ⟨u0, u1, u2, u3, t0, t1, t2, t3⟩ := PR3.below hw2 g1
    obtain ⟨z0, z1, z2, o0, o1, o2⟩ := PX3.below hw2 g2
    simp only at u1 u2 u3 z0 z1 z2
    have k1 : w.heap.size + 1 < w2.heap.size := by have := hw2.size; omega
    have k2 : w.heap.size + 1 + 1 < w2.heap.size := by have := hw2.size; omega
    have hbel3 : Below w.heap.size w w2 := hB3.trans (hw2.mono (by omega))
    clear hw2 hownh
    go_wp2_with fail
    refine bodyPost_ret (v := .tuple #[.agg #[.slice a2 l.length c2, .int .i64 da, .int .i64 db, .int .i64 dc], .agg #[.int .i64 0, .int .i64 0, .int .i64 0], .bool false, .int .i64 e']) (by simp [results, Try.results17, go_sem, k1, k2, u0, u1, u2, u3, t0, t1, t2, t3, z0, z1, z2, o0, o1, o2]) rfl ⟨_, rfl, Hold.mono (base := W3.heap.size) ?_ (by omega), ?_⟩
    · repeat (first | refine Hold.set ?_ (by omega) _ _ | exact hh3)
    · repeat (first | refine Below.setCell ?_ (by simp only; omega) _ | exact hbel3)

end Go.Proofs.Ytjccjmmbebiegaa
