/-
  pool.Raise of a pool of nothing; the document's example; PoolMethods. The walks.
-/
import Derived.Test.YtjccjmmbebiegaaPool9
import Derived.Test.YtjccjmmbebiegaaGrow2
import Derived.IntWalk
set_option linter.unusedVariables false
set_option linter.unusedSimpArgs false
namespace Go.Proofs.Ytjccjmmbebiegaa
open Go.RowKit

/-- A pool and an error. -/
theorem HoldPA.row {w w' : World} {d : Pnd} {m : List Lay} {up e' : Int} {e : Ending} (h : HoldPA w d (m, up, e') e w') (hm : LR m) :
    (∃ a c, e = .returned (.tuple #[.agg #[.slice a m.length c, .int .i64 d.a, .int .i64 d.b, .int .i64 d.c], .int .i64 up, .int .i64 e']) ∧ Hold w' w.heap.size (.slice a m.length c) m) ∧ Below w.heap.size w w' := by
  obtain ⟨v, rfl, hh, hb⟩ := h
  have hh2 := hh
  obtain ⟨a, c, rfl, -⟩ := hh.row hm.all
  exact ⟨⟨a, c, rfl, hh2⟩, hb⟩
theorem HoldP4.row {w w' : World} {m : List Lay} {d : Pnd} {y : Lay} {wt : Bool} {e' : Int} {e : Ending} (h : HoldP4 w (m, d, y, wt, e') e w') (hm : LR m) :
    (∃ a c, e = .returned (.tuple #[.agg #[.slice a m.length c, .int .i64 d.a, .int .i64 d.b, .int .i64 d.c], .agg #[.int .i64 y.q, .int .i64 y.v, .int .i64 y.p], .bool wt, .int .i64 e']) ∧ Hold w' w.heap.size (.slice a m.length c) m) ∧ Below w.heap.size w w' := by
  obtain ⟨v, rfl, hh, hb⟩ := h
  have hh2 := hh
  obtain ⟨a, c, rfl, -⟩ := hh.row hm.all
  exact ⟨⟨a, c, rfl, hh2⟩, hb⟩
theorem pool_In_is {m c : Int} {a : Option Addr} {cap : Nat} {l l' : List Lay} {d : Pnd} {x : Lay} {up e' : Int} {w : World} (h : Row w 3 a l.length cap (flat l)) (hL : LR l) (hl : l.length < 30) (hx : AllI [x.q, x.v, x.p]) (hc : I64 c) (hI : poolInS m c l x = (l', up, e')) :
    Calls Try.prog 16 #[.int .i64 m, .int .i64 c, .agg #[.slice a l.length cap, .int .i64 d.a, .int .i64 d.b, .int .i64 d.c], .agg #[.int .i64 x.q, .int .i64 x.v, .int .i64 x.p]] w fun e w' => (∃ a' c', e = .returned (.tuple #[.agg #[.slice a' l'.length c', .int .i64 d.a, .int .i64 d.b, .int .i64 d.c], .int .i64 up, .int .i64 e']) ∧ Hold w' w.heap.size (.slice a' l'.length c') l') ∧ Below w.heap.size w w' := by
  have hm : LR (poolInS m c l x).1 := poolInS_LR hL
  have := pool_In m c a cap l d x w h hL hl hx hc
  rw [hI] at this hm
  exact this.mono fun e w' h => h.row hm
theorem poolOutS_LR {m c : Int} {l : List Lay} {d : Pnd} {kind q : Int} (h : LR l) : LR (poolOutS m c l d kind q).1 := by
  unfold poolOutS
  split
  · exact h
  · split
    · exact h
    · split
      · exact h
      · exact methOut_LR h
theorem pool_Out_is {m c : Int} {a : Option Addr} {cap : Nat} {l l' : List Lay} {d d' : Pnd} {y : Lay} {wt : Bool} {kind q e' : Int} {w : World} (h : Row w 3 a l.length cap (flat l)) (hL : LR l) (hd : PndOk d) (hq : I64 q) (hc : I64 c) (hO : poolOutS m c l d kind q = (l', d', y, wt, e')) :
    Calls Try.prog 17 #[.int .i64 m, .int .i64 c, .agg #[.slice a l.length cap, .int .i64 d.a, .int .i64 d.b, .int .i64 d.c], .int .i64 kind, .int .i64 q] w fun e w' => (∃ a' c', e = .returned (.tuple #[.agg #[.slice a' l'.length c', .int .i64 d'.a, .int .i64 d'.b, .int .i64 d'.c], .agg #[.int .i64 y.q, .int .i64 y.v, .int .i64 y.p], .bool wt, .int .i64 e']) ∧ Hold w' w.heap.size (.slice a' l'.length c') l') ∧ Below w.heap.size w w' := by
  have hm : LR (poolOutS m c l d kind q).1 := poolOutS_LR hL
  have := pool_Out m c a cap l d kind q w h hL hd hq hc
  rw [hO] at this hm
  exact this.mono fun e w' h => h.row hm

set_option maxRecDepth 20000 in
set_option maxHeartbeats 1000000 in
theorem pool_Raise_none (v : Int) (w : World) (hv : ¬ v < 0) :
    Calls Try.prog 24 #[.int .i64 1, .agg #[.slice none 0 0, .int .i64 0, .int .i64 0, .int .i64 0], .int .i64 v] w fun e w' => (∃ a c, e = .returned (.tuple #[.agg #[.slice a 0 c, .int .i64 0, .int .i64 0, .int .i64 0], .int .i64 5])) ∧ Below w.heap.size w w' := by
  go_enter Try.func24, Try.ntmps24
  have hB0 : Below w.heap.size w ((w.alloc (.cells #[.slice none 0 0, .int .i64 0, .int .i64 0, .int .i64 0] 26)).alloc (.cells #[.slice none 0 0, .int .i64 0, .int .i64 0, .int .i64 0] 26)) := by (repeat (first | assumption | exact Below.refl _ _ | refine ballc ?_ _ | refine bdrew ?_ | refine bdrewN ?_ _ | refine bset ?_ _ _ | refine bsetN ?_ (by omega) _ _ | refine bthen ?_ (by assumption)))
  have P0 := (CellP.new w (.slice none 0 0) ⟨0, 0, 0⟩ 26).alloc (by simp) (.cells #[.slice none 0 0, .int .i64 0, .int .i64 0, .int .i64 0] 26)
  have P1 := CellP.new (w.alloc (.cells #[.slice none 0 0, .int .i64 0, .int .i64 0, .int .i64 0] 26)) (.slice none 0 0) ⟨0, 0, 0⟩ 26
  have hs : ((w.alloc (.cells #[.slice none 0 0, .int .i64 0, .int .i64 0, .int .i64 0] 26)).alloc (.cells #[.slice none 0 0, .int .i64 0, .int .i64 0, .int .i64 0] 26)).heap.size = w.heap.size + 1 + 1 := by simp
  simp only [World.size_alloc] at P1
  go_upto_region 1 with fail
  generalize (w.alloc (.cells #[.slice none 0 0, .int .i64 0, .int .i64 0, .int .i64 0] 26)).alloc (.cells #[.slice none 0 0, .int .i64 0, .int .i64 0, .int .i64 0] 26) = W at *
  have b0 : w.heap.size < W.heap.size := by omega
  have b1 : w.heap.size + 1 < W.heap.size := by omega
  clear hs
  obtain ⟨p0, p1, p2, p3, -, -, -, -⟩ := id P0
  simp only at p1 p2 p3
  go_wp2_with fail
  refine (pool_own none 0 [] ⟨0, 0, 0⟩ _ (RowNil W) (by simp)).mono ?_
  rintro e w1 ⟨v1, rfl, hh, hw1⟩
  obtain ⟨a1, c1, rfl, -⟩ := hh.row LR.nil.all
  obtain ⟨r0, r1, r2, r3, s0, s1, s2, s3⟩ := P0.below hw1 b0
  obtain ⟨u0, u1, u2, u3, t0, t1, t2, t3⟩ := P1.below hw1 b1
  simp only at r1 r2 r3 u1 u2 u3
  have g0 : w.heap.size < w1.heap.size := by have := hw1.size; omega
  have g1 : w.heap.size + 1 < w1.heap.size := by have := hw1.size; omega
  have e1 : w.heap.size + 1 ≠ w.heap.size := by omega
  have hb1 : Below w.heap.size w w1 := hB0.trans (hw1.mono (by omega))
  clear P0 P1 hw1 p0 p1 p2 p3
  unfold poolV
  simp only [List.length_nil]
  go_wp2_with fail
  refine bodyPost_ret (v := .tuple #[.agg #[.slice a1 0 c1, .int .i64 0, .int .i64 0, .int .i64 0], .int .i64 5]) (by simp [results, Try.results24, go_sem, g0, g1, e1, r0, r1, r2, r3, s0, s1, s2, s3, u0, u1, u2, u3, t0, t1, t2, t3]) rfl ⟨⟨_, _, rfl⟩, ?_⟩
  repeat (first | refine Below.setCell ?_ (by simp only; omega) _ | exact hb1)

set_option maxRecDepth 20000 in
set_option maxHeartbeats 2000000 in
theorem pool_awake (w : World) :
    Calls Try.prog 19 #[] w fun e w' => e = .returned (.bool true) ∧ Below w.heap.size w w' := by
  have I1 := Lib.hid (show poolInS 2 0 [] ⟨2, 10, 0⟩ = ([⟨2, 10, 0⟩], 0, 0) by decide +kernel)
  have O1 := Lib.hid (show poolOutS 2 0 [⟨2, 10, 0⟩] ⟨0, 0, 0⟩ 0 1 = ([⟨1, 5, 0⟩], ⟨0, 0, 0⟩, ⟨1, 5, 0⟩, false, 0) by kernel_rfl)
  have T1 := Lib.hid (show tot [⟨2, 10, 0⟩] = ⟨2, 10, 0⟩ by kernel_rfl)
  have F1 := Lib.hid (show (if (2 : Int) = 3 then freeP [⟨1, 5, 0⟩] ⟨0, 0, 0⟩ else (tot [⟨1, 5, 0⟩]).q) = 1 by kernel_rfl)
  have R1 := Lib.hid (show rightP 2 [⟨1, 5, 0⟩] ⟨0, 0, 0⟩ = true by kernel_rfl)
  have R2 := Lib.hid (show rightP 0 [⟨1, 5, 0⟩] ⟨0, 0, 0⟩ = false by kernel_rfl)
  have L1 := Lib.hid (LR.of (l := [⟨2, 10, 0⟩]) (by decide +kernel))
  have L2 := Lib.hid (LR.of (l := [⟨1, 5, 0⟩]) (by decide +kernel))
  have i0 := Lib.hid (show I64 0 from ⟨by omega, by omega⟩)
  go_enter Try.func19, Try.ntmps19
  go_wp2_with fail
  refine (pool_In_is (m := 2) (c := 0) (l := []) (d := ⟨0, 0, 0⟩) (x := ⟨2, 10, 0⟩) (RowNil w) LR.nil (by simp) (AllI.of_B (by decide +kernel)) i0.out I1.out).mono ?_
  rintro e w1 ⟨⟨a1, c1, rfl, H1⟩, hw1⟩
  simp only [List.length_cons, List.length_nil, Nat.zero_add] at H1 ⊢
  have hu1 : Below w1.heap.size w1 (w1.alloc (.cells #[.slice a1 1 c1, .int .i64 0, .int .i64 0, .int .i64 0] 26)) := by (repeat (first | assumption | exact Below.refl _ _ | refine ballc ?_ _ | refine bdrew ?_ | refine bdrewN ?_ _ | refine bset ?_ _ _ | refine bsetN ?_ (by omega) _ _ | refine bthen ?_ (by assumption)))
  have P1 := CellP.new w1 (.slice a1 1 c1) ⟨0, 0, 0⟩ 26
  have H1b := H1.below hu1
  have hb1 := hw1.trans (hu1.mono hw1.size)
  have hs1 : (w1.alloc (.cells #[.slice a1 1 c1, .int .i64 0, .int .i64 0, .int .i64 0] 26)).heap.size = w1.heap.size + 1 := by simp
  go_upto_region 2 with fail
  generalize w1.alloc (.cells #[.slice a1 1 c1, .int .i64 0, .int .i64 0, .int .i64 0] 26) = u1 at *
  obtain ⟨P, hP⟩ : ∃ P, w1.heap.size = P := ⟨_, rfl⟩
  rw [hP] at P1 hs1 ⊢
  have g1 : P < u1.heap.size := by omega
  have hRow1 := H1b.rowIs L1.out.all
  clear hP hs1 H1 H1b hw1 hu1
  obtain ⟨p0, p1, p2, p3, -, -, -, -⟩ := id P1
  simp only at p1 p2 p3
  go_wp2_with fail
  refine (pool_Out_is (m := 2) (c := 0) (l := [⟨2, 10, 0⟩]) (d := ⟨0, 0, 0⟩) (kind := 0) (q := 1) hRow1 L1.out PndOk.zero ⟨by omega, by omega⟩ i0.out O1.out).mono ?_
  rintro e w2 ⟨⟨a2, c2, rfl, H2⟩, hw2⟩
  simp only [List.length_cons, List.length_nil, Nat.zero_add] at H2 ⊢
  have P2 := P1.below hw2 g1
  have hRow2 := hRow1.below hw2
  have hb2 := hb1.trans (hw2.mono hb1.size)
  have g2 : P < w2.heap.size := by have := hw2.size; omega
  clear P1 hRow1 hb1 hw2 g1 p0 p1 p2 p3
  have hu2 : Below w2.heap.size w2 ((w2.alloc (.cells #[.slice a2 1 c2, .int .i64 0, .int .i64 0, .int .i64 0] 26)).alloc (.cells #[.int .i64 1, .int .i64 5, .int .i64 0] 32)) := by (repeat (first | assumption | exact Below.refl _ _ | refine ballc ?_ _ | refine bdrew ?_ | refine bdrewN ?_ _ | refine bset ?_ _ _ | refine bsetN ?_ (by omega) _ _ | refine bthen ?_ (by assumption)))
  have Q2 := (CellP.new w2 (.slice a2 1 c2) ⟨0, 0, 0⟩ 26).alloc (by simp) (.cells #[.int .i64 1, .int .i64 5, .int .i64 0] 32)
  have X2 := CellL.new (w2.alloc (.cells #[.slice a2 1 c2, .int .i64 0, .int .i64 0, .int .i64 0] 26)) ⟨1, 5, 0⟩ 32
  simp only [World.size_alloc] at X2
  have hs2 : ((w2.alloc (.cells #[.slice a2 1 c2, .int .i64 0, .int .i64 0, .int .i64 0] 26)).alloc (.cells #[.int .i64 1, .int .i64 5, .int .i64 0] 32)).heap.size = w2.heap.size + 1 + 1 := by simp
  have P3 := P2.below hu2 g2
  have hRow3 := hRow2.below hu2
  have hRow4 := (H2.below hu2).rowIs L2.out.all
  have hb3 := hb2.trans (hu2.mono hb2.size)
  go_upto_region 3 with fail
  generalize (w2.alloc (.cells #[.slice a2 1 c2, .int .i64 0, .int .i64 0, .int .i64 0] 26)).alloc (.cells #[.int .i64 1, .int .i64 5, .int .i64 0] 32) = u2 at *
  obtain ⟨Y, hY⟩ : ∃ Y, w2.heap.size = Y := ⟨_, rfl⟩
  rw [hY] at Q2 X2 hs2 g2 ⊢
  have k0 : P < u2.heap.size := by omega
  have k1 : Y < u2.heap.size := by omega
  have k2 : Y + 1 < u2.heap.size := by omega
  clear hY hs2 H2 hu2 P2 hRow2 hb2 g2
  go_wp2_with fail
  refine (pool_Raise_none 5 u2 (by omega)).mono ?_
  rintro e w3 ⟨⟨a3, c3, rfl⟩, hw3⟩
  have P4 := P3.below hw3 k0
  have Q4 := Q2.below hw3 k1
  have X4 := X2.below hw3 k2
  have hRow5 := hRow3.below hw3
  have hRow6 := hRow4.below hw3
  have hb4 := hb3.trans (hw3.mono hb3.size)
  have hz := hw3.size
  have hu3 : Below w3.heap.size w3 (w3.alloc (.cells #[.slice a3 0 c3, .int .i64 0, .int .i64 0, .int .i64 0] 26)) := by (repeat (first | assumption | exact Below.refl _ _ | refine ballc ?_ _ | refine bdrew ?_ | refine bdrewN ?_ _ | refine bset ?_ _ _ | refine bsetN ?_ (by omega) _ _ | refine bthen ?_ (by assumption)))
  have P5 := P4.below hu3 (by omega)
  have Q5 := Q4.below hu3 (by omega)
  have X5 := X4.below hu3 (by omega)
  have hRow7 := hRow5.below hu3
  have hRow8 := hRow6.below hu3
  have hb5 := hb4.trans (hu3.mono hb4.size)
  have hs3 : (w3.alloc (.cells #[.slice a3 0 c3, .int .i64 0, .int .i64 0, .int .i64 0] 26)).heap.size = w3.heap.size + 1 := by simp
  go_upto_region 4 with fail
  generalize w3.alloc (.cells #[.slice a3 0 c3, .int .i64 0, .int .i64 0, .int .i64 0] 26) = U at *
  have l0 : P < U.heap.size := by omega
  have l1 : Y < U.heap.size := by omega
  have l2 : Y + 1 < U.heap.size := by omega
  clear hs3 hz hu3 hw3 P3 Q2 X2 P4 Q4 X4 hRow3 hRow4 hRow5 hRow6 hb3 hb4 k0 k1 k2
  obtain ⟨p0, p1, p2, p3, -, -, -, -⟩ := P5
  obtain ⟨q0, q1, q2, q3, -, -, -, -⟩ := Q5
  obtain ⟨x0, x1, x2, -, -, -⟩ := X5
  simp only at p1 p2 p3 q1 q2 q3 x0 x1 x2
  have hr7 := Lib.hid hRow7
  have hr8 := Lib.hid hRow8
  have hAft := @After.cell U
  have hfld := field_Lay1
  clear hRow7 hRow8
  have cT := Lib.hid (show ∀ W, Row W 3 a1 1 c1 (flat [⟨2, 10, 0⟩]) → Calls Try.prog 26 #[.agg #[.slice a1 1 c1, .int .i64 0, .int .i64 0, .int .i64 0]] W fun e w' => e = .returned (.agg #[.int .i64 2, .int .i64 10, .int .i64 0]) ∧ Below W.heap.size W w' from fun W hW => by
    have := pool_Total a1 c1 [⟨2, 10, 0⟩] ⟨0, 0, 0⟩ W hW (by simp)
    rw [T1.out] at this
    exact this)
  have cF := Lib.hid (show ∀ W, Row W 3 a2 1 c2 (flat [⟨1, 5, 0⟩]) → Calls Try.prog 38 #[.int .i64 2, .agg #[.slice a2 1 c2, .int .i64 0, .int .i64 0, .int .i64 0]] W fun e w' => e = .returned (.int .i64 1) ∧ Below W.heap.size W w' from fun W hW => by
    have := pool_Free 2 a2 c2 [⟨1, 5, 0⟩] ⟨0, 0, 0⟩ W hW L2.out PndOk.zero
    rw [F1.out] at this
    exact this)
  have cR := Lib.hid (show ∀ W, Row W 3 a2 1 c2 (flat [⟨1, 5, 0⟩]) → Calls Try.prog 18 #[.int .i64 2, .agg #[.slice a2 1 c2, .int .i64 0, .int .i64 0, .int .i64 0]] W fun e w' => e = .returned (.bool true) ∧ Below W.heap.size W w' from fun W hW => by
    have := pool_Right 2 a2 c2 [⟨1, 5, 0⟩] ⟨0, 0, 0⟩ W hW (by simp) ⟨i0.out, i0.out, i0.out⟩
    rw [R1.out] at this
    exact this)
  have cN := Lib.hid (show ∀ W, Row W 3 a2 1 c2 (flat [⟨1, 5, 0⟩]) → Calls Try.prog 18 #[.int .i64 0, .agg #[.slice a2 1 c2, .int .i64 0, .int .i64 0, .int .i64 0]] W fun e w' => e = .returned (.bool false) ∧ Below W.heap.size W w' from fun W hW => by
    have := pool_Right 0 a2 c2 [⟨1, 5, 0⟩] ⟨0, 0, 0⟩ W hW (by simp) ⟨i0.out, i0.out, i0.out⟩
    rw [R2.out] at this
    exact this)
  refine wp_region_grow1 ?_
  repeat (go_big_quiet_step ((first
    | (go_at_call 26; exact Calls.grow fun hx => cT.out _ (hr7.out.below hx))
    | (go_at_call 38; exact Calls.grow fun hx => cF.out _ (hr8.out.below hx))
    | (go_at_call 18; with_reducible exact Calls.grow fun hx => cR.out _ (hr8.out.below hx)) | (go_at_call 18; exact Calls.grow fun hx => cN.out _ (hr8.out.below hx)))))
  refine wpQuiet_nil ?_
  intro _ hw'
  obtain ⟨⟨w', hb'⟩, rfl⟩ := hw'
  clear hAft
  go_wp2_with fail
  go_ret
  exact ⟨rfl, hb5.trans (hb'.mono hb5.size)⟩
end Go.Proofs.Ytjccjmmbebiegaa
