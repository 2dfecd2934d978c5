/-
  The moving average: the document's example; two prices mixed. The walks.
-/
import Derived.Test.YtgahhifedgmicaaMavg2
import Derived.StillTailTactics
import Derived.IntWalk
set_option linter.unusedVariables false
set_option linter.unusedSimpArgs false
namespace Go.Proofs.Ytgahhifedgmicaa
open Go.RowKit

theorem mavg_In_is {a : Option Addr} {cap : Nat} {l : List Lay} {x : Lay} {w : World} (h : Row w 3 a l.length cap (flat l)) (hL : LR l) (hx : AllI [x.q, x.v, x.p]) {m : List Lay} {e' : Int} (hI : inM l x = (m, e')) :
    Calls Try.prog 11 #[.slice a l.length cap, x.val] w fun e w' => (∃ a' cap', e = .returned (.tuple #[.slice a' m.length cap', .int .i64 e']) ∧ Row w' 3 a' m.length cap' (flat m)) ∧ Below w.heap.size w w' := by
  refine (mavg_In a cap l x w h (by have := hL.len; omega) hx).mono ?_
  rintro e w' ⟨v, rfl, hh, hb⟩
  have hm : LR m := by have := inM_LR (x := x) hL; rw [hI] at this; exact this
  rw [hI] at hh ⊢
  obtain ⟨a', cap', rfl, R⟩ := hh.row (flat_ok hm.ok)
  exact ⟨⟨a', cap', rfl, R⟩, hb⟩
theorem mavg_Out_is {a : Option Addr} {cap : Nat} {l : List Lay} {w : World} (h : Row w 3 a l.length cap (flat l)) (hL : LR l) {q : Int} (hq : I64 q) {m : List Lay} {y : Lay} {e' : Int} (hO : outS l q = (m, y, e')) :
    Calls Try.prog 13 #[.slice a l.length cap, .int .i64 q] w fun e w' => (∃ a' cap', e = .returned (.tuple #[.slice a' m.length cap', y.val, .int .i64 e']) ∧ Row w' 3 a' m.length cap' (flat m)) ∧ Below w.heap.size w w' := by
  refine (mavg_Out a cap l w h hL q hq).mono ?_
  rintro e w' ⟨v, rfl, hh, hb⟩
  rw [hO] at hh ⊢
  have hm : LR m := by have := outS_LR (q := q) hL; rw [hO] at this; exact this
  obtain ⟨a', cap', rfl, R⟩ := hh.row (flat_ok hm.ok)
  exact ⟨⟨a', cap', rfl, R⟩, hb⟩
/-- The first layer's cells. -/
theorem Row.first {w : World} {a : Option Addr} {cap : Nat} {x : Lay} {l : List Lay} {n : Nat} (h : Row w 3 a n cap (flat (x :: l))) (hn : 0 < n) :
    ∃ b off, a = some ⟨b, off, none⟩ ∧ b < w.heap.size ∧ w.cell? ⟨b, off, none⟩ = some (.int .i64 x.q) ∧ w.cell? ⟨b, off + 1, none⟩ = some (.int .i64 x.v) ∧ w.cell? ⟨b, off + 2, none⟩ = some (.int .i64 x.p) := by
  rcases h.at_ with h0 | ⟨b, off, e, hb, hc⟩
  · omega
  · exact ⟨b, off, e, hb, hc.head⟩

set_option maxHeartbeats 1000000 in
theorem mavg_awake (w : World) :
    Calls Try.prog 10 #[] w fun e w' => e = .returned (.bool true) ∧ Below w.heap.size w w' := by
  have L1 := Lib.hid (LR.of (l := [⟨2, 10, 0⟩]) (by decide +kernel))
  have L2 := Lib.hid (LR.of (l := [⟨4, 40, 0⟩]) (by decide +kernel))
  have I1 := Lib.hid (show inM [⟨2, 10, 0⟩] ⟨2, 30, 0⟩ = ([⟨4, 40, 0⟩], 0) by decide +kernel)
  have O1 := Lib.hid (show outS [⟨4, 40, 0⟩] 3 = ([⟨1, 10, 0⟩], ⟨3, 30, 0⟩, 0) by decide +kernel)
  go_enter Try.func10, Try.ntmps10
  go_wp2_with fail
  refine (mavg_In_is (l := [⟨2, 10, 0⟩]) (x := ⟨2, 30, 0⟩) (Row.new _ 3 1 [2, 10, 0] _ rfl (by decide) (AllI.of_B (by decide +kernel))) L1.out (AllI.of_B (by decide +kernel)) I1.out).mono ?_
  rintro e w1 ⟨⟨a1, c1, rfl, R1⟩, hw1⟩
  go_wp2_with fail
  refine (mavg_Out_is R1 L2.out (q := 3) ⟨by omega, by omega⟩ O1.out).mono ?_
  rintro e w2 ⟨⟨a2, c2, rfl, R2⟩, hw2⟩
  obtain ⟨b1, o1, rfl, hb1, x0, x1, -⟩ := (R1.below hw2).first (by decide)
  obtain ⟨b2, o2, rfl, hb2, y0, y1, -⟩ := R2.first (by decide)
  have hn1 : b1 ≠ w2.heap.size := by omega
  have hn2 : b2 ≠ w2.heap.size := by omega
  have hbel : Below w.heap.size w w2 := by (repeat (first | assumption | exact Below.refl _ _ | refine ballc ?_ _ | refine bdrew ?_ | refine bdrewN ?_ _ | refine bset ?_ _ _ | refine bsetN ?_ (by omega) _ _ | refine bthen ?_ (by assumption)))
  clear R1 R2 hw1 hw2
  simp only at x0 x1 y0 y1
  go_wp2_with fail
  go_ret
  exact ⟨rfl, by (repeat (first | assumption | exact Below.refl _ _ | refine ballc ?_ _ | refine bdrew ?_ | refine bdrewN ?_ _ | refine bset ?_ _ _ | refine bsetN ?_ (by omega) _ _ | refine bthen ?_ (by assumption)))⟩

theorem drew3 {w w2 : World} {b o : Nat} {u v x y z : Value} {t : Nat} (h0 : w2.cell? ⟨b, o, none⟩ = some u) (h1 : w2.cell? ⟨b, o + 1, none⟩ = some v) (hb : b < w2.heap.size) (h : Below w.heap.size w w2) :
    ∃ V : World, { w2.alloc (.cells #[x, y, z] t) with drawn := (w2.alloc (.cells #[x, y, z] t)).drawn + 1 } = V ∧ V.cell? ⟨b, o, none⟩ = some u ∧ V.cell? ⟨b, o + 1, none⟩ = some v ∧ V.cell? ⟨w2.heap.size, 0, none⟩ = some x ∧ V.cell? ⟨w2.heap.size, 1, none⟩ = some y ∧ V.cell? ⟨w2.heap.size, 2, none⟩ = some z ∧ Below w.heap.size w V := by
  refine ⟨_, rfl, (World.cell?_alloc_lt _ _ _ hb).trans h0, (World.cell?_alloc_lt _ _ _ hb).trans h1, (World.cell?_alloc_new _ _ _ 0).trans (by simp), (World.cell?_alloc_new _ _ _ 1).trans (by simp), (World.cell?_alloc_new _ _ _ 2).trans (by simp), ?_⟩
  have := (h.alloc h.size (.cells #[x, y, z] t)).drew
  exact this

set_option maxRecDepth 20000 in
set_option maxHeartbeats 2000000 in
theorem MavgMixes_walk (a b low more out : Int) (w : World) (ha : I64 a) (hb : I64 b) (hl : I64 low) (hm : I64 more) (ho : I64 out) :
    Calls Try.prog 6 #[.int .i64 a, .int .i64 b, .int .i64 low, .int .i64 more, .int .i64 out] w fun e w' => e = .returned (.bool true) ∧ Below w.heap.size w w' := by
  have p1 := place_bd (v := a) (n := 100) (by omega)
  have p2 := place_bd (v := b) (n := 100) (by omega)
  have p3 := place_bd (v := low) (n := 1000) (by omega)
  have p4 := place_bd (v := more) (n := 1000) (by omega)
  obtain ⟨n, hn⟩ : ∃ n, 1 + a % 100 = n := ⟨_, rfl⟩
  obtain ⟨m, hm⟩ : ∃ m, 1 + b % 100 = m := ⟨_, rfl⟩
  obtain ⟨p, hp⟩ : ∃ p, low % 1000 = p := ⟨_, rfl⟩
  obtain ⟨r, hr⟩ : ∃ r, p + more % 1000 = r := ⟨_, rfl⟩
  have n0 : 1 ≤ n := by omega
  have n1 : n ≤ 100 := by omega
  have m0 : 1 ≤ m := by omega
  have m1 : m ≤ 100 := by omega
  have q0 : 0 ≤ p := by omega
  have q1 : p ≤ 999 := by omega
  have r0 : p ≤ r := by omega
  have r1 : r ≤ 1998 := by omega
  have p5 := place_bd (v := out) (n := n + m) (by omega)
  obtain ⟨k, hk⟩ : ∃ k, 1 + out % (n + m) = k := ⟨_, rfl⟩
  have k0 : 1 ≤ k := by omega
  have k1 : k ≤ n + m := by omega
  obtain ⟨b1, b2⟩ := mul_bd (a := n) (b := p) (n := 100) (m := 999) (by omega) n1 q0 q1
  obtain ⟨b3, b4⟩ := mul_bd (a := m) (b := r) (n := 100) (m := 1998) (by omega) m1 (by omega) r1
  obtain ⟨b5, b6⟩ := mul_bd (a := n * p + m * r) (b := k) (n := 299700) (m := 200) (by omega) (by omega) (by omega) (by omega)
  obtain ⟨b7, b8⟩ := mul_bd (a := k) (b := p) (n := 200) (m := 999) (by omega) (by omega) q0 q1
  obtain ⟨b9, b10⟩ := mul_bd (a := k) (b := r) (n := 200) (m := 1998) (by omega) (by omega) (by omega) r1
  obtain ⟨b11, b12⟩ := mul_bd (a := n + m - k) (b := p) (n := 200) (m := 999) (by omega) (by omega) q0 q1
  have b2 : n * p ≤ 99900 := b2
  have b4 : m * r ≤ 199800 := b4
  have b6 : (n * p + m * r) * k ≤ 59940000 := b6
  have b8 : k * p ≤ 199800 := b8
  have b10 : k * r ≤ 399600 := b10
  have b12 : (n + m - k) * p ≤ 199800 := b12
  have M := mix n0 m0 q0 r0 k0 k1
  obtain ⟨M1, M2, M3⟩ := M
  have L1 : LR [⟨n, n * p, 0⟩] := LR.one (layOk_iff.2 ⟨by simp only; omega, by simp only; omega, by simp only; omega, by simp only; omega, by simp only; omega, by simp only; omega⟩)
  have L2 : LR ([⟨n, n * p, 0⟩] ++ [⟨m, m * r, 0⟩]) := L1.snoc (layOk_iff.2 ⟨by simp only; omega, by simp only; omega, by simp only; omega, by simp only; omega, by simp only; omega, by simp only; omega⟩) (by simp) (by simp [qs]; omega) (by simp [vs]; omega) (by simp [aps, absum])
  have I1 : inM [⟨n, n * p, 0⟩] ⟨m, m * r, 0⟩ = ([⟨n + m, n * p + m * r, 0⟩], 0) := by rw [inM_ok L2]; simp [qs, vs, ps]
  have L3 : LR [⟨n + m, n * p + m * r, 0⟩] := by have := inM_LR (x := ⟨m, m * r, 0⟩) L1; rw [I1] at this; exact this
  have hn0 : ¬ n + m = 0 := by omega
  have I1h := Lib.hid I1
  have L1h := Lib.hid L1
  have L3h := Lib.hid L3
  have hx1 : AllI [n, n * p, 0] := by intro z hz; simp at hz; rcases hz with rfl | rfl | rfl <;> exact ⟨by omega, by omega⟩
  have hx2 : AllI [(⟨m, m * r, 0⟩ : Lay).q, (⟨m, m * r, 0⟩ : Lay).v, (⟨m, m * r, 0⟩ : Lay).p] := by intro z hz; simp at hz; rcases hz with rfl | rfl | rfl <;> exact ⟨by omega, by omega⟩
  have hO : outS [⟨n + m, n * p + m * r, 0⟩] k = ((outL [⟨n + m, n * p + m * r, 0⟩] .zero k).1, (outL [⟨n + m, n * p + m * r, 0⟩] .zero k).2, 0) := outS_ok L3 k0 (by simp [qs]; omega)
  clear I1 L1 L2 L3 p1 p2 p3 p4 p5 hb ha hl ho
  by_cases hkn : k < n + m
  · have pv : partS (n * p + m * r) k (n + m) = (n * p + m * r) * k / (n + m) := part_pos (by rw [show inB (n * p + m * r) = true from inB_iff.2 ⟨by omega, by omega⟩]; simp; omega) (by omega)
    have pz : partS 0 k (n + m) = 0 := by rw [part_pos (by rw [show inB 0 = true from by decide +kernel]; simp; omega) (by omega)]; simp
    have e : outL [⟨n + m, n * p + m * r, 0⟩] .zero k = ([⟨n + m - k, n * p + m * r - (n * p + m * r) * k / (n + m), 0⟩], ⟨k, (n * p + m * r) * k / (n + m), 0⟩) := by
      rw [outL_one k0 hkn]
      simp [minusL, cutL, pv, pz]
    rw [e] at hO
    have hOh := Lib.hid hO
    have hd : (k == n + m) = false := by simp; omega
    have v0 : 0 ≤ (n * p + m * r) * k / (n + m) := Int.ediv_nonneg b5 (by omega)
    have v1 : (n * p + m * r) * k / (n + m) ≤ 399600 := by omega
    clear hO e pv pz
    go_enter Try.func6, Try.ntmps6
    try simp only [List.append_eq, List.cons_append, List.nil_append]
    go_wp2_with (first | (go_at_call 17; refine (Place_calls _ _ _ (by omega) (by omega)).mono ?_; rintro e w' ⟨rfl, rfl⟩))
    refine (mavg_In_is (l := [⟨n, n * p, 0⟩]) (x := ⟨m, m * r, 0⟩) (Row.new _ 3 1 [n, n * p, 0] _ rfl (by decide) hx1) L1h.out hx2 I1h.out).mono ?_
    rintro e w1 ⟨⟨a1, c1, rfl, R1⟩, hw1⟩
    go_wp2_with (first | (go_at_call 17; refine (Place_calls _ _ _ (by omega) (by omega)).mono ?_; rintro e w' ⟨rfl, rfl⟩))
    refine (mavg_Out_is R1 L3h.out (q := k) ⟨by omega, by omega⟩ hOh.out).mono ?_
    rintro e w2 ⟨⟨a2, c2, rfl, R2⟩, hw2⟩
    obtain ⟨g1, o1, rfl, hg1, x0, x1, -⟩ := (R1.below hw2).first (by simp)
    have hn1 : g1 ≠ w2.heap.size := by omega
    have hbel : Below w.heap.size w w2 := by (repeat (first | assumption | exact Below.refl _ _ | refine ballc ?_ _ | refine bdrew ?_ | refine bdrewN ?_ _ | refine bset ?_ _ _ | refine bsetN ?_ (by omega) _ _ | refine bthen ?_ (by assumption)))
    clear R1 R2 hw1 hw2 hn hm hp hr hk
    simp only at x0 x1
    go_wp2_with fail
    have f1 : IntKind.i64.wrap (n + m) = n + m := IntWalk.i64_in _ (by omega)
    have f2 : IntKind.i64.wrap (k * p) = k * p := IntWalk.i64_in _ (by omega)
    have f3 : IntKind.i64.wrap (k * r) = k * r := IntWalk.i64_in _ (by omega)
    have f4 : IntKind.i64.wrap (n + m - k) = n + m - k := IntWalk.i64_in _ (by omega)
    have f5 : IntKind.i64.wrap ((n + m - k) * p) = (n + m - k) * p := IntWalk.i64_in _ (by omega)
    have f6 : IntKind.i64.wrap (n * p) = n * p := IntWalk.i64_in _ (by omega)
    have f7 : IntKind.i64.wrap (m * r) = m * r := IntWalk.i64_in _ (by omega)
    have f8 : IntKind.i64.wrap (n * p + m * r) = n * p + m * r := IntWalk.i64_in _ (by omega)
    have f9 : IntKind.i64.wrap ((n * p + m * r) * k) = (n * p + m * r) * k := IntWalk.i64_in _ (by omega)
    have f10 : ((n * p + m * r) * k).tdiv (n + m) = (n * p + m * r) * k / (n + m) := Int.tdiv_eq_ediv_of_nonneg b5
    have f11 : IntKind.i64.wrap ((n * p + m * r) * k / (n + m)) = (n * p + m * r) * k / (n + m) := IntWalk.i64_in _ (by omega)
    have f12 : ((n + m : Int) == 0) = false := by simp; omega
    obtain ⟨V, hV, c0, c1, d0, d1, d2, hbV⟩ := drew3 (x := .int .i64 k) (y := .int .i64 ((n * p + m * r) * k / (n + m))) (z := .int .i64 0) (t := 24) x0 x1 hg1 hbel
    refine wp_region_still_tail 71 (by kernel_rfl) (by kernel_rfl) ?_
    simp only [List.take_succ_cons, List.take_zero, List.drop_succ_cons, List.drop_zero]
    rw [hV]
    clear hV x0 x1 hbel
    repeat still_step
    refine wpStill_nil ?_
    go_wp2_with (first | (go_at_call 10; refine (mavg_awake _).mono ?_; rintro e w' ⟨rfl, hwa⟩))
    go_ret
    exact ⟨rfl, by (repeat (first | assumption | exact Below.refl _ _ | refine ballc ?_ _ | refine bdrew ?_ | refine bdrewN ?_ _ | refine bset ?_ _ _ | refine bsetN ?_ (by omega) _ _ | refine bthen ?_ (by assumption)))⟩
  · have hkn : k = n + m := by omega
    have hO2 : outS [⟨n + m, n * p + m * r, 0⟩] k = ([], ⟨n + m, n * p + m * r, 0⟩, 0) := by rw [hO, outL_whole k0 hkn.symm]
    have hOh := Lib.hid hO2
    clear hO hO2
    have e1 : (n * p + m * r) * (n + m) / (n + m) = n * p + m * r := Int.mul_ediv_cancel _ (by omega)
    subst hkn
    rw [e1] at M1 M2 M3
    go_enter Try.func6, Try.ntmps6
    try simp only [List.append_eq, List.cons_append, List.nil_append]
    go_wp2_with (first | (go_at_call 17; refine (Place_calls _ _ _ (by omega) (by omega)).mono ?_; rintro e w' ⟨rfl, rfl⟩))
    refine (mavg_In_is (l := [⟨n, n * p, 0⟩]) (x := ⟨m, m * r, 0⟩) (Row.new _ 3 1 [n, n * p, 0] _ rfl (by decide) hx1) L1h.out hx2 I1h.out).mono ?_
    rintro e w1 ⟨⟨a1, c1, rfl, R1⟩, hw1⟩
    go_wp2_with (first | (go_at_call 17; refine (Place_calls _ _ _ (by omega) (by omega)).mono ?_; rintro e w' ⟨rfl, rfl⟩))
    refine (mavg_Out_is R1 L3h.out (q := n + m) ⟨by omega, by omega⟩ hOh.out).mono ?_
    rintro e w2 ⟨⟨a2, c2, rfl, R2⟩, hw2⟩
    obtain ⟨g1, o1, rfl, hg1, x0, x1, -⟩ := (R1.below hw2).first (by simp)
    have hn1 : g1 ≠ w2.heap.size := by omega
    have hbel : Below w.heap.size w w2 := by (repeat (first | assumption | exact Below.refl _ _ | refine ballc ?_ _ | refine bdrew ?_ | refine bdrewN ?_ _ | refine bset ?_ _ _ | refine bsetN ?_ (by omega) _ _ | refine bthen ?_ (by assumption)))
    clear R1 R2 hw1 hw2 hn hm hp hr
    simp only at x0 x1
    go_wp2_with fail
    have f1 : IntKind.i64.wrap (n + m) = n + m := IntWalk.i64_in _ (by omega)
    have f2 : IntKind.i64.wrap ((n + m) * p) = (n + m) * p := IntWalk.i64_in _ (by omega)
    have f3 : IntKind.i64.wrap ((n + m) * r) = (n + m) * r := IntWalk.i64_in _ (by omega)
    have f4 : IntKind.i64.wrap (n + m - (n + m)) = n + m - (n + m) := IntWalk.i64_in _ (by omega)
    have f5 : IntKind.i64.wrap ((n + m - (n + m)) * p) = (n + m - (n + m)) * p := IntWalk.i64_in _ (by omega)
    have f6 : IntKind.i64.wrap (n * p) = n * p := IntWalk.i64_in _ (by omega)
    have f7 : IntKind.i64.wrap (m * r) = m * r := IntWalk.i64_in _ (by omega)
    have f8 : IntKind.i64.wrap (n * p + m * r) = n * p + m * r := IntWalk.i64_in _ (by omega)
    have f9 : IntKind.i64.wrap ((n * p + m * r) * (n + m)) = (n * p + m * r) * (n + m) := IntWalk.i64_in _ (by omega)
    have f10 : ((n * p + m * r) * (n + m)).tdiv (n + m) = n * p + m * r := (Int.tdiv_eq_ediv_of_nonneg b5).trans e1
    have f11 : IntKind.i64.wrap 0 = 0 := by decide
    have f12 : ((n + m : Int) == 0) = false := by simp; omega
    obtain ⟨V, hV, c0, c1, d0, d1, d2, hbV⟩ := drew3 (x := .int .i64 (n + m)) (y := .int .i64 (n * p + m * r)) (z := .int .i64 0) (t := 24) x0 x1 hg1 hbel
    refine wp_region_still_tail 71 (by kernel_rfl) (by kernel_rfl) ?_
    simp only [List.take_succ_cons, List.take_zero, List.drop_succ_cons, List.drop_zero]
    rw [hV]
    clear hV x0 x1 hbel
    repeat still_step
    refine wpStill_nil ?_
    go_wp2_with (first | (go_at_call 10; refine (mavg_awake _).mono ?_; rintro e w' ⟨rfl, hwa⟩))
    go_ret
    exact ⟨rfl, by (repeat (first | assumption | exact Below.refl _ _ | refine ballc ?_ _ | refine bdrew ?_ | refine bdrewN ?_ _ | refine bset ?_ _ _ | refine bsetN ?_ (by omega) _ _ | refine bthen ?_ (by assumption)))⟩
end Go.Proofs.Ytgahhifedgmicaa
