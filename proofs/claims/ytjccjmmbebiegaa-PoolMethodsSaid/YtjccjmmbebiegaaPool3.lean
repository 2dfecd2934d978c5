/-
  pool: In. The walk.
-/
import Derived.Test.YtjccjmmbebiegaaPool2
set_option linter.unusedVariables false
set_option linter.unusedSimpArgs false
namespace Go.Proofs.Ytjccjmmbebiegaa
open Go.RowKit

theorem meth_first_in (w : World) : (method 233 83 (.agg #[]) "purveyor/pool.in").run Try.prog w = .ok (93, .agg #[]) w := by kernel_rfl
theorem meth_moving_in (w : World) : (method 233 84 (.agg #[]) "purveyor/pool.in").run Try.prog w = .ok (95, .agg #[]) w := by kernel_rfl
theorem meth_periodic_in (w : World) : (method 233 85 (.agg #[]) "purveyor/pool.in").run Try.prog w = .ok (97, .agg #[]) w := by kernel_rfl
theorem meth_standard_in (c : Int) (w : World) : (method 233 87 (.agg #[.int .i64 c]) "purveyor/pool.in").run Try.prog w = .ok (99, .agg #[.int .i64 c]) w := by kernel_rfl
theorem meth_first_out (w : World) : (method 233 83 (.agg #[]) "purveyor/pool.out").run Try.prog w = .ok (94, .agg #[]) w := by kernel_rfl
theorem meth_moving_out (w : World) : (method 233 84 (.agg #[]) "purveyor/pool.out").run Try.prog w = .ok (96, .agg #[]) w := by kernel_rfl
theorem meth_periodic_out (w : World) : (method 233 85 (.agg #[]) "purveyor/pool.out").run Try.prog w = .ok (98, .agg #[]) w := by kernel_rfl
theorem meth_standard_out (c : Int) (w : World) : (method 233 87 (.agg #[.int .i64 c]) "purveyor/pool.out").run Try.prog w = .ok (100, .agg #[.int .i64 c]) w := by kernel_rfl
-- BEGIN periodic

theorem outP_LR {l : List Lay} {d : Pnd} {q : Int} (h : LR l) : LR (outP l d q).1 := by
  unfold outP
  split
  · exact h
  · split
    · exact h
    · exact outS_LR h

set_option maxRecDepth 20000 in
set_option maxHeartbeats 4000000 in
theorem pool_periodic_in (a : Option Addr) (cap : Nat) (l : List Lay) (d : Pnd) (x : Lay) (w : World) (h : Row w 3 a l.length cap (flat l)) (hL : LR l) (hx : AllI [x.q, x.v, x.p]) :
    Calls Try.prog 97 #[.agg #[], poolV (.slice a l.length cap) d, x.val] w (HoldPA w d ((inM l x).1, 0, (inM l x).2)) := by
  have hm : LR (inM l x).1 := inM_LR hL
  have hcall := fun W (hW : Row W 3 a l.length cap (flat l)) => pavg_In a cap l d x W hW hL hx
  obtain ⟨m, e', hI⟩ : ∃ m e', inM l x = (m, e') := ⟨_, _, rfl⟩
  rw [hI] at hm hcall ⊢
  obtain ⟨n, hN⟩ : ∃ n, l.length = n := ⟨_, rfl⟩
  rw [hN] at h hcall ⊢
  have hcallh := Lib.hid hcall
  have hmh := Lib.hid hm
  clear hN hI hcall hm hL
  obtain ⟨xq, xv, xp⟩ := x
  obtain ⟨da, db, dc⟩ := d
  unfold poolV Lay.val
  simp only
  go_enter Try.func97, Try.ntmps97
  have hB0 : Below w.heap.size w ((((w.alloc (.cells #[] 85)).alloc (.cells #[.slice a n cap, .int .i64 da, .int .i64 db, .int .i64 dc] 26)).alloc (.cells #[.int .i64 xq, .int .i64 xv, .int .i64 xp] 32)).alloc (.cells #[.slice none 0 0, .int .i64 0, .int .i64 0, .int .i64 0] 26)) := by (repeat (first | assumption | exact Below.refl _ _ | refine ballc ?_ _ | refine bdrew ?_ | refine bdrewN ?_ _ | refine bset ?_ _ _ | refine bsetN ?_ (by omega) _ _ | refine bthen ?_ (by assumption)))
  have P0 := ((CellP.new (w.alloc (.cells #[] 85)) (.slice a n cap) ⟨da, db, dc⟩ 26).alloc (by simp) (.cells #[.int .i64 xq, .int .i64 xv, .int .i64 xp] 32)).alloc (by simp) (.cells #[.slice none 0 0, .int .i64 0, .int .i64 0, .int .i64 0] 26)
  have PR := CellP.new (((w.alloc (.cells #[] 85)).alloc (.cells #[.slice a n cap, .int .i64 da, .int .i64 db, .int .i64 dc] 26)).alloc (.cells #[.int .i64 xq, .int .i64 xv, .int .i64 xp] 32)) (.slice none 0 0) ⟨0, 0, 0⟩ 26
  simp only [World.size_alloc] at P0 PR
  have PX := (CellL.new ((w.alloc (.cells #[] 85)).alloc (.cells #[.slice a n cap, .int .i64 da, .int .i64 db, .int .i64 dc] 26)) ⟨xq, xv, xp⟩ 32).below ((Below.refl _ _).alloc (Nat.le_refl _) (.cells #[.slice none 0 0, .int .i64 0, .int .i64 0, .int .i64 0] 26)) (by simp)
  simp only [World.size_alloc] at PX
  have hS0 : ((((w.alloc (.cells #[] 85)).alloc (.cells #[.slice a n cap, .int .i64 da, .int .i64 db, .int .i64 dc] 26)).alloc (.cells #[.int .i64 xq, .int .i64 xv, .int .i64 xp] 32)).alloc (.cells #[.slice none 0 0, .int .i64 0, .int .i64 0, .int .i64 0] 26)).heap.size = w.heap.size + 1 + 1 + 1 + 1 := by simp
  go_upto_region 1 with fail
  generalize (((w.alloc (.cells #[] 85)).alloc (.cells #[.slice a n cap, .int .i64 da, .int .i64 db, .int .i64 dc] 26)).alloc (.cells #[.int .i64 xq, .int .i64 xv, .int .i64 xp] 32)).alloc (.cells #[.slice none 0 0, .int .i64 0, .int .i64 0, .int .i64 0] 26) = W0 at *
  have b0 : w.heap.size < W0.heap.size := by omega
  have b1 : w.heap.size + 1 < W0.heap.size := by omega
  have b2 : w.heap.size + 1 + 1 < W0.heap.size := by omega
  have b3 : w.heap.size + 1 + 1 + 1 < W0.heap.size := by omega
  have hbl : w.heap.size ≤ W0.heap.size := by omega
  clear hS0
  have hRow := h.below hB0
  obtain ⟨p0, p1, p2, p3, -, -, -, -⟩ := id P0
  simp only at p1 p2 p3
  obtain ⟨x0, x1, x2, -, -, -⟩ := id PX
  simp only at x0 x1 x2
  go_wp2_with fail
  refine (hcallh.out W0 hRow).mono ?_
  rintro e w1 ⟨v1, rfl, hh1, hw1⟩
  have hw1s := hw1.size
  obtain ⟨a1, c1, rfl, -⟩ := hh1.row hmh.out.all
  obtain ⟨p0, p1, p2, p3, q0, q1, q2, q3⟩ := P0.below hw1 b1
  obtain ⟨r0, r1, r2, r3, s0, s1, s2, s3⟩ := PR.below hw1 b3
  have g1 : w.heap.size + 1 < w1.heap.size := by omega
  have g3 : w.heap.size + 1 + 1 + 1 < w1.heap.size := by omega
  have e1 : w.heap.size + 1 + 1 + 1 ≠ w.heap.size + 1 := by omega
  have hh2 := hh1
  have hbel2 : Below w.heap.size w w1 := hB0.trans (hw1.mono hbl)
  simp only at p1 p2 p3 r1 r2 r3
  clear P0 PR PX hw1 hB0 hRow x0 x1 x2
  unfold poolV
  go_wp2_with fail
  refine bodyPost_ret (v := .tuple #[.agg #[.slice a1 m.length c1, .int .i64 da, .int .i64 db, .int .i64 dc], .int .i64 0, .int .i64 e']) (by simp [results, Try.results97, go_sem, g1, g3, e1, p0, p1, p2, p3, q0, q1, q2, q3, r0, r1, r2, r3, s0, s1, s2, s3]) rfl ⟨_, rfl, Hold.mono (base := W0.heap.size) ?_ hbl, ?_⟩
  · repeat (first | refine Hold.set ?_ (by omega) _ _ | exact hh2)
  · repeat (first | refine Below.setCell ?_ (by simp only; omega) _ | exact hbel2)

set_option maxRecDepth 20000 in
set_option maxHeartbeats 4000000 in
theorem pool_periodic_out (a : Option Addr) (cap : Nat) (l : List Lay) (d : Pnd) (q : Int) (w : World) (h : Row w 3 a l.length cap (flat l)) (hL : LR l) (hq : I64 q) (hd : PndOk d) :
    Calls Try.prog 98 #[.agg #[], poolV (.slice a l.length cap) d, .int .i64 q] w (HoldPO w d (outP l d q)) := by
  have hm : LR (outP l d q).1 := outP_LR hL
  have hcall := fun W (hW : Row W 3 a l.length cap (flat l)) => pavg_Out a cap l d q W hW hL hd hq
  obtain ⟨m, y, e', hI⟩ : ∃ m y e', outP l d q = (m, y, e') := ⟨_, _, _, rfl⟩
  rw [hI] at hm hcall ⊢
  obtain ⟨n, hN⟩ : ∃ n, l.length = n := ⟨_, rfl⟩
  rw [hN] at h hcall ⊢
  have hcallh := Lib.hid hcall
  have hmh := Lib.hid hm
  clear hN hI hcall hm hL
  obtain ⟨da, db, dc⟩ := d
  unfold poolV
  simp only
  go_enter Try.func98, Try.ntmps98
  have hB0 : Below w.heap.size w ((((w.alloc (.cells #[] 85)).alloc (.cells #[.slice a n cap, .int .i64 da, .int .i64 db, .int .i64 dc] 26)).alloc (.cells #[.slice none 0 0, .int .i64 0, .int .i64 0, .int .i64 0] 26)).alloc (.cells #[.int .i64 0, .int .i64 0, .int .i64 0] 32)) := by (repeat (first | assumption | exact Below.refl _ _ | refine ballc ?_ _ | refine bdrew ?_ | refine bdrewN ?_ _ | refine bset ?_ _ _ | refine bsetN ?_ (by omega) _ _ | refine bthen ?_ (by assumption)))
  have P0 := ((CellP.new (w.alloc (.cells #[] 85)) (.slice a n cap) ⟨da, db, dc⟩ 26).alloc (by simp) (.cells #[.slice none 0 0, .int .i64 0, .int .i64 0, .int .i64 0] 26)).alloc (by simp) (.cells #[.int .i64 0, .int .i64 0, .int .i64 0] 32)
  have PR := (CellP.new ((w.alloc (.cells #[] 85)).alloc (.cells #[.slice a n cap, .int .i64 da, .int .i64 db, .int .i64 dc] 26)) (.slice none 0 0) ⟨0, 0, 0⟩ 26).alloc (by simp) (.cells #[.int .i64 0, .int .i64 0, .int .i64 0] 32)
  simp only [World.size_alloc] at P0 PR
  have PX := CellL.new (((w.alloc (.cells #[] 85)).alloc (.cells #[.slice a n cap, .int .i64 da, .int .i64 db, .int .i64 dc] 26)).alloc (.cells #[.slice none 0 0, .int .i64 0, .int .i64 0, .int .i64 0] 26)) ⟨0, 0, 0⟩ 32
  simp only [World.size_alloc] at PX
  have hS0 : ((((w.alloc (.cells #[] 85)).alloc (.cells #[.slice a n cap, .int .i64 da, .int .i64 db, .int .i64 dc] 26)).alloc (.cells #[.slice none 0 0, .int .i64 0, .int .i64 0, .int .i64 0] 26)).alloc (.cells #[.int .i64 0, .int .i64 0, .int .i64 0] 32)).heap.size = w.heap.size + 1 + 1 + 1 + 1 := by simp
  go_upto_region 1 with fail
  generalize (((w.alloc (.cells #[] 85)).alloc (.cells #[.slice a n cap, .int .i64 da, .int .i64 db, .int .i64 dc] 26)).alloc (.cells #[.slice none 0 0, .int .i64 0, .int .i64 0, .int .i64 0] 26)).alloc (.cells #[.int .i64 0, .int .i64 0, .int .i64 0] 32) = W0 at *
  have b0 : w.heap.size < W0.heap.size := by omega
  have b1 : w.heap.size + 1 < W0.heap.size := by omega
  have b2 : w.heap.size + 1 + 1 < W0.heap.size := by omega
  have b3 : w.heap.size + 1 + 1 + 1 < W0.heap.size := by omega
  have hbl : w.heap.size ≤ W0.heap.size := by omega
  clear hS0
  have hRow := h.below hB0
  obtain ⟨p0, p1, p2, p3, -, -, -, -⟩ := id P0
  simp only at p1 p2 p3
  go_wp2_with fail
  refine (hcallh.out W0 hRow).mono ?_
  rintro e w1 ⟨v1, rfl, hh1, hw1⟩
  have hw1s := hw1.size
  obtain ⟨a1, c1, rfl, -⟩ := hh1.row hmh.out.all
  obtain ⟨r0, r1, r2, r3, s0, s1, s2, s3⟩ := PR.below hw1 b2
  obtain ⟨z0, z1, z2, t0, t1, t2⟩ := PX.below hw1 b3
  have k2 : w.heap.size + 1 + 1 < w1.heap.size := by omega
  have k3 : w.heap.size + 1 + 1 + 1 < w1.heap.size := by omega
  have hh3 := hh1
  have hbel3 : Below w.heap.size w w1 := hB0.trans (hw1.mono hbl)
  obtain ⟨yq, yv, yp⟩ := y
  simp only at r1 r2 r3 z0 z1 z2
  clear P0 PR PX hw1 hB0 hRow p0 p1 p2 p3
  unfold poolV Lay.val
  go_wp2_with fail
  refine bodyPost_ret (v := .tuple #[.agg #[.slice a1 m.length c1, .int .i64 da, .int .i64 db, .int .i64 dc], .agg #[.int .i64 yq, .int .i64 yv, .int .i64 yp], .int .i64 e']) (by simp [results, Try.results98, go_sem, k2, k3, r0, r1, r2, r3, s0, s1, s2, s3, z0, z1, z2, t0, t1, t2]) rfl ⟨_, rfl, Hold.mono (base := W0.heap.size) ?_ hbl, ?_⟩
  · repeat (first | refine Hold.set ?_ (by omega) _ _ | exact hh3)
  · repeat (first | refine Below.setCell ?_ (by simp only; omega) _ | exact hbel3)

-- END periodic
end Go.Proofs.Ytjccjmmbebiegaa
