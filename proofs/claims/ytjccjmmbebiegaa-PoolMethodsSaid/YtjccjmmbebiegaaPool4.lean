/-
  pool.In. The walk.
-/
import Derived.Test.YtjccjmmbebiegaaPool3
set_option linter.unusedVariables false
set_option linter.unusedSimpArgs false
namespace Go.Proofs.Ytjccjmmbebiegaa
open Go.RowKit

/-- What pool.In answers: layers, how much is above, an error. -/
def poolInS (m c : Int) (l : List Lay) (x : Lay) : List Lay × Int × Int :=
  if m = 1 then ((inS l x).1, 0, (inS l x).2) else if m = 2 then ((inM l x).1, 0, (inM l x).2) else if m = 3 then ((inM l x).1, 0, (inM l x).2) else if m = 4 then inC l x c else (l, 0, 12)
theorem inM_no {l : List Lay} {x : Lay} (h : (inM l x).2 ≠ 0) : (inM l x).1 = l := by
  unfold inM at h ⊢
  split
  · rw [if_pos ‹_›] at h; exact absurd rfl h
  · rfl
theorem inC_no {l : List Lay} {x : Lay} {c : Int} (h : (inC l x c).2.2 ≠ 0) : (inC l x c).1 = l ∧ (inC l x c).2.1 = 0 := by
  unfold inC at h ⊢
  split
  · exact ⟨rfl, rfl⟩
  · rw [if_neg ‹_›] at h
    split
    · exact ⟨rfl, rfl⟩
    · rw [if_neg ‹_›] at h
      split
      · rw [if_pos ‹_›] at h; exact absurd rfl h
      · exact ⟨rfl, rfl⟩
theorem poolInS_no {m c : Int} {l : List Lay} {x : Lay} (h : (poolInS m c l x).2.2 ≠ 0) : (poolInS m c l x).1 = l ∧ (poolInS m c l x).2.1 = 0 := by
  unfold poolInS at h ⊢
  split
  · rw [if_pos ‹_›] at h; exact ⟨inS_no h, rfl⟩
  · rw [if_neg ‹_›] at h
    split
    · rw [if_pos ‹_›] at h; exact ⟨inM_no h, rfl⟩
    · rw [if_neg ‹_›] at h
      split
      · rw [if_pos ‹_›] at h; exact ⟨inM_no h, rfl⟩
      · rw [if_neg ‹_›] at h
        split
        · rw [if_pos ‹_›] at h; exact inC_no h
        · exact ⟨rfl, rfl⟩
theorem poolInS_LR {m c : Int} {l : List Lay} {x : Lay} (h : LR l) : LR (poolInS m c l x).1 := by
  unfold poolInS
  split
  · exact inS_LR h
  · split
    · exact inM_LR h
    · split
      · exact inM_LR h
      · split
        · exact inC_LR h
        · exact h

set_option maxRecDepth 20000 in
set_option maxHeartbeats 4000000 in
theorem pool_In_by (m c : Int) (T fid : Nat) (recv : Value) (r : List Lay × Int × Int) (a : Option Addr) (cap : Nat) (l : List Lay) (d : Pnd) (x : Lay) (w : World) (h : Row w 3 a l.length cap (flat l)) (hL : LR l)
    (hof : ∀ W, Calls Try.prog 34 #[.int .i64 m, .int .i64 c] W fun e w' => e = .returned (.iface T recv) ∧ W = w')
    (hmeth : ∀ W : World, (method 233 T recv "purveyor/pool.in").run Try.prog W = .ok (fid, recv) W)
    (hfid : ∀ (args : Array Value) (W : World), (callFunc fid args).run Try.prog W = .ok (.enter fid args) W)
    (hin : ∀ W, Row W 3 a l.length cap (flat l) → Calls Try.prog fid #[recv, poolV (.slice a l.length cap) d, x.val] W (HoldPA W d r))
    (hr : LR r.1) (hno : r.2.2 ≠ 0 → r.1 = l ∧ r.2.1 = 0) :
    Calls Try.prog 16 #[.int .i64 m, .int .i64 c, poolV (.slice a l.length cap) d, x.val] w (HoldPA w d r) := by
  obtain ⟨q, up, e'⟩ := r
  simp only at hr hno
  have hofh := Lib.hid hof
  have hinh := Lib.hid hin
  have hrh := Lib.hid hr
  have hnoh := Lib.hid hno
  have hLh := Lib.hid hL
  clear hof hin hr hno hL
  have hA := Lib.hid h.all
  obtain ⟨n, hN⟩ : ∃ n, l.length = n := ⟨_, rfl⟩
  have hNh := Lib.hid hN
  rw [hN] at h hinh ⊢
  clear hN
  obtain ⟨da, db, dc⟩ := d
  obtain ⟨xq, xv, xp⟩ := x
  unfold poolV Lay.val at *
  simp only at hinh ⊢
  go_enter Try.func16, Try.ntmps16
  have hB0 : Below w.heap.size w (((w.alloc (.cells #[.slice a n cap, .int .i64 da, .int .i64 db, .int .i64 dc] 26)).alloc (.cells #[.int .i64 xq, .int .i64 xv, .int .i64 xp] 32)).alloc (.cells #[.slice none 0 0, .int .i64 0, .int .i64 0, .int .i64 0] 26)) := by (repeat (first | assumption | exact Below.refl _ _ | refine ballc ?_ _ | refine bdrew ?_ | refine bdrewN ?_ _ | refine bset ?_ _ _ | refine bsetN ?_ (by omega) _ _ | refine bthen ?_ (by assumption)))
  have P0 := ((CellP.new w (.slice a n cap) ⟨da, db, dc⟩ 26).alloc (by simp) (.cells #[.int .i64 xq, .int .i64 xv, .int .i64 xp] 32)).alloc (by simp; omega) (.cells #[.slice none 0 0, .int .i64 0, .int .i64 0, .int .i64 0] 26)
  have PX := (CellL.new (w.alloc (.cells #[.slice a n cap, .int .i64 da, .int .i64 db, .int .i64 dc] 26)) ⟨xq, xv, xp⟩ 32).below ((Below.refl _ _).alloc (Nat.le_refl _) (.cells #[.slice none 0 0, .int .i64 0, .int .i64 0, .int .i64 0] 26)) (by simp)
  have PR := CellP.new ((w.alloc (.cells #[.slice a n cap, .int .i64 da, .int .i64 db, .int .i64 dc] 26)).alloc (.cells #[.int .i64 xq, .int .i64 xv, .int .i64 xp] 32)) (.slice none 0 0) ⟨0, 0, 0⟩ 26
  simp only [World.size_alloc] at PR PX
  have hS0 : (((w.alloc (.cells #[.slice a n cap, .int .i64 da, .int .i64 db, .int .i64 dc] 26)).alloc (.cells #[.int .i64 xq, .int .i64 xv, .int .i64 xp] 32)).alloc (.cells #[.slice none 0 0, .int .i64 0, .int .i64 0, .int .i64 0] 26)).heap.size = w.heap.size + 1 + 1 + 1 := by simp
  go_upto_region 1 with fail
  generalize ((w.alloc (.cells #[.slice a n cap, .int .i64 da, .int .i64 db, .int .i64 dc] 26)).alloc (.cells #[.int .i64 xq, .int .i64 xv, .int .i64 xp] 32)).alloc (.cells #[.slice none 0 0, .int .i64 0, .int .i64 0, .int .i64 0] 26) = W0 at *
  have b0 : w.heap.size < W0.heap.size := by omega
  have b1 : w.heap.size + 1 < W0.heap.size := by omega
  have b2 : w.heap.size + 1 + 1 < W0.heap.size := by omega
  have hbl : w.heap.size ≤ W0.heap.size := by omega
  clear hS0
  have hRow := h.below hB0
  obtain ⟨p0, p1, p2, p3, -, -, -, -⟩ := id P0
  obtain ⟨x0, x1, x2, -, -, -⟩ := id PX
  simp only at p1 p2 p3 x0 x1 x2
  go_wp2_with fail
  refine (hofh.out W0).mono ?_
  rintro e w' ⟨rfl, rfl⟩
  go_wp2_with fail
  refine (hinh.out W0 hRow).mono ?_
  rintro e w1 ⟨v, rfl, hh1, hw1⟩
  obtain ⟨a1, c1, rfl, -⟩ := hh1.row hrh.out.all
  have hw1s := hw1.size
  have P1 := P0.below hw1 b0
  have PR1 := PR.below hw1 b2
  have hbel1 : Below w.heap.size w w1 := hB0.trans (hw1.mono hbl)
  have hR1 := hRow.below hw1
  have g0 : w.heap.size < w1.heap.size := by omega
  have g2 : w.heap.size + 1 + 1 < w1.heap.size := by omega
  clear P0 PX PR hw1 hB0 hRow p0 p1 p2 p3 x0 x1 x2 b1
  have hal : Below w1.heap.size w1 (w1.alloc (.cells #[.slice a1 q.length c1, .int .i64 da, .int .i64 db, .int .i64 dc] 26)) := by (repeat (first | assumption | exact Below.refl _ _ | refine ballc ?_ _ | refine bdrew ?_ | refine bdrewN ?_ _ | refine bset ?_ _ _ | refine bsetN ?_ (by omega) _ _ | refine bthen ?_ (by assumption)))
  have PN := CellP.new w1 (.slice a1 q.length c1) ⟨da, db, dc⟩ 26
  have hsz : (w1.alloc (.cells #[.slice a1 q.length c1, .int .i64 da, .int .i64 db, .int .i64 dc] 26)).heap.size = w1.heap.size + 1 := by simp
  have P2 := P1.below hal g0
  have PR2 := PR1.below hal g2
  have hbel2 : Below w.heap.size w (w1.alloc (.cells #[.slice a1 q.length c1, .int .i64 da, .int .i64 db, .int .i64 dc] 26)) := hbel1.trans (hal.mono (by omega))
  have hh2 := hh1.below hal
  have hR2 := hR1.below hal
  unfold poolV
  simp only
  go_upto_region 5 with fail
  obtain ⟨Y, hY⟩ : ∃ Y, w1.heap.size = Y := ⟨_, rfl⟩
  have gY : w.heap.size + 1 + 1 < Y := by omega
  generalize w1.alloc (.cells #[.slice a1 q.length c1, .int .i64 da, .int .i64 db, .int .i64 dc] 26) = W1 at *
  try rw [hY]
  rw [hY] at PN hsz
  clear hY P1 PR1 hbel1 hh1 hR1 hal g0 g2
  have f0 : w.heap.size < W1.heap.size := by omega
  have f2 : w.heap.size + 1 + 1 < W1.heap.size := by omega
  have fY : Y < W1.heap.size := by omega
  clear hsz
  obtain ⟨p0, p1, p2, p3, -, -, -, -⟩ := id P2
  obtain ⟨y0, y1, y2, y3, -, -, -, -⟩ := PN
  obtain ⟨r0, r1, r2, r3, s0, s1, s2, s3⟩ := id PR2
  simp only at p1 p2 p3 y1 y2 y3 r1 r2 r3
  have eY : Y ≠ w.heap.size + 1 + 1 := by omega
  by_cases he : e' = 0
  · subst he
    go_wp2_with fail
    refine bodyPost_ret (v := .tuple #[.agg #[.slice a1 q.length c1, .int .i64 da, .int .i64 db, .int .i64 dc], .int .i64 up, .int .i64 0]) (by simp [results, Try.results16, go_sem, f2, r0, r1, r2, r3, s0, s1, s2, s3]) rfl ⟨_, rfl, Hold.mono (base := W0.heap.size) ?_ hbl, ?_⟩
    · repeat (first | refine Hold.set ?_ (by omega) _ _ | exact hh2)
    · repeat (first | refine Below.setCell ?_ (by simp only; omega) _ | exact hbel2)
  · have hownc := fun W (hW : Row W 3 a n cap (flat l)) => pool_own a cap l ⟨da, db, dc⟩ W (hNh.out ▸ hW) (by have := hLh.out.len; omega)
    rw [hNh.out] at hownc
    unfold poolV at hownc
    have hownh := Lib.hid hownc
    clear hownc
    go_wp2_with fail
    refine (hownh.out W1 hR2).mono ?_
    rintro e w2 ⟨v2, rfl, hh3, hw2⟩
    obtain ⟨a2, c2, rfl, -⟩ := hh3.row hA.out
    obtain ⟨u0, u1, u2, u3, t0, t1, t2, t3⟩ := PR2.below hw2 f2
    simp only at u1 u2 u3
    have k2 : w.heap.size + 1 + 1 < w2.heap.size := by have := hw2.size; omega
    have hbel3 : Below w.heap.size w w2 := hbel2.trans (hw2.mono (by omega))
    clear P2 PR2 hw2 hbel2 p0 p1 p2 p3 y0 y1 y2 y3 r0 r1 r2 r3 s0 s1 s2 s3 hh2 hR2 hownh
    go_wp2_with fail
    obtain ⟨rfl, rfl⟩ := hnoh.out he
    refine bodyPost_ret (v := .tuple #[.agg #[.slice a2 q.length c2, .int .i64 da, .int .i64 db, .int .i64 dc], .int .i64 0, .int .i64 e']) (by simp [results, Try.results16, go_sem, k2, u0, u1, u2, u3, t0, t1, t2, t3]) rfl ⟨_, rfl, Hold.mono (base := W1.heap.size) ?_ (by omega), ?_⟩
    · repeat (first | refine Hold.set ?_ (by omega) _ _ | exact hh3)
    · repeat (first | refine Below.setCell ?_ (by simp only; omega) _ | exact hbel3)

set_option maxRecDepth 20000 in
set_option maxHeartbeats 4000000 in
theorem pool_In_none (m c : Int) (a : Option Addr) (cap : Nat) (l : List Lay) (d : Pnd) (x : Lay) (w : World) (h : Row w 3 a l.length cap (flat l)) (hn : l.length ≤ 900) (hm : m < 1 ∨ 4 < m) :
    Calls Try.prog 16 #[.int .i64 m, .int .i64 c, poolV (.slice a l.length cap) d, x.val] w (HoldPA w d (l, 0, 12)) := by
  have hA := Lib.hid h.all
  have hownc := fun W (hW : Row W 3 a l.length cap (flat l)) => pool_own a cap l d W hW hn
  obtain ⟨n, hN⟩ : ∃ n, l.length = n := ⟨_, rfl⟩
  have hNh := Lib.hid hN
  rw [hN] at h hownc ⊢
  clear hN
  obtain ⟨da, db, dc⟩ := d
  obtain ⟨xq, xv, xp⟩ := x
  unfold poolV Lay.val at *
  simp only at hownc ⊢
  have hownh := Lib.hid hownc
  clear hownc
  go_enter Try.func16, Try.ntmps16
  have hB0 : Below w.heap.size w (((w.alloc (.cells #[.slice a n cap, .int .i64 da, .int .i64 db, .int .i64 dc] 26)).alloc (.cells #[.int .i64 xq, .int .i64 xv, .int .i64 xp] 32)).alloc (.cells #[.slice none 0 0, .int .i64 0, .int .i64 0, .int .i64 0] 26)) := by (repeat (first | assumption | exact Below.refl _ _ | refine ballc ?_ _ | refine bdrew ?_ | refine bdrewN ?_ _ | refine bset ?_ _ _ | refine bsetN ?_ (by omega) _ _ | refine bthen ?_ (by assumption)))
  have P0 := ((CellP.new w (.slice a n cap) ⟨da, db, dc⟩ 26).alloc (by simp) (.cells #[.int .i64 xq, .int .i64 xv, .int .i64 xp] 32)).alloc (by simp; omega) (.cells #[.slice none 0 0, .int .i64 0, .int .i64 0, .int .i64 0] 26)
  have PR := CellP.new ((w.alloc (.cells #[.slice a n cap, .int .i64 da, .int .i64 db, .int .i64 dc] 26)).alloc (.cells #[.int .i64 xq, .int .i64 xv, .int .i64 xp] 32)) (.slice none 0 0) ⟨0, 0, 0⟩ 26
  simp only [World.size_alloc] at PR
  have hS0 : (((w.alloc (.cells #[.slice a n cap, .int .i64 da, .int .i64 db, .int .i64 dc] 26)).alloc (.cells #[.int .i64 xq, .int .i64 xv, .int .i64 xp] 32)).alloc (.cells #[.slice none 0 0, .int .i64 0, .int .i64 0, .int .i64 0] 26)).heap.size = w.heap.size + 1 + 1 + 1 := by simp
  go_upto_region 1 with fail
  generalize ((w.alloc (.cells #[.slice a n cap, .int .i64 da, .int .i64 db, .int .i64 dc] 26)).alloc (.cells #[.int .i64 xq, .int .i64 xv, .int .i64 xp] 32)).alloc (.cells #[.slice none 0 0, .int .i64 0, .int .i64 0, .int .i64 0] 26) = W0 at *
  have b0 : w.heap.size < W0.heap.size := by omega
  have b2 : w.heap.size + 1 + 1 < W0.heap.size := by omega
  have hbl : w.heap.size ≤ W0.heap.size := by omega
  clear hS0
  have hRow := h.below hB0
  obtain ⟨p0, p1, p2, p3, -, -, -, -⟩ := id P0
  simp only at p1 p2 p3
  go_wp2_with fail
  refine (pool_of_none c W0 hm).mono ?_
  rintro e w' ⟨rfl, rfl⟩
  go_wp2_with fail
  refine (hownh.out W0 hRow).mono ?_
  rintro e w2 ⟨v2, rfl, hh3, hw2⟩
  obtain ⟨a2, c2, rfl, -⟩ := hh3.row hA.out
  obtain ⟨u0, u1, u2, u3, t0, t1, t2, t3⟩ := PR.below hw2 b2
  simp only at u1 u2 u3
  have k2 : w.heap.size + 1 + 1 < w2.heap.size := by have := hw2.size; omega
  have hbel3 : Below w.heap.size w w2 := hB0.trans (hw2.mono (by omega))
  clear P0 PR hw2 hB0 p0 p1 p2 p3 hownh
  go_wp2_with fail
  refine bodyPost_ret (v := .tuple #[.agg #[.slice a2 l.length c2, .int .i64 da, .int .i64 db, .int .i64 dc], .int .i64 0, .int .i64 12]) (by simp [results, Try.results16, go_sem, k2, u0, u1, u2, u3, t0, t1, t2, t3]) rfl ⟨_, rfl, Hold.mono (base := W0.heap.size) ?_ (by omega), ?_⟩
  · repeat (first | refine Hold.set ?_ (by omega) _ _ | exact hh3)
  · repeat (first | refine Below.setCell ?_ (by simp only; omega) _ | exact hbel3)

/-- pool.In, whatever the method. -/
theorem pool_In (m c : Int) (a : Option Addr) (cap : Nat) (l : List Lay) (d : Pnd) (x : Lay) (w : World) (h : Row w 3 a l.length cap (flat l)) (hL : LR l) (hl : l.length < 30) (hx : AllI [x.q, x.v, x.p]) (hc : I64 c) :
    Calls Try.prog 16 #[.int .i64 m, .int .i64 c, poolV (.slice a l.length cap) d, x.val] w (HoldPA w d (poolInS m c l x)) := by
  have hLR : LR (poolInS m c l x).1 := poolInS_LR hL
  have hno := @poolInS_no m c l x
  unfold poolInS at *
  by_cases h1 : m = 1
  · subst h1
    rw [if_pos rfl] at hLR hno ⊢
    exact pool_In_by 1 c _ _ _ _ a cap l d x w h hL (fun W => pool_of_1 c W) meth_first_in (fun args W => by kernel_rfl) (fun W hW => pool_first_in a cap l d x W hW hL hx) hLR hno
  rw [if_neg h1] at hLR hno ⊢
  by_cases h2 : m = 2
  · subst h2
    rw [if_pos rfl] at hLR hno ⊢
    exact pool_In_by 2 c _ _ _ _ a cap l d x w h hL (fun W => pool_of_2 c W) meth_moving_in (fun args W => by kernel_rfl) (fun W hW => pool_moving_in a cap l d x W hW hL hx) hLR hno
  rw [if_neg h2] at hLR hno ⊢
  by_cases h3 : m = 3
  · subst h3
    rw [if_pos rfl] at hLR hno ⊢
    exact pool_In_by 3 c _ _ _ _ a cap l d x w h hL (fun W => pool_of_3 c W) meth_periodic_in (fun args W => by kernel_rfl) (fun W hW => pool_periodic_in a cap l d x W hW hL hx) hLR hno
  rw [if_neg h3] at hLR hno ⊢
  by_cases h4 : m = 4
  · subst h4
    rw [if_pos rfl] at hLR hno ⊢
    exact pool_In_by 4 c _ _ _ _ a cap l d x w h hL (fun W => pool_of_4 c W) (meth_standard_in c) (fun args W => by kernel_rfl) (fun W hW => pool_standard_in a cap l d x c W hW hL hx hc hl) hLR hno
  rw [if_neg h4] at hLR hno ⊢
  exact pool_In_none m c a cap l d x w h (by omega) (by omega)
end Go.Proofs.Ytjccjmmbebiegaa
