/-
  pool: of, the methods. The walks.
-/
import Derived.Test.YtjccjmmbebiegaaPool1
set_option linter.unusedVariables false
set_option linter.unusedSimpArgs false
namespace Go.Proofs.Ytjccjmmbebiegaa
open Go.RowKit

/-- The method of a number. -/
def methV (m c : Int) : Value := if m = 1 then .iface 83 (.agg #[]) else if m = 2 then .iface 84 (.agg #[]) else if m = 3 then .iface 85 (.agg #[]) else if m = 4 then .iface 87 (.agg #[.int .i64 c]) else .nilIface

set_option maxHeartbeats 1000000 in
theorem pool_of (m c : Int) (w : World) : Calls Try.prog 34 #[.int .i64 m, .int .i64 c] w fun e w' => e = .returned (methV m c) ∧ w = w' := by
  unfold methV
  by_cases h1 : m = 1
  · subst h1
    go_enter Try.func34, Try.ntmps34
    go_wp2_with fail
    go_ret
    exact ⟨rfl, rfl⟩
  by_cases h2 : m = 2
  · subst h2
    go_enter Try.func34, Try.ntmps34
    go_wp2_with fail
    go_ret
    exact ⟨rfl, rfl⟩
  by_cases h3 : m = 3
  · subst h3
    go_enter Try.func34, Try.ntmps34
    go_wp2_with fail
    go_ret
    exact ⟨rfl, rfl⟩
  by_cases h4 : m = 4
  · subst h4
    go_enter Try.func34, Try.ntmps34
    go_wp2_with fail
    go_ret
    exact ⟨rfl, rfl⟩
  rw [if_neg h1, if_neg h2, if_neg h3, if_neg h4]
  go_enter Try.func34, Try.ntmps34
  go_wp2_with fail
  go_ret
  exact ⟨rfl, rfl⟩

theorem pool_of_none {m : Int} (c : Int) (w : World) (h : m < 1 ∨ 4 < m) : Calls Try.prog 34 #[.int .i64 m, .int .i64 c] w fun e w' => e = .returned .nilIface ∧ w = w' := by
  have := pool_of m c w
  unfold methV at this
  rwa [if_neg (by omega), if_neg (by omega), if_neg (by omega), if_neg (by omega)] at this

theorem pool_of_1 (c : Int) (w : World) : Calls Try.prog 34 #[.int .i64 1, .int .i64 c] w fun e w' => e = .returned (.iface 83 (.agg #[])) ∧ w = w' := pool_of 1 c w

theorem pool_of_2 (c : Int) (w : World) : Calls Try.prog 34 #[.int .i64 2, .int .i64 c] w fun e w' => e = .returned (.iface 84 (.agg #[])) ∧ w = w' := pool_of 2 c w

theorem pool_of_3 (c : Int) (w : World) : Calls Try.prog 34 #[.int .i64 3, .int .i64 c] w fun e w' => e = .returned (.iface 85 (.agg #[])) ∧ w = w' := pool_of 3 c w

theorem pool_of_4 (c : Int) (w : World) : Calls Try.prog 34 #[.int .i64 4, .int .i64 c] w fun e w' => e = .returned (.iface 87 (.agg #[.int .i64 c])) ∧ w = w' := pool_of 4 c w

/-- What a method's 'in' leaves: a pool, how much is above, an error. -/
def HoldPA (w : World) (d : Pnd) (r : List Lay × Int × Int) (e : Ending) (w' : World) : Prop :=
  ∃ v, e = .returned (.tuple #[poolV v d, .int .i64 r.2.1, .int .i64 r.2.2]) ∧ Hold w' w.heap.size v r.1 ∧ Below w.heap.size w w'
theorem inC_LR {l : List Lay} {x : Lay} {c : Int} (h : LR l) : LR (inC l x c).1 := by
  unfold inC
  split
  · exact h
  · split
    · exact h
    · split
      · exact inM_LR h
      · exact h
theorem outC_LR {l : List Lay} {q c : Int} (h : LR l) : LR (outC l q c).1 := by
  unfold outC
  split
  · exact h
  · have hm := outS_LR (q := q) h
    split
    · exact LR.nil
    · rename_i z t y e hO
      rw [hO] at hm
      split
      · exact hm
      · rename_i he
        have he0 : e = 0 := by simpa using he
        subst he0
        obtain ⟨s1, s2, s3⟩ := outS_sum h hO
        have hz := hm.at_ (x := z) (by simp)
        have hvs := h.v
        have hqv := (qs_pos hm.tail.ok).2.1
        rw [vs_cons] at s3
        have key : ∀ v : Int, (0 ≤ v ∧ v ≤ z.v + y.v) → LR (⟨z.q, z.v + (y.v - v), z.p⟩ :: t) := by
          intro v hv
          obtain ⟨a, b, cq, dv, ep⟩ := hm
          refine ⟨by simpa using a, fun x hx => ?_, ?_, ?_, ?_⟩
          · rcases List.mem_cons.1 hx with rfl | hx
            · exact layOk_iff.2 ⟨by simp only; omega, by simp only; omega, by simp only; omega, by simp only; omega, by simp only; omega, by simp only; omega⟩
            · exact b x (by simp [hx])
          · rw [qs_cons] at cq ⊢; exact cq
          · rw [vs_cons]; simp only; omega
          · rw [aps_cons] at ep ⊢; exact ep
        simp only
        apply key
        split
        · omega
        · rename_i hq
          have hfit : fitsR c = true := by cases hf : fitsR c <;> simp_all
          have := (of_bd (q := q) hfit).1
          omega


set_option maxRecDepth 20000 in
set_option maxHeartbeats 4000000 in
theorem pool_first_in (a : Option Addr) (cap : Nat) (l : List Lay) (d : Pnd) (x : Lay) (w : World) (h : Row w 3 a l.length cap (flat l)) (hL : LR l) (hx : AllI [x.q, x.v, x.p]) :
    Calls Try.prog 93 #[.agg #[], poolV (.slice a l.length cap) d, x.val] w (HoldPA w d ((inS l x).1, 0, (inS l x).2)) := by
  have hm : LR (inS l x).1 := inS_LR hL
  have hcall := fun W (hW : Row W 3 a l.length cap (flat l)) => fifo_In a cap l x W hW (by have := hL.len; omega) hx
  obtain ⟨m, e', hI⟩ : ∃ m e', inS l x = (m, e') := ⟨_, _, rfl⟩
  rw [hI] at hm hcall ⊢
  obtain ⟨n, hN⟩ : ∃ n, l.length = n := ⟨_, rfl⟩
  rw [hN] at h hcall ⊢
  have hcallh := Lib.hid hcall
  have hmh := Lib.hid hm
  clear hN hI hcall hm hL
  obtain ⟨xq, xv, xp⟩ := x
  obtain ⟨da, db, dc⟩ := d
  unfold poolV Lay.val
  simp only
  go_enter Try.func93, Try.ntmps93
  have hB0 : Below w.heap.size w ((((w.alloc (.cells #[] 83)).alloc (.cells #[.slice a n cap, .int .i64 da, .int .i64 db, .int .i64 dc] 26)).alloc (.cells #[.int .i64 xq, .int .i64 xv, .int .i64 xp] 32)).alloc (.cells #[.slice none 0 0, .int .i64 0, .int .i64 0, .int .i64 0] 26)) := by (repeat (first | assumption | exact Below.refl _ _ | refine ballc ?_ _ | refine bdrew ?_ | refine bdrewN ?_ _ | refine bset ?_ _ _ | refine bsetN ?_ (by omega) _ _ | refine bthen ?_ (by assumption)))
  have P0 := ((CellP.new (w.alloc (.cells #[] 83)) (.slice a n cap) ⟨da, db, dc⟩ 26).alloc (by simp) (.cells #[.int .i64 xq, .int .i64 xv, .int .i64 xp] 32)).alloc (by simp) (.cells #[.slice none 0 0, .int .i64 0, .int .i64 0, .int .i64 0] 26)
  have PR := CellP.new (((w.alloc (.cells #[] 83)).alloc (.cells #[.slice a n cap, .int .i64 da, .int .i64 db, .int .i64 dc] 26)).alloc (.cells #[.int .i64 xq, .int .i64 xv, .int .i64 xp] 32)) (.slice none 0 0) ⟨0, 0, 0⟩ 26
  simp only [World.size_alloc] at P0 PR
  have PX := (CellL.new ((w.alloc (.cells #[] 83)).alloc (.cells #[.slice a n cap, .int .i64 da, .int .i64 db, .int .i64 dc] 26)) ⟨xq, xv, xp⟩ 32).below ((Below.refl _ _).alloc (Nat.le_refl _) (.cells #[.slice none 0 0, .int .i64 0, .int .i64 0, .int .i64 0] 26)) (by simp)
  simp only [World.size_alloc] at PX
  have hS0 : ((((w.alloc (.cells #[] 83)).alloc (.cells #[.slice a n cap, .int .i64 da, .int .i64 db, .int .i64 dc] 26)).alloc (.cells #[.int .i64 xq, .int .i64 xv, .int .i64 xp] 32)).alloc (.cells #[.slice none 0 0, .int .i64 0, .int .i64 0, .int .i64 0] 26)).heap.size = w.heap.size + 1 + 1 + 1 + 1 := by simp
  go_upto_region 1 with fail
  generalize (((w.alloc (.cells #[] 83)).alloc (.cells #[.slice a n cap, .int .i64 da, .int .i64 db, .int .i64 dc] 26)).alloc (.cells #[.int .i64 xq, .int .i64 xv, .int .i64 xp] 32)).alloc (.cells #[.slice none 0 0, .int .i64 0, .int .i64 0, .int .i64 0] 26) = W0 at *
  have b0 : w.heap.size < W0.heap.size := by omega
  have b1 : w.heap.size + 1 < W0.heap.size := by omega
  have b2 : w.heap.size + 1 + 1 < W0.heap.size := by omega
  have b3 : w.heap.size + 1 + 1 + 1 < W0.heap.size := by omega
  have hbl : w.heap.size ≤ W0.heap.size := by omega
  clear hS0
  have hRow := h.below hB0
  obtain ⟨p0, p1, p2, p3, -, -, -, -⟩ := id P0
  simp only at p1 p2 p3
  obtain ⟨x0, x1, x2, -, -, -⟩ := id PX
  simp only at x0 x1 x2
  go_wp2_with fail
  refine (hcallh.out W0 hRow).mono ?_
  rintro e w1 ⟨v1, rfl, hh1, hw1⟩
  have hw1s := hw1.size
  have P1 := P0.below hw1 b1
  have PR1 := PR.below hw1 b3
  obtain ⟨a1, c1, rfl, -⟩ := hh1.row hmh.out.all
  have g1 : w.heap.size + 1 < w1.heap.size := by omega
  have g2 : w.heap.size + 1 + 1 < w1.heap.size := by omega
  have g3 : w.heap.size + 1 + 1 + 1 < w1.heap.size := by omega
  have hbel1 : Below w.heap.size w w1 := hB0.trans (hw1.mono hbl)
  obtain ⟨p0, p1, p2, p3, -, -, -, -⟩ := P1
  simp only at p1 p2 p3
  clear P0 PR PX hw1 hB0 hRow x0 x1 x2
  go_wp2_with fail
  refine (pool_with a a1 n cap m.length c1 ⟨da, db, dc⟩ _).mono ?_
  rintro e w2 ⟨rfl, hw2⟩
  have hw2s := hw2.size
  have hh2 := hh1.below hw2
  obtain ⟨r0, r1, r2, r3, s0, s1, s2, s3⟩ := PR1.below hw2 g3
  simp only at r1 r2 r3
  have k3 : w.heap.size + 1 + 1 + 1 < w2.heap.size := by omega
  have hbel2 : Below w.heap.size w w2 := hbel1.trans (hw2.mono (by omega))
  clear p0 p1 p2 p3 PR1 hw2
  unfold poolV
  go_wp2_with fail
  refine bodyPost_ret (v := .tuple #[.agg #[.slice a1 m.length c1, .int .i64 da, .int .i64 db, .int .i64 dc], .int .i64 0, .int .i64 e']) (by simp [results, Try.results93, go_sem, k3, r0, r1, r2, r3, s0, s1, s2, s3]) rfl ⟨_, rfl, Hold.mono (base := W0.heap.size) ?_ hbl, ?_⟩
  · repeat (first | refine Hold.set ?_ (by omega) _ _ | exact hh2)
  · repeat (first | refine Below.setCell ?_ (by simp only; omega) _ | exact hbel2)

set_option maxRecDepth 20000 in
set_option maxHeartbeats 4000000 in
theorem pool_first_out (a : Option Addr) (cap : Nat) (l : List Lay) (d : Pnd) (q : Int) (w : World) (h : Row w 3 a l.length cap (flat l)) (hL : LR l) (hq : I64 q) :
    Calls Try.prog 94 #[.agg #[], poolV (.slice a l.length cap) d, .int .i64 q] w (HoldPO w d (outS l q)) := by
  have hm : LR (outS l q).1 := outS_LR hL
  have hcall := fun W (hW : Row W 3 a l.length cap (flat l)) => fifo_Out a cap l W hW hL q hq
  obtain ⟨m, y, e', hI⟩ : ∃ m y e', outS l q = (m, y, e') := ⟨_, _, _, rfl⟩
  rw [hI] at hm hcall ⊢
  obtain ⟨n, hN⟩ : ∃ n, l.length = n := ⟨_, rfl⟩
  rw [hN] at h hcall ⊢
  have hcallh := Lib.hid hcall
  have hmh := Lib.hid hm
  clear hN hI hcall hm hL
  obtain ⟨da, db, dc⟩ := d
  unfold poolV
  simp only
  go_enter Try.func94, Try.ntmps94
  have hB0 : Below w.heap.size w ((((w.alloc (.cells #[] 83)).alloc (.cells #[.slice a n cap, .int .i64 da, .int .i64 db, .int .i64 dc] 26)).alloc (.cells #[.slice none 0 0, .int .i64 0, .int .i64 0, .int .i64 0] 26)).alloc (.cells #[.int .i64 0, .int .i64 0, .int .i64 0] 32)) := by (repeat (first | assumption | exact Below.refl _ _ | refine ballc ?_ _ | refine bdrew ?_ | refine bdrewN ?_ _ | refine bset ?_ _ _ | refine bsetN ?_ (by omega) _ _ | refine bthen ?_ (by assumption)))
  have P0 := ((CellP.new (w.alloc (.cells #[] 83)) (.slice a n cap) ⟨da, db, dc⟩ 26).alloc (by simp) (.cells #[.slice none 0 0, .int .i64 0, .int .i64 0, .int .i64 0] 26)).alloc (by simp) (.cells #[.int .i64 0, .int .i64 0, .int .i64 0] 32)
  have PR := (CellP.new ((w.alloc (.cells #[] 83)).alloc (.cells #[.slice a n cap, .int .i64 da, .int .i64 db, .int .i64 dc] 26)) (.slice none 0 0) ⟨0, 0, 0⟩ 26).alloc (by simp) (.cells #[.int .i64 0, .int .i64 0, .int .i64 0] 32)
  simp only [World.size_alloc] at P0 PR
  have PX := CellL.new (((w.alloc (.cells #[] 83)).alloc (.cells #[.slice a n cap, .int .i64 da, .int .i64 db, .int .i64 dc] 26)).alloc (.cells #[.slice none 0 0, .int .i64 0, .int .i64 0, .int .i64 0] 26)) ⟨0, 0, 0⟩ 32
  simp only [World.size_alloc] at PX
  have hS0 : ((((w.alloc (.cells #[] 83)).alloc (.cells #[.slice a n cap, .int .i64 da, .int .i64 db, .int .i64 dc] 26)).alloc (.cells #[.slice none 0 0, .int .i64 0, .int .i64 0, .int .i64 0] 26)).alloc (.cells #[.int .i64 0, .int .i64 0, .int .i64 0] 32)).heap.size = w.heap.size + 1 + 1 + 1 + 1 := by simp
  go_upto_region 1 with fail
  generalize (((w.alloc (.cells #[] 83)).alloc (.cells #[.slice a n cap, .int .i64 da, .int .i64 db, .int .i64 dc] 26)).alloc (.cells #[.slice none 0 0, .int .i64 0, .int .i64 0, .int .i64 0] 26)).alloc (.cells #[.int .i64 0, .int .i64 0, .int .i64 0] 32) = W0 at *
  have b0 : w.heap.size < W0.heap.size := by omega
  have b1 : w.heap.size + 1 < W0.heap.size := by omega
  have b2 : w.heap.size + 1 + 1 < W0.heap.size := by omega
  have b3 : w.heap.size + 1 + 1 + 1 < W0.heap.size := by omega
  have hbl : w.heap.size ≤ W0.heap.size := by omega
  clear hS0
  have hRow := h.below hB0
  obtain ⟨p0, p1, p2, p3, -, -, -, -⟩ := id P0
  simp only at p1 p2 p3
  go_wp2_with fail
  refine (hcallh.out W0 hRow).mono ?_
  rintro e w1 ⟨v1, rfl, hh1, hw1⟩
  have hw1s := hw1.size
  have P1 := P0.below hw1 b1
  have PR1 := PR.below hw1 b2
  have PX1 := PX.below hw1 b3
  obtain ⟨a1, c1, rfl, -⟩ := hh1.row hmh.out.all
  have g1 : w.heap.size + 1 < w1.heap.size := by omega
  have g2 : w.heap.size + 1 + 1 < w1.heap.size := by omega
  have g3 : w.heap.size + 1 + 1 + 1 < w1.heap.size := by omega
  have hbel1 : Below w.heap.size w w1 := hB0.trans (hw1.mono hbl)
  have P1k := P1
  obtain ⟨p0, p1, p2, p3, -, -, -, -⟩ := P1
  simp only at p1 p2 p3
  obtain ⟨yq, yv, yp⟩ := y
  unfold Lay.val
  simp only
  clear P0 PR PX hw1 hB0 hRow
  have hal : Below w1.heap.size w1 (w1.alloc (.cells #[.int .i64 yq, .int .i64 yv, .int .i64 yp] 32)) := (Below.refl _ _).alloc (Nat.le_refl _) _
  have P2 := P1k.below hal g1
  have PR2 := PR1.below hal g2
  have PX2 := PX1.below hal g3
  have PY := CellL.new w1 ⟨yq, yv, yp⟩ 32
  have hh2 := hh1.below hal
  have hbel2 : Below w.heap.size w (w1.alloc (.cells #[.int .i64 yq, .int .i64 yv, .int .i64 yp] 32)) := hbel1.trans (hal.mono (by omega))
  have hsz : (w1.alloc (.cells #[.int .i64 yq, .int .i64 yv, .int .i64 yp] 32)).heap.size = w1.heap.size + 1 := by simp
  obtain ⟨Y, hY⟩ : ∃ Y, w1.heap.size = Y := ⟨_, rfl⟩
  go_upto_region 2 with fail
  generalize w1.alloc (.cells #[.int .i64 yq, .int .i64 yv, .int .i64 yp] 32) = W1 at *
  try rw [hY]
  rw [hY] at PY hsz g1 g2 g3 hw1s
  clear hY P1k PR1 PX1 hh1 hbel1 hal p0 p1 p2 p3
  have f1 : w.heap.size + 1 < W1.heap.size := by omega
  have f2 : w.heap.size + 1 + 1 < W1.heap.size := by omega
  have f3 : w.heap.size + 1 + 1 + 1 < W1.heap.size := by omega
  have fY : Y < W1.heap.size := by omega
  have eY1 : Y ≠ w.heap.size + 1 + 1 := by omega
  have eY2 : Y ≠ w.heap.size + 1 + 1 + 1 := by omega
  have hdr : Below W1.heap.size W1 W1.drew := (Below.refl _ _).drew
  obtain ⟨p0, p1, p2, p3, -, -, -, -⟩ := P2
  obtain ⟨y0, y1, y2, -, -, -⟩ := id PY
  simp only at p1 p2 p3 y0 y1 y2
  clear hsz
  go_region_with (go_at_call 57; refine (pool_with a a1 n cap m.length c1 ⟨da, db, dc⟩ _).mono ?_; unfold poolV; simp only; rintro e w2 ⟨rfl, hw2⟩; have hw2s := hw2.size; have hW2 : Below W1.heap.size W1 w2 := hdr.trans (hw2.mono (by simp)); obtain ⟨r0, r1, r2, r3, s0, s1, s2, s3⟩ := PR2.below hW2 f2; obtain ⟨z0, z1, z2, t0, t1, t2⟩ := PX2.below hW2 f3; obtain ⟨v0, v1, v2, -, -, -⟩ := PY.below hW2 fY; simp only at r1 r2 r3 z0 z1 z2 v0 v1 v2; have k2 : w.heap.size + 1 + 1 < w2.heap.size := (by have := hW2.size; omega); have k3 : w.heap.size + 1 + 1 + 1 < w2.heap.size := (by have := hW2.size; omega); have kY : Y < w2.heap.size := (by have := hW2.size; omega))
  all_goals
    have hh3 := hh2.below hW2
    have hbel3 : Below w.heap.size w w2 := hbel2.trans (hW2.mono (by omega))
    go_wp2_with fail
    refine bodyPost_ret (v := .tuple #[.agg #[.slice a1 m.length c1, .int .i64 da, .int .i64 db, .int .i64 dc], .agg #[.int .i64 yq, .int .i64 yv, .int .i64 yp], .int .i64 e']) (by simp [results, Try.results94, go_sem, k2, k3, r0, r1, r2, r3, s0, s1, s2, s3, z0, z1, z2, t0, t1, t2]) rfl ⟨_, rfl, Hold.mono (base := W0.heap.size) ?_ hbl, ?_⟩
    · repeat (first | refine Hold.set ?_ (by omega) _ _ | exact hh3)
    · repeat (first | refine Below.setCell ?_ (by simp only; omega) _ | exact hbel3)

set_option maxRecDepth 20000 in
set_option maxHeartbeats 4000000 in
theorem pool_moving_in (a : Option Addr) (cap : Nat) (l : List Lay) (d : Pnd) (x : Lay) (w : World) (h : Row w 3 a l.length cap (flat l)) (hL : LR l) (hx : AllI [x.q, x.v, x.p]) :
    Calls Try.prog 95 #[.agg #[], poolV (.slice a l.length cap) d, x.val] w (HoldPA w d ((inM l x).1, 0, (inM l x).2)) := by
  have hm : LR (inM l x).1 := inM_LR hL
  have hcall := fun W (hW : Row W 3 a l.length cap (flat l)) => mavg_In a cap l x W hW (by have := hL.len; omega) hx
  obtain ⟨m, e', hI⟩ : ∃ m e', inM l x = (m, e') := ⟨_, _, rfl⟩
  rw [hI] at hm hcall ⊢
  obtain ⟨n, hN⟩ : ∃ n, l.length = n := ⟨_, rfl⟩
  rw [hN] at h hcall ⊢
  have hcallh := Lib.hid hcall
  have hmh := Lib.hid hm
  clear hN hI hcall hm hL
  obtain ⟨xq, xv, xp⟩ := x
  obtain ⟨da, db, dc⟩ := d
  unfold poolV Lay.val
  simp only
  go_enter Try.func95, Try.ntmps95
  have hB0 : Below w.heap.size w ((((w.alloc (.cells #[] 84)).alloc (.cells #[.slice a n cap, .int .i64 da, .int .i64 db, .int .i64 dc] 26)).alloc (.cells #[.int .i64 xq, .int .i64 xv, .int .i64 xp] 32)).alloc (.cells #[.slice none 0 0, .int .i64 0, .int .i64 0, .int .i64 0] 26)) := by (repeat (first | assumption | exact Below.refl _ _ | refine ballc ?_ _ | refine bdrew ?_ | refine bdrewN ?_ _ | refine bset ?_ _ _ | refine bsetN ?_ (by omega) _ _ | refine bthen ?_ (by assumption)))
  have P0 := ((CellP.new (w.alloc (.cells #[] 84)) (.slice a n cap) ⟨da, db, dc⟩ 26).alloc (by simp) (.cells #[.int .i64 xq, .int .i64 xv, .int .i64 xp] 32)).alloc (by simp) (.cells #[.slice none 0 0, .int .i64 0, .int .i64 0, .int .i64 0] 26)
  have PR := CellP.new (((w.alloc (.cells #[] 84)).alloc (.cells #[.slice a n cap, .int .i64 da, .int .i64 db, .int .i64 dc] 26)).alloc (.cells #[.int .i64 xq, .int .i64 xv, .int .i64 xp] 32)) (.slice none 0 0) ⟨0, 0, 0⟩ 26
  simp only [World.size_alloc] at P0 PR
  have PX := (CellL.new ((w.alloc (.cells #[] 84)).alloc (.cells #[.slice a n cap, .int .i64 da, .int .i64 db, .int .i64 dc] 26)) ⟨xq, xv, xp⟩ 32).below ((Below.refl _ _).alloc (Nat.le_refl _) (.cells #[.slice none 0 0, .int .i64 0, .int .i64 0, .int .i64 0] 26)) (by simp)
  simp only [World.size_alloc] at PX
  have hS0 : ((((w.alloc (.cells #[] 84)).alloc (.cells #[.slice a n cap, .int .i64 da, .int .i64 db, .int .i64 dc] 26)).alloc (.cells #[.int .i64 xq, .int .i64 xv, .int .i64 xp] 32)).alloc (.cells #[.slice none 0 0, .int .i64 0, .int .i64 0, .int .i64 0] 26)).heap.size = w.heap.size + 1 + 1 + 1 + 1 := by simp
  go_upto_region 1 with fail
  generalize (((w.alloc (.cells #[] 84)).alloc (.cells #[.slice a n cap, .int .i64 da, .int .i64 db, .int .i64 dc] 26)).alloc (.cells #[.int .i64 xq, .int .i64 xv, .int .i64 xp] 32)).alloc (.cells #[.slice none 0 0, .int .i64 0, .int .i64 0, .int .i64 0] 26) = W0 at *
  have b0 : w.heap.size < W0.heap.size := by omega
  have b1 : w.heap.size + 1 < W0.heap.size := by omega
  have b2 : w.heap.size + 1 + 1 < W0.heap.size := by omega
  have b3 : w.heap.size + 1 + 1 + 1 < W0.heap.size := by omega
  have hbl : w.heap.size ≤ W0.heap.size := by omega
  clear hS0
  have hRow := h.below hB0
  obtain ⟨p0, p1, p2, p3, -, -, -, -⟩ := id P0
  simp only at p1 p2 p3
  obtain ⟨x0, x1, x2, -, -, -⟩ := id PX
  simp only at x0 x1 x2
  go_wp2_with fail
  refine (hcallh.out W0 hRow).mono ?_
  rintro e w1 ⟨v1, rfl, hh1, hw1⟩
  have hw1s := hw1.size
  have P1 := P0.below hw1 b1
  have PR1 := PR.below hw1 b3
  obtain ⟨a1, c1, rfl, -⟩ := hh1.row hmh.out.all
  have g1 : w.heap.size + 1 < w1.heap.size := by omega
  have g2 : w.heap.size + 1 + 1 < w1.heap.size := by omega
  have g3 : w.heap.size + 1 + 1 + 1 < w1.heap.size := by omega
  have hbel1 : Below w.heap.size w w1 := hB0.trans (hw1.mono hbl)
  obtain ⟨p0, p1, p2, p3, -, -, -, -⟩ := P1
  simp only at p1 p2 p3
  clear P0 PR PX hw1 hB0 hRow x0 x1 x2
  go_wp2_with fail
  refine (pool_with a a1 n cap m.length c1 ⟨da, db, dc⟩ _).mono ?_
  rintro e w2 ⟨rfl, hw2⟩
  have hw2s := hw2.size
  have hh2 := hh1.below hw2
  obtain ⟨r0, r1, r2, r3, s0, s1, s2, s3⟩ := PR1.below hw2 g3
  simp only at r1 r2 r3
  have k3 : w.heap.size + 1 + 1 + 1 < w2.heap.size := by omega
  have hbel2 : Below w.heap.size w w2 := hbel1.trans (hw2.mono (by omega))
  clear p0 p1 p2 p3 PR1 hw2
  unfold poolV
  go_wp2_with fail
  refine bodyPost_ret (v := .tuple #[.agg #[.slice a1 m.length c1, .int .i64 da, .int .i64 db, .int .i64 dc], .int .i64 0, .int .i64 e']) (by simp [results, Try.results95, go_sem, k3, r0, r1, r2, r3, s0, s1, s2, s3]) rfl ⟨_, rfl, Hold.mono (base := W0.heap.size) ?_ hbl, ?_⟩
  · repeat (first | refine Hold.set ?_ (by omega) _ _ | exact hh2)
  · repeat (first | refine Below.setCell ?_ (by simp only; omega) _ | exact hbel2)

set_option maxRecDepth 20000 in
set_option maxHeartbeats 4000000 in
theorem pool_moving_out (a : Option Addr) (cap : Nat) (l : List Lay) (d : Pnd) (q : Int) (w : World) (h : Row w 3 a l.length cap (flat l)) (hL : LR l) (hq : I64 q) :
    Calls Try.prog 96 #[.agg #[], poolV (.slice a l.length cap) d, .int .i64 q] w (HoldPO w d (outS l q)) := by
  have hm : LR (outS l q).1 := outS_LR hL
  have hcall := fun W (hW : Row W 3 a l.length cap (flat l)) => mavg_Out a cap l W hW hL q hq
  obtain ⟨m, y, e', hI⟩ : ∃ m y e', outS l q = (m, y, e') := ⟨_, _, _, rfl⟩
  rw [hI] at hm hcall ⊢
  obtain ⟨n, hN⟩ : ∃ n, l.length = n := ⟨_, rfl⟩
  rw [hN] at h hcall ⊢
  have hcallh := Lib.hid hcall
  have hmh := Lib.hid hm
  clear hN hI hcall hm hL
  obtain ⟨da, db, dc⟩ := d
  unfold poolV
  simp only
  go_enter Try.func96, Try.ntmps96
  have hB0 : Below w.heap.size w ((((w.alloc (.cells #[] 84)).alloc (.cells #[.slice a n cap, .int .i64 da, .int .i64 db, .int .i64 dc] 26)).alloc (.cells #[.slice none 0 0, .int .i64 0, .int .i64 0, .int .i64 0] 26)).alloc (.cells #[.int .i64 0, .int .i64 0, .int .i64 0] 32)) := by (repeat (first | assumption | exact Below.refl _ _ | refine ballc ?_ _ | refine bdrew ?_ | refine bdrewN ?_ _ | refine bset ?_ _ _ | refine bsetN ?_ (by omega) _ _ | refine bthen ?_ (by assumption)))
  have P0 := ((CellP.new (w.alloc (.cells #[] 84)) (.slice a n cap) ⟨da, db, dc⟩ 26).alloc (by simp) (.cells #[.slice none 0 0, .int .i64 0, .int .i64 0, .int .i64 0] 26)).alloc (by simp) (.cells #[.int .i64 0, .int .i64 0, .int .i64 0] 32)
  have PR := (CellP.new ((w.alloc (.cells #[] 84)).alloc (.cells #[.slice a n cap, .int .i64 da, .int .i64 db, .int .i64 dc] 26)) (.slice none 0 0) ⟨0, 0, 0⟩ 26).alloc (by simp) (.cells #[.int .i64 0, .int .i64 0, .int .i64 0] 32)
  simp only [World.size_alloc] at P0 PR
  have PX := CellL.new (((w.alloc (.cells #[] 84)).alloc (.cells #[.slice a n cap, .int .i64 da, .int .i64 db, .int .i64 dc] 26)).alloc (.cells #[.slice none 0 0, .int .i64 0, .int .i64 0, .int .i64 0] 26)) ⟨0, 0, 0⟩ 32
  simp only [World.size_alloc] at PX
  have hS0 : ((((w.alloc (.cells #[] 84)).alloc (.cells #[.slice a n cap, .int .i64 da, .int .i64 db, .int .i64 dc] 26)).alloc (.cells #[.slice none 0 0, .int .i64 0, .int .i64 0, .int .i64 0] 26)).alloc (.cells #[.int .i64 0, .int .i64 0, .int .i64 0] 32)).heap.size = w.heap.size + 1 + 1 + 1 + 1 := by simp
  go_upto_region 1 with fail
  generalize (((w.alloc (.cells #[] 84)).alloc (.cells #[.slice a n cap, .int .i64 da, .int .i64 db, .int .i64 dc] 26)).alloc (.cells #[.slice none 0 0, .int .i64 0, .int .i64 0, .int .i64 0] 26)).alloc (.cells #[.int .i64 0, .int .i64 0, .int .i64 0] 32) = W0 at *
  have b0 : w.heap.size < W0.heap.size := by omega
  have b1 : w.heap.size + 1 < W0.heap.size := by omega
  have b2 : w.heap.size + 1 + 1 < W0.heap.size := by omega
  have b3 : w.heap.size + 1 + 1 + 1 < W0.heap.size := by omega
  have hbl : w.heap.size ≤ W0.heap.size := by omega
  clear hS0
  have hRow := h.below hB0
  obtain ⟨p0, p1, p2, p3, -, -, -, -⟩ := id P0
  simp only at p1 p2 p3
  go_wp2_with fail
  refine (hcallh.out W0 hRow).mono ?_
  rintro e w1 ⟨v1, rfl, hh1, hw1⟩
  have hw1s := hw1.size
  have P1 := P0.below hw1 b1
  have PR1 := PR.below hw1 b2
  have PX1 := PX.below hw1 b3
  obtain ⟨a1, c1, rfl, -⟩ := hh1.row hmh.out.all
  have g1 : w.heap.size + 1 < w1.heap.size := by omega
  have g2 : w.heap.size + 1 + 1 < w1.heap.size := by omega
  have g3 : w.heap.size + 1 + 1 + 1 < w1.heap.size := by omega
  have hbel1 : Below w.heap.size w w1 := hB0.trans (hw1.mono hbl)
  have P1k := P1
  obtain ⟨p0, p1, p2, p3, -, -, -, -⟩ := P1
  simp only at p1 p2 p3
  obtain ⟨yq, yv, yp⟩ := y
  unfold Lay.val
  simp only
  clear P0 PR PX hw1 hB0 hRow
  have hal : Below w1.heap.size w1 (w1.alloc (.cells #[.int .i64 yq, .int .i64 yv, .int .i64 yp] 32)) := (Below.refl _ _).alloc (Nat.le_refl _) _
  have P2 := P1k.below hal g1
  have PR2 := PR1.below hal g2
  have PX2 := PX1.below hal g3
  have PY := CellL.new w1 ⟨yq, yv, yp⟩ 32
  have hh2 := hh1.below hal
  have hbel2 : Below w.heap.size w (w1.alloc (.cells #[.int .i64 yq, .int .i64 yv, .int .i64 yp] 32)) := hbel1.trans (hal.mono (by omega))
  have hsz : (w1.alloc (.cells #[.int .i64 yq, .int .i64 yv, .int .i64 yp] 32)).heap.size = w1.heap.size + 1 := by simp
  obtain ⟨Y, hY⟩ : ∃ Y, w1.heap.size = Y := ⟨_, rfl⟩
  go_upto_region 2 with fail
  generalize w1.alloc (.cells #[.int .i64 yq, .int .i64 yv, .int .i64 yp] 32) = W1 at *
  try rw [hY]
  rw [hY] at PY hsz g1 g2 g3 hw1s
  clear hY P1k PR1 PX1 hh1 hbel1 hal p0 p1 p2 p3
  have f1 : w.heap.size + 1 < W1.heap.size := by omega
  have f2 : w.heap.size + 1 + 1 < W1.heap.size := by omega
  have f3 : w.heap.size + 1 + 1 + 1 < W1.heap.size := by omega
  have fY : Y < W1.heap.size := by omega
  have eY1 : Y ≠ w.heap.size + 1 + 1 := by omega
  have eY2 : Y ≠ w.heap.size + 1 + 1 + 1 := by omega
  have hdr : Below W1.heap.size W1 W1.drew := (Below.refl _ _).drew
  obtain ⟨p0, p1, p2, p3, -, -, -, -⟩ := P2
  obtain ⟨y0, y1, y2, -, -, -⟩ := id PY
  simp only at p1 p2 p3 y0 y1 y2
  clear hsz
  go_region_with (go_at_call 57; refine (pool_with a a1 n cap m.length c1 ⟨da, db, dc⟩ _).mono ?_; unfold poolV; simp only; rintro e w2 ⟨rfl, hw2⟩; have hw2s := hw2.size; have hW2 : Below W1.heap.size W1 w2 := hdr.trans (hw2.mono (by simp)); obtain ⟨r0, r1, r2, r3, s0, s1, s2, s3⟩ := PR2.below hW2 f2; obtain ⟨z0, z1, z2, t0, t1, t2⟩ := PX2.below hW2 f3; obtain ⟨v0, v1, v2, -, -, -⟩ := PY.below hW2 fY; simp only at r1 r2 r3 z0 z1 z2 v0 v1 v2; have k2 : w.heap.size + 1 + 1 < w2.heap.size := (by have := hW2.size; omega); have k3 : w.heap.size + 1 + 1 + 1 < w2.heap.size := (by have := hW2.size; omega); have kY : Y < w2.heap.size := (by have := hW2.size; omega))
  all_goals
    have hh3 := hh2.below hW2
    have hbel3 : Below w.heap.size w w2 := hbel2.trans (hW2.mono (by omega))
    go_wp2_with fail
    refine bodyPost_ret (v := .tuple #[.agg #[.slice a1 m.length c1, .int .i64 da, .int .i64 db, .int .i64 dc], .agg #[.int .i64 yq, .int .i64 yv, .int .i64 yp], .int .i64 e']) (by simp [results, Try.results96, go_sem, k2, k3, r0, r1, r2, r3, s0, s1, s2, s3, z0, z1, z2, t0, t1, t2]) rfl ⟨_, rfl, Hold.mono (base := W0.heap.size) ?_ hbl, ?_⟩
    · repeat (first | refine Hold.set ?_ (by omega) _ _ | exact hh3)
    · repeat (first | refine Below.setCell ?_ (by simp only; omega) _ | exact hbel3)

set_option maxRecDepth 20000 in
set_option maxHeartbeats 4000000 in
theorem pool_standard_in (a : Option Addr) (cap : Nat) (l : List Lay) (d : Pnd) (x : Lay) (c : Int) (w : World) (h : Row w 3 a l.length cap (flat l)) (hL : LR l) (hx : AllI [x.q, x.v, x.p]) (hc : I64 c) (hl : l.length < 30) :
    Calls Try.prog 99 #[.agg #[.int .i64 c], poolV (.slice a l.length cap) d, x.val] w (HoldPA w d (inC l x c)) := by
  have hm : LR (inC l x c).1 := inC_LR hL
  have hcall := fun W (hW : Row W 3 a l.length cap (flat l)) => std_In a cap l x c W hW hl hx hc
  obtain ⟨m, up, e', hI⟩ : ∃ m up e', inC l x c = (m, up, e') := ⟨_, _, _, rfl⟩
  rw [hI] at hm hcall ⊢
  obtain ⟨n, hN⟩ : ∃ n, l.length = n := ⟨_, rfl⟩
  rw [hN] at h hcall ⊢
  have hcallh := Lib.hid hcall
  have hmh := Lib.hid hm
  clear hN hI hcall hm hL
  obtain ⟨xq, xv, xp⟩ := x
  obtain ⟨da, db, dc⟩ := d
  unfold poolV Lay.val
  simp only
  go_enter Try.func99, Try.ntmps99
  have hB0 : Below w.heap.size w ((((w.alloc (.cells #[.int .i64 c] 87)).alloc (.cells #[.slice a n cap, .int .i64 da, .int .i64 db, .int .i64 dc] 26)).alloc (.cells #[.int .i64 xq, .int .i64 xv, .int .i64 xp] 32)).alloc (.cells #[.slice none 0 0, .int .i64 0, .int .i64 0, .int .i64 0] 26)) := by (repeat (first | assumption | exact Below.refl _ _ | refine ballc ?_ _ | refine bdrew ?_ | refine bdrewN ?_ _ | refine bset ?_ _ _ | refine bsetN ?_ (by omega) _ _ | refine bthen ?_ (by assumption)))
  have P0 := ((CellP.new (w.alloc (.cells #[.int .i64 c] 87)) (.slice a n cap) ⟨da, db, dc⟩ 26).alloc (by simp) (.cells #[.int .i64 xq, .int .i64 xv, .int .i64 xp] 32)).alloc (by simp) (.cells #[.slice none 0 0, .int .i64 0, .int .i64 0, .int .i64 0] 26)
  have PR := CellP.new (((w.alloc (.cells #[.int .i64 c] 87)).alloc (.cells #[.slice a n cap, .int .i64 da, .int .i64 db, .int .i64 dc] 26)).alloc (.cells #[.int .i64 xq, .int .i64 xv, .int .i64 xp] 32)) (.slice none 0 0) ⟨0, 0, 0⟩ 26
  simp only [World.size_alloc] at P0 PR
  have PX := (CellL.new ((w.alloc (.cells #[.int .i64 c] 87)).alloc (.cells #[.slice a n cap, .int .i64 da, .int .i64 db, .int .i64 dc] 26)) ⟨xq, xv, xp⟩ 32).below ((Below.refl _ _).alloc (Nat.le_refl _) (.cells #[.slice none 0 0, .int .i64 0, .int .i64 0, .int .i64 0] 26)) (by simp)
  simp only [World.size_alloc] at PX
  have hcc : ((((w.alloc (.cells #[.int .i64 c] 87)).alloc (.cells #[.slice a n cap, .int .i64 da, .int .i64 db, .int .i64 dc] 26)).alloc (.cells #[.int .i64 xq, .int .i64 xv, .int .i64 xp] 32)).alloc (.cells #[.slice none 0 0, .int .i64 0, .int .i64 0, .int .i64 0] 26)).cell? ⟨w.heap.size, 0, none⟩ = some (.int .i64 c) := (((((Below.refl (w.heap.size + 1) (w.alloc (.cells #[.int .i64 c] 87))).alloc (by simp) (.cells #[.slice a n cap, .int .i64 da, .int .i64 db, .int .i64 dc] 26)).alloc (by simp) (.cells #[.int .i64 xq, .int .i64 xv, .int .i64 xp] 32)).alloc (by simp) (.cells #[.slice none 0 0, .int .i64 0, .int .i64 0, .int .i64 0] 26)).cell (p := ⟨w.heap.size, 0, none⟩) (by simp)).trans (by simp)
  have hS0 : ((((w.alloc (.cells #[.int .i64 c] 87)).alloc (.cells #[.slice a n cap, .int .i64 da, .int .i64 db, .int .i64 dc] 26)).alloc (.cells #[.int .i64 xq, .int .i64 xv, .int .i64 xp] 32)).alloc (.cells #[.slice none 0 0, .int .i64 0, .int .i64 0, .int .i64 0] 26)).heap.size = w.heap.size + 1 + 1 + 1 + 1 := by simp
  go_upto_region 1 with fail
  generalize (((w.alloc (.cells #[.int .i64 c] 87)).alloc (.cells #[.slice a n cap, .int .i64 da, .int .i64 db, .int .i64 dc] 26)).alloc (.cells #[.int .i64 xq, .int .i64 xv, .int .i64 xp] 32)).alloc (.cells #[.slice none 0 0, .int .i64 0, .int .i64 0, .int .i64 0] 26) = W0 at *
  have b0 : w.heap.size < W0.heap.size := by omega
  have b1 : w.heap.size + 1 < W0.heap.size := by omega
  have b2 : w.heap.size + 1 + 1 < W0.heap.size := by omega
  have b3 : w.heap.size + 1 + 1 + 1 < W0.heap.size := by omega
  have hbl : w.heap.size ≤ W0.heap.size := by omega
  clear hS0
  have hRow := h.below hB0
  obtain ⟨p0, p1, p2, p3, -, -, -, -⟩ := id P0
  simp only at p1 p2 p3
  obtain ⟨x0, x1, x2, -, -, -⟩ := id PX
  simp only at x0 x1 x2
  go_wp2_with fail
  refine (hcallh.out W0 hRow).mono ?_
  rintro e w1 ⟨v1, rfl, hh1, hw1⟩
  have hw1s := hw1.size
  have P1 := P0.below hw1 b1
  have PR1 := PR.below hw1 b3
  obtain ⟨a1, c1, rfl, -⟩ := hh1.row hmh.out.all
  have g1 : w.heap.size + 1 < w1.heap.size := by omega
  have g2 : w.heap.size + 1 + 1 < w1.heap.size := by omega
  have g3 : w.heap.size + 1 + 1 + 1 < w1.heap.size := by omega
  have hbel1 : Below w.heap.size w w1 := hB0.trans (hw1.mono hbl)
  obtain ⟨p0, p1, p2, p3, -, -, -, -⟩ := P1
  simp only at p1 p2 p3
  clear P0 PR PX hw1 hB0 hRow x0 x1 x2 hcc
  go_wp2_with fail
  refine (pool_with a a1 n cap m.length c1 ⟨da, db, dc⟩ _).mono ?_
  rintro e w2 ⟨rfl, hw2⟩
  have hw2s := hw2.size
  have hh2 := hh1.below hw2
  obtain ⟨r0, r1, r2, r3, s0, s1, s2, s3⟩ := PR1.below hw2 g3
  simp only at r1 r2 r3
  have k3 : w.heap.size + 1 + 1 + 1 < w2.heap.size := by omega
  have hbel2 : Below w.heap.size w w2 := hbel1.trans (hw2.mono (by omega))
  clear p0 p1 p2 p3 PR1 hw2
  unfold poolV
  go_wp2_with fail
  refine bodyPost_ret (v := .tuple #[.agg #[.slice a1 m.length c1, .int .i64 da, .int .i64 db, .int .i64 dc], .int .i64 up, .int .i64 e']) (by simp [results, Try.results99, go_sem, k3, r0, r1, r2, r3, s0, s1, s2, s3]) rfl ⟨_, rfl, Hold.mono (base := W0.heap.size) ?_ hbl, ?_⟩
  · repeat (first | refine Hold.set ?_ (by omega) _ _ | exact hh2)
  · repeat (first | refine Below.setCell ?_ (by simp only; omega) _ | exact hbel2)

set_option maxRecDepth 20000 in
set_option maxHeartbeats 4000000 in
theorem pool_standard_out (a : Option Addr) (cap : Nat) (l : List Lay) (d : Pnd) (q c : Int) (w : World) (h : Row w 3 a l.length cap (flat l)) (hL : LR l) (hq : I64 q) (hc : I64 c) :
    Calls Try.prog 100 #[.agg #[.int .i64 c], poolV (.slice a l.length cap) d, .int .i64 q] w (HoldPO w d (outC l q c)) := by
  have hm : LR (outC l q c).1 := outC_LR hL
  have hcall := fun W (hW : Row W 3 a l.length cap (flat l)) => std_Out a cap l q c W hW hL hq hc
  obtain ⟨m, y, e', hI⟩ : ∃ m y e', outC l q c = (m, y, e') := ⟨_, _, _, rfl⟩
  rw [hI] at hm hcall ⊢
  obtain ⟨n, hN⟩ : ∃ n, l.length = n := ⟨_, rfl⟩
  rw [hN] at h hcall ⊢
  have hcallh := Lib.hid hcall
  have hmh := Lib.hid hm
  clear hN hI hcall hm hL
  obtain ⟨da, db, dc⟩ := d
  unfold poolV
  simp only
  go_enter Try.func100, Try.ntmps100
  have hB0 : Below w.heap.size w ((((w.alloc (.cells #[.int .i64 c] 87)).alloc (.cells #[.slice a n cap, .int .i64 da, .int .i64 db, .int .i64 dc] 26)).alloc (.cells #[.slice none 0 0, .int .i64 0, .int .i64 0, .int .i64 0] 26)).alloc (.cells #[.int .i64 0, .int .i64 0, .int .i64 0] 32)) := by (repeat (first | assumption | exact Below.refl _ _ | refine ballc ?_ _ | refine bdrew ?_ | refine bdrewN ?_ _ | refine bset ?_ _ _ | refine bsetN ?_ (by omega) _ _ | refine bthen ?_ (by assumption)))
  have P0 := ((CellP.new (w.alloc (.cells #[.int .i64 c] 87)) (.slice a n cap) ⟨da, db, dc⟩ 26).alloc (by simp) (.cells #[.slice none 0 0, .int .i64 0, .int .i64 0, .int .i64 0] 26)).alloc (by simp) (.cells #[.int .i64 0, .int .i64 0, .int .i64 0] 32)
  have PR := (CellP.new ((w.alloc (.cells #[.int .i64 c] 87)).alloc (.cells #[.slice a n cap, .int .i64 da, .int .i64 db, .int .i64 dc] 26)) (.slice none 0 0) ⟨0, 0, 0⟩ 26).alloc (by simp) (.cells #[.int .i64 0, .int .i64 0, .int .i64 0] 32)
  simp only [World.size_alloc] at P0 PR
  have PX := CellL.new (((w.alloc (.cells #[.int .i64 c] 87)).alloc (.cells #[.slice a n cap, .int .i64 da, .int .i64 db, .int .i64 dc] 26)).alloc (.cells #[.slice none 0 0, .int .i64 0, .int .i64 0, .int .i64 0] 26)) ⟨0, 0, 0⟩ 32
  simp only [World.size_alloc] at PX
  have hcc : ((((w.alloc (.cells #[.int .i64 c] 87)).alloc (.cells #[.slice a n cap, .int .i64 da, .int .i64 db, .int .i64 dc] 26)).alloc (.cells #[.slice none 0 0, .int .i64 0, .int .i64 0, .int .i64 0] 26)).alloc (.cells #[.int .i64 0, .int .i64 0, .int .i64 0] 32)).cell? ⟨w.heap.size, 0, none⟩ = some (.int .i64 c) := (((((Below.refl (w.heap.size + 1) (w.alloc (.cells #[.int .i64 c] 87))).alloc (by simp) (.cells #[.slice a n cap, .int .i64 da, .int .i64 db, .int .i64 dc] 26)).alloc (by simp) (.cells #[.slice none 0 0, .int .i64 0, .int .i64 0, .int .i64 0] 26)).alloc (by simp) (.cells #[.int .i64 0, .int .i64 0, .int .i64 0] 32)).cell (p := ⟨w.heap.size, 0, none⟩) (by simp)).trans (by simp)
  have hS0 : ((((w.alloc (.cells #[.int .i64 c] 87)).alloc (.cells #[.slice a n cap, .int .i64 da, .int .i64 db, .int .i64 dc] 26)).alloc (.cells #[.slice none 0 0, .int .i64 0, .int .i64 0, .int .i64 0] 26)).alloc (.cells #[.int .i64 0, .int .i64 0, .int .i64 0] 32)).heap.size = w.heap.size + 1 + 1 + 1 + 1 := by simp
  go_upto_region 1 with fail
  generalize (((w.alloc (.cells #[.int .i64 c] 87)).alloc (.cells #[.slice a n cap, .int .i64 da, .int .i64 db, .int .i64 dc] 26)).alloc (.cells #[.slice none 0 0, .int .i64 0, .int .i64 0, .int .i64 0] 26)).alloc (.cells #[.int .i64 0, .int .i64 0, .int .i64 0] 32) = W0 at *
  have b0 : w.heap.size < W0.heap.size := by omega
  have b1 : w.heap.size + 1 < W0.heap.size := by omega
  have b2 : w.heap.size + 1 + 1 < W0.heap.size := by omega
  have b3 : w.heap.size + 1 + 1 + 1 < W0.heap.size := by omega
  have hbl : w.heap.size ≤ W0.heap.size := by omega
  clear hS0
  have hRow := h.below hB0
  obtain ⟨p0, p1, p2, p3, -, -, -, -⟩ := id P0
  simp only at p1 p2 p3
  go_wp2_with fail
  refine (hcallh.out W0 hRow).mono ?_
  rintro e w1 ⟨v1, rfl, hh1, hw1⟩
  have hw1s := hw1.size
  have P1 := P0.below hw1 b1
  have PR1 := PR.below hw1 b2
  have PX1 := PX.below hw1 b3
  obtain ⟨a1, c1, rfl, -⟩ := hh1.row hmh.out.all
  have g1 : w.heap.size + 1 < w1.heap.size := by omega
  have g2 : w.heap.size + 1 + 1 < w1.heap.size := by omega
  have g3 : w.heap.size + 1 + 1 + 1 < w1.heap.size := by omega
  have hbel1 : Below w.heap.size w w1 := hB0.trans (hw1.mono hbl)
  have P1k := P1
  obtain ⟨p0, p1, p2, p3, -, -, -, -⟩ := P1
  simp only at p1 p2 p3
  obtain ⟨yq, yv, yp⟩ := y
  unfold Lay.val
  simp only
  clear P0 PR PX hw1 hB0 hRow hcc
  have hal : Below w1.heap.size w1 (w1.alloc (.cells #[.int .i64 yq, .int .i64 yv, .int .i64 yp] 32)) := (Below.refl _ _).alloc (Nat.le_refl _) _
  have P2 := P1k.below hal g1
  have PR2 := PR1.below hal g2
  have PX2 := PX1.below hal g3
  have PY := CellL.new w1 ⟨yq, yv, yp⟩ 32
  have hh2 := hh1.below hal
  have hbel2 : Below w.heap.size w (w1.alloc (.cells #[.int .i64 yq, .int .i64 yv, .int .i64 yp] 32)) := hbel1.trans (hal.mono (by omega))
  have hsz : (w1.alloc (.cells #[.int .i64 yq, .int .i64 yv, .int .i64 yp] 32)).heap.size = w1.heap.size + 1 := by simp
  obtain ⟨Y, hY⟩ : ∃ Y, w1.heap.size = Y := ⟨_, rfl⟩
  go_upto_region 2 with fail
  generalize w1.alloc (.cells #[.int .i64 yq, .int .i64 yv, .int .i64 yp] 32) = W1 at *
  try rw [hY]
  rw [hY] at PY hsz g1 g2 g3 hw1s
  clear hY P1k PR1 PX1 hh1 hbel1 hal p0 p1 p2 p3
  have f1 : w.heap.size + 1 < W1.heap.size := by omega
  have f2 : w.heap.size + 1 + 1 < W1.heap.size := by omega
  have f3 : w.heap.size + 1 + 1 + 1 < W1.heap.size := by omega
  have fY : Y < W1.heap.size := by omega
  have eY1 : Y ≠ w.heap.size + 1 + 1 := by omega
  have eY2 : Y ≠ w.heap.size + 1 + 1 + 1 := by omega
  have hdr : Below W1.heap.size W1 W1.drew := (Below.refl _ _).drew
  obtain ⟨p0, p1, p2, p3, -, -, -, -⟩ := P2
  obtain ⟨y0, y1, y2, -, -, -⟩ := id PY
  simp only at p1 p2 p3 y0 y1 y2
  clear hsz
  go_region_with (go_at_call 57; refine (pool_with a a1 n cap m.length c1 ⟨da, db, dc⟩ _).mono ?_; unfold poolV; simp only; rintro e w2 ⟨rfl, hw2⟩; have hw2s := hw2.size; have hW2 : Below W1.heap.size W1 w2 := hdr.trans (hw2.mono (by simp)); obtain ⟨r0, r1, r2, r3, s0, s1, s2, s3⟩ := PR2.below hW2 f2; obtain ⟨z0, z1, z2, t0, t1, t2⟩ := PX2.below hW2 f3; obtain ⟨v0, v1, v2, -, -, -⟩ := PY.below hW2 fY; simp only at r1 r2 r3 z0 z1 z2 v0 v1 v2; have k2 : w.heap.size + 1 + 1 < w2.heap.size := (by have := hW2.size; omega); have k3 : w.heap.size + 1 + 1 + 1 < w2.heap.size := (by have := hW2.size; omega); have kY : Y < w2.heap.size := (by have := hW2.size; omega))
  all_goals
    have hh3 := hh2.below hW2
    have hbel3 : Below w.heap.size w w2 := hbel2.trans (hW2.mono (by omega))
    go_wp2_with fail
    refine bodyPost_ret (v := .tuple #[.agg #[.slice a1 m.length c1, .int .i64 da, .int .i64 db, .int .i64 dc], .agg #[.int .i64 yq, .int .i64 yv, .int .i64 yp], .int .i64 e']) (by simp [results, Try.results100, go_sem, k2, k3, r0, r1, r2, r3, s0, s1, s2, s3, z0, z1, z2, t0, t1, t2]) rfl ⟨_, rfl, Hold.mono (base := W0.heap.size) ?_ hbl, ?_⟩
    · repeat (first | refine Hold.set ?_ (by omega) _ _ | exact hh3)
    · repeat (first | refine Below.setCell ?_ (by simp only; omega) _ | exact hbel3)
end Go.Proofs.Ytjccjmmbebiegaa
