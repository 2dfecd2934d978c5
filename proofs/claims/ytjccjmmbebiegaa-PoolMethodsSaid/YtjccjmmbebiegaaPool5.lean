/-
  pool: waits, Out. The walks.
-/
import Derived.Test.YtjccjmmbebiegaaPool4
set_option linter.unusedVariables false
set_option linter.unusedSimpArgs false
namespace Go.Proofs.Ytjccjmmbebiegaa
open Go.RowKit

set_option maxRecDepth 20000 in
theorem pool_waits_1 (w : World) : Calls Try.prog 36 #[.iface 83 (.agg #[])] w fun e w' => e = .returned (.bool false) ∧ Below w.heap.size w w' := by
  have ht : ∀ W : World, (Instr.typeAssert (.iface 83 (.agg #[])) 67 85 true).run Try.prog W = .ok (.tuple #[.agg #[], .bool false]) W := fun _ => by kernel_rfl
  go_enter Try.func36, Try.ntmps36
  go_wp2_with fail
  go_ret
  exact ⟨rfl, by (repeat (first | assumption | exact Below.refl _ _ | refine ballc ?_ _ | refine bdrew ?_ | refine bdrewN ?_ _ | refine bset ?_ _ _ | refine bsetN ?_ (by omega) _ _ | refine bthen ?_ (by assumption)))⟩

set_option maxRecDepth 20000 in
theorem pool_waits_2 (w : World) : Calls Try.prog 36 #[.iface 84 (.agg #[])] w fun e w' => e = .returned (.bool false) ∧ Below w.heap.size w w' := by
  have ht : ∀ W : World, (Instr.typeAssert (.iface 84 (.agg #[])) 67 85 true).run Try.prog W = .ok (.tuple #[.agg #[], .bool false]) W := fun _ => by kernel_rfl
  go_enter Try.func36, Try.ntmps36
  go_wp2_with fail
  go_ret
  exact ⟨rfl, by (repeat (first | assumption | exact Below.refl _ _ | refine ballc ?_ _ | refine bdrew ?_ | refine bdrewN ?_ _ | refine bset ?_ _ _ | refine bsetN ?_ (by omega) _ _ | refine bthen ?_ (by assumption)))⟩

set_option maxRecDepth 20000 in
theorem pool_waits_3 (w : World) : Calls Try.prog 36 #[.iface 85 (.agg #[])] w fun e w' => e = .returned (.bool true) ∧ Below w.heap.size w w' := by
  have ht : ∀ W : World, (Instr.typeAssert (.iface 85 (.agg #[])) 67 85 true).run Try.prog W = .ok (.tuple #[.agg #[], .bool true]) W := fun _ => by kernel_rfl
  go_enter Try.func36, Try.ntmps36
  go_wp2_with fail
  go_ret
  exact ⟨rfl, by (repeat (first | assumption | exact Below.refl _ _ | refine ballc ?_ _ | refine bdrew ?_ | refine bdrewN ?_ _ | refine bset ?_ _ _ | refine bsetN ?_ (by omega) _ _ | refine bthen ?_ (by assumption)))⟩

set_option maxRecDepth 20000 in
theorem pool_waits_4 (c : Int) (w : World) : Calls Try.prog 36 #[.iface 87 (.agg #[.int .i64 c])] w fun e w' => e = .returned (.bool false) ∧ Below w.heap.size w w' := by
  have ht : ∀ W : World, (Instr.typeAssert (.iface 87 (.agg #[.int .i64 c])) 67 85 true).run Try.prog W = .ok (.tuple #[.agg #[], .bool false]) W := fun _ => by kernel_rfl
  go_enter Try.func36, Try.ntmps36
  go_wp2_with fail
  go_ret
  exact ⟨rfl, by (repeat (first | assumption | exact Below.refl _ _ | refine ballc ?_ _ | refine bdrew ?_ | refine bdrewN ?_ _ | refine bset ?_ _ _ | refine bsetN ?_ (by omega) _ _ | refine bthen ?_ (by assumption)))⟩

/-- A pool, a layer, whether it waits, an error. -/
def HoldP4 (w : World) (r : List Lay × Pnd × Lay × Bool × Int) (e : Ending) (w' : World) : Prop :=
  ∃ v, e = .returned (.tuple #[poolV v r.2.1, r.2.2.1.val, .bool r.2.2.2.1, .int .i64 r.2.2.2.2]) ∧ Hold w' w.heap.size v r.1 ∧ Below w.heap.size w w'
theorem CellL.alloc2 {w : World} {x : Lay} {t : TypeId} (h : CellL (w.alloc (.cells #[.int .i64 x.q, .int .i64 x.v, .int .i64 x.p] t)) w.heap.size x) (o : Obj) : CellL ((w.alloc (.cells #[.int .i64 x.q, .int .i64 x.v, .int .i64 x.p] t)).alloc o) w.heap.size x :=
  h.below ((Below.refl (w.heap.size + 1) _).alloc (by simp) o) (by omega)
theorem CellL.far {w : World} {b c : Nat} {x : Lay} (h : CellL w b x) (hne : b ≠ c) (i : Nat) (u : Value) : CellL (w.setCell ⟨c, i, none⟩ u) b x := by
  have e : ∀ j, (w.setCell ⟨c, i, none⟩ u).cell? ⟨b, j, none⟩ = w.cell? ⟨b, j, none⟩ := fun j => World.cell?_of_block (w := w) (Below.heap_setCell _ _ _ _ hne)
  exact ⟨(e 0).trans h.c0, (e 1).trans h.c1, (e 2).trans h.c2, by simpa using h.f0, by simpa using h.f1, by simpa using h.f2⟩
theorem CellL.put {w : World} {b : Nat} {x : Lay} (h : CellL w b x) (p q r : Int) :
    CellL (((w.setCell ⟨b, 0, none⟩ (.int .i64 p)).setCell ⟨b, 1, none⟩ (.int .i64 q)).setCell ⟨b, 2, none⟩ (.int .i64 r)) b ⟨p, q, r⟩ := by
  obtain ⟨h0, h1, h2, g0, g1, g2⟩ := h
  exact ⟨by simp [go_sem, h0], by simp [go_sem, h1], by simp [go_sem, h2], by simpa using g0, by simpa using g1, by simpa using g2⟩

set_option maxRecDepth 20000 in
set_option maxHeartbeats 1000000 in
theorem pool_Out_none (m c : Int) (a : Option Addr) (cap : Nat) (l : List Lay) (d : Pnd) (kind q : Int) (w : World) (h : Row w 3 a l.length cap (flat l)) (hn : l.length ≤ 900) (hm : m < 1 ∨ 4 < m) :
    Calls Try.prog 17 #[.int .i64 m, .int .i64 c, poolV (.slice a l.length cap) d, .int .i64 kind, .int .i64 q] w (HoldP4 w (l, d, .zero, false, 12)) := by
  have hA := Lib.hid h.all
  obtain ⟨n, hN⟩ : ∃ n, l.length = n := ⟨_, rfl⟩
  have hNh := Lib.hid hN
  have hownc := fun W (hW : Row W 3 a l.length cap (flat l)) => pool_own a cap l d W hW hn
  rw [hN] at h hownc ⊢
  clear hN
  obtain ⟨da, db, dc⟩ := d
  unfold poolV at *
  simp only at hownc ⊢
  have hownh := Lib.hid hownc
  clear hownc
  go_enter Try.func17, Try.ntmps17
  have hB0 : Below w.heap.size w (((w.alloc (.cells #[.slice a n cap, .int .i64 da, .int .i64 db, .int .i64 dc] 26)).alloc (.cells #[.slice none 0 0, .int .i64 0, .int .i64 0, .int .i64 0] 26)).alloc (.cells #[.int .i64 0, .int .i64 0, .int .i64 0] 32)) := by (repeat (first | assumption | exact Below.refl _ _ | refine ballc ?_ _ | refine bdrew ?_ | refine bdrewN ?_ _ | refine bset ?_ _ _ | refine bsetN ?_ (by omega) _ _ | refine bthen ?_ (by assumption)))
  have P0 := ((CellP.new w (.slice a n cap) ⟨da, db, dc⟩ 26).alloc (by simp) (.cells #[.slice none 0 0, .int .i64 0, .int .i64 0, .int .i64 0] 26)).alloc (by simp; omega) (.cells #[.int .i64 0, .int .i64 0, .int .i64 0] 32)
  have PR := (CellP.new (w.alloc (.cells #[.slice a n cap, .int .i64 da, .int .i64 db, .int .i64 dc] 26)) (.slice none 0 0) ⟨0, 0, 0⟩ 26).alloc (by simp) (.cells #[.int .i64 0, .int .i64 0, .int .i64 0] 32)
  have PX := CellL.new ((w.alloc (.cells #[.slice a n cap, .int .i64 da, .int .i64 db, .int .i64 dc] 26)).alloc (.cells #[.slice none 0 0, .int .i64 0, .int .i64 0, .int .i64 0] 26)) ⟨0, 0, 0⟩ 32
  simp only [World.size_alloc] at PR PX
  have hS0 : (((w.alloc (.cells #[.slice a n cap, .int .i64 da, .int .i64 db, .int .i64 dc] 26)).alloc (.cells #[.slice none 0 0, .int .i64 0, .int .i64 0, .int .i64 0] 26)).alloc (.cells #[.int .i64 0, .int .i64 0, .int .i64 0] 32)).heap.size = w.heap.size + 1 + 1 + 1 := by simp
  go_upto_region 1 with fail
  generalize ((w.alloc (.cells #[.slice a n cap, .int .i64 da, .int .i64 db, .int .i64 dc] 26)).alloc (.cells #[.slice none 0 0, .int .i64 0, .int .i64 0, .int .i64 0] 26)).alloc (.cells #[.int .i64 0, .int .i64 0, .int .i64 0] 32) = W0 at *
  have b0 : w.heap.size < W0.heap.size := by omega
  have b1 : w.heap.size + 1 < W0.heap.size := by omega
  have b2 : w.heap.size + 1 + 1 < W0.heap.size := by omega
  have hbl : w.heap.size ≤ W0.heap.size := by omega
  clear hS0
  have hRow := h.below hB0
  obtain ⟨p0, p1, p2, p3, -, -, -, -⟩ := id P0
  simp only at p1 p2 p3
  go_wp2_with fail
  refine (pool_of_none c W0 hm).mono ?_
  rintro e w' ⟨rfl, rfl⟩
  go_wp2_with fail
  refine (hownh.out W0 hRow).mono ?_
  rintro e w2 ⟨v2, rfl, hh3, hw2⟩
  obtain ⟨a2, c2, rfl, -⟩ := hh3.row hA.out
  obtain ⟨u0, u1, u2, u3, t0, t1, t2, t3⟩ := PR.below hw2 b1
  obtain ⟨z0, z1, z2, o0, o1, o2⟩ := PX.below hw2 b2
  simp only at u1 u2 u3 z0 z1 z2
  have k1 : w.heap.size + 1 < w2.heap.size := by have := hw2.size; omega
  have k2 : w.heap.size + 1 + 1 < w2.heap.size := by have := hw2.size; omega
  have hbel3 : Below w.heap.size w w2 := hB0.trans (hw2.mono (by omega))
  clear hw2 hownh
  go_wp2_with fail
  refine bodyPost_ret (v := .tuple #[.agg #[.slice a2 l.length c2, .int .i64 da, .int .i64 db, .int .i64 dc], .agg #[.int .i64 0, .int .i64 0, .int .i64 0], .bool false, .int .i64 12]) (by simp [results, Try.results17, go_sem, k1, k2, u0, u1, u2, u3, t0, t1, t2, t3, z0, z1, z2, o0, o1, o2]) rfl ⟨_, rfl, Hold.mono (base := W0.heap.size) ?_ (by omega), ?_⟩
  · repeat (first | refine Hold.set ?_ (by omega) _ _ | exact hh3)
  · repeat (first | refine Below.setCell ?_ (by simp only; omega) _ | exact hbel3)

set_option maxRecDepth 20000 in
set_option maxHeartbeats 1000000 in
theorem pool_Out_kind (m c : Int) (T : Nat) (recv : Value) (hof : ∀ W, Calls Try.prog 34 #[.int .i64 m, .int .i64 c] W fun e w' => e = .returned (.iface T recv) ∧ W = w') (a : Option Addr) (cap : Nat) (l : List Lay) (d : Pnd) (kind q : Int) (w : World) (h : Row w 3 a l.length cap (flat l)) (hn : l.length ≤ 900) (hk : kind < 0 ∨ 3 < kind) :
    Calls Try.prog 17 #[.int .i64 m, .int .i64 c, poolV (.slice a l.length cap) d, .int .i64 kind, .int .i64 q] w (HoldP4 w (l, d, .zero, false, 1)) := by
  have hofh := Lib.hid hof
  clear hof
  have hA := Lib.hid h.all
  obtain ⟨n, hN⟩ : ∃ n, l.length = n := ⟨_, rfl⟩
  have hNh := Lib.hid hN
  have hownc := fun W (hW : Row W 3 a l.length cap (flat l)) => pool_own a cap l d W hW hn
  rw [hN] at h hownc ⊢
  clear hN
  obtain ⟨da, db, dc⟩ := d
  unfold poolV at *
  simp only at hownc ⊢
  have hownh := Lib.hid hownc
  clear hownc
  go_enter Try.func17, Try.ntmps17
  have hB0 : Below w.heap.size w (((w.alloc (.cells #[.slice a n cap, .int .i64 da, .int .i64 db, .int .i64 dc] 26)).alloc (.cells #[.slice none 0 0, .int .i64 0, .int .i64 0, .int .i64 0] 26)).alloc (.cells #[.int .i64 0, .int .i64 0, .int .i64 0] 32)) := by (repeat (first | assumption | exact Below.refl _ _ | refine ballc ?_ _ | refine bdrew ?_ | refine bdrewN ?_ _ | refine bset ?_ _ _ | refine bsetN ?_ (by omega) _ _ | refine bthen ?_ (by assumption)))
  have P0 := ((CellP.new w (.slice a n cap) ⟨da, db, dc⟩ 26).alloc (by simp) (.cells #[.slice none 0 0, .int .i64 0, .int .i64 0, .int .i64 0] 26)).alloc (by simp; omega) (.cells #[.int .i64 0, .int .i64 0, .int .i64 0] 32)
  have PR := (CellP.new (w.alloc (.cells #[.slice a n cap, .int .i64 da, .int .i64 db, .int .i64 dc] 26)) (.slice none 0 0) ⟨0, 0, 0⟩ 26).alloc (by simp) (.cells #[.int .i64 0, .int .i64 0, .int .i64 0] 32)
  have PX := CellL.new ((w.alloc (.cells #[.slice a n cap, .int .i64 da, .int .i64 db, .int .i64 dc] 26)).alloc (.cells #[.slice none 0 0, .int .i64 0, .int .i64 0, .int .i64 0] 26)) ⟨0, 0, 0⟩ 32
  simp only [World.size_alloc] at PR PX
  have hS0 : (((w.alloc (.cells #[.slice a n cap, .int .i64 da, .int .i64 db, .int .i64 dc] 26)).alloc (.cells #[.slice none 0 0, .int .i64 0, .int .i64 0, .int .i64 0] 26)).alloc (.cells #[.int .i64 0, .int .i64 0, .int .i64 0] 32)).heap.size = w.heap.size + 1 + 1 + 1 := by simp
  go_upto_region 1 with fail
  generalize ((w.alloc (.cells #[.slice a n cap, .int .i64 da, .int .i64 db, .int .i64 dc] 26)).alloc (.cells #[.slice none 0 0, .int .i64 0, .int .i64 0, .int .i64 0] 26)).alloc (.cells #[.int .i64 0, .int .i64 0, .int .i64 0] 32) = W0 at *
  have b0 : w.heap.size < W0.heap.size := by omega
  have b1 : w.heap.size + 1 < W0.heap.size := by omega
  have b2 : w.heap.size + 1 + 1 < W0.heap.size := by omega
  have hbl : w.heap.size ≤ W0.heap.size := by omega
  clear hS0
  have hRow := h.below hB0
  obtain ⟨p0, p1, p2, p3, -, -, -, -⟩ := id P0
  simp only at p1 p2 p3
  have hkd : kind < 0 ∨ (¬ kind < 0 ∧ 3 < kind) := by omega
  clear hk
  rcases hkd with hk | ⟨hk1, hk⟩
  all_goals
    go_wp2_with fail
    refine (hofh.out W0).mono ?_
    rintro e w' ⟨rfl, rfl⟩
    go_wp2_with fail
    refine (hownh.out W0 hRow).mono ?_
    rintro e w2 ⟨v2, rfl, hh3, hw2⟩
    obtain ⟨a2, c2, rfl, -⟩ := hh3.row hA.out
    obtain ⟨u0, u1, u2, u3, t0, t1, t2, t3⟩ := PR.below hw2 b1
    obtain ⟨z0, z1, z2, o0, o1, o2⟩ := PX.below hw2 b2
    simp only at u1 u2 u3 z0 z1 z2
    have k1 : w.heap.size + 1 < w2.heap.size := by have := hw2.size; omega
    have k2 : w.heap.size + 1 + 1 < w2.heap.size := by have := hw2.size; omega
    have hbel3 : Below w.heap.size w w2 := hB0.trans (hw2.mono (by omega))
    clear hw2 hownh
    go_wp2_with fail
    refine bodyPost_ret (v := .tuple #[.agg #[.slice a2 l.length c2, .int .i64 da, .int .i64 db, .int .i64 dc], .agg #[.int .i64 0, .int .i64 0, .int .i64 0], .bool false, .int .i64 1]) (by simp [results, Try.results17, go_sem, k1, k2, u0, u1, u2, u3, t0, t1, t2, t3, z0, z1, z2, o0, o1, o2]) rfl ⟨_, rfl, Hold.mono (base := W0.heap.size) ?_ (by omega), ?_⟩
    · repeat (first | refine Hold.set ?_ (by omega) _ _ | exact hh3)
    · repeat (first | refine Below.setCell ?_ (by simp only; omega) _ | exact hbel3)

end Go.Proofs.Ytjccjmmbebiegaa
