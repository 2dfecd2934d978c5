/-
  PoolMethods. Its walk.
-/
import Derived.Test.YtjccjmmbebiegaaPool10
import Derived.IntWalk
set_option linter.unusedVariables false
set_option linter.unusedSimpArgs false
namespace Go.Proofs.Ytjccjmmbebiegaa
open Go.RowKit

set_option maxRecDepth 20000 in
set_option maxHeartbeats 1000000 in
theorem PoolMethods_walk_ (m0 xq xv xp q : Int) (w : World) (hm0 : I64 m0) (hx1 : I64 xq) (hx2 : I64 xv) (hx3 : I64 xp) (hq : I64 q) :
    Calls Try.prog 5 #[.int .i64 m0, .agg #[.int .i64 xq, .int .i64 xv, .int .i64 xp], .int .i64 q] w fun e w' => e = .returned (.bool true) ∧ Below w.heap.size w w' := by
  obtain ⟨hm1, hm2⟩ := hm0
  obtain ⟨m, hm, hmn⟩ : ∃ m, (if 1 ≤ m0 ∧ m0 ≤ 4 then m0 - 10 else m0) = m ∧ (m < 1 ∨ 4 < m) := by
    refine ⟨_, rfl, ?_⟩
    split <;> omega
  have hmnh := Lib.hid hmn
  have cR := Lib.hid (fun W => pool_Right_none m none 0 [] ⟨0, 0, 0⟩ W (RowNil W) hmn)
  have hRf : rightP m [] ⟨0, 0, 0⟩ = false := by unfold rightP; rw [if_pos (by omega)]
  rw [hRf] at cR
  have cI := Lib.hid (fun W => (pool_In_none m 5 none 0 [] ⟨0, 0, 0⟩ ⟨xq, xv, xp⟩ W (RowNil W) (by simp) hmn).mono fun e w' h => h.row LR.nil)
  have cO := Lib.hid (fun W => (pool_Out_none m 5 none 0 [] ⟨0, 0, 0⟩ 0 q W (RowNil W) (by simp) hmn).mono fun e w' h => h.row LR.nil)
  unfold poolV Lay.val at cI
  unfold poolV Lay.zero at cO
  unfold poolV at cR
  simp only [List.length_nil] at cI cO cR
  clear hmn hRf
  have h3 : (1 ≤ m0 ∧ m0 ≤ 4 ∧ m0 - 10 = m) ∨ (¬ 1 ≤ m0 ∧ m0 = m) ∨ (1 ≤ m0 ∧ ¬ m0 ≤ 4 ∧ m0 = m) := by
    by_cases h1 : 1 ≤ m0
    · by_cases h4 : m0 ≤ 4
      · rw [if_pos ⟨h1, h4⟩] at hm; exact .inl ⟨h1, h4, hm⟩
      · rw [if_neg (by omega)] at hm; exact .inr (.inr ⟨h1, h4, hm⟩)
    · rw [if_neg (by omega)] at hm; exact .inr (.inl ⟨h1, hm⟩)
  clear hm
  rcases h3 with ⟨h1, h4, hm⟩ | ⟨h1, rfl⟩ | ⟨h1, h4, rfl⟩
  all_goals
    go_enter Try.func5, Try.ntmps5
    have hB0 : Below w.heap.size w (w.alloc (.cells #[.int .i64 xq, .int .i64 xv, .int .i64 xp] 32)) := by (repeat (first | assumption | exact Below.refl _ _ | refine ballc ?_ _ | refine bdrew ?_ | refine bdrewN ?_ _ | refine bset ?_ _ _ | refine bsetN ?_ (by omega) _ _ | refine bthen ?_ (by assumption)))
    have PX := CellL.new w ⟨xq, xv, xp⟩ 32
    have hs : (w.alloc (.cells #[.int .i64 xq, .int .i64 xv, .int .i64 xp] 32)).heap.size = w.heap.size + 1 := by simp
    go_upto_region 4 with fail
    generalize w.alloc (.cells #[.int .i64 xq, .int .i64 xv, .int .i64 xp] 32) = W at *
    have b0 : w.heap.size < W.heap.size := by omega
    clear hs
    obtain ⟨x0, x1, x2, -, -, -⟩ := PX
    simp only at x0 x1 x2
    go_wp2_with fail
    refine (cI.out W).mono ?_
    rintro e w1 ⟨⟨a1, c1, rfl, -⟩, hw1⟩
    have hu1 : Below w1.heap.size w1 (w1.alloc (.cells #[.slice a1 0 c1, .int .i64 0, .int .i64 0, .int .i64 0] 26)) := by (repeat (first | assumption | exact Below.refl _ _ | refine ballc ?_ _ | refine bdrew ?_ | refine bdrewN ?_ _ | refine bset ?_ _ _ | refine bsetN ?_ (by omega) _ _ | refine bthen ?_ (by assumption)))
    have P1 := CellP.new w1 (.slice a1 0 c1) ⟨0, 0, 0⟩ 26
    have hs1 : (w1.alloc (.cells #[.slice a1 0 c1, .int .i64 0, .int .i64 0, .int .i64 0] 26)).heap.size = w1.heap.size + 1 := by simp
    have hb1 := (hB0.trans (hw1.mono (by omega))).trans (hu1.mono (by have := hw1.size; omega))
    go_upto_region 5 with fail
    generalize w1.alloc (.cells #[.slice a1 0 c1, .int .i64 0, .int .i64 0, .int .i64 0] 26) = u1 at *
    obtain ⟨P, hP⟩ : ∃ P, w1.heap.size = P := ⟨_, rfl⟩
    rw [hP] at P1 hs1 ⊢
    have g1 : P < u1.heap.size := by omega
    clear hP hs1 hw1 hu1 x0 x1 x2 b0 hB0
    go_wp2_with fail
    refine (cO.out u1).mono ?_
    rintro e w2 ⟨⟨a2, c2, rfl, -⟩, hw2⟩
    have hu2 : Below w2.heap.size w2 ((w2.alloc (.cells #[.slice a2 0 c2, .int .i64 0, .int .i64 0, .int .i64 0] 26)).alloc (.cells #[.int .i64 0, .int .i64 0, .int .i64 0] 32)) := by (repeat (first | assumption | exact Below.refl _ _ | refine ballc ?_ _ | refine bdrew ?_ | refine bdrewN ?_ _ | refine bset ?_ _ _ | refine bsetN ?_ (by omega) _ _ | refine bthen ?_ (by assumption)))
    have Q2 := (CellP.new w2 (.slice a2 0 c2) ⟨0, 0, 0⟩ 26).alloc (by simp) (.cells #[.int .i64 0, .int .i64 0, .int .i64 0] 32)
    have X2 := CellL.new (w2.alloc (.cells #[.slice a2 0 c2, .int .i64 0, .int .i64 0, .int .i64 0] 26)) ⟨0, 0, 0⟩ 32
    simp only [World.size_alloc] at X2
    have hs2 : ((w2.alloc (.cells #[.slice a2 0 c2, .int .i64 0, .int .i64 0, .int .i64 0] 26)).alloc (.cells #[.int .i64 0, .int .i64 0, .int .i64 0] 32)).heap.size = w2.heap.size + 1 + 1 := by simp
    have hws2 := hw2.size
    have P2 := (P1.below hw2 g1).below hu2 (by omega)
    have hb2 := (hb1.trans (hw2.mono hb1.size)).trans (hu2.mono (by have := hb1.size; omega))
    go_upto_region 6 with fail
    generalize (w2.alloc (.cells #[.slice a2 0 c2, .int .i64 0, .int .i64 0, .int .i64 0] 26)).alloc (.cells #[.int .i64 0, .int .i64 0, .int .i64 0] 32) = U at *
    obtain ⟨Y, hY⟩ : ∃ Y, w2.heap.size = Y := ⟨_, rfl⟩
    rw [hY] at Q2 X2 hs2 hws2 ⊢
    have k0 : P < U.heap.size := by omega
    have k1 : Y < U.heap.size := by omega
    have k2 : Y + 1 < U.heap.size := by omega
    clear hY hs2 hws2 hu2 hw2 P1 hb1 g1
    obtain ⟨p0, p1, p2, p3, -, -, -, -⟩ := P2
    obtain ⟨q0, q1, q2, q3, -, -, -, -⟩ := Q2
    obtain ⟨y0, y1, y2, -, -, -⟩ := X2
    simp only at p1 p2 p3 q1 q2 q3 y0 y1 y2
    have hAft := @After.cell U
    refine wp_region_grow1 ?_
    repeat (go_big_quiet_step ((first
      | (go_at_call 18; exact Calls.grow fun hx => cR.out _)
      | (go_at_call 19; exact Calls.grow fun hx => pool_awake _))))
    refine wpQuiet_nil ?_
    intro _ hw'
    obtain ⟨⟨w', hb'⟩, rfl⟩ := hw'
    clear hAft
    go_wp2_with fail
    go_ret
    exact ⟨rfl, hb2.trans (hb'.mono hb2.size)⟩

theorem PoolMethods_walk (m0 : Int) (x : Lay) (q : Int) (w : World) (hm0 : I64 m0) (hx : AllI [x.q, x.v, x.p]) (hq : I64 q) :
    Calls Try.prog 5 #[.int .i64 m0, x.val, .int .i64 q] w fun e w' => e = .returned (.bool true) ∧ Below w.heap.size w w' :=
  PoolMethods_walk_ m0 x.q x.v x.p q w hm0 ⟨(hx x.q (by simp)).1, (hx x.q (by simp)).2⟩ ⟨(hx x.v (by simp)).1, (hx x.v (by simp)).2⟩ ⟨(hx x.p (by simp)).1, (hx x.p (by simp)).2⟩ hq
end Go.Proofs.Ytjccjmmbebiegaa
