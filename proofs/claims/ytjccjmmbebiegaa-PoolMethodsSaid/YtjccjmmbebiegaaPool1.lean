/-
  pool: with, own, of, the methods. The walk.
-/
import Derived.Test.YtjccjmmbebiegaaPavgB
import Derived.Test.YtjccjmmbebiegaaStdLaw1
import Derived.Test.YtjccjmmbebiegaaFifoP3
set_option linter.unusedVariables false
set_option linter.unusedSimpArgs false
namespace Go.Proofs.Ytjccjmmbebiegaa
open Go.RowKit

/-- A pool with other layers. -/
theorem pool_with (a b : Option Addr) (n c m k : Nat) (d : Pnd) (w : World) :
    Calls Try.prog 57 #[poolV (.slice a n c) d, .slice b m k] w fun e w' => e = .returned (poolV (.slice b m k) d) ∧ Below w.heap.size w w' := by
  unfold poolV
  obtain ⟨da, db, dc⟩ := d
  simp only
  go_enter Try.func57, Try.ntmps57
  have P0 := (CellP.new w (.slice a n c) ⟨da, db, dc⟩ 26).alloc (by simp) (.cells #[.slice none 0 0, .int .i64 0, .int .i64 0, .int .i64 0] 26)
  have P1 := CellP.new (w.alloc (.cells #[.slice a n c, .int .i64 da, .int .i64 db, .int .i64 dc] 26)) (.slice none 0 0) ⟨0, 0, 0⟩ 26
  have hB0 : Below w.heap.size w ((w.alloc (.cells #[.slice a n c, .int .i64 da, .int .i64 db, .int .i64 dc] 26)).alloc (.cells #[.slice none 0 0, .int .i64 0, .int .i64 0, .int .i64 0] 26)) := by (repeat (first | assumption | exact Below.refl _ _ | refine ballc ?_ _ | refine bdrew ?_ | refine bdrewN ?_ _ | refine bset ?_ _ _ | refine bsetN ?_ (by omega) _ _ | refine bthen ?_ (by assumption)))
  have hs : ((w.alloc (.cells #[.slice a n c, .int .i64 da, .int .i64 db, .int .i64 dc] 26)).alloc (.cells #[.slice none 0 0, .int .i64 0, .int .i64 0, .int .i64 0] 26)).heap.size = w.heap.size + 1 + 1 := by simp
  simp only [World.size_alloc] at P1
  go_upto_region 1 with fail
  generalize (w.alloc (.cells #[.slice a n c, .int .i64 da, .int .i64 db, .int .i64 dc] 26)).alloc (.cells #[.slice none 0 0, .int .i64 0, .int .i64 0, .int .i64 0] 26) = W at *
  obtain ⟨p0, p1, p2, p3, q0, q1, q2, q3⟩ := P0
  obtain ⟨r0, r1, r2, r3, s0, s1, s2, s3⟩ := P1
  simp only at p1 p2 p3 r1 r2 r3
  have hl1 : w.heap.size < W.heap.size := by omega
  have hl2 : w.heap.size + 1 < W.heap.size := by omega
  clear hs
  go_wp2_with fail
  refine bodyPost_ret (v := .agg #[.slice b m k, .int .i64 da, .int .i64 db, .int .i64 dc]) (by simp [results, Try.results57, go_sem, hl1, hl2, p0, p1, p2, p3, r0, r1, r2, r3, q0, s0, s1, s2, s3]) rfl ⟨rfl, ?_⟩
  repeat (first | refine Below.setCell ?_ (by simp only; omega) _ | exact hB0)

set_option maxRecDepth 20000 in
set_option maxHeartbeats 4000000 in
theorem pool_own (a : Option Addr) (cap : Nat) (l : List Lay) (d : Pnd) (w : World) (h : Row w 3 a l.length cap (flat l)) (hn : l.length ≤ 900) :
    Calls Try.prog 35 #[poolV (.slice a l.length cap) d] w fun e w' => ∃ v, e = .returned (poolV v d) ∧ Hold w' w.heap.size v l ∧ Below w.heap.size w w' := by
  have hA : AllI (flat l) := h.all
  obtain ⟨n, hN⟩ : ∃ n, l.length = n := ⟨_, rfl⟩
  rw [hN] at h hn ⊢
  have hcl := fun W (hW : Row W 3 a n cap (flat l)) => Clone_Layer a n cap (flat l) W hW (by omega)
  have hNh := Lib.hid hN
  clear hN
  obtain ⟨da, db, dc⟩ := d
  unfold poolV
  simp only
  go_enter Try.func35, Try.ntmps35
  have P0 := (CellP.new w (.slice a n cap) ⟨da, db, dc⟩ 26).alloc (by simp) (.cells #[.slice none 0 0, .int .i64 0, .int .i64 0, .int .i64 0] 26)
  have P1 := CellP.new (w.alloc (.cells #[.slice a n cap, .int .i64 da, .int .i64 db, .int .i64 dc] 26)) (.slice none 0 0) ⟨0, 0, 0⟩ 26
  have hB0 : Below w.heap.size w ((w.alloc (.cells #[.slice a n cap, .int .i64 da, .int .i64 db, .int .i64 dc] 26)).alloc (.cells #[.slice none 0 0, .int .i64 0, .int .i64 0, .int .i64 0] 26)) := by (repeat (first | assumption | exact Below.refl _ _ | refine ballc ?_ _ | refine bdrew ?_ | refine bdrewN ?_ _ | refine bset ?_ _ _ | refine bsetN ?_ (by omega) _ _ | refine bthen ?_ (by assumption)))
  have hs : ((w.alloc (.cells #[.slice a n cap, .int .i64 da, .int .i64 db, .int .i64 dc] 26)).alloc (.cells #[.slice none 0 0, .int .i64 0, .int .i64 0, .int .i64 0] 26)).heap.size = w.heap.size + 1 + 1 := by simp
  simp only [World.size_alloc] at P1
  go_upto_region 1 with fail
  generalize (w.alloc (.cells #[.slice a n cap, .int .i64 da, .int .i64 db, .int .i64 dc] 26)).alloc (.cells #[.slice none 0 0, .int .i64 0, .int .i64 0, .int .i64 0] 26) = W at *
  have hR := h.below hB0
  have hRd : Row W.drew 3 a n cap (flat l) := hR.below (Below.refl _ _).drew
  have P0d := P0.below (Below.refl W.heap.size W).drew (by omega)
  have P1d := P1.below (Below.refl W.heap.size W).drew (by omega)
  have hBd := hB0.drew
  have hclh := Lib.hid hcl
  obtain ⟨p0, p1, p2, p3, q0, q1, q2, q3⟩ := P0
  simp only at p1 p2 p3
  have hl1 : w.heap.size < W.heap.size := by omega
  have hl2 : w.heap.size + 1 < W.heap.size := by omega
  clear hs hcl q0 q1 q2 q3
  go_region_with (first | (go_at_call 58; refine (hclh.out W.drew hRd).mono ?_; rintro e w1 ⟨⟨v1, rfl, O1⟩, hw1⟩; have hw1s := hw1.size; have hH1 := Hold.of_own (base' := W.heap.size) O1 (by simp); obtain ⟨a1, c1, rfl, R1⟩ := O1.row hA; obtain ⟨u0, u1, u2, u3, -, -, -, -⟩ := P0d.below hw1 (by simp; omega); simp only at u1 u2 u3; have hl3 : w.heap.size < w1.heap.size := (by simp at hw1s; omega)) | (go_at_call 57; refine (pool_with a a1 n cap n c1 ⟨da, db, dc⟩ _).mono ?_; unfold poolV; simp only; rintro e w2 ⟨rfl, hw2⟩; have hw2s := hw2.size; obtain ⟨r0, r1, r2, r3, s0, s1, s2, s3⟩ := (P1d.below hw1 (by simp; omega)).below hw2 (by simp at hw1s; omega); simp only at r1 r2 r3; have hl4 : w.heap.size + 1 < w2.heap.size := (by simp at hw1s; omega)))
  all_goals
    have hHn := hNh.out
    subst hHn
    have hH2 := hH1.below hw2
    have hbel : Below w.heap.size w w2 := (hBd.trans (hw1.mono (by simp; omega))).trans (hw2.mono (by simp at hw1s; omega))
    clear hH1 R1 O1 hclh
    go_wp2_with fail
    refine bodyPost_ret (v := .agg #[.slice a1 l.length c1, .int .i64 da, .int .i64 db, .int .i64 dc]) (by simp [results, Try.results35, go_sem, hl4, r0, r1, r2, r3, s0, s1, s2, s3]) rfl ⟨_, rfl, Hold.mono (base := W.heap.size) ?_ (by omega), ?_⟩
    · repeat (first | refine Hold.set ?_ (by omega) _ _ | exact hH2)
    · repeat (first | refine Below.setCell ?_ (by simp only; omega) _ | exact hbel)
end Go.Proofs.Ytjccjmmbebiegaa
