/-
  pool: Out, Total, Free. The walks.
-/
import Derived.Test.YtjccjmmbebiegaaPool7
set_option linter.unusedVariables false
set_option linter.unusedSimpArgs false
namespace Go.Proofs.Ytjccjmmbebiegaa
open Go.RowKit

theorem outS_no {l : List Lay} {q : Int} (h : (outS l q).2.2 ≠ 0) : (outS l q).1 = l ∧ (outS l q).2.1 = .zero := by
  unfold outS at h ⊢
  split
  · exact ⟨rfl, rfl⟩
  · rw [if_neg ‹_›] at h
    split
    · exact ⟨rfl, rfl⟩
    · rw [if_neg ‹_›] at h; exact absurd rfl h
theorem outP_no {l : List Lay} {d : Pnd} {q : Int} (h : (outP l d q).2.2 ≠ 0) : (outP l d q).1 = l ∧ (outP l d q).2.1 = .zero := by
  unfold outP at h ⊢
  split
  · exact ⟨rfl, rfl⟩
  · rw [if_neg ‹_›] at h
    split
    · exact ⟨rfl, rfl⟩
    · rw [if_neg ‹_›] at h; exact outS_no h
theorem outC_no {l : List Lay} {q c : Int} (h : (outC l q c).2.2 ≠ 0) : (outC l q c).1 = l ∧ (outC l q c).2.1 = .zero := by
  unfold outC at h ⊢
  split
  · exact ⟨rfl, rfl⟩
  · rename_i hf
    rw [if_neg hf] at h
    split
    · rename_i y e hO
      rw [hO] at h
      have := outS_no (l := l) (q := q) (by rw [hO]; exact h)
      rw [hO] at this
      exact this
    · rename_i z t y e hO
      rw [hO] at h
      simp only at h ⊢
      split
      · rename_i he
        have := outS_no (l := l) (q := q) (by rw [hO]; exact he)
        rw [hO] at this
        exact this
      · rw [if_neg ‹_›] at h
        exact absurd rfl h
theorem waitS_no {l : List Lay} {d : Pnd} {k q : Int} (h : (waitS l d k q).2 ≠ 0) : (waitS l d k q).1 = d := by
  unfold waitS at h ⊢
  split
  · rfl
  · rw [if_neg ‹_›] at h
    split
    · rfl
    · rw [if_neg ‹_›] at h; exact absurd rfl h
/-- What a method's 'out' answers. -/
def methOut (m c : Int) (l : List Lay) (d : Pnd) (q : Int) : List Lay × Lay × Int := if m = 3 then outP l d q else if m = 4 then outC l q c else outS l q
/-- What pool.Out answers: layers, what waits, a layer, whether it waits, an error. -/
def poolOutS (m c : Int) (l : List Lay) (d : Pnd) (kind q : Int) : List Lay × Pnd × Lay × Bool × Int :=
  if m < 1 ∨ 4 < m then (l, d, .zero, false, 12) else if kind < 0 ∨ 3 < kind then (l, d, .zero, false, 1)
  else if m = 3 ∧ kind ≠ 3 then (l, (waitS l d kind q).1, .zero, decide ((waitS l d kind q).2 = 0), (waitS l d kind q).2)
  else ((methOut m c l d q).1, d, (methOut m c l d q).2.1, false, (methOut m c l d q).2.2)
theorem methOut_LR {m c : Int} {l : List Lay} {d : Pnd} {q : Int} (h : LR l) : LR (methOut m c l d q).1 := by
  unfold methOut
  split
  · exact outP_LR h
  · split
    · exact outC_LR h
    · exact outS_LR h
theorem methOut_no {m c : Int} {l : List Lay} {d : Pnd} {q : Int} (h : (methOut m c l d q).2.2 ≠ 0) : (methOut m c l d q).1 = l ∧ (methOut m c l d q).2.1 = .zero := by
  unfold methOut at h ⊢
  split
  · rw [if_pos ‹_›] at h; exact outP_no h
  · rw [if_neg ‹_›] at h
    split
    · rw [if_pos ‹_›] at h; exact outC_no h
    · rw [if_neg ‹_›] at h; exact outS_no h

/-- pool.Out, whatever the method. -/
theorem pool_Out (m c : Int) (a : Option Addr) (cap : Nat) (l : List Lay) (d : Pnd) (kind q : Int) (w : World) (h : Row w 3 a l.length cap (flat l)) (hL : LR l) (hd : PndOk d) (hq : I64 q) (hc : I64 c) :
    Calls Try.prog 17 #[.int .i64 m, .int .i64 c, poolV (.slice a l.length cap) d, .int .i64 kind, .int .i64 q] w (HoldP4 w (poolOutS m c l d kind q)) := by
  have hn : l.length ≤ 900 := by have := hL.len; omega
  unfold poolOutS
  by_cases hm : m < 1 ∨ 4 < m
  · rw [if_pos hm]; exact pool_Out_none m c a cap l d kind q w h hn hm
  rw [if_neg hm]
  have hm4 : m = 1 ∨ m = 2 ∨ m = 3 ∨ m = 4 := by omega
  by_cases hk : kind < 0 ∨ 3 < kind
  · rw [if_pos hk]
    rcases hm4 with rfl | rfl | rfl | rfl
    · exact pool_Out_kind 1 c _ _ (fun W => pool_of_1 c W) a cap l d kind q w h hn hk
    · exact pool_Out_kind 2 c _ _ (fun W => pool_of_2 c W) a cap l d kind q w h hn hk
    · exact pool_Out_kind 3 c _ _ (fun W => pool_of_3 c W) a cap l d kind q w h hn hk
    · exact pool_Out_kind 4 c _ _ (fun W => pool_of_4 c W) a cap l d kind q w h hn hk
  rw [if_neg hk]
  by_cases hw : m = 3 ∧ kind ≠ 3
  · rw [if_pos hw]
    obtain ⟨rfl, hk3⟩ := hw
    exact pool_Out_wait 3 c _ _ (fun W => pool_of_3 c W) pool_waits_3 a cap l d kind q w h hL hd hq _ _ rfl (fun e => waitS_no e) (by omega) _ rfl
  rw [if_neg hw]
  have hr := methOut_LR (m := m) (c := c) (d := d) (q := q) hL
  have hno := @methOut_no m c l d q
  rcases hm4 with rfl | rfl | rfl | rfl
  · exact pool_Out_by 1 c _ _ (fun W => pool_of_1 c W) _ _ false pool_waits_1 meth_first_out (fun args W => by kernel_rfl) a cap l d kind q w h hn (fun W hW => pool_first_out a cap l d q W hW hL hq) hr hno (by omega) (.inl rfl)
  · exact pool_Out_by 2 c _ _ (fun W => pool_of_2 c W) _ _ false pool_waits_2 meth_moving_out (fun args W => by kernel_rfl) a cap l d kind q w h hn (fun W hW => pool_moving_out a cap l d q W hW hL hq) hr hno (by omega) (.inl rfl)
  · exact pool_Out_by 3 c _ _ (fun W => pool_of_3 c W) _ _ true pool_waits_3 meth_periodic_out (fun args W => by kernel_rfl) a cap l d kind q w h hn (fun W hW => pool_periodic_out a cap l d q W hW hL hq hd) hr hno (by omega) (.inr (by omega))
  · exact pool_Out_by 4 c _ _ (fun W => pool_of_4 c W) _ _ false (pool_waits_4 c) (meth_standard_out c) (fun args W => by kernel_rfl) a cap l d kind q w h hn (fun W hW => pool_standard_out a cap l d q c W hW hL hq hc) hr hno (by omega) (.inl rfl)

set_option maxRecDepth 20000 in
set_option maxHeartbeats 1000000 in
theorem pool_Total (a : Option Addr) (cap : Nat) (l : List Lay) (d : Pnd) (w : World) (h : Row w 3 a l.length cap (flat l)) (hn : l.length ≤ 1000) :
    Calls Try.prog 26 #[poolV (.slice a l.length cap) d] w fun e w' => e = .returned (tot l).val ∧ Below w.heap.size w w' := by
  have hcall := fun W (hW : Row W 3 a l.length cap (flat l)) => fifo_Total a cap l W hW hn
  obtain ⟨n, hN⟩ : ∃ n, l.length = n := ⟨_, rfl⟩
  rw [hN] at h hcall ⊢
  clear hN
  obtain ⟨⟨tq, tv, tp⟩, ht⟩ : ∃ t, tot l = t := ⟨_, rfl⟩
  rw [ht] at hcall ⊢
  clear ht
  have hcallh := Lib.hid hcall
  clear hcall
  obtain ⟨da, db, dc⟩ := d
  unfold poolV Lay.val at *
  simp only at hcallh ⊢
  go_enter Try.func26, Try.ntmps26
  have hB0 : Below w.heap.size w ((w.alloc (.cells #[.slice a n cap, .int .i64 da, .int .i64 db, .int .i64 dc] 26)).alloc (.cells #[.int .i64 0, .int .i64 0, .int .i64 0] 32)) := by (repeat (first | assumption | exact Below.refl _ _ | refine ballc ?_ _ | refine bdrew ?_ | refine bdrewN ?_ _ | refine bset ?_ _ _ | refine bsetN ?_ (by omega) _ _ | refine bthen ?_ (by assumption)))
  have PX := CellL.new (w.alloc (.cells #[.slice a n cap, .int .i64 da, .int .i64 db, .int .i64 dc] 26)) ⟨0, 0, 0⟩ 32
  simp only [World.size_alloc] at PX
  go_wp2_with fail
  refine (hcallh.out _ (h.below hB0)).mono ?_
  rintro e w1 ⟨rfl, hw1⟩
  have hw1s := hw1.size
  simp only [World.size_alloc] at hw1s
  obtain ⟨z0, z1, z2, o0, o1, o2⟩ := (PX.below hw1 (by simp)).below ((Below.refl w1.heap.size w1).alloc (Nat.le_refl _) (.cells #[.int .i64 tq, .int .i64 tv, .int .i64 tp] 32)) (by omega)
  have hb1 : Below w.heap.size w (w1.alloc (.cells #[.int .i64 tq, .int .i64 tv, .int .i64 tp] 32)) := by (repeat (first | assumption | exact Below.refl _ _ | refine ballc ?_ _ | refine bdrew ?_ | refine bdrewN ?_ _ | refine bset ?_ _ _ | refine bsetN ?_ (by omega) _ _ | refine bthen ?_ (by assumption)))
  have hl : w.heap.size + 1 < w1.heap.size := by omega
  simp only at z0 z1 z2
  clear PX hw1 hB0
  go_upto_region 2 with fail
  have y0 : (w1.alloc (.cells #[.int .i64 tq, .int .i64 tv, .int .i64 tp] 32)).cell? ⟨w1.heap.size, 0, none⟩ = some (.int .i64 tq) := by simp
  have y1 : (w1.alloc (.cells #[.int .i64 tq, .int .i64 tv, .int .i64 tp] 32)).cell? ⟨w1.heap.size, 1, none⟩ = some (.int .i64 tv) := by simp
  have y2 : (w1.alloc (.cells #[.int .i64 tq, .int .i64 tv, .int .i64 tp] 32)).cell? ⟨w1.heap.size, 2, none⟩ = some (.int .i64 tp) := by simp
  have hl2 : w.heap.size + 1 < (w1.alloc (.cells #[.int .i64 tq, .int .i64 tv, .int .i64 tp] 32)).heap.size := by simp; omega
  generalize w1.alloc (.cells #[.int .i64 tq, .int .i64 tv, .int .i64 tp] 32) = W1 at *
  go_wp2_with fail
  refine bodyPost_ret (v := .agg #[.int .i64 tq, .int .i64 tv, .int .i64 tp]) (by simp [results, Try.results26, go_sem, hl2, z0, z1, z2, o0, o1, o2]) rfl ⟨rfl, ?_⟩
  repeat (first | refine Below.setCell ?_ (by simp only; omega) _ | exact hb1)

theorem field_Lay0 (x y z : Int) (W : World) : (Instr.field 32 (.agg #[.int .i64 x, .int .i64 y, .int .i64 z]) 0).run Try.prog W = .ok (.int .i64 x) W := by kernel_rfl
theorem field_Lay1 (x y z : Int) (W : World) : (Instr.field 32 (.agg #[.int .i64 x, .int .i64 y, .int .i64 z]) 1).run Try.prog W = .ok (.int .i64 y) W := by kernel_rfl
theorem field_Lay2 (x y z : Int) (W : World) : (Instr.field 32 (.agg #[.int .i64 x, .int .i64 y, .int .i64 z]) 2).run Try.prog W = .ok (.int .i64 z) W := by kernel_rfl

set_option maxRecDepth 20000 in
set_option maxHeartbeats 1000000 in
theorem pool_Free (m : Int) (a : Option Addr) (cap : Nat) (l : List Lay) (d : Pnd) (w : World) (h : Row w 3 a l.length cap (flat l)) (hL : LR l) (hd : PndOk d) :
    Calls Try.prog 38 #[.int .i64 m, poolV (.slice a l.length cap) d] w fun e w' => e = .returned (.int .i64 (if m = 3 then freeP l d else (tot l).q)) ∧ Below w.heap.size w w' := by
  have hc1 := fun W (hW : Row W 3 a l.length cap (flat l)) => pavg_Free a cap l d W hW hL hd
  have hc2 := fun W (hW : Row W 3 a l.length cap (flat l)) => pool_Total a cap l d W hW (by have := hL.len; omega)
  obtain ⟨n, hN⟩ : ∃ n, l.length = n := ⟨_, rfl⟩
  rw [hN] at h hc1 hc2 ⊢
  clear hN
  obtain ⟨⟨tq, tv, tp⟩, ht⟩ : ∃ t, tot l = t := ⟨_, rfl⟩
  rw [ht] at hc2 ⊢
  clear ht
  obtain ⟨f, hf⟩ : ∃ f, freeP l d = f := ⟨_, rfl⟩
  rw [hf] at hc1 ⊢
  clear hf hL hd
  have hc1h := Lib.hid hc1
  have hc2h := Lib.hid hc2
  clear hc1 hc2
  obtain ⟨da, db, dc⟩ := d
  unfold poolV Lay.val at *
  simp only at hc1h hc2h ⊢
  by_cases hm : m = 3
  · rw [if_pos hm]
    go_enter Try.func38, Try.ntmps38
    go_wp2_with fail
    refine (hc1h.out _ (h.below (by (repeat (first | assumption | exact Below.refl _ _ | refine ballc ?_ _ | refine bdrew ?_ | refine bdrewN ?_ _ | refine bset ?_ _ _ | refine bsetN ?_ (by omega) _ _ | refine bthen ?_ (by assumption)))))).mono ?_
    rintro e w1 ⟨rfl, hw1⟩
    go_wp2_with fail
    go_ret
    exact ⟨rfl, by (repeat (first | assumption | exact Below.refl _ _ | refine ballc ?_ _ | refine bdrew ?_ | refine bdrewN ?_ _ | refine bset ?_ _ _ | refine bsetN ?_ (by omega) _ _ | refine bthen ?_ (by assumption)))⟩
  · rw [if_neg hm]
    have hfld := field_Lay0
    go_enter Try.func38, Try.ntmps38
    go_wp2_with fail
    refine (hc2h.out _ (h.below (by (repeat (first | assumption | exact Below.refl _ _ | refine ballc ?_ _ | refine bdrew ?_ | refine bdrewN ?_ _ | refine bset ?_ _ _ | refine bsetN ?_ (by omega) _ _ | refine bthen ?_ (by assumption)))))).mono ?_
    rintro e w1 ⟨rfl, hw1⟩
    go_wp2_with fail
    go_ret
    exact ⟨rfl, by (repeat (first | assumption | exact Below.refl _ _ | refine ballc ?_ _ | refine bdrew ?_ | refine bdrewN ?_ _ | refine bset ?_ _ _ | refine bsetN ?_ (by omega) _ _ | refine bthen ?_ (by assumption)))⟩
end Go.Proofs.Ytjccjmmbebiegaa
