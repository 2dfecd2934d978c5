/-
  pool.Right. The walk.
-/
import Derived.Test.YtjccjmmbebiegaaPool8
set_option linter.unusedVariables false
set_option linter.unusedSimpArgs false
namespace Go.Proofs.Ytjccjmmbebiegaa
open Go.RowKit

/-- May so much wait, one kind behind the other? -/
def pendGo (b : Bool) (left : Int) : List Int → Bool
  | [] => true
  | q :: r => if q < 0 ∨ left < q ∨ (0 < q ∧ b = false) then false else pendGo b (left - q) r
/-- May a pool be? -/
def rightP (m : Int) (l : List Lay) (d : Pnd) : Bool :=
  if m < 1 ∨ 4 < m ∨ rightL l = false ∨ (m ≠ 1 ∧ 1 < l.length) then false else pendGo (decide (m = 3)) (tot l).q [d.a, d.b, d.c]

set_option maxRecDepth 20000 in
set_option maxHeartbeats 1000000 in
theorem pool_Right_none (m : Int) (a : Option Addr) (cap : Nat) (l : List Lay) (d : Pnd) (w : World) (h : Row w 3 a l.length cap (flat l)) (hm : m < 1 ∨ 4 < m) :
    Calls Try.prog 18 #[.int .i64 m, poolV (.slice a l.length cap) d] w fun e w' => e = .returned (.bool (rightP m l d)) ∧ Below w.heap.size w w' := by
  have hr : rightP m l d = false := by unfold rightP; rw [if_pos (by omega)]
  rw [hr]
  obtain ⟨n, hN⟩ : ∃ n, l.length = n := ⟨_, rfl⟩
  rw [hN] at h ⊢
  clear hN hr
  obtain ⟨da, db, dc⟩ := d
  unfold poolV
  simp only
  go_enter Try.func18, Try.ntmps18
  go_wp2_with fail
  refine (pool_of_none 0 _ hm).mono ?_
  rintro e w' ⟨rfl, rfl⟩
  go_wp2_with fail
  go_ret
  exact ⟨rfl, by (repeat (first | assumption | exact Below.refl _ _ | refine ballc ?_ _ | refine bdrew ?_ | refine bdrewN ?_ _ | refine bset ?_ _ _ | refine bsetN ?_ (by omega) _ _ | refine bthen ?_ (by assumption)))⟩

set_option maxRecDepth 20000 in
set_option maxHeartbeats 4000000 in
theorem pool_Right_by (m : Int) (T : Nat) (recv : Value) (b : Bool) (hof : ∀ W, Calls Try.prog 34 #[.int .i64 m, .int .i64 0] W fun e w' => e = .returned (.iface T recv) ∧ W = w')
    (hwaits : ∀ W, Calls Try.prog 36 #[.iface T recv] W fun e w' => e = .returned (.bool b) ∧ Below W.heap.size W w') (hb : decide (m = 3) = b) (hm : 1 ≤ m ∧ m ≤ 4)
    (a : Option Addr) (cap : Nat) (l : List Lay) (d : Pnd) (w : World) (h : Row w 3 a l.length cap (flat l)) (hn : l.length ≤ 900) (hd : I64 d.a ∧ I64 d.b ∧ I64 d.c) :
    Calls Try.prog 18 #[.int .i64 m, poolV (.slice a l.length cap) d] w fun e w' => e = .returned (.bool (rightP m l d)) ∧ Below w.heap.size w w' := by
  have hofh := Lib.hid hof
  have hwaitsh := Lib.hid hwaits
  have hcr := fun W (hW : Row W 3 a l.length cap (flat l)) => fifo_Right a cap l W hW (by omega)
  have hct := fun W (hW : Row W 3 a l.length cap (flat l)) => pool_Total a cap l d W hW (by omega)
  have hR : rightP m l d = if rightL l = false ∨ (m ≠ 1 ∧ 1 < l.length) then false else pendGo b (tot l).q [d.a, d.b, d.c] := by
    unfold rightP
    rw [hb]
    by_cases h1 : rightL l = false ∨ (m ≠ 1 ∧ 1 < l.length)
    · rw [if_pos (.inr (.inr h1)), if_pos h1]
    · rw [if_neg (by rintro (h | h | h); omega; omega; exact h1 h), if_neg h1]
  have htq : rightL l = true → 0 ≤ (tot l).q ∧ (tot l).q ≤ 288230376151711744 := fun hr => by
    have hL := LR.of hr
    rw [hL.tot.1]
    exact ⟨(qs_pos hL.ok).1, hL.q⟩
  rw [hR]
  clear hR hof hwaits hb
  obtain ⟨n, hN⟩ : ∃ n, l.length = n := ⟨_, rfl⟩
  rw [hN] at h hcr hct hn ⊢
  clear hN
  obtain ⟨rl, hrl⟩ : ∃ rl, rightL l = rl := ⟨_, rfl⟩
  rw [hrl] at hcr htq ⊢
  clear hrl
  obtain ⟨⟨tq, tv, tp⟩, ht⟩ : ∃ t, tot l = t := ⟨_, rfl⟩
  rw [ht] at hct htq ⊢
  clear ht
  have hcrh := Lib.hid hcr
  have hcth := Lib.hid hct
  clear hcr hct
  obtain ⟨da, db, dc⟩ := d
  unfold poolV Lay.val at *
  simp only at hcth htq hd ⊢
  obtain ⟨⟨ha0, ha1⟩, ⟨hb0, hb1⟩, ⟨hc0, hc1⟩⟩ := hd
  have hfld := field_Lay0
  obtain ⟨hm1, hm4⟩ := hm
  have hRow := h.below (show Below w.heap.size w (w.alloc (.cells #[.slice a n cap, .int .i64 da, .int .i64 db, .int .i64 dc] 26)) by (repeat (first | assumption | exact Below.refl _ _ | refine ballc ?_ _ | refine bdrew ?_ | refine bdrewN ?_ _ | refine bset ?_ _ _ | refine bsetN ?_ (by omega) _ _ | refine bthen ?_ (by assumption))))
  by_cases hrl : rl = false
  · subst hrl
    rw [if_pos (.inl rfl)]
    go_enter Try.func18, Try.ntmps18
    go_wp2_with fail
    refine (hofh.out _).mono ?_
    rintro e w' ⟨rfl, rfl⟩
    go_wp2_with fail
    refine (hcrh.out _ hRow).mono ?_
    rintro e w1 ⟨rfl, hw1⟩
    go_wp2_with fail
    go_ret
    exact ⟨rfl, by (repeat (first | assumption | exact Below.refl _ _ | refine ballc ?_ _ | refine bdrew ?_ | refine bdrewN ?_ _ | refine bset ?_ _ _ | refine bsetN ?_ (by omega) _ _ | refine bthen ?_ (by assumption)))⟩
  have hrl2 : rl = true := by cases rl <;> simp_all
  subst hrl2
  clear hrl
  have hcell : ∀ (x : World), Below (w.alloc (.cells #[.slice a n cap, .int .i64 da, .int .i64 db, .int .i64 dc] 26)).heap.size (w.alloc (.cells #[.slice a n cap, .int .i64 da, .int .i64 db, .int .i64 dc] 26)) x → CellP x w.heap.size (.slice a n cap) ⟨da, db, dc⟩ := fun x hx => (CellP.new w (.slice a n cap) ⟨da, db, dc⟩ 26).below hx (by simp)
  have hcellh := Lib.hid hcell
  clear hcell
  by_cases hml : m ≠ 1 ∧ 1 < n
  · rw [if_pos (.inr hml)]
    obtain ⟨hm', hn1⟩ := hml
    have hn1' : (1 : Int) < (n : Int) := by omega
    go_enter Try.func18, Try.ntmps18
    go_wp2_with fail
    refine (hofh.out _).mono ?_
    rintro e w' ⟨rfl, rfl⟩
    go_wp2_with fail
    refine (hcrh.out _ hRow).mono ?_
    rintro e w1 ⟨rfl, hw1⟩
    obtain ⟨p0, p1, p2, p3, -, -, -, -⟩ := hcellh.out w1 hw1
    have hl : w.heap.size < w1.heap.size := by have := hw1.size; simp at this; omega
    go_wp2_with fail
    go_ret
    exact ⟨rfl, by (repeat (first | assumption | exact Below.refl _ _ | refine ballc ?_ _ | refine bdrew ?_ | refine bdrewN ?_ _ | refine bset ?_ _ _ | refine bsetN ?_ (by omega) _ _ | refine bthen ?_ (by assumption)))⟩
  rw [if_neg (by rintro (h | h); cases h; exact hml h)]
  have hml2 : m = 1 ∨ (m ≠ 1 ∧ ¬ (1 : Int) < (n : Int)) := by omega
  obtain ⟨ht0, ht1⟩ := htq rfl
  obtain ⟨R, hRR⟩ : ∃ R, pendGo b tq [da, db, dc] = R := ⟨_, rfl⟩
  rw [hRR]
  have hRh := Lib.hid hRR
  clear hml hRR htq
  go_enter Try.func18, Try.ntmps18
  go_wp2_with fail
  refine (hofh.out _).mono ?_
  rintro e w' ⟨rfl, rfl⟩
  go_upto_region 2 with fail
  have hBW : Below w.heap.size w (w.alloc (.cells #[.slice a n cap, .int .i64 da, .int .i64 db, .int .i64 dc] 26)) := by (repeat (first | assumption | exact Below.refl _ _ | refine ballc ?_ _ | refine bdrew ?_ | refine bdrewN ?_ _ | refine bset ?_ _ _ | refine bsetN ?_ (by omega) _ _ | refine bthen ?_ (by assumption)))
  have hsW : w.heap.size + 1 = (w.alloc (.cells #[.slice a n cap, .int .i64 da, .int .i64 db, .int .i64 dc] 26)).heap.size := by simp
  generalize w.alloc (.cells #[.slice a n cap, .int .i64 da, .int .i64 db, .int .i64 dc] 26) = W0 at *
  have hlW : w.heap.size < W0.heap.size := by omega
  clear hsW
  go_cut [28] from 11 to 28 (fun s wx => s = .bool false ∧ Below W0.heap.size W0 wx)
  case first =>
    obtain ⟨p0, p1, p2, p3, -, -, -, -⟩ := hcellh.out W0 (Below.refl _ _)
    simp only at p1 p2 p3
    go_wp2_with fail
    refine (hcrh.out _ hRow).mono ?_
    rintro e w1 ⟨rfl, hw1⟩
    obtain ⟨p0, p1, p2, p3, -, -, -, -⟩ := hcellh.out w1 hw1
    have hl : w.heap.size < w1.heap.size := by have := hw1.size; omega
    simp only at p1 p2 p3
    rcases hml2 with rfl | ⟨hm', hn'⟩
    all_goals
      go_wp2_with fail
      go_meet
      case rel => exact ⟨by first | rfl | simp [hn'] | simp, hw1⟩
  case rest =>
  obtain ⟨rfl, hw1⟩ := hcut
  have hP1 := hcellh.out wc hw1
  have hl : w.heap.size < wc.heap.size := by have := hw1.size; omega
  have hRow1 := hRow.below hw1
  have hB1 : Below w.heap.size w wc := hBW.trans (hw1.mono (by omega))
  obtain ⟨p0, p1, p2, p3, -, -, -, -⟩ := id hP1
  simp only at p1 p2 p3
  clear hcellh hw1 hRow hBW hcrh hml2
  go_wp2_with fail
  refine (hcth.out wc hRow1).mono ?_
  rintro e w2 ⟨rfl, hw2⟩
  have hP2 := hP1.below hw2 hl
  have hB2 : Below w.heap.size w w2 := hB1.trans (hw2.mono (by omega))
  have hl2 : w.heap.size < w2.heap.size := by have := hw2.size; omega
  obtain ⟨p0, p1, p2, p3, -, -, -, -⟩ := hP2
  simp only at p1 p2 p3
  clear hP1 hw2 hB1 hRow1 hcth
  have i0 : ∀ W, (Instr.index 24 (.agg #[.int .i64 da, .int .i64 db, .int .i64 dc]) (.int .i64 0)).run Try.prog W = .ok (.int .i64 da) W := fun _ => by kernel_rfl
  have i1 : ∀ W, (Instr.index 24 (.agg #[.int .i64 da, .int .i64 db, .int .i64 dc]) (.int .i64 1)).run Try.prog W = .ok (.int .i64 db) W := fun _ => by kernel_rfl
  have i2 : ∀ W, (Instr.index 24 (.agg #[.int .i64 da, .int .i64 db, .int .i64 dc]) (.int .i64 2)).run Try.prog W = .ok (.int .i64 dc) W := fun _ => by kernel_rfl
  go_wp2_with fail
  go_loopw [6, 34] (fun lf i wr => ∃ (k : Nat) (left : Int), k ≤ 3 ∧ i = .int .i64 k ∧ lf = .int .i64 left ∧ 0 ≤ left ∧ left ≤ 288230376151711744 ∧ pendGo b left ([da, db, dc].drop k) = R ∧ Below w.heap.size w wr) (fun _ i _ => 3 - (intOf i).toNat)
  case atStart => exact ⟨0, tq, by omega, rfl, rfl, ht0, ht1, hRh.out, hB2⟩
  case round =>
    obtain ⟨k, left, hk, rfl, rfl, hl0, hl1, hG, hbel⟩ := hrel
    have hk4 : k = 3 ∨ k = 0 ∨ k = 1 ∨ k = 2 := by omega
    rcases hk4 with rfl | hk3
    · have hG2 : R = true := hG.symm
      subst hG2
      go_wp2_with fail
      go_ret
      exact ⟨rfl, hbel⟩
    · obtain ⟨x, hx, hxr⟩ : ∃ x, (k = 0 ∧ x = da ∨ k = 1 ∧ x = db ∨ k = 2 ∧ x = dc) ∧ [da, db, dc].drop k = x :: [da, db, dc].drop (k + 1) := by
        rcases hk3 with rfl | rfl | rfl
        · exact ⟨da, .inl ⟨rfl, rfl⟩, rfl⟩
        · exact ⟨db, .inr (.inl ⟨rfl, rfl⟩), rfl⟩
        · exact ⟨dc, .inr (.inr ⟨rfl, rfl⟩), rfl⟩
      rw [hxr] at hG
      unfold pendGo at hG
      have hxI : -9223372036854775808 ≤ x ∧ x ≤ 9223372036854775807 := by omega
      by_cases h1 : x < 0
      · rw [if_pos (.inl h1)] at hG
        subst hG
        rcases hx with ⟨rfl, rfl⟩ | ⟨rfl, rfl⟩ | ⟨rfl, rfl⟩
        all_goals
          go_wp2_with fail
          go_ret
          exact ⟨rfl, hbel⟩
      by_cases h2 : left < x
      · rw [if_pos (.inr (.inl h2))] at hG
        subst hG
        rcases hx with ⟨rfl, rfl⟩ | ⟨rfl, rfl⟩ | ⟨rfl, rfl⟩
        all_goals
          go_wp2_with fail
          go_ret
          exact ⟨rfl, hbel⟩
      by_cases h3 : 0 < x
      · cases b with
        | false =>
          rw [if_pos (.inr (.inr ⟨h3, rfl⟩))] at hG
          subst hG
          rcases hx with ⟨rfl, rfl⟩ | ⟨rfl, rfl⟩ | ⟨rfl, rfl⟩
          all_goals
            go_wp2_with fail
            refine (hwaitsh.out _).mono ?_
            rintro e w3 ⟨rfl, hw3⟩
            go_wp2_with fail
            go_ret
            exact ⟨rfl, hbel.trans (hw3.mono hbel.size)⟩
        | true =>
          rw [if_neg (by simp; omega)] at hG
          have hGh := Lib.hid hG
          clear hG hxr
          have f1 : IntKind.i64.wrap (left - x) = left - x := IntWalk.i64_in _ (by omega)
          rcases hx with ⟨rfl, rfl⟩ | ⟨rfl, rfl⟩ | ⟨rfl, rfl⟩
          all_goals
            go_wp2_with fail
            refine (hwaitsh.out _).mono ?_
            rintro e w3 ⟨rfl, hw3⟩
            go_wp2_with fail
            case' roundEnd =>
              refine ⟨⟨_, left - x, ?_, ?_, rfl, by omega, by omega, hGh.out, hbel.trans (hw3.mono hbel.size)⟩, ?_⟩
            all_goals first | omega | go_num | (simp [intOf]; done) | (simp [intOf]; omega)
      · have h0 : x = 0 := by omega
        subst h0
        rw [if_neg (by omega)] at hG
        have hGh := Lib.hid hG
        clear hG hxr
        rcases hx with ⟨rfl, rfl⟩ | ⟨rfl, rfl⟩ | ⟨rfl, rfl⟩
        all_goals
          go_wp2_with fail
          case' roundEnd =>
            refine ⟨⟨_, left - 0, ?_, ?_, ?_, by omega, by omega, hGh.out, hbel⟩, ?_⟩
          all_goals first | omega | go_num | (simp [intOf]; done) | (simp [intOf]; omega)

/-- pool.Right, whatever the method. -/
theorem pool_Right (m : Int) (a : Option Addr) (cap : Nat) (l : List Lay) (d : Pnd) (w : World) (h : Row w 3 a l.length cap (flat l)) (hn : l.length ≤ 900) (hd : I64 d.a ∧ I64 d.b ∧ I64 d.c) :
    Calls Try.prog 18 #[.int .i64 m, poolV (.slice a l.length cap) d] w fun e w' => e = .returned (.bool (rightP m l d)) ∧ Below w.heap.size w w' := by
  by_cases hm : m < 1 ∨ 4 < m
  · exact pool_Right_none m a cap l d w h hm
  · have hm4 : m = 1 ∨ m = 2 ∨ m = 3 ∨ m = 4 := by omega
    rcases hm4 with rfl | rfl | rfl | rfl
    · exact pool_Right_by 1 _ _ false (fun W => pool_of_1 0 W) pool_waits_1 rfl (by omega) a cap l d w h hn hd
    · exact pool_Right_by 2 _ _ false (fun W => pool_of_2 0 W) pool_waits_2 rfl (by omega) a cap l d w h hn hd
    · exact pool_Right_by 3 _ _ true (fun W => pool_of_3 0 W) pool_waits_3 rfl (by omega) a cap l d w h hn hd
    · exact pool_Right_by 4 _ _ false (fun W => pool_of_4 0 W) (pool_waits_4 0) rfl (by omega) a cap l d w h hn hd
end Go.Proofs.Ytjccjmmbebiegaa
