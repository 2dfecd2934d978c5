/-
  VoucherLimits. Its walk.
-/
import Derived.Test.YtnkdbjmfpebcgaaVou6
set_option linter.unusedVariables false
set_option linter.unusedSimpArgs false
namespace Go.Proofs.Ytnkdbjmfpebcgaa
open Go.RowKit

theorem CellsAt.put {w : World} {b off : Nat} {zs : List Int} (h : CellsAt w b off zs) {j : Nat} (hj : j < zs.length) (z : Int) : CellsAt (w.setCell ⟨b, off + j, none⟩ (.int .i64 z)) b off (zs.set j z) := by
  intro i hi
  rw [List.length_set] at hi
  have k := h i hi
  by_cases e : i = j
  · subst e
    rw [World.cell?_setCell_same _ _ _ k, List.getD_eq_getElem?_getD, List.getElem?_set_self hi]
    rfl
  · rw [World.cell?_setCell_other _ _ _ _ (by intro e2; injection e2; omega), k, List.getD_eq_getElem?_getD, List.getD_eq_getElem?_getD, List.getElem?_set_ne (fun e2 => e e2.symm)]

theorem OwnI.lit (w : World) (zs : List Int) (n k : Nat) (e : TypeId) (hl : zs.length = n * k) (hm : n ≤ 4611686018427387904) : OwnI (w.alloc (.cells (zs.map (Value.int .i64)).toArray e)) w.heap.size e k (.slice (some ⟨w.heap.size, 0, none⟩) n n) n zs := by
  have := World.ownsRow_lit (base := w.heap.size) (e := e) (size := k) w (zs.map (Value.int .i64)).toArray n (Nat.le_refl _) (by unfold maxLen; omega) (by simpa using hl)
  exact this
def limL (k : Nat) : List Lin := (List.range k).map fun (i : Nat) => (⟨(i : Int) % 17, 2 * ((i : Int) % 2) - 1⟩ : Lin)
theorem limL_succ (k : Nat) : limL (k + 1) = limL k ++ [⟨(k : Int) % 17, 2 * ((k : Int) % 2) - 1⟩] := by simp [limL, List.range_succ]
theorem limL_len (k : Nat) : (limL k).length = k := by simp [limL]
def limF (k : Nat) : List Lin := if k % 2 = 1 then limL k ++ [⟨0, 1⟩] else limL k
theorem limF_check : ∀ k, k < 20 → checkL (limF k) = (decide (2 ≤ (limF k).length) && decide ((limF k).length ≤ 12)) := by decide +kernel
theorem limF_I (k : Nat) : AllI (flat2 (limF k)) := by
  refine flat2_of fun x hx => ?_
  have h0 : ∀ y, y ∈ limL k → I64 y.a ∧ I64 y.n := by
    intro y hy
    obtain ⟨i, hi, rfl⟩ := List.mem_map.1 hy
    exact ⟨⟨by simp only; omega, by simp only; omega⟩, ⟨by simp only; omega, by simp only; omega⟩⟩
  unfold limF at hx
  split at hx
  · rcases List.mem_append.1 hx with hx | hx
    · exact h0 x hx
    · simp at hx
      subst hx
      exact ⟨⟨by simp, by simp⟩, ⟨by simp, by simp⟩⟩
  · exact h0 x hx

set_option maxRecDepth 20000 in
set_option maxHeartbeats 4000000 in
theorem VoucherLimits_walk (n how : Int) (w : World) (hn : I64 n) (hh : I64 how) :
    Calls Try.prog 3 #[.int .i64 n, .int .i64 how] w fun e w' => e = .returned (.bool true) ∧ Below w.heap.size w w' := by
  have p1 := Int.emod_nonneg n (show (20 : Int) ≠ 0 by omega)
  have p2 := Int.emod_lt_of_pos n (show (0 : Int) < 20 by omega)
  obtain ⟨k, hk⟩ : ∃ k : Nat, n % 20 = (k : Int) := ⟨(n % 20).toNat, by omega⟩
  have hk20 : k < 20 := by omega
  obtain ⟨c, hc⟩ : ∃ c, how % 4 = c := ⟨_, rfl⟩
  have c0 : 0 ≤ c := by omega
  have c1 : c < 4 := by omega
  clear p1 p2
  go_enter Try.func3, Try.ntmps3
  go_wp2_with (first | (go_at_call 8; refine (Place_calls _ _ _ (by omega) (by omega)).mono ?_; rintro e w' ⟨rfl, rfl⟩))
  go_loopw [6, 7] (fun v i wr => ∃ j : Nat, j ≤ k ∧ i = .int .i64 j ∧ OwnI wr w.heap.size 25 2 v j (flat2 (limL j)) ∧ Below w.heap.size w wr) (fun _ i _ => k - (intOf i).toNat)
  case atStart => exact ⟨0, by omega, rfl, OwnI.nil _ _ _ _, Below.refl _ _⟩
  case round =>
    obtain ⟨j, hj, rfl, O, hbel⟩ := hrel
    have hsz := hbel.size
    by_cases hlt : j < k
    · have hltI : (j : Int) < (k : Int) := by omega
      have hj0 : (0 : Int) ≤ (j : Int) := by omega
      have hj1 : (j : Int) < 20 := by omega
      go_wp2_with (at_builtin; refine wpList_push _ rfl _ _ 23 rfl w.heap.size 25 2 elem_Line _ j (flat2 (limL j)) rfl (O.alloc _) wr.heap.size 0 1 [(j : Int) % 17, 2 * ((j : Int) % 2) - 1] rfl rfl (lit2 (x := ⟨(j : Int) % 17, 2 * ((j : Int) % 2) - 1⟩) rfl) ?c1 ?c2 ?_)
      case c1 => omega
      case c2 => simp; omega
      · intro v' w1 hown' hb1
        have hbel' := (hbel.alloc hsz _).trans hb1
        clear O hb1
        go_wp2
        go_roundw
        case rel => exact ⟨j + 1, by omega, by go_num, by rw [limL_succ, flat2_snoc]; exact hown', hbel'⟩
        case measure => simp [intOf]; omega
    · have ej : j = k := by omega
      subst ej
      have hge : ¬ (j : Int) < (j : Int) := by omega
      have hFI := limF_I j
      have HF0 := limF_check j hk20
      have PP := (show True from trivial)
      have P0 := Lib.hid (show plainS [⟨1, 288230376151711745⟩, ⟨2, -288230376151711744⟩] = ([], 1) by kernel_rfl)
      have P1 := Lib.hid (show plainS [⟨17, 288230376151711744⟩, ⟨2, -288230376151711744⟩] = ([], 1) by kernel_rfl)
      have P2 := Lib.hid (show plainS [⟨1, 288230376151711744⟩, ⟨-1, -288230376151711744⟩] = ([], 1) by kernel_rfl)
      have P3 := Lib.hid (show plainS [⟨1, 288230376151711744⟩, ⟨2, -288230376151711744⟩, ⟨1, 1⟩, ⟨3, -1⟩] = ([], 2) by kernel_rfl)
      have D := Lib.hid (show checkL [⟨1, 288230376151711744⟩, ⟨2, -288230376151711744⟩] = true by kernel_rfl)
      have D0 := Lib.hid (show checkL [⟨1, 288230376151711745⟩, ⟨2, -288230376151711744⟩] = false by kernel_rfl)
      have D1 := Lib.hid (show checkL [⟨17, 288230376151711744⟩, ⟨2, -288230376151711744⟩] = false by kernel_rfl)
      have D2 := Lib.hid (show checkL [⟨1, 288230376151711744⟩, ⟨-1, -288230376151711744⟩] = false by kernel_rfl)
      have D3 := Lib.hid (show checkL [⟨1, 288230376151711744⟩, ⟨2, -288230376151711744⟩, ⟨1, 1⟩, ⟨3, -1⟩] = true by kernel_rfl)
      clear PP
      have hj0 : (0 : Int) ≤ (j : Int) := by omega
      have O6h : (j % 2 = 1 ∧ limF j = limL j ++ [⟨0, 1⟩]) ∨ (¬ j % 2 = 1 ∧ limF j = limL j) := by
        by_cases h : j % 2 = 1
        · exact .inl ⟨h, by unfold limF; rw [if_pos h]⟩
        · exact .inr ⟨h, by unfold limF; rw [if_neg h]⟩
      rcases O6h with ⟨hodd, hF⟩ | ⟨hodd, hF⟩
      case' inl =>
        have hoddI : (j : Int) % 2 = 1 := by omega
        have hFl : (limF j).length = j + 1 := by rw [hF, List.length_append, limL_len]; rfl
        have hFh := Lib.hid hF
        have hFlh := Lib.hid hFl
        have hoddh := Lib.hid hodd
        clear hF hFl hodd
        go_wp2_with (at_builtin; refine wpList_push _ rfl _ _ 23 rfl w.heap.size 25 2 elem_Line _ j (flat2 (limL j)) rfl (O.alloc _) wr.heap.size 0 1 [0, 1] rfl rfl (lit2 (x := ⟨0, 1⟩) rfl) ?c1 ?c2 ?_)
        case c1 => first | omega | (simp; omega)
        case c2 => first | omega | (simp; omega)
        intro v6 wr hown' hb1
        have hbelr : Below w.heap.size w wr := (hbel.alloc hsz _).trans hb1
        have O6 : OwnI wr w.heap.size 25 2 v6 (limF j).length (flat2 (limF j)) := by rw [hFlh.out, hFh.out, flat2_snoc]; exact hown'
        clear O hb1 hown' hbel hsz
      case' inr =>
        have hoddI : ¬ (j : Int) % 2 = 1 := by omega
        have hFl : (limF j).length = j := by rw [hF, limL_len]
        generalize u6 = v6 at *
        have O6 : OwnI wr w.heap.size 25 2 v6 (limF j).length (flat2 (limF j)) := by rw [hFl, hF]; exact O
        have hbelr := hbel
        clear O hF hFl hodd hbel hsz
      all_goals
        obtain ⟨a6, c6, rfl, R6⟩ := O6.row hFI
        have hszr := hbelr.size
        clear O6 hFI
        have hK : (limF j).length < 2 ∨ (2 ≤ (limF j).length ∧ (limF j).length ≤ 12) ∨ 12 < (limF j).length := by omega
        obtain ⟨bb, HF, hK2⟩ : ∃ bb, Hid (checkL (limF j) = bb) ∧ ((bb = false ∧ ((limF j).length : Int) < 2) ∨ (bb = true ∧ (2 : Int) ≤ ((limF j).length : Int) ∧ ((limF j).length : Int) ≤ 12) ∨ (bb = false ∧ (2 : Int) ≤ ((limF j).length : Int) ∧ (12 : Int) < ((limF j).length : Int))) := by
          rcases hK with h | ⟨h1, h2⟩ | h
          · exact ⟨false, by rw [Hid, HF0]; simp; omega, .inl ⟨rfl, by omega⟩⟩
          · exact ⟨true, by rw [Hid, HF0]; simp; omega, .inr (.inl ⟨rfl, by omega, by omega⟩)⟩
          · exact ⟨false, by rw [Hid, HF0]; simp; omega, .inr (.inr ⟨rfl, by omega, by omega⟩)⟩
        clear hK HF0
        go_wp2_with fail
        refine (vou_Check (some ⟨wr.heap.size, 0, none⟩) 2 [⟨1, 288230376151711744⟩, ⟨2, -288230376151711744⟩] _ (Row.new wr 2 2 [1, 288230376151711744, 2, -288230376151711744] 25 rfl (by decide) (AllI.of_B (by decide +kernel)))).mono ?_
        rw [D.out]
        rintro e w2 ⟨rfl, hw2⟩
        have hb2 : Below wr.heap.size wr w2 := by (repeat (first | assumption | exact Below.refl _ _ | refine ballc ?_ _ | refine bdrew ?_ | refine bdrewN ?_ _ | refine bset ?_ _ _ | refine bsetN ?_ (by omega) _ _ | refine bthen ?_ (by assumption)))
        have R2 := (Row.new wr 2 2 [1, 288230376151711744, 2, -288230376151711744] 25 rfl (by decide) (AllI.of_B (by decide +kernel))).below hw2
        have hl2 : wr.heap.size < w2.heap.size := by have := hw2.size; simp at this; omega
        have hcs2 : CellsAt w2 wr.heap.size 0 [1, 288230376151711744, 2, -288230376151711744] := (CellsAt.new wr [1, 288230376151711744, 2, -288230376151711744] 25).below (by simp) hw2
        have y0 : w2.cell? ⟨wr.heap.size, 0, none⟩ = some (.int .i64 1) := hcs2 0 (by decide)
        have y1 : w2.cell? ⟨wr.heap.size, 1, none⟩ = some (.int .i64 288230376151711744) := hcs2 1 (by decide)
        have y2 : w2.cell? ⟨wr.heap.size, 2, none⟩ = some (.int .i64 2) := hcs2 2 (by decide)
        have f0 : w2.frozen? ⟨wr.heap.size, 0, none⟩ = false := (hw2.frozen (by simp)).trans (by simp)
        have f1 : w2.frozen? ⟨wr.heap.size, 1, none⟩ = false := (hw2.frozen (by simp)).trans (by simp)
        have f2 : w2.frozen? ⟨wr.heap.size, 2, none⟩ = false := (hw2.frozen (by simp)).trans (by simp)
        have hcc4 : c = 0 ∨ c = 1 ∨ c = 2 ∨ c = 3 := by omega
        rcases hcc4 with hcc | hcc | hcc | hcc
        · have hcv : c = 0 := hcc
          subst hcv
          have R3 : Row (w2.setCell ⟨wr.heap.size, 1, none⟩ (.int .i64 288230376151711745)) 2 (some ⟨wr.heap.size, 0, none⟩) 2 2 (flat2 [⟨1, 288230376151711745⟩, ⟨2, -288230376151711744⟩]) := ⟨rfl, Nat.le_refl _, by unfold maxLen; omega, AllI.of_B (by decide +kernel), .inr ⟨wr.heap.size, 0, rfl, by simpa [World.setCell] using hl2, by have t := CellsAt.put hcs2 (j := 1) (by decide) 288230376151711745; rw [Nat.zero_add] at t; exact t⟩⟩
          have hb3 : Below wr.heap.size wr (w2.setCell ⟨wr.heap.size, 1, none⟩ (.int .i64 288230376151711745)) := Below.setCell (p := ⟨wr.heap.size, 1, none⟩) hb2 (Nat.le_refl _) _
          have hbel3 : Below w.heap.size w (w2.setCell ⟨wr.heap.size, 1, none⟩ (.int .i64 288230376151711745)) := hbelr.trans (hb3.mono hszr)
          go_wp2_with (first | (go_at_call 8; refine (Place_calls _ _ _ (by omega) (by omega)).mono ?_; rintro e w' ⟨rfl, rfl⟩))
          refine (vou_Plain_is (l := [⟨1, 288230376151711745⟩, ⟨2, -288230376151711744⟩]) R3 (by decide) P0.out).mono ?_
          rintro e w4 ⟨⟨a4, c4, rfl, R4⟩, hw4⟩
          clear R4
          have R7 := R6.below (hb3.trans (hw4.mono hb3.size))
          have R8 := R3.below hw4
          have hbel4 : Below w.heap.size w w4 := hbel3.trans (hw4.mono hbel3.size)
          clear hw4 hb3 hbel3 R3
          rcases hK2 with ⟨rfl, k1⟩ | ⟨rfl, k1, k2⟩ | ⟨rfl, k1, k2⟩
          all_goals
            go_wp2_with fail
            refine (vou_Check a6 c6 (limF j) _ R7).mono ?_
            rw [HF.out]
            rintro e w5 ⟨rfl, hw5⟩
            have R9 := R8.below hw5
            go_wp2_with fail
            refine (vou_Check _ _ [⟨1, 288230376151711745⟩, ⟨2, -288230376151711744⟩] _ R9).mono ?_
            rw [D0.out]
            rintro e w6 ⟨rfl, hw6⟩
            have hbel6 : Below w.heap.size w w6 := by (repeat (first | assumption | exact Below.refl _ _ | refine ballc ?_ _ | refine bdrew ?_ | refine bdrewN ?_ _ | refine bset ?_ _ _ | refine bsetN ?_ (by omega) _ _ | refine bthen ?_ (by assumption)))
            clear R7 R8 R9 hw5 hw6 hbel4
            go_wp2_with (go_at_call 11; refine (vou_awake _).mono ?_; rintro e w' ⟨rfl, hwa⟩)
            go_ret
            first | exact ⟨rfl, by (repeat (first | assumption | exact Below.refl _ _ | refine ballc ?_ _ | refine bdrew ?_ | refine bdrewN ?_ _ | refine bset ?_ _ _ | refine bsetN ?_ (by omega) _ _ | refine bthen ?_ (by assumption)))⟩ | exact ⟨ret_bool (by simp; omega), by (repeat (first | assumption | exact Below.refl _ _ | refine ballc ?_ _ | refine bdrew ?_ | refine bdrewN ?_ _ | refine bset ?_ _ _ | refine bsetN ?_ (by omega) _ _ | refine bthen ?_ (by assumption)))⟩
        · have hcv : c = 1 := hcc
          subst hcv
          have R3 : Row (w2.setCell ⟨wr.heap.size, 0, none⟩ (.int .i64 17)) 2 (some ⟨wr.heap.size, 0, none⟩) 2 2 (flat2 [⟨17, 288230376151711744⟩, ⟨2, -288230376151711744⟩]) := ⟨rfl, Nat.le_refl _, by unfold maxLen; omega, AllI.of_B (by decide +kernel), .inr ⟨wr.heap.size, 0, rfl, by simpa [World.setCell] using hl2, by have t := CellsAt.put hcs2 (j := 0) (by decide) 17; rw [Nat.zero_add] at t; exact t⟩⟩
          have hb3 : Below wr.heap.size wr (w2.setCell ⟨wr.heap.size, 0, none⟩ (.int .i64 17)) := Below.setCell (p := ⟨wr.heap.size, 0, none⟩) hb2 (Nat.le_refl _) _
          have hbel3 : Below w.heap.size w (w2.setCell ⟨wr.heap.size, 0, none⟩ (.int .i64 17)) := hbelr.trans (hb3.mono hszr)
          go_wp2_with (first | (go_at_call 8; refine (Place_calls _ _ _ (by omega) (by omega)).mono ?_; rintro e w' ⟨rfl, rfl⟩))
          refine (vou_Plain_is (l := [⟨17, 288230376151711744⟩, ⟨2, -288230376151711744⟩]) R3 (by decide) P1.out).mono ?_
          rintro e w4 ⟨⟨a4, c4, rfl, R4⟩, hw4⟩
          clear R4
          have R7 := R6.below (hb3.trans (hw4.mono hb3.size))
          have R8 := R3.below hw4
          have hbel4 : Below w.heap.size w w4 := hbel3.trans (hw4.mono hbel3.size)
          clear hw4 hb3 hbel3 R3
          rcases hK2 with ⟨rfl, k1⟩ | ⟨rfl, k1, k2⟩ | ⟨rfl, k1, k2⟩
          all_goals
            go_wp2_with fail
            refine (vou_Check a6 c6 (limF j) _ R7).mono ?_
            rw [HF.out]
            rintro e w5 ⟨rfl, hw5⟩
            have R9 := R8.below hw5
            go_wp2_with fail
            refine (vou_Check _ _ [⟨17, 288230376151711744⟩, ⟨2, -288230376151711744⟩] _ R9).mono ?_
            rw [D1.out]
            rintro e w6 ⟨rfl, hw6⟩
            have hbel6 : Below w.heap.size w w6 := by (repeat (first | assumption | exact Below.refl _ _ | refine ballc ?_ _ | refine bdrew ?_ | refine bdrewN ?_ _ | refine bset ?_ _ _ | refine bsetN ?_ (by omega) _ _ | refine bthen ?_ (by assumption)))
            clear R7 R8 R9 hw5 hw6 hbel4
            go_wp2_with (go_at_call 11; refine (vou_awake _).mono ?_; rintro e w' ⟨rfl, hwa⟩)
            go_ret
            first | exact ⟨rfl, by (repeat (first | assumption | exact Below.refl _ _ | refine ballc ?_ _ | refine bdrew ?_ | refine bdrewN ?_ _ | refine bset ?_ _ _ | refine bsetN ?_ (by omega) _ _ | refine bthen ?_ (by assumption)))⟩ | exact ⟨ret_bool (by simp; omega), by (repeat (first | assumption | exact Below.refl _ _ | refine ballc ?_ _ | refine bdrew ?_ | refine bdrewN ?_ _ | refine bset ?_ _ _ | refine bsetN ?_ (by omega) _ _ | refine bthen ?_ (by assumption)))⟩
        · have hcv : c = 2 := hcc
          subst hcv
          have R3 : Row (w2.setCell ⟨wr.heap.size, 2, none⟩ (.int .i64 (-1))) 2 (some ⟨wr.heap.size, 0, none⟩) 2 2 (flat2 [⟨1, 288230376151711744⟩, ⟨-1, -288230376151711744⟩]) := ⟨rfl, Nat.le_refl _, by unfold maxLen; omega, AllI.of_B (by decide +kernel), .inr ⟨wr.heap.size, 0, rfl, by simpa [World.setCell] using hl2, by have t := CellsAt.put hcs2 (j := 2) (by decide) (-1); rw [Nat.zero_add] at t; exact t⟩⟩
          have hb3 : Below wr.heap.size wr (w2.setCell ⟨wr.heap.size, 2, none⟩ (.int .i64 (-1))) := Below.setCell (p := ⟨wr.heap.size, 2, none⟩) hb2 (Nat.le_refl _) _
          have hbel3 : Below w.heap.size w (w2.setCell ⟨wr.heap.size, 2, none⟩ (.int .i64 (-1))) := hbelr.trans (hb3.mono hszr)
          go_wp2_with (first | (go_at_call 8; refine (Place_calls _ _ _ (by omega) (by omega)).mono ?_; rintro e w' ⟨rfl, rfl⟩))
          refine (vou_Plain_is (l := [⟨1, 288230376151711744⟩, ⟨-1, -288230376151711744⟩]) R3 (by decide) P2.out).mono ?_
          rintro e w4 ⟨⟨a4, c4, rfl, R4⟩, hw4⟩
          clear R4
          have R7 := R6.below (hb3.trans (hw4.mono hb3.size))
          have R8 := R3.below hw4
          have hbel4 : Below w.heap.size w w4 := hbel3.trans (hw4.mono hbel3.size)
          clear hw4 hb3 hbel3 R3
          rcases hK2 with ⟨rfl, k1⟩ | ⟨rfl, k1, k2⟩ | ⟨rfl, k1, k2⟩
          all_goals
            go_wp2_with fail
            refine (vou_Check a6 c6 (limF j) _ R7).mono ?_
            rw [HF.out]
            rintro e w5 ⟨rfl, hw5⟩
            have R9 := R8.below hw5
            go_wp2_with fail
            refine (vou_Check _ _ [⟨1, 288230376151711744⟩, ⟨-1, -288230376151711744⟩] _ R9).mono ?_
            rw [D2.out]
            rintro e w6 ⟨rfl, hw6⟩
            have hbel6 : Below w.heap.size w w6 := by (repeat (first | assumption | exact Below.refl _ _ | refine ballc ?_ _ | refine bdrew ?_ | refine bdrewN ?_ _ | refine bset ?_ _ _ | refine bsetN ?_ (by omega) _ _ | refine bthen ?_ (by assumption)))
            clear R7 R8 R9 hw5 hw6 hbel4
            go_wp2_with (go_at_call 11; refine (vou_awake _).mono ?_; rintro e w' ⟨rfl, hwa⟩)
            go_ret
            first | exact ⟨rfl, by (repeat (first | assumption | exact Below.refl _ _ | refine ballc ?_ _ | refine bdrew ?_ | refine bdrewN ?_ _ | refine bset ?_ _ _ | refine bsetN ?_ (by omega) _ _ | refine bthen ?_ (by assumption)))⟩ | exact ⟨ret_bool (by simp; omega), by (repeat (first | assumption | exact Below.refl _ _ | refine ballc ?_ _ | refine bdrew ?_ | refine bdrewN ?_ _ | refine bset ?_ _ _ | refine bsetN ?_ (by omega) _ _ | refine bthen ?_ (by assumption)))⟩
        · have hcv : c = 3 := hcc
          subst hcv
          have RL := Row.new w2 2 2 [1, 1, 3, -1] 25 rfl (by decide) (AllI.of_B (by decide +kernel))
          have O2 : OwnI (w2.alloc (.cells #[.int .i64 1, .int .i64 1, .int .i64 3, .int .i64 (-1)] 25)) wr.heap.size 25 2 (.slice (some ⟨wr.heap.size, 0, none⟩) 2 2) 2 [1, 288230376151711744, 2, -288230376151711744] := (OwnI.below (OwnI.lit wr [1, 288230376151711744, 2, -288230376151711744] 2 2 25 rfl (by decide)) hw2).alloc _
          go_wp2_with (first | (first | (go_at_call 8; refine (Place_calls _ _ _ (by omega) (by omega)).mono ?_; rintro e w' ⟨rfl, rfl⟩)) | (at_builtin; refine wpList_pushN _ rfl _ _ 23 rfl wr.heap.size 25 2 elem_Line _ 2 [1, 288230376151711744, 2, -288230376151711744] rfl O2 ⟨w2.heap.size, 0, none⟩ 2 2 [1, 1, 3, -1] rfl RL (by decide) (by simp; omega) ?_))
          intro v3 w3 O3 hw3
          obtain ⟨a3, c3, rfl, R3⟩ := O3.row (AllI.of_B (by decide +kernel))
          have hb3 : Below wr.heap.size wr w3 := (hb2.alloc hb2.size _).trans hw3
          have hbel3 : Below w.heap.size w w3 := hbelr.trans (hb3.mono hszr)
          clear O2 O3 RL hw3
          go_wp2_with (first | (go_at_call 8; refine (Place_calls _ _ _ (by omega) (by omega)).mono ?_; rintro e w' ⟨rfl, rfl⟩))
          refine (vou_Plain_is (l := [⟨1, 288230376151711744⟩, ⟨2, -288230376151711744⟩, ⟨1, 1⟩, ⟨3, -1⟩]) R3 (by decide) P3.out).mono ?_
          rintro e w4 ⟨⟨a4, c4, rfl, R4⟩, hw4⟩
          clear R4
          have R7 := R6.below (hb3.trans (hw4.mono hb3.size))
          have R8 := R3.below hw4
          have hbel4 : Below w.heap.size w w4 := hbel3.trans (hw4.mono hbel3.size)
          clear hw4 hb3 hbel3 R3
          rcases hK2 with ⟨rfl, k1⟩ | ⟨rfl, k1, k2⟩ | ⟨rfl, k1, k2⟩
          all_goals
            go_wp2_with fail
            refine (vou_Check a6 c6 (limF j) _ R7).mono ?_
            rw [HF.out]
            rintro e w5 ⟨rfl, hw5⟩
            have R9 := R8.below hw5
            go_wp2_with fail
            refine (vou_Check _ _ [⟨1, 288230376151711744⟩, ⟨2, -288230376151711744⟩, ⟨1, 1⟩, ⟨3, -1⟩] _ R9).mono ?_
            rw [D3.out]
            rintro e w6 ⟨rfl, hw6⟩
            have hbel6 : Below w.heap.size w w6 := by (repeat (first | assumption | exact Below.refl _ _ | refine ballc ?_ _ | refine bdrew ?_ | refine bdrewN ?_ _ | refine bset ?_ _ _ | refine bsetN ?_ (by omega) _ _ | refine bthen ?_ (by assumption)))
            clear R7 R8 R9 hw5 hw6 hbel4
            go_wp2_with (go_at_call 11; refine (vou_awake _).mono ?_; rintro e w' ⟨rfl, hwa⟩)
            go_ret
            first | exact ⟨rfl, by (repeat (first | assumption | exact Below.refl _ _ | refine ballc ?_ _ | refine bdrew ?_ | refine bdrewN ?_ _ | refine bset ?_ _ _ | refine bsetN ?_ (by omega) _ _ | refine bthen ?_ (by assumption)))⟩ | exact ⟨ret_bool (by simp; omega), by (repeat (first | assumption | exact Below.refl _ _ | refine ballc ?_ _ | refine bdrew ?_ | refine bdrewN ?_ _ | refine bset ?_ _ _ | refine bsetN ?_ (by omega) _ _ | refine bthen ?_ (by assumption)))⟩
end Go.Proofs.Ytnkdbjmfpebcgaa
