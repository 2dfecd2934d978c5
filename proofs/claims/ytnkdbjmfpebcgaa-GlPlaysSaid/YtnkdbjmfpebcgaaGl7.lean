/-
  GlPlays. Its walk.
-/
import Derived.Test.YtnkdbjmfpebcgaaGlS
import Derived.Test.YtnkdbjmfpebcgaaSame
import Derived.Test.YtnkdbjmfpebcgaaVou7
import Derived.Test.YtnkdbjmfpebcgaaPushL
import Derived.Deep.Cut
import Derived.Deep.CutRange
set_option linter.unusedVariables false
set_option linter.unusedSimpArgs false
namespace Go.Proofs.Ytnkdbjmfpebcgaa
open Go.RowKit

theorem CellsAt.keep {w w' : World} {b c off : Nat} {zs : List Int} (h : CellsAt w c off zs) (hc : c < w.heap.size) (hn : c ≠ b) (g : Keep b w w') : CellsAt w' c off zs := fun i hi => (g.cell hc hn).trans (h i hi)
theorem Bnd.mono {B B' : Int} {bal : List Int} (h : Bnd B bal) (g : B ≤ B') : Bnd B' bal := ⟨h.1, fun k hk => by have := h.2 k hk; omega⟩
/-- Rows of numbers that came in. -/
def MatRow (w : World) (a : Option Addr) (n cap : Nat) : Prop :=
  n ≤ cap ∧ cap ≤ maxLen ∧ ∀ i, i < n → ∃ (b off : Nat) (ai : Option Addr) (ci : Nat) (zs : List Int), a = some ⟨b, off, none⟩ ∧ b < w.heap.size ∧ w.cell? ⟨b, off + i, none⟩ = some (.slice ai zs.length ci) ∧ Row w 1 ai zs.length ci zs

theorem gl_Post_at {a : Option Addr} {cap : Nat} {bal : List Int} (hbal : bal.length = 17) {a2 : Option Addr} {lcap : Nat} {l : List Lin} {w : World} (hR : Row w 1 a 17 cap bal) (hL : Row w 2 a2 l.length lcap (flat2 l)) (h20 : l.length ≤ 1000000) {nx : List Int} {e' : Int} (hP : postS bal l = (nx, e')) :
    Calls Try.prog 20 #[.slice a 17 cap, .slice a2 l.length lcap] w fun e w' => (∃ b' off' cap', e = .returned (.tuple #[.slice (some ⟨b', off', none⟩) 17 cap', .int .i64 e']) ∧ w.heap.size ≤ b' ∧ Row w' 1 (some ⟨b', off', none⟩) 17 cap' nx) ∧ Below w.heap.size w w' := by
  refine (gl_Post a cap bal hbal a2 lcap l w hR hL h20).mono ?_
  rintro e w' ⟨v, rfl, hh, hb⟩
  have hI := postS_I l hR.all
  have hlen := postS_len bal l
  rw [hP] at hh hI hlen ⊢
  obtain ⟨a', cap', rfl, k1, k2, k3⟩ := hh
  simp only at hlen k1 k2 k3 hI ⊢
  rw [hlen, hbal] at k1 k3 ⊢
  rcases k3 with k3 | ⟨b, off, rfl, k4, k5, k6, k7⟩
  · omega
  · exact ⟨⟨b, off, cap', rfl, k4, by rw [hlen, hbal], k1, k2, hI, .inr ⟨b, off, rfl, k5, k6⟩⟩, hb⟩

set_option maxRecDepth 20000 in
set_option maxHeartbeats 4000000 in
theorem GlPlays_walk (a : Option Addr) (n cap : Nat) (a2 : Option Addr) (n2 cap2 : Nat) (zs2 : List Int) (w : World) (hM : MatRow w a n cap) (h2 : Row w 1 a2 n2 cap2 zs2) :
    Calls Try.prog 6 #[.slice a n cap, .slice a2 n2 cap2] w fun e w' => e = .returned (.bool true) ∧ Below w.heap.size w w' := by
  obtain ⟨hcap, hmax, hrows⟩ := hM
  unfold maxLen at hmax
  have h2h := Lib.hid h2
  have hle2 := h2.le
  have hmax2 := h2.max
  unfold maxLen at hmax2
  have hrh := Lib.hid hrows
  have hmk := make17
  clear hrows h2
  go_enter Try.func6, Try.ntmps6
  go_wp2_with fail
  have R0 := (Row.zero w).below (ballc (Below.refl _ _) (.cells zeroA 3))
  have C0 : CellsAt ((w.alloc (.cells zeroA 3)).alloc (.cells zeroA 3)) (w.heap.size + 1) 0 zero17 := by
    have := CellsAt.new (w.alloc (.cells zeroA 3)) zero17 3
    rw [World.size_alloc] at this
    exact this
  have F0 : ∀ i, ((w.alloc (.cells zeroA 3)).alloc (.cells zeroA 3)).frozen? ⟨w.heap.size + 1, i, none⟩ = false := fun i => by
    have := World.frozen?_alloc_new (w.alloc (.cells zeroA 3)) zeroA 3 i
    rw [World.size_alloc] at this
    exact this
  have S0 : ((w.alloc (.cells zeroA 3)).alloc (.cells zeroA 3)).heap.size = w.heap.size + 1 + 1 := by simp
  have B0 : Below w.heap.size w ((w.alloc (.cells zeroA 3)).alloc (.cells zeroA 3)) := by (repeat (first | assumption | exact Below.refl _ _ | refine ballc ?_ _ | refine bdrew ?_ | refine bdrewN ?_ _ | refine bset ?_ _ _ | refine bsetN ?_ (by omega) _ _ | refine bthen ?_ (by assumption)))
  generalize (w.alloc (.cells zeroA 3)).alloc (.cells zeroA 3) = W0 at *
  have hBW : ∃ BW, w.heap.size + 1 = BW := ⟨_, rfl⟩
  obtain ⟨BW, hBW⟩ := hBW
  rw [hBW] at C0 F0 ⊢
  have hbw : w.heap.size < BW := by omega
  have hbs : BW < W0.heap.size := by omega
  clear hBW S0 hmk
  go_loopw [5, 7] (fun v i wr => ∃ (j : Nat) (bal : List Int) (b off c : Nat), j ≤ n ∧ j ≤ 30 ∧ i = .int .i64 j ∧ v = .slice (some ⟨b, off, none⟩) 17 c ∧ b ≠ BW ∧ Row wr 1 (some ⟨b, off, none⟩) 17 c bal ∧ CellsAt wr BW 0 bal ∧ (∀ i, wr.frozen? ⟨BW, i, none⟩ = false) ∧ BW < wr.heap.size ∧ Hid (Bnd (1000000 * (j : Int)) bal) ∧ Hid (bal.sum = 0) ∧ Below w.heap.size w wr) (fun _ i _ => n - (intOf i).toNat)
  case atStart => exact ⟨0, zero17, w.heap.size, 0, 17, by omega, by omega, rfl, rfl, by omega, R0, C0, F0, hbs, ⟨rfl, by decide +kernel⟩, show zero17.sum = 0 by decide +kernel, B0⟩
  case round =>
    obtain ⟨j, bal, b, off, c, hj, hj30, rfl, rfl, hbne, hR, hC, hF, hS, hBn, hsum, hbel⟩ := hrel
    obtain ⟨wo, hwo⟩ : ∃ wo : World, wr = wo := ⟨_, rfl⟩
    rw [hwo] at hR hC hF hS hbel ⊢
    clear hwo R0 C0 F0 B0 hbs
    have hso := hbel.size
    by_cases hlt : j < n ∧ j < 30
    · obtain ⟨hlt1, hlt2⟩ := hlt
      obtain ⟨bm, om, ai, ci, zs, rfl, hbm, hcm, hRi⟩ := hrh.out j hlt1
      have hjI : (j : Int) < (n : Int) := by omega
      have hjI2 : (j : Int) < 30 := by omega
      have hj0 : (0 : Int) ≤ (j : Int) := by omega
      have hRiw := hRi.below hbel
      have hcmw : ∀ wx, Below wo.heap.size wo wx → wx.cell? ⟨bm, om + j, none⟩ = some (.slice ai zs.length ci) := fun wx hx => (hx.cell (p := ⟨bm, om + j, none⟩) (by simp only; omega)).trans ((hbel.cell (p := ⟨bm, om + j, none⟩) hbm).trans hcm)
      have hcmh := Lib.hid hcmw
      have hbmo : bm < wo.heap.size := by omega
      obtain ⟨ln, hln⟩ : ∃ ln, zs.length = ln := ⟨_, rfl⟩
      have hlnh := Lib.hid hln
      have hRih := Lib.hid hRiw
      have hmi := hRiw.max
      have hli := hRiw.le
      unfold maxLen at hmi
      rw [hln] at hcmh hRih hli
      clear hcm hRi hRiw hcmw hln
      go_wp2_with fail
      go_loopw [8, 9, 10] (fun v s i wx => ∃ k : Nat, k ≤ ln ∧ k ≤ 6 ∧ i = .int .i64 k ∧ s = .int .i64 (amts (glT zs k)).sum ∧ OwnI wx wo.heap.size 25 2 v k (flat2 (glT zs k)) ∧ Below wo.heap.size wo wx) (fun _ _ i _ => ln - (intOf i).toNat)
      case atStart => exact ⟨0, by omega, by omega, rfl, rfl, OwnI.nil _ _ _ _, Below.refl _ _⟩
      case round =>
        obtain ⟨k, hk, hk6, rfl, rfl, T, hbx⟩ := hrel
        have c0 := hcmh.out wr hbx
        have hsx := hbx.size
        have hbmx : bm < wr.heap.size := by omega
        have hss := glT_sum zs k hk6
        obtain ⟨S, hSd⟩ : ∃ S, (amts (glT zs k)).sum = S := ⟨_, rfl⟩
        rw [hSd] at hss ⊢
        obtain ⟨hss1, hss2⟩ := hss
        have hSh := Lib.hid hSd
        clear hSd
        by_cases hkl : k < ln ∧ k < 6
        · obtain ⟨hkl1, hkl2⟩ := hkl
          have hkI : (k : Int) < (ln : Int) := by omega
          have hkI2 : (k : Int) < 6 := by omega
          have hk0 : (0 : Int) ≤ (k : Int) := by omega
          obtain ⟨bi, oi, rfl, hbi, hci⟩ : ∃ b off, ai = some ⟨b, off, none⟩ ∧ b < wo.heap.size ∧ CellsAt wo b off zs := by
            rcases hRih.out.at_ with h0 | h0
            · omega
            · exact h0
          obtain ⟨z, hz⟩ : ∃ z, zs[k]? = some z := ⟨zs[k]'(by rw [hlnh.out]; exact hkl1), List.getElem?_eq_getElem _⟩
          have c1 := (hbx.cell (p := ⟨bi, oi + k, none⟩) hbi).trans (hci k (by rw [hlnh.out]; exact hkl1))
          rw [show zs.getD k 0 = z by simp [List.getD_eq_getElem?_getD, hz]] at c1
          have hbix : bi < wr.heap.size := by omega
          obtain ⟨v, hv⟩ : ∃ v, z % 1073741824 = v := ⟨_, rfl⟩
          have hv0 : 0 ≤ v := by omega
          have hv1 : v < 1073741824 := by omega
          obtain ⟨A, hA⟩ : ∃ A, v % 17 = A := ⟨_, rfl⟩
          obtain ⟨Q, hQ⟩ : ∃ Q, v / 17 = Q := ⟨_, rfl⟩
          obtain ⟨R, hR2⟩ : ∃ R, Q % 500 = R := ⟨_, rfl⟩
          have hQ0 : 0 ≤ Q := by omega
          have hQ1 : Q ≤ 1073741824 := by omega
          have hRr0 : 0 ≤ R := by omega
          have hRr1 : R < 500 := by omega
          have hx2 : glLine z = ⟨A, R - 250⟩ := by unfold glLine; rw [hv, hA, hQ, hR2]
          have hgt : glT zs (k + 1) = glT zs k ++ [⟨A, R - 250⟩] := by unfold glT; rw [List.take_add_one, hz]; simp [hx2]
          have e : flat2 (glT zs k) ++ [A, R - 250] = flat2 (glT zs (k + 1)) := by rw [hgt, flat2_snoc]
          have eS : (amts (glT zs (k + 1))).sum = S + R - 250 := by
            rw [hgt, ← hSh.out]
            simp only [amts, List.map_append, List.sum_append, List.map_cons, List.map_nil, List.sum_cons, List.sum_nil]
            omega
          have eh := Lib.hid e
          have eSh := Lib.hid eS
          clear hx2 hgt e eS hz hci
          go_wp2_with (first
            | (first | (go_at_call 8; refine (Place_calls _ _ _ (by omega) (by omega)).mono ?_; rintro e w' ⟨rfl, rfl⟩))
            | (at_builtin; refine wpList_push _ rfl _ _ 23 rfl wo.heap.size 25 2 elem_Line _ k (flat2 (glT zs k)) rfl (T.alloc _) wr.heap.size 0 1 [A, R - 250] rfl rfl (lit2 (x := ⟨A, R - 250⟩) rfl) ?c1 ?c2 ?_))
          case c1 => omega
          case c2 => simp; omega
          intro l' w1 hown' hb1
          rw [eh.out] at hown'
          have hbx2 : Below wo.heap.size wo w1 := Below.trans (by (repeat (first | assumption | exact Below.refl _ _ | refine ballc ?_ _ | refine bdrew ?_ | refine bdrewN ?_ _ | refine bset ?_ _ _ | refine bsetN ?_ (by omega) _ _ | refine bthen ?_ (by assumption)))) hb1
          clear T hb1
          go_wp2_with fail
          go_roundw
          case rel => exact ⟨k + 1, by omega, by omega, by go_num, by rw [eSh.out], hown', hbx2⟩
          case measure => simp [intOf]; omega
        · have hg6 : glT zs k = glT zs 6 := by
            unfold glT
            congr 1
            rcases Nat.lt_or_ge k 6 with h | h
            · rw [List.take_of_length_le (by have := hlnh.out; omega), List.take_of_length_le (by have := hlnh.out; omega)]
            · rw [show k = 6 by omega]
          rw [hg6] at T hSh
          have hg6l : (glT zs 6).length = k := by
            have := hlnh.out
            rw [← hg6]; simp [glT]; omega
          have hg6h := Lib.hid hg6l
          clear hg6 hg6l
          have hL7 := glT_len zs 6
          go_upto_region 9 with fail
          go_cut [41] from 31 to 41 (fun s wx => s = .bool false ∧ wr = wx)
          case first =>
            by_cases hk1 : k < ln
            · have hkI : (k : Int) < (ln : Int) := by omega
              have hkI2 : ¬ (k : Int) < 6 := by omega
              go_wp2_with fail
              go_meet
              case rel => exact ⟨rfl, rfl⟩
            · have hkI : ¬ (k : Int) < (ln : Int) := by omega
              go_wp2_with fail
              go_meet
              case rel => exact ⟨rfl, rfl⟩
          case rest =>
          obtain ⟨rfl, rfl⟩ := hcut
          go_upto_if 71 with fail
          go_cut [12] from 68 to 77 (fun s wx => (∃ wrong : Int, s = .int .i64 wrong ∧ (wrong = 0 ∨ wrong = 1)) ∧ wr = wx)
          case first =>
            by_cases hjo : j < n2
            · have hjoI : (j : Int) < (n2 : Int) := by omega
              obtain ⟨b2, o2, rfl, hb2, hc2⟩ : ∃ b off, a2 = some ⟨b, off, none⟩ ∧ b < w.heap.size ∧ CellsAt w b off zs2 := by
                rcases h2h.out.at_ with h0 | h0
                · omega
                · exact h0
              have hl2 := h2h.out.len
              have c2 := (hbx.cell (p := ⟨b2, o2 + j, none⟩) (by simp only; omega)).trans ((hbel.cell (p := ⟨b2, o2 + j, none⟩) hb2).trans (hc2 j (by omega)))
              obtain ⟨z, hz⟩ : ∃ z, zs2.getD j 0 = z := ⟨_, rfl⟩
              rw [hz] at c2
              obtain ⟨q, hq⟩ : ∃ q, z % 5 = q := ⟨_, rfl⟩
              have hq0 : 0 ≤ q := by omega
              have hq1 : q < 5 := by omega
              have hb2x : b2 < wr.heap.size := by omega
              clear hz hc2 hl2
              go_wp2_with (first | (go_at_call 8; refine (Place_calls _ _ _ (by omega) (by omega)).mono ?_; rintro e w' ⟨rfl, rfl⟩))
              go_meet
              case rel => exact ⟨⟨_, rfl, by omega⟩, rfl⟩
            · have hjoI : ¬ (j : Int) < (n2 : Int) := by omega
              go_wp2_with fail
              go_meet
              case rel => exact ⟨⟨0, rfl, .inl rfl⟩, rfl⟩
          case rest =>
          obtain ⟨⟨wrong, rfl, hwr⟩, rfl⟩ := hcut
          have hw0 : 0 ≤ wrong := by omega
          have hw1 : wrong ≤ 1 := by omega
          have hst := gl_step (zs := zs) hwr hBn.out (by omega) (by omega) hsum.out
          obtain ⟨hsm, hsm2, hsm3⟩ := glLines_small zs (wrong := wrong) ⟨hw0, hw1⟩
          have eL : flat2 (glT zs 6) ++ [2, wrong - S] = flat2 (glLines zs wrong) := by unfold glLines; rw [flat2_snoc, hSh.out]
          have eN : k + 1 = (glLines zs wrong).length := by unfold glLines; rw [List.length_append, hg6h.out]; rfl
          have hLI := hsm.I
          have hacc := hsm.acc
          have hamt := hsm.amt
          generalize glLines zs wrong = l at hst hsm hsm2 hsm3 eL eN hLI hacc hamt
          have hsth := Lib.hid hst
          have eLh := Lib.hid eL
          have eNh := Lib.hid eN
          have hLIh := Lib.hid hLI
          have hacch := Lib.hid hacc
          have hamth := Lib.hid hamt
          have hwrh := Lib.hid hwr
          clear hst hsm hsm2 hsm3 eL eN hLI hacc hamt hwr
          go_wp2_with (at_builtin; refine wpList_push _ rfl _ _ 23 rfl wo.heap.size 25 2 elem_Line _ k (flat2 (glT zs 6)) rfl (T.alloc _) wr.heap.size 0 1 [2, wrong - S] rfl rfl (lit2 (x := ⟨2, wrong - S⟩) rfl) ?c1 ?c2 ?_)
          case c1 => omega
          case c2 => simp; omega
          intro l' w1 hown' hb1
          rw [eLh.out, eNh.out] at hown'
          obtain ⟨al, cl, rfl, RL⟩ := hown'.row hLIh.out
          have hbx1 : Below wo.heap.size wo w1 := Below.trans (by (repeat (first | assumption | exact Below.refl _ _ | refine ballc ?_ _ | refine bdrew ?_ | refine bdrewN ?_ _ | refine bset ?_ _ _ | refine bsetN ?_ (by omega) _ _ | refine bthen ?_ (by assumption)))) hb1
          have R1 := hR.below hbx1
          have C1 := hC.below hS hbx1
          have F1 : ∀ i, w1.frozen? ⟨BW, i, none⟩ = false := fun i => (hbx1.frozen (p := ⟨BW, i, none⟩) hS).trans (hF i)
          have S1 : BW < w1.heap.size := Nat.lt_of_lt_of_le hS hbx1.size
          have hal : ∀ bb oo, al = some ⟨bb, oo, none⟩ → wo.heap.size ≤ bb := fun bb oo e => by
            subst e
            exact (hown'.lt2 bb rfl).2
          have hbel1 : Below w.heap.size w w1 := hbel.trans (hbx1.mono hso)
          obtain ⟨m, hm⟩ : ∃ m, l.length = m := ⟨_, rfl⟩
          have hmh := Lib.hid hm
          have hm7 : m ≤ 7 := by have := eNh.out; omega
          have hPost := fun (nx : List Int) (e' : Int) (hP : postS bal l = (nx, e')) => gl_Post_at (nx := nx) (e' := e') hBn.out.1 R1 RL (by omega) hP
          rw [hm] at RL hPost ⊢
          have hPosth := Lib.hid hPost
          clear T hb1 hbx1 hown' hR hC hF hbel hm hbx hPost
          go_wp2_with fail
          rcases hwrh.out with hw | hw
          · obtain ⟨e1, e2, e3⟩ := hsth.out.2 hw
            obtain ⟨nx, hnx⟩ : ∃ nx, addL bal l = nx := ⟨_, rfl⟩
            rw [hnx] at e1 e2 e3
            have hnxh := Lib.hid hnx
            have e2h := Lib.hid e2
            have e3h := Lib.hid e3
            clear hnx e2 e3
            refine (hPosth.out nx 0 e1).mono ?_
            rintro e w2 ⟨⟨b', off', cap', rfl, hb', R2⟩, hw2⟩
            have C2 := C1.below S1 hw2
            have F2 : ∀ i, w2.frozen? ⟨BW, i, none⟩ = false := fun i => (hw2.frozen (p := ⟨BW, i, none⟩) S1).trans (F1 i)
            have S2 : BW < w2.heap.size := Nat.lt_of_lt_of_le S1 hw2.size
            have RL2 := RL.below hw2
            have hbel2 : Below w.heap.size w w2 := hbel1.trans (hw2.mono hbel1.size)
            have hb'ne : b' ≠ BW := by omega
            subst hw
            clear e1 hPosth C1 F1 R1 RL hw2 hbel1 hsth
            go_wp2_with fail
            go_loopw [15] (fun i wx => ∃ q : Nat, q ≤ m ∧ i = .int .i64 q ∧ CellsAt wx BW 0 (addL bal (l.take q)) ∧ Keep BW w2 wx) (fun i _ => m - (intOf i).toNat)
            case atStart => exact ⟨0, by omega, rfl, C2, Keep.refl _ _⟩
            case round =>
              obtain ⟨q, hq, rfl, hCq, hKq⟩ := hrel
              have hsq := hKq.size
              by_cases hqm : q < m
              · obtain ⟨bl, ol, rfl, hbl, hcl⟩ : ∃ b off, al = some ⟨b, off, none⟩ ∧ b < w2.heap.size ∧ CellsAt w2 b off (flat2 l) := by
                  rcases RL2.at_ with h0 | h0
                  · omega
                  · exact h0
                have hblne : bl ≠ BW := by have := hal bl ol rfl; omega
                obtain ⟨x, hx⟩ : ∃ x, l[q]? = some x := ⟨l[q]'(by rw [hmh.out]; exact hqm), List.getElem?_eq_getElem _⟩
                obtain ⟨x0, x1⟩ := (hcl.keep hbl hblne hKq).line hx
                have hxa := hacch.out x (List.mem_of_getElem? hx)
                have hxn := hamth.out x (List.mem_of_getElem? hx)
                have hlen17 : (addL bal (l.take q)).length = 17 := by rw [addL_len]; exact hBn.out.1
                have hbd := (addAll_some (l.take q) bal _ hBn.out (fun y hy => by have := hacch.out y (List.mem_of_mem_take hy); have := hamth.out y (List.mem_of_mem_take hy); omega) (by omega) (by rw [List.length_take]; omega)).2.2 x.a.toNat (by omega)
                rw [List.length_take] at hbd
                have hsn : addL bal (l.take (q + 1)) = (addL bal (l.take q)).set x.a.toNat ((addL bal (l.take q)).getD x.a.toNat 0 + x.n) := by
                  rw [List.take_add_one, hx]; exact addL_snoc _ _ _
                have c5 := hCq x.a.toNat (by omega)
                have hput := CellsAt.put hCq (j := x.a.toNat) (by omega) ((addL bal (l.take q)).getD x.a.toNat 0 + x.n)
                rw [← hsn] at hput
                rw [Nat.zero_add] at c5 hput
                obtain ⟨v, hv⟩ : ∃ v, (addL bal (l.take q)).getD x.a.toNat 0 = v := ⟨_, rfl⟩
                rw [hv] at c5 hbd hput
                obtain ⟨xa, xn⟩ := x
                simp only at x0 x1 hxa hxn hput c5
                obtain ⟨kk, rfl⟩ : ∃ kk : Nat, xa = (kk : Int) := ⟨xa.toNat, by omega⟩
                rw [Int.toNat_natCast] at hput c5
                have hkk : (kk : Int) < 17 := hxa.2
                have hkk0 : (0 : Int) ≤ (kk : Int) := hxa.1
                have hv1 : -100000000000 ≤ v := by omega
                have hv2 : v ≤ 100000000000 := by omega
                have hxn1 := hxn.1
                have hxn2 := hxn.2
                have wv : IntKind.i64.wrap (v + xn) = v + xn := IntWalk.i64_in _ (by omega)
                have hqI : (q : Int) < (m : Int) := by omega
                have hq0 : (0 : Int) ≤ (q : Int) := by omega
                have hfz := (hKq.froz kk).trans (F2 kk)
                have hputh := Lib.hid hput
                have hK3 := hKq.set kk (.int .i64 (v + xn))
                have hK3h := Lib.hid hK3
                clear hv hsn hx hcl hbd hput hK3 hlen17 hCq
                go_wp2_with fail
                go_region
                all_goals
                  go_wp2_with fail
                  go_roundw
                  case rel => exact ⟨q + 1, by omega, by go_num, hputh.out, hK3h.out.drew⟩
                  case measure => simp [intOf]; omega
              · have eq : q = m := by omega
                subst eq
                have hqI : ¬ (q : Int) < (q : Int) := by omega
                rw [List.take_of_length_le (by rw [hmh.out]; omega), hnxh.out] at hCq
                have htr := gl_Trial (some ⟨b', off', none⟩) 17 cap' nx wr ⟨R2.len, R2.le, R2.max, R2.all, by
                  rcases R2.at_ with h0 | ⟨bb, oo, e, hbb, hcc⟩
                  · omega
                  · obtain ⟨rfl, rfl⟩ : b' = bb ∧ off' = oo := by injection e with e; injection e with e1 e2; exact ⟨e1, e2⟩
                    exact .inr ⟨b', off', rfl, by omega, hcc.keep hbb hb'ne hKq⟩⟩
                rw [trial_even e2h.out (by omega) e3h.out] at htr
                obtain ⟨ps, hps⟩ : ∃ ps, posS nx = ps := ⟨_, rfl⟩
                rw [hps] at htr
                have R3 : Row wr 1 (some ⟨b', off', none⟩) 17 cap' nx := ⟨R2.len, R2.le, R2.max, R2.all, by
                  rcases R2.at_ with h0 | ⟨bb, oo, e, hbb, hcc⟩
                  · omega
                  · obtain ⟨rfl, rfl⟩ : b' = bb ∧ off' = oo := by injection e with e; injection e with e1 e2; exact ⟨e1, e2⟩
                    exact .inr ⟨b', off', rfl, by omega, hcc.keep hbb hb'ne hKq⟩⟩
                have RW : Row wr 1 (some ⟨BW, 0, none⟩) 17 17 nx := ⟨R2.len, by omega, by unfold maxLen; omega, R2.all, .inr ⟨BW, 0, rfl, by omega, hCq⟩⟩
                have hbel3 : Below w.heap.size w wr := hbel2.trans (hKq.below hbel2.size (by omega))
                have htrh := Lib.hid htr
                clear htr hps
                go_wp2_with fail
                refine htrh.out.mono ?_
                rintro e w4 ⟨rfl, rfl⟩
                go_wp2_with fail
                refine (same_ints (some ⟨b', off', none⟩) (some ⟨BW, 0, none⟩) 17 cap' 17 17 nx nx _ R3 RW).mono ?_
                rw [show decide (nx = nx) = true from decide_eq_true rfl]
                rintro e w5 ⟨rfl, hw5⟩
                have F5 : ∀ i, w5.frozen? ⟨BW, i, none⟩ = false := fun i => (hw5.frozen (p := ⟨BW, i, none⟩) (by simp only; omega)).trans ((hKq.froz i).trans (F2 i))
                have R5 := R3.below hw5
                have C5 := hCq.below (by omega) hw5
                have hbel5 : Below w.heap.size w w5 := hbel3.trans (hw5.mono hbel3.size)
                have S5 : BW < w5.heap.size := by have := hw5.size; omega
                clear hw5 R3 RW htrh hCq hKq hbel3 C2 F2 RL2 hbel2 R2
                go_wp2_with fail
                case' roundEnd =>
                  refine ⟨⟨j + 1, nx, b', off', cap', by omega, by omega, by go_num, rfl, hb'ne, R5, C5, F5, S5, e2h.out.mono (by omega), e3h.out, hbel5⟩, ?_⟩
                  simp [intOf]
                  omega
          · have e1 := hsth.out.1 hw
            refine (hPosth.out bal 10 e1).mono ?_
            rintro e w2 ⟨⟨b', off', cap', rfl, hb', R2⟩, hw2⟩
            have C2 := C1.below S1 hw2
            have R1b := R1.below hw2
            have F2 : ∀ i, w2.frozen? ⟨BW, i, none⟩ = false := fun i => (hw2.frozen (p := ⟨BW, i, none⟩) S1).trans (F1 i)
            have S2 : BW < w2.heap.size := Nat.lt_of_lt_of_le S1 hw2.size
            have hbel2 : Below w.heap.size w w2 := hbel1.trans (hw2.mono hbel1.size)
            have hb'ne : b' ≠ BW := by omega
            subst hw
            have hm1 : (0 : Int) < (m : Int) := by have := eNh.out; have := hmh.out; omega
            clear e1 hPosth C1 F1 R1 RL hw2 hbel1 hsth
            go_wp2_with fail
            refine (same_ints (some ⟨b', off', none⟩) (some ⟨b, off, none⟩) 17 cap' 17 c bal bal _ R2 R1b).mono ?_
            rw [show decide (bal = bal) = true from decide_eq_true rfl]
            rintro e w3 ⟨rfl, hw3⟩
            have C3 := C2.below S2 hw3
            have R3 := R2.below hw3
            have F3 : ∀ i, w3.frozen? ⟨BW, i, none⟩ = false := fun i => (hw3.frozen (p := ⟨BW, i, none⟩) S2).trans (F2 i)
            have S3 : BW < w3.heap.size := Nat.lt_of_lt_of_le S2 hw3.size
            have hbel3 : Below w.heap.size w w3 := hbel2.trans (hw3.mono hbel2.size)
            clear C2 F2 hw3 hbel2 R1b R2
            go_wp2_with fail
            refine wp_loop_rounds 1 ?_
            rw [rounds_succ]
            go_wp2_with fail
            have htr := gl_Trial (some ⟨b', off', none⟩) 17 cap' bal w3 R3
            rw [trial_even hBn.out (by omega) hsum.out] at htr
            obtain ⟨ps, hps⟩ : ∃ ps, posS bal = ps := ⟨_, rfl⟩
            rw [hps] at htr
            have RW : Row w3 1 (some ⟨BW, 0, none⟩) 17 17 bal := ⟨R3.len, by omega, by unfold maxLen; omega, R3.all, .inr ⟨BW, 0, rfl, by omega, C3⟩⟩
            refine htr.mono ?_
            rintro e w4 ⟨rfl, rfl⟩
            clear htr hps
            go_wp2_with fail
            refine (same_ints (some ⟨b', off', none⟩) (some ⟨BW, 0, none⟩) 17 cap' 17 17 bal bal _ R3 RW).mono ?_
            rw [show decide (bal = bal) = true from decide_eq_true rfl]
            rintro e w5 ⟨rfl, hw5⟩
            have F5 : ∀ i, w5.frozen? ⟨BW, i, none⟩ = false := fun i => (hw5.frozen (p := ⟨BW, i, none⟩) S3).trans (F3 i)
            have R5 := R3.below hw5
            have C5 := C3.below S3 hw5
            have hbel5 : Below w.heap.size w w5 := hbel3.trans (hw5.mono hbel3.size)
            have S5 : BW < w5.heap.size := by have := hw5.size; omega
            clear hw5 R3 RW hbel3 C3 F3
            go_wp2_with fail
            case' roundEnd =>
              refine ⟨⟨j + 1, bal, b', off', cap', by omega, by omega, by go_num, rfl, hb'ne, R5, C5, F5, S5, hBn.out.mono (by omega), hsum, hbel5⟩, ?_⟩
              simp [intOf]
              omega
    · have hge : ¬ (j : Int) < (n : Int) ∨ ((j : Int) < (n : Int) ∧ ¬ (j : Int) < 30) := by omega
      clear hR hC hF
      rcases hge with hge | ⟨hge, hge2⟩
      all_goals
        go_wp2_with (go_at_call 23; refine (gl_awake _).mono ?_; rintro e w' ⟨rfl, hwa⟩)
        go_ret
        exact ⟨rfl, by (repeat (first | assumption | exact Below.refl _ _ | refine ballc ?_ _ | refine bdrew ?_ | refine bdrewN ?_ _ | refine bset ?_ _ _ | refine bsetN ?_ (by omega) _ _ | refine bthen ?_ (by assumption)))⟩
end Go.Proofs.Ytnkdbjmfpebcgaa
