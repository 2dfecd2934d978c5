/-
  parts.Split, of twenty weights or fewer. Its walk.
-/
import Derived.Test.YtanmfhdljgphhaaPart1
set_option linter.unusedVariables false
set_option linter.unusedSimpArgs false
namespace Go.Proofs.Ytanmfhdljgphhaa
open Go.RowKit

/-- The numbers of a block that the call itself has made. -/
def HoldZ (w : World) (base : Nat) (v : Value) (zs : List Int) : Prop := ∃ b, v = .slice (some ⟨b, 0, none⟩) zs.length zs.length ∧ base ≤ b ∧ b < w.heap.size ∧ CellsAt w b 0 zs
/-- What Split answers. -/
def SplitP (w : World) (t : Int) (ws : List Int) (e : Ending) (w' : World) : Prop :=
  (if badS t ws then e = .returned (.tuple #[.slice none 0 0, .int .i64 1])
   else if sumE ws ≠ 0 then e = .returned (.tuple #[.slice none 0 0, .int .i64 2])
   else ∃ (v : Value) (m : List Nat), e = .returned (.tuple #[v, .int .i64 0]) ∧ m.length = ws.length ∧ Rises (keyN (remL t (sumV ws) ws)) m ∧ Stab (keyN (remL t (sumV ws) ws)) (List.range ws.length) m ∧
     HoldZ w' w.heap.size v (bump (quoL t (sumV ws) ws) (m.take (min (t - (quoL t (sumV ws) ws).sum) ws.length).toNat))) ∧ Below w.heap.size w w'

set_option maxRecDepth 20000 in
set_option maxHeartbeats 4000000 in
theorem parts_Split (a : Option Addr) (cap : Nat) (ws : List Int) (t : Int) (w : World) (h : Row w 1 a ws.length cap ws) (h20 : ws.length ≤ 1000000) :
    Calls Try.prog 8 #[.int .i64 t, .slice a ws.length cap] w (SplitP w t ws) := by
  have hall := h.all
  obtain ⟨n, hN⟩ : ∃ n, ws.length = n := ⟨_, rfl⟩
  have hNh := Lib.hid hN
  rw [hN] at h h20 ⊢
  clear hN
  go_enter Try.func8, Try.ntmps8
  have hbad : ∀ e w', badS t ws = true → e = Ending.returned (.tuple #[.slice none 0 0, .int .i64 1]) → Below w.heap.size w w' → SplitP w t ws e w' := by
    intro e w' h1 h2 h3
    exact ⟨by rw [if_pos h1]; exact h2, h3⟩
  cases ht : wrongI t
  · cases hw1 : ws.any wrongI
    · cases hw2 : ws.any someI
      · go_wp2_with (first | (go_at_call 12; refine (predI_1.ask _ _).mono ?_; rw [ht]; rintro e w' ⟨rfl, rfl⟩) | (go_at_call 14; refine (contains_funcI predI_1 a n cap ws _ h).mono ?_; rw [hw1]; rintro e w' ⟨rfl, rfl⟩) | (go_at_call 14; refine (contains_funcI predI_2 a n cap ws _ h).mono ?_; rw [hw2]; rintro e w' ⟨rfl, rfl⟩))
        go_ret2
        exact hbad _ _ (by simp [badS, ht, hw1, hw2]) rfl (Below.refl _ _)
      · have hnb : badS t ws = false := by simp [badS, ht, hw1, hw2]
        clear hbad
        go_wp2_with (first | (go_at_call 12; refine (predI_1.ask _ _).mono ?_; rw [ht]; rintro e w' ⟨rfl, rfl⟩) | (go_at_call 14; refine (contains_funcI predI_1 a n cap ws _ h).mono ?_; rw [hw1]; rintro e w' ⟨rfl, rfl⟩) | (go_at_call 14; refine (contains_funcI predI_2 a n cap ws _ h).mono ?_; rw [hw2]; rintro e w' ⟨rfl, rfl⟩))
        refine (money_Sum _ _ _ _ _ h).mono ?_
        rintro e w' ⟨rfl, rfl⟩
        by_cases hse : sumE ws = 0
        · rw [hse]
          have hmk := make_n n (by omega)
          go_wp2_with fail
          have hS0 := SplitOk.of hnb hse
          obtain ⟨s, hsV⟩ : ∃ s, sumV ws = s := ⟨_, rfl⟩
          rw [hsV] at hS0 ⊢
          have hsVh := Lib.hid hsV
          have hS : SplitOk t ws s := hS0
          clear hS0 hsV
          go_region
          · have hC0 : CellsAt ((w.alloc (.cells (zerosA n) 3)).alloc (.cells (zerosA n) 3)) (w.heap.size) 0 (padL n []) := by
              have := (CellsAt.zeros w n 3).below (by simp) ((Below.refl _ _).alloc (Nat.le_refl _) (.cells (zerosA n) 3))
              simpa [padL] using this
            have hC1 : CellsAt ((w.alloc (.cells (zerosA n) 3)).alloc (.cells (zerosA n) 3)) (w.heap.size + 1) 0 (padL n []) := by
              have := CellsAt.zeros (w.alloc (.cells (zerosA n) 3)) n 3
              simpa [padL] using this
            have hf0 : ∀ i, ((w.alloc (.cells (zerosA n) 3)).alloc (.cells (zerosA n) 3)).frozen? ⟨w.heap.size, i, none⟩ = false := fun i => by simp
            have hf1 : ∀ i, ((w.alloc (.cells (zerosA n) 3)).alloc (.cells (zerosA n) 3)).frozen? ⟨w.heap.size + 1, i, none⟩ = false := fun i => by simp
            have hbA : Below w.heap.size w ((w.alloc (.cells (zerosA n) 3)).alloc (.cells (zerosA n) 3)) := ((Below.refl _ _).alloc (Nat.le_refl _) _).alloc (by simp) _
            have hsA : ((w.alloc (.cells (zerosA n) 3)).alloc (.cells (zerosA n) 3)).heap.size = w.heap.size + 1 + 1 := by simp
            clear hmk
            go_wp2_with fail
            generalize hV : ((w.alloc (.cells (zerosA n) 3)).alloc (.cells (zerosA n) 3)) = V at *
            clear hV
            have hsA1 : w.heap.size < V.heap.size := by omega
            have hsA2 : w.heap.size + 1 < V.heap.size := by omega
            clear hsA
            go_loopw [12, 48] (fun lf i wr => ∃ j : Nat, j ≤ n ∧ i = .int .i64 (j : Int) ∧ lf = .int .i64 (t - (quoL t s (ws.take j)).sum) ∧ CellsAt wr (w.heap.size) 0 (padL n (quoL t s (ws.take j))) ∧ CellsAt wr (w.heap.size + 1) 0 (padL n (remL t s (ws.take j))) ∧ (∀ i, wr.frozen? ⟨w.heap.size, i, none⟩ = false) ∧ (∀ i, wr.frozen? ⟨w.heap.size + 1, i, none⟩ = false) ∧ w.heap.size + 1 < wr.heap.size ∧ Below w.heap.size w wr) (fun _ i _ => n - (intOf i).toNat)
            case atStart => exact ⟨0, by omega, rfl, by simp [quoL], hC0, hC1, hf0, hf1, hsA2, hbA.drew⟩
            case round =>
              obtain ⟨j, hj, rfl, rfl, hCo, hCr, hFo, hFr, hsz, hbel⟩ := hrel
              by_cases hlt : j < n
              · obtain ⟨b, off, rfl, hb, hc⟩ : ∃ b off, a = some ⟨b, off, none⟩ ∧ b < w.heap.size ∧ CellsAt w b off ws := by
                  rcases h.at_ with h0 | h0
                  · omega
                  · exact h0
                have hjl : j < ws.length := by rw [hNh.out]; exact hlt
                have hcell : wr.cell? ⟨b, off + j, none⟩ = some (.int .i64 (ws.getD j 0)) := (hbel.cell hb).trans (hc j hjl)
                have hltI : (j : Int) < (n : Int) := by omega
                have hj0 : (0 : Int) ≤ (j : Int) := by omega
                have hmem : ws.getD j 0 ∈ ws := by rw [List.getD_eq_getElem?_getD, List.getElem?_eq_getElem hjl]; exact List.getElem_mem hjl
                have hqs := quoL_snoc t s hjl
                have hrs := remL_snoc t s hjl
                have hlq : (quoL t s (ws.take j)).length = j := by simp [quoL]; omega
                have hlr : (remL t s (ws.take j)).length = j := by simp [remL]; omega
                have hmd := hS.md hmem
                have hxb := hS.all _ hmem
                have hqb := quo_bd hS.t0 (show 0 < s by have := hS.s0; omega) hxb.1 hxb.2
                have hL1 := hS.left j
                have hL2 := hS.left (j + 1)
                have hsum : (quoL t s (ws.take (j + 1))).sum = (quoL t s (ws.take j)).sum + t * ws.getD j 0 / s := by rw [hqs, List.sum_append]; simp
                have hsb : 1 ≤ s ∧ s ≤ 288230376151711744 := ⟨hS.s0, hS.s1⟩
                have htb : 0 ≤ t ∧ t ≤ 288230376151711744 := ⟨hS.t0, hS.t1⟩
                obtain ⟨x, hx⟩ : ∃ x, ws.getD j 0 = x := ⟨_, rfl⟩
                rw [hx] at hcell hqs hrs hmd hxb hqb hsum
                have hxI : I64 x := ⟨by omega, by omega⟩
                have htI : I64 t := ⟨by omega, by omega⟩
                have hsI : I64 s := ⟨by omega, by omega⟩
                obtain ⟨q, hq⟩ : ∃ q, t * x / s = q := ⟨_, rfl⟩
                obtain ⟨r, hr⟩ : ∃ r, t * x % s = r := ⟨_, rfl⟩
                rw [hq] at hqs hmd hqb hsum
                rw [hr] at hrs hmd hqb
                obtain ⟨A, hA⟩ : ∃ A, (quoL t s (ws.take j)).sum = A := ⟨_, rfl⟩
                rw [hA] at hL1 hsum ⊢
                have hMD := money_MulDiv t x s
                rw [hmd.1, hmd.2] at hMD
                have hso := hCo j (by rw [padL_len (by omega)]; exact hlt)
                have hsr := hCr j (by rw [padL_len (by omega)]; exact hlt)
                have hpo : (padL n (quoL t s (ws.take j))).set j q = padL n (quoL t s (ws.take (j + 1))) := by
                  rw [hqs]; have := padL_set (n := n) (l := quoL t s (ws.take j)) (z := q) (by omega); rwa [hlq] at this
                have hpr : (padL n (remL t s (ws.take j))).set j r = padL n (remL t s (ws.take (j + 1))) := by
                  rw [hrs]; have := padL_set (n := n) (l := remL t s (ws.take j)) (z := r) (by omega); rwa [hlr] at this
                have hpoh := Lib.hid hpo
                have hprh := Lib.hid hpr
                have hsumh := Lib.hid hsum
                have hlqh := Lib.hid hlq
                have hlrh := Lib.hid hlr
                rw [Nat.zero_add] at hso hsr
                have f1 : IntKind.i64.wrap (t - A - q) = t - A - q := IntWalk.i64_in _ (by omega)
                clear hpo hpr hsum hlq hlr hqs hrs hmd hx hq hr hA hc hmem hjl
                go_wp2_with fail
                refine (hMD _ htI hxI hsI).mono ?_
                rintro e w1 ⟨rfl, hw1⟩
                have hso1 := (hw1.cell (p := ⟨w.heap.size, j, none⟩) (by simp only; omega)).trans hso
                have hsr1 := (hw1.cell (p := ⟨w.heap.size + 1, j, none⟩) (by simp only; omega)).trans hsr
                have hfo1 := (hw1.frozen (p := ⟨w.heap.size, j, none⟩) (by simp only; omega)).trans (hFo j)
                have hfr1 := (hw1.frozen (p := ⟨w.heap.size + 1, j, none⟩) (by simp only; omega)).trans (hFr j)
                have hCo1 := (CellsAt.put (hCo.below (by omega) hw1) (j := j) (by rw [padL_len (by rw [hlqh.out]; omega)]; exact hlt) q)
                rw [hpoh.out, Nat.zero_add] at hCo1
                have hCr1 := (CellsAt.put (hCr.below (by omega) hw1) (j := j) (by rw [padL_len (by rw [hlrh.out]; omega)]; exact hlt) r)
                rw [hprh.out, Nat.zero_add] at hCr1
                have hne : (w.heap.size) ≠ (w.heap.size + 1) := by omega
                have hCo2 : CellsAt ((w1.setCell ⟨w.heap.size, j, none⟩ (.int .i64 q)).setCell ⟨w.heap.size + 1, j, none⟩ (.int .i64 r)) (w.heap.size) 0 (padL n (quoL t s (ws.take (j + 1)))) := fun i hi => (World.cell?_of_block (w := (w1.setCell ⟨w.heap.size, j, none⟩ (.int .i64 q))) (Below.heap_setCell _ _ _ _ (by simp only; omega))).trans (hCo1 i hi)
                have hCr2 : CellsAt ((w1.setCell ⟨w.heap.size, j, none⟩ (.int .i64 q)).setCell ⟨w.heap.size + 1, j, none⟩ (.int .i64 r)) (w.heap.size + 1) 0 (padL n (remL t s (ws.take (j + 1)))) := by
                  have := CellsAt.put (w := w1.setCell ⟨w.heap.size, j, none⟩ (.int .i64 q)) (b := w.heap.size + 1) (off := 0) (zs := padL n (remL t s (ws.take j))) (fun i hi => (World.cell?_of_block (w := w1) (Below.heap_setCell _ _ _ _ (by simp only; omega))).trans ((hCr.below (by omega) hw1) i hi)) (j := j) (by rw [padL_len (by rw [hlrh.out]; omega)]; exact hlt) r
                  rw [hprh.out, Nat.zero_add] at this
                  exact this
                have hsw := hw1.size
                have hbel1 : Below w.heap.size w ((w1.setCell ⟨w.heap.size, j, none⟩ (.int .i64 q)).setCell ⟨w.heap.size + 1, j, none⟩ (.int .i64 r)) := ((hbel.trans (hw1.mono hbel.size)).setCell (p := ⟨w.heap.size, j, none⟩) (by simp only; omega) _).setCell (p := ⟨w.heap.size + 1, j, none⟩) (by simp only; omega) _
                have hfo2 : ∀ i, ((w1.setCell ⟨w.heap.size, j, none⟩ (.int .i64 q)).setCell ⟨w.heap.size + 1, j, none⟩ (.int .i64 r)).frozen? ⟨w.heap.size, i, none⟩ = false := fun i => by rw [World.frozen?_setCell, World.frozen?_setCell]; exact (hw1.frozen (p := ⟨w.heap.size, i, none⟩) (by simp only; omega)).trans (hFo i)
                have hfr2 : ∀ i, ((w1.setCell ⟨w.heap.size, j, none⟩ (.int .i64 q)).setCell ⟨w.heap.size + 1, j, none⟩ (.int .i64 r)).frozen? ⟨w.heap.size + 1, i, none⟩ = false := fun i => by rw [World.frozen?_setCell, World.frozen?_setCell]; exact (hw1.frozen (p := ⟨w.heap.size + 1, i, none⟩) (by simp only; omega)).trans (hFr i)
                have hsz1 : w.heap.size + 1 < ((w1.setCell ⟨w.heap.size, j, none⟩ (.int .i64 q)).setCell ⟨w.heap.size + 1, j, none⟩ (.int .i64 r)).heap.size := by simp [World.setCell]; omega
                clear hw1 hCo1 hCr1 hso hsr hCo hCr hFo hFr hMD
                go_wp2_with fail
                go_roundw
                case rel => exact ⟨j + 1, by omega, by go_num, by rw [hsumh.out]; congr 1; omega, hCo2, hCr2, hfo2, hfr2, hsz1, hbel1⟩
                case measure => simp [intOf]; omega
              · have ej : j = n := by omega
                subst ej
                have hge : ¬ (j : Int) < (j : Int) := by omega
                have htk : ws.take j = ws := List.take_of_length_le (by rw [hNh.out]; omega)
                rw [htk] at hCo hCr ⊢
                have hLL := hS.left j
                rw [htk] at hLL
                have hlq : (quoL t s ws).length = j := by simp [quoL]; exact hNh.out
                have hlr : (remL t s ws).length = j := by simp [remL]; exact hNh.out
                rw [padL_full hlq] at hCo
                rw [padL_full hlr] at hCr
                have hpos : 1 ≤ j := by
                  rcases Nat.eq_zero_or_pos j with h0 | h0
                  · subst h0
                    have : ws = [] := List.eq_nil_of_length_eq_zero hNh.out
                    have h1 := hS.sum
                    have h2 := hS.s0
                    rw [this] at h1
                    simp at h1
                    omega
                  · exact h0
                have hQb : ∀ z, z ∈ quoL t s ws → 0 ≤ z ∧ z ≤ 288230376151711744 := fun z hz => by
                  obtain ⟨x, hx, rfl⟩ := List.mem_map.1 hz
                  have hxb := hS.all x hx
                  have q := quo_bd hS.t0 (show 0 < s by have := hS.s0; omega) hxb.1 hxb.2
                  have := hS.t1
                  omega
                have hord := parts_order (w.heap.size + 1) 0 j (remL t s ws)
                rw [hlr] at hord
                obtain ⟨D, hD⟩ : ∃ D, t - (quoL t s ws).sum = D := ⟨_, rfl⟩
                obtain ⟨mm, hmm⟩ : ∃ mm : Nat, min D (j : Int) = (mm : Int) := ⟨(min D (j : Int)).toNat, by omega⟩
                have hmmj : mm ≤ j := by omega
                have hmmI : (mm : Int) ≤ (j : Int) := by omega
                have hmm0 : (0 : Int) ≤ (mm : Int) := by omega
                have hlqh := Lib.hid hlq
                have hlrh := Lib.hid hlr
                have hDh := Lib.hid hD
                rw [hD]
                clear htk hlq hlr hD
                go_wp2_with fail
                refine (hord wr hCr (by omega) hpos h20).mono ?_
                rintro e w1 ⟨rfl, m, hm1, hm2, hm3, hmC, hw1⟩
                have hml : ∀ y, y ∈ m → y < j := fun y hy => List.mem_range.1 ((Stab.mem hm3).1 hy)
                have hCo1 := hCo.below (by omega) hw1
                have hbel1 : Below w.heap.size w w1 := hbel.trans (hw1.mono hbel.size)
                have hfo1 : ∀ i, w1.frozen? ⟨w.heap.size, i, none⟩ = false := fun i => (hw1.frozen (p := ⟨w.heap.size, i, none⟩) (by simp only; omega)).trans (hFo i)
                have hsw1 := hw1.size
                have hBB : (w.heap.size) < w1.heap.size := by omega
                obtain ⟨BP, hBP⟩ : ∃ BP, wr.heap.size + 2 = BP := ⟨_, rfl⟩
                have hBPn : BP ≠ (w.heap.size) := by omega
                rw [hBP] at hmC ⊢
                have hm1h := Lib.hid hm1
                clear hord hCo hCr hFo hFr hw1 hm1 hBP
                go_wp2_with fail
                go_loopw [82] (fun i wx => ∃ k : Nat, k ≤ mm ∧ i = .int .i64 (k : Int) ∧ CellsAt wx (w.heap.size) 0 (bump (quoL t s ws) (m.take k)) ∧ (∀ z, z ∈ bump (quoL t s ws) (m.take k) → 0 ≤ z ∧ z ≤ 288230376151711744 + (k : Int)) ∧ Keep (w.heap.size) w1 wx) (fun i _ => mm - (intOf i).toNat)
                case atStart => exact ⟨0, by omega, rfl, hCo1, by simpa [bump] using hQb, Keep.refl _ _⟩
                case round =>
                  obtain ⟨k, hk, rfl, hC, hB, hK⟩ := hrel
                  by_cases hlt2 : k < mm
                  · have hkI : (k : Int) < (mm : Int) := by omega
                    have hkm : k < m.length := by rw [hm1h.out]; omega
                    obtain ⟨p, hp⟩ : ∃ p, m[k]? = some p := ⟨m[k], by simp [hkm]⟩
                    have hpj := hml p (List.mem_of_getElem? hp)
                    have hpI : (p : Int) < (j : Int) := by omega
                    have hp0 : (0 : Int) ≤ (p : Int) := by omega
                    have hcp := hmC.nat hp
                    have hplt : BP < w1.heap.size := World.block_lt_of_cell? _ _ hcp
                    have hcp2 : wr.cell? ⟨BP, k, none⟩ = some (.int .i64 (p : Int)) := (hK.cell (c := BP) (i := k) hplt hBPn).trans (by simpa using hcp)
                    have hbl : (bump (quoL t s ws) (m.take k)).length = j := by rw [bump_len, hlqh.out]
                    have hcv := hC p (by rw [hbl]; exact hpj)
                    rw [Nat.zero_add] at hcv
                    have hvm : (bump (quoL t s ws) (m.take k)).getD p 0 ∈ bump (quoL t s ws) (m.take k) := by rw [List.getD_eq_getElem?_getD, List.getElem?_eq_getElem (by rw [hbl]; exact hpj)]; exact List.getElem_mem _
                    have hvb := hB _ hvm
                    have hst : (bump (quoL t s ws) (m.take k)).set p ((bump (quoL t s ws) (m.take k)).getD p 0 + 1) = bump (quoL t s ws) (m.take (k + 1)) := by
                      rw [List.take_add_one, hp]; exact (bump_snoc _ _ _).symm
                    obtain ⟨v, hv⟩ : ∃ v, (bump (quoL t s ws) (m.take k)).getD p 0 = v := ⟨_, rfl⟩
                    rw [hv] at hcv hvb hst
                    have hfrz : wr.frozen? ⟨w.heap.size, p, none⟩ = false := (hK.froz p).trans (hfo1 p)
                    have hC2 := CellsAt.put hC (j := p) (by rw [hbl]; exact hpj) (v + 1)
                    rw [hst, Nat.zero_add] at hC2
                    have hB2 : ∀ z, z ∈ bump (quoL t s ws) (m.take (k + 1)) → 0 ≤ z ∧ z ≤ 288230376151711744 + ((k + 1 : Nat) : Int) := fun z hz => by
                      rw [← hst] at hz
                      rcases List.mem_or_eq_of_mem_set hz with h' | rfl
                      · have := hB z h'; omega
                      · omega
                    have hK2 := hK.set p (.int .i64 (v + 1))
                    have hB2h := Lib.hid hB2
                    have hk0 : (0 : Int) ≤ (k : Int) := by omega
                    have f1 : IntKind.i64.wrap (v + 1) = v + 1 := IntWalk.i64_in _ (by omega)
                    clear hst hv hvm hC hB hB2 hcp hp hbl
                    go_wp2_with fail
                    go_roundw
                    case rel => exact ⟨k + 1, by omega, by go_num, hC2, hB2h.out, hK2⟩
                    case measure => simp [intOf]; omega
                  · have ek : k = mm := by omega
                    subst ek
                    have hge2 : ¬ (k : Int) < (k : Int) := by omega
                    have hlb : (bump (quoL t s ws) (m.take k)).length = j := by rw [bump_len, hlqh.out]
                    have hlbh := Lib.hid hlb
                    have hmmh := Lib.hid hmm
                    clear hlb hB hmm
                    go_wp2_with fail
                    go_ret2
                    refine ⟨?_, hbel1.trans (hK.below hbel1.size (by omega))⟩
                    rw [if_neg (by rw [hnb]; simp), if_neg (by rw [hse]; simp)]
                    have hsV : sumV ws = s := hsVh.out
                    rw [hsV]
                    refine ⟨.slice (some ⟨w.heap.size, 0, none⟩) j j, m, rfl, by rw [hm1h.out, hNh.out], hm2, by rw [hNh.out]; exact hm3, w.heap.size, ?_, by omega, Nat.lt_of_lt_of_le hBB hK.size, ?_⟩
                    · rw [bump_len, hlqh.out]
                    · have e : (min (t - (quoL t s ws).sum) (ws.length : Int)).toNat = k := by rw [hDh.out, hNh.out, hmmh.out]; omega
                      rw [e]
                      exact hC
          · have hC0 : CellsAt ((w.alloc (.cells (zerosA n) 3)).alloc (.cells (zerosA n) 3)) (w.heap.size) 0 (padL n []) := by
              have := (CellsAt.zeros w n 3).below (by simp) ((Below.refl _ _).alloc (Nat.le_refl _) (.cells (zerosA n) 3))
              simpa [padL] using this
            have hC1 : CellsAt ((w.alloc (.cells (zerosA n) 3)).alloc (.cells (zerosA n) 3)) (w.heap.size + 1) 0 (padL n []) := by
              have := CellsAt.zeros (w.alloc (.cells (zerosA n) 3)) n 3
              simpa [padL] using this
            have hf0 : ∀ i, ((w.alloc (.cells (zerosA n) 3)).alloc (.cells (zerosA n) 3)).frozen? ⟨w.heap.size, i, none⟩ = false := fun i => by simp
            have hf1 : ∀ i, ((w.alloc (.cells (zerosA n) 3)).alloc (.cells (zerosA n) 3)).frozen? ⟨w.heap.size + 1, i, none⟩ = false := fun i => by simp
            have hbA : Below w.heap.size w ((w.alloc (.cells (zerosA n) 3)).alloc (.cells (zerosA n) 3)) := ((Below.refl _ _).alloc (Nat.le_refl _) _).alloc (by simp) _
            have hsA : ((w.alloc (.cells (zerosA n) 3)).alloc (.cells (zerosA n) 3)).heap.size = w.heap.size + 1 + 1 := by simp
            clear hmk
            go_wp2_with fail
            generalize hV : ((w.alloc (.cells (zerosA n) 3)).alloc (.cells (zerosA n) 3)) = V at *
            clear hV
            have hsA1 : w.heap.size < V.heap.size := by omega
            have hsA2 : w.heap.size + 1 < V.heap.size := by omega
            clear hsA
            go_loopw [12, 48] (fun lf i wr => ∃ j : Nat, j ≤ n ∧ i = .int .i64 (j : Int) ∧ lf = .int .i64 (t - (quoL t s (ws.take j)).sum) ∧ CellsAt wr (w.heap.size + 1) 0 (padL n (quoL t s (ws.take j))) ∧ CellsAt wr (w.heap.size) 0 (padL n (remL t s (ws.take j))) ∧ (∀ i, wr.frozen? ⟨w.heap.size + 1, i, none⟩ = false) ∧ (∀ i, wr.frozen? ⟨w.heap.size, i, none⟩ = false) ∧ w.heap.size + 1 < wr.heap.size ∧ Below w.heap.size w wr) (fun _ i _ => n - (intOf i).toNat)
            case atStart => exact ⟨0, by omega, rfl, by simp [quoL], hC1, hC0, hf1, hf0, hsA2, hbA.drew⟩
            case round =>
              obtain ⟨j, hj, rfl, rfl, hCo, hCr, hFo, hFr, hsz, hbel⟩ := hrel
              by_cases hlt : j < n
              · obtain ⟨b, off, rfl, hb, hc⟩ : ∃ b off, a = some ⟨b, off, none⟩ ∧ b < w.heap.size ∧ CellsAt w b off ws := by
                  rcases h.at_ with h0 | h0
                  · omega
                  · exact h0
                have hjl : j < ws.length := by rw [hNh.out]; exact hlt
                have hcell : wr.cell? ⟨b, off + j, none⟩ = some (.int .i64 (ws.getD j 0)) := (hbel.cell hb).trans (hc j hjl)
                have hltI : (j : Int) < (n : Int) := by omega
                have hj0 : (0 : Int) ≤ (j : Int) := by omega
                have hmem : ws.getD j 0 ∈ ws := by rw [List.getD_eq_getElem?_getD, List.getElem?_eq_getElem hjl]; exact List.getElem_mem hjl
                have hqs := quoL_snoc t s hjl
                have hrs := remL_snoc t s hjl
                have hlq : (quoL t s (ws.take j)).length = j := by simp [quoL]; omega
                have hlr : (remL t s (ws.take j)).length = j := by simp [remL]; omega
                have hmd := hS.md hmem
                have hxb := hS.all _ hmem
                have hqb := quo_bd hS.t0 (show 0 < s by have := hS.s0; omega) hxb.1 hxb.2
                have hL1 := hS.left j
                have hL2 := hS.left (j + 1)
                have hsum : (quoL t s (ws.take (j + 1))).sum = (quoL t s (ws.take j)).sum + t * ws.getD j 0 / s := by rw [hqs, List.sum_append]; simp
                have hsb : 1 ≤ s ∧ s ≤ 288230376151711744 := ⟨hS.s0, hS.s1⟩
                have htb : 0 ≤ t ∧ t ≤ 288230376151711744 := ⟨hS.t0, hS.t1⟩
                obtain ⟨x, hx⟩ : ∃ x, ws.getD j 0 = x := ⟨_, rfl⟩
                rw [hx] at hcell hqs hrs hmd hxb hqb hsum
                have hxI : I64 x := ⟨by omega, by omega⟩
                have htI : I64 t := ⟨by omega, by omega⟩
                have hsI : I64 s := ⟨by omega, by omega⟩
                obtain ⟨q, hq⟩ : ∃ q, t * x / s = q := ⟨_, rfl⟩
                obtain ⟨r, hr⟩ : ∃ r, t * x % s = r := ⟨_, rfl⟩
                rw [hq] at hqs hmd hqb hsum
                rw [hr] at hrs hmd hqb
                obtain ⟨A, hA⟩ : ∃ A, (quoL t s (ws.take j)).sum = A := ⟨_, rfl⟩
                rw [hA] at hL1 hsum ⊢
                have hMD := money_MulDiv t x s
                rw [hmd.1, hmd.2] at hMD
                have hso := hCo j (by rw [padL_len (by omega)]; exact hlt)
                have hsr := hCr j (by rw [padL_len (by omega)]; exact hlt)
                have hpo : (padL n (quoL t s (ws.take j))).set j q = padL n (quoL t s (ws.take (j + 1))) := by
                  rw [hqs]; have := padL_set (n := n) (l := quoL t s (ws.take j)) (z := q) (by omega); rwa [hlq] at this
                have hpr : (padL n (remL t s (ws.take j))).set j r = padL n (remL t s (ws.take (j + 1))) := by
                  rw [hrs]; have := padL_set (n := n) (l := remL t s (ws.take j)) (z := r) (by omega); rwa [hlr] at this
                have hpoh := Lib.hid hpo
                have hprh := Lib.hid hpr
                have hsumh := Lib.hid hsum
                have hlqh := Lib.hid hlq
                have hlrh := Lib.hid hlr
                rw [Nat.zero_add] at hso hsr
                have f1 : IntKind.i64.wrap (t - A - q) = t - A - q := IntWalk.i64_in _ (by omega)
                clear hpo hpr hsum hlq hlr hqs hrs hmd hx hq hr hA hc hmem hjl
                go_wp2_with fail
                refine (hMD _ htI hxI hsI).mono ?_
                rintro e w1 ⟨rfl, hw1⟩
                have hso1 := (hw1.cell (p := ⟨w.heap.size + 1, j, none⟩) (by simp only; omega)).trans hso
                have hsr1 := (hw1.cell (p := ⟨w.heap.size, j, none⟩) (by simp only; omega)).trans hsr
                have hfo1 := (hw1.frozen (p := ⟨w.heap.size + 1, j, none⟩) (by simp only; omega)).trans (hFo j)
                have hfr1 := (hw1.frozen (p := ⟨w.heap.size, j, none⟩) (by simp only; omega)).trans (hFr j)
                have hCo1 := (CellsAt.put (hCo.below (by omega) hw1) (j := j) (by rw [padL_len (by rw [hlqh.out]; omega)]; exact hlt) q)
                rw [hpoh.out, Nat.zero_add] at hCo1
                have hCr1 := (CellsAt.put (hCr.below (by omega) hw1) (j := j) (by rw [padL_len (by rw [hlrh.out]; omega)]; exact hlt) r)
                rw [hprh.out, Nat.zero_add] at hCr1
                have hne : (w.heap.size + 1) ≠ (w.heap.size) := by omega
                have hCo2 : CellsAt ((w1.setCell ⟨w.heap.size + 1, j, none⟩ (.int .i64 q)).setCell ⟨w.heap.size, j, none⟩ (.int .i64 r)) (w.heap.size + 1) 0 (padL n (quoL t s (ws.take (j + 1)))) := fun i hi => (World.cell?_of_block (w := (w1.setCell ⟨w.heap.size + 1, j, none⟩ (.int .i64 q))) (Below.heap_setCell _ _ _ _ (by simp only; omega))).trans (hCo1 i hi)
                have hCr2 : CellsAt ((w1.setCell ⟨w.heap.size + 1, j, none⟩ (.int .i64 q)).setCell ⟨w.heap.size, j, none⟩ (.int .i64 r)) (w.heap.size) 0 (padL n (remL t s (ws.take (j + 1)))) := by
                  have := CellsAt.put (w := w1.setCell ⟨w.heap.size + 1, j, none⟩ (.int .i64 q)) (b := w.heap.size) (off := 0) (zs := padL n (remL t s (ws.take j))) (fun i hi => (World.cell?_of_block (w := w1) (Below.heap_setCell _ _ _ _ (by simp only; omega))).trans ((hCr.below (by omega) hw1) i hi)) (j := j) (by rw [padL_len (by rw [hlrh.out]; omega)]; exact hlt) r
                  rw [hprh.out, Nat.zero_add] at this
                  exact this
                have hsw := hw1.size
                have hbel1 : Below w.heap.size w ((w1.setCell ⟨w.heap.size + 1, j, none⟩ (.int .i64 q)).setCell ⟨w.heap.size, j, none⟩ (.int .i64 r)) := ((hbel.trans (hw1.mono hbel.size)).setCell (p := ⟨w.heap.size + 1, j, none⟩) (by simp only; omega) _).setCell (p := ⟨w.heap.size, j, none⟩) (by simp only; omega) _
                have hfo2 : ∀ i, ((w1.setCell ⟨w.heap.size + 1, j, none⟩ (.int .i64 q)).setCell ⟨w.heap.size, j, none⟩ (.int .i64 r)).frozen? ⟨w.heap.size + 1, i, none⟩ = false := fun i => by rw [World.frozen?_setCell, World.frozen?_setCell]; exact (hw1.frozen (p := ⟨w.heap.size + 1, i, none⟩) (by simp only; omega)).trans (hFo i)
                have hfr2 : ∀ i, ((w1.setCell ⟨w.heap.size + 1, j, none⟩ (.int .i64 q)).setCell ⟨w.heap.size, j, none⟩ (.int .i64 r)).frozen? ⟨w.heap.size, i, none⟩ = false := fun i => by rw [World.frozen?_setCell, World.frozen?_setCell]; exact (hw1.frozen (p := ⟨w.heap.size, i, none⟩) (by simp only; omega)).trans (hFr i)
                have hsz1 : w.heap.size + 1 < ((w1.setCell ⟨w.heap.size + 1, j, none⟩ (.int .i64 q)).setCell ⟨w.heap.size, j, none⟩ (.int .i64 r)).heap.size := by simp [World.setCell]; omega
                clear hw1 hCo1 hCr1 hso hsr hCo hCr hFo hFr hMD
                go_wp2_with fail
                go_roundw
                case rel => exact ⟨j + 1, by omega, by go_num, by rw [hsumh.out]; congr 1; omega, hCo2, hCr2, hfo2, hfr2, hsz1, hbel1⟩
                case measure => simp [intOf]; omega
              · have ej : j = n := by omega
                subst ej
                have hge : ¬ (j : Int) < (j : Int) := by omega
                have htk : ws.take j = ws := List.take_of_length_le (by rw [hNh.out]; omega)
                rw [htk] at hCo hCr ⊢
                have hLL := hS.left j
                rw [htk] at hLL
                have hlq : (quoL t s ws).length = j := by simp [quoL]; exact hNh.out
                have hlr : (remL t s ws).length = j := by simp [remL]; exact hNh.out
                rw [padL_full hlq] at hCo
                rw [padL_full hlr] at hCr
                have hpos : 1 ≤ j := by
                  rcases Nat.eq_zero_or_pos j with h0 | h0
                  · subst h0
                    have : ws = [] := List.eq_nil_of_length_eq_zero hNh.out
                    have h1 := hS.sum
                    have h2 := hS.s0
                    rw [this] at h1
                    simp at h1
                    omega
                  · exact h0
                have hQb : ∀ z, z ∈ quoL t s ws → 0 ≤ z ∧ z ≤ 288230376151711744 := fun z hz => by
                  obtain ⟨x, hx, rfl⟩ := List.mem_map.1 hz
                  have hxb := hS.all x hx
                  have q := quo_bd hS.t0 (show 0 < s by have := hS.s0; omega) hxb.1 hxb.2
                  have := hS.t1
                  omega
                have hord := parts_order (w.heap.size) 0 j (remL t s ws)
                rw [hlr] at hord
                obtain ⟨D, hD⟩ : ∃ D, t - (quoL t s ws).sum = D := ⟨_, rfl⟩
                obtain ⟨mm, hmm⟩ : ∃ mm : Nat, min D (j : Int) = (mm : Int) := ⟨(min D (j : Int)).toNat, by omega⟩
                have hmmj : mm ≤ j := by omega
                have hmmI : (mm : Int) ≤ (j : Int) := by omega
                have hmm0 : (0 : Int) ≤ (mm : Int) := by omega
                have hlqh := Lib.hid hlq
                have hlrh := Lib.hid hlr
                have hDh := Lib.hid hD
                rw [hD]
                clear htk hlq hlr hD
                go_wp2_with fail
                refine (hord wr hCr (by omega) hpos h20).mono ?_
                rintro e w1 ⟨rfl, m, hm1, hm2, hm3, hmC, hw1⟩
                have hml : ∀ y, y ∈ m → y < j := fun y hy => List.mem_range.1 ((Stab.mem hm3).1 hy)
                have hCo1 := hCo.below (by omega) hw1
                have hbel1 : Below w.heap.size w w1 := hbel.trans (hw1.mono hbel.size)
                have hfo1 : ∀ i, w1.frozen? ⟨w.heap.size + 1, i, none⟩ = false := fun i => (hw1.frozen (p := ⟨w.heap.size + 1, i, none⟩) (by simp only; omega)).trans (hFo i)
                have hsw1 := hw1.size
                have hBB : (w.heap.size + 1) < w1.heap.size := by omega
                obtain ⟨BP, hBP⟩ : ∃ BP, wr.heap.size + 2 = BP := ⟨_, rfl⟩
                have hBPn : BP ≠ (w.heap.size + 1) := by omega
                rw [hBP] at hmC ⊢
                have hm1h := Lib.hid hm1
                clear hord hCo hCr hFo hFr hw1 hm1 hBP
                go_wp2_with fail
                go_loopw [82] (fun i wx => ∃ k : Nat, k ≤ mm ∧ i = .int .i64 (k : Int) ∧ CellsAt wx (w.heap.size + 1) 0 (bump (quoL t s ws) (m.take k)) ∧ (∀ z, z ∈ bump (quoL t s ws) (m.take k) → 0 ≤ z ∧ z ≤ 288230376151711744 + (k : Int)) ∧ Keep (w.heap.size + 1) w1 wx) (fun i _ => mm - (intOf i).toNat)
                case atStart => exact ⟨0, by omega, rfl, hCo1, by simpa [bump] using hQb, Keep.refl _ _⟩
                case round =>
                  obtain ⟨k, hk, rfl, hC, hB, hK⟩ := hrel
                  by_cases hlt2 : k < mm
                  · have hkI : (k : Int) < (mm : Int) := by omega
                    have hkm : k < m.length := by rw [hm1h.out]; omega
                    obtain ⟨p, hp⟩ : ∃ p, m[k]? = some p := ⟨m[k], by simp [hkm]⟩
                    have hpj := hml p (List.mem_of_getElem? hp)
                    have hpI : (p : Int) < (j : Int) := by omega
                    have hp0 : (0 : Int) ≤ (p : Int) := by omega
                    have hcp := hmC.nat hp
                    have hplt : BP < w1.heap.size := World.block_lt_of_cell? _ _ hcp
                    have hcp2 : wr.cell? ⟨BP, k, none⟩ = some (.int .i64 (p : Int)) := (hK.cell (c := BP) (i := k) hplt hBPn).trans (by simpa using hcp)
                    have hbl : (bump (quoL t s ws) (m.take k)).length = j := by rw [bump_len, hlqh.out]
                    have hcv := hC p (by rw [hbl]; exact hpj)
                    rw [Nat.zero_add] at hcv
                    have hvm : (bump (quoL t s ws) (m.take k)).getD p 0 ∈ bump (quoL t s ws) (m.take k) := by rw [List.getD_eq_getElem?_getD, List.getElem?_eq_getElem (by rw [hbl]; exact hpj)]; exact List.getElem_mem _
                    have hvb := hB _ hvm
                    have hst : (bump (quoL t s ws) (m.take k)).set p ((bump (quoL t s ws) (m.take k)).getD p 0 + 1) = bump (quoL t s ws) (m.take (k + 1)) := by
                      rw [List.take_add_one, hp]; exact (bump_snoc _ _ _).symm
                    obtain ⟨v, hv⟩ : ∃ v, (bump (quoL t s ws) (m.take k)).getD p 0 = v := ⟨_, rfl⟩
                    rw [hv] at hcv hvb hst
                    have hfrz : wr.frozen? ⟨w.heap.size + 1, p, none⟩ = false := (hK.froz p).trans (hfo1 p)
                    have hC2 := CellsAt.put hC (j := p) (by rw [hbl]; exact hpj) (v + 1)
                    rw [hst, Nat.zero_add] at hC2
                    have hB2 : ∀ z, z ∈ bump (quoL t s ws) (m.take (k + 1)) → 0 ≤ z ∧ z ≤ 288230376151711744 + ((k + 1 : Nat) : Int) := fun z hz => by
                      rw [← hst] at hz
                      rcases List.mem_or_eq_of_mem_set hz with h' | rfl
                      · have := hB z h'; omega
                      · omega
                    have hK2 := hK.set p (.int .i64 (v + 1))
                    have hB2h := Lib.hid hB2
                    have hk0 : (0 : Int) ≤ (k : Int) := by omega
                    have f1 : IntKind.i64.wrap (v + 1) = v + 1 := IntWalk.i64_in _ (by omega)
                    clear hst hv hvm hC hB hB2 hcp hp hbl
                    go_wp2_with fail
                    go_roundw
                    case rel => exact ⟨k + 1, by omega, by go_num, hC2, hB2h.out, hK2⟩
                    case measure => simp [intOf]; omega
                  · have ek : k = mm := by omega
                    subst ek
                    have hge2 : ¬ (k : Int) < (k : Int) := by omega
                    have hlb : (bump (quoL t s ws) (m.take k)).length = j := by rw [bump_len, hlqh.out]
                    have hlbh := Lib.hid hlb
                    have hmmh := Lib.hid hmm
                    clear hlb hB hmm
                    go_wp2_with fail
                    go_ret2
                    refine ⟨?_, hbel1.trans (hK.below hbel1.size (by omega))⟩
                    rw [if_neg (by rw [hnb]; simp), if_neg (by rw [hse]; simp)]
                    have hsV : sumV ws = s := hsVh.out
                    rw [hsV]
                    refine ⟨.slice (some ⟨w.heap.size + 1, 0, none⟩) j j, m, rfl, by rw [hm1h.out, hNh.out], hm2, by rw [hNh.out]; exact hm3, w.heap.size + 1, ?_, by omega, Nat.lt_of_lt_of_le hBB hK.size, ?_⟩
                    · rw [bump_len, hlqh.out]
                    · have e : (min (t - (quoL t s ws).sum) (ws.length : Int)).toNat = k := by rw [hDh.out, hNh.out, hmmh.out]; omega
                      rw [e]
                      exact hC
        · have he2 : sumE ws = 2 := by unfold sumE at hse ⊢; split <;> simp_all
          rw [he2]
          go_wp2_with fail
          go_ret2
          exact ⟨by rw [if_neg (by rw [hnb]; simp), if_pos hse]; rfl, Below.refl _ _⟩
    · go_wp2_with (first | (go_at_call 12; refine (predI_1.ask _ _).mono ?_; rw [ht]; rintro e w' ⟨rfl, rfl⟩) | (go_at_call 14; refine (contains_funcI predI_1 a n cap ws _ h).mono ?_; rw [hw1]; rintro e w' ⟨rfl, rfl⟩))
      go_ret2
      exact hbad _ _ (by simp [badS, ht, hw1]) rfl (Below.refl _ _)
  · go_wp2_with (go_at_call 12; refine (predI_1.ask _ _).mono ?_; rw [ht]; rintro e w' ⟨rfl, rfl⟩)
    go_ret2
    exact hbad _ _ (by simp [badS, ht]) rfl (Below.refl _ _)
end Go.Proofs.Ytanmfhdljgphhaa
