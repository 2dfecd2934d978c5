/-
  The document's own split. Its walk.
-/
import Derived.Test.YtanmfhdljgphhaaPartR
import Derived.Test.YtanmfhdljgphhaaPushL
import Derived.BigQuiet
set_option linter.unusedVariables false
set_option linter.unusedSimpArgs false
namespace Go.Proofs.Ytanmfhdljgphhaa
open Go.RowKit

/-- What the document's split answers. -/
def RefP (w : World) (t : Int) (ws : List Int) (m : List Nat) (e : Ending) (w' : World) : Prop :=
  (if badS t ws then e = .returned (.tuple #[.slice none 0 0, .int .i64 1])
   else if sumE ws ≠ 0 then e = .returned (.tuple #[.slice none 0 0, .int .i64 2])
   else ∃ g cap, e = .returned (.tuple #[.slice (some ⟨g, 0, none⟩) ws.length cap, .int .i64 0]) ∧ ws.length ≤ cap ∧ cap ≤ maxLen ∧ g < w'.heap.size ∧
     CellsAt w' g 0 (bump (quoL t (sumV ws) ws) (m.take (moreN t (sumV ws) ws)))) ∧ Below w.heap.size w w'

theorem OwnI.fullI {w : World} {base n : Nat} {e : TypeId} {v : Value} {zs : List Int} (h : OwnI w base e 1 v n zs) (h0 : 0 < n) :
    ∃ g cap, v = .slice (some ⟨g, 0, none⟩) n cap ∧ base ≤ g ∧ g < w.heap.size ∧ n ≤ cap ∧ cap ≤ maxLen ∧ CellsAt w g 0 zs ∧ ∀ i, w.frozen? ⟨g, i, none⟩ = false := by
  have hl := h.len
  obtain ⟨h1, h2⟩ := id h
  rcases h2 with ⟨rfl, hn⟩ | ⟨b, cap, cur, rfl, hb, hh, hn, hc, hs, ht⟩
  · omega
  · refine ⟨b, cap, rfl, hb, (Array.getElem?_eq_some_iff.1 hh).1, hn, hc, ?_, fun i => World.ownsRow.frozenAt h i⟩
    intro i hi
    have c := World.ownsRow.cellAt (w := w) (base := base) (e := e) (size := 1) (g := b) (n := n) (cap := cap) (xs := ints zs) h i (by omega)
    rw [Nat.zero_add, c, ints_get, List.getElem?_eq_getElem hi, List.getD_eq_getElem?_getD, List.getElem?_eq_getElem hi]
    rfl

/-- What the second part of the walk knows. -/
structure Two (w : World) (gl gr B : Nat) (A R : List Int) (w0 : World) : Prop where
  l : CellsAt w gl 0 A
  r : CellsAt w gr 0 R
  fl : ∀ i, w.frozen? ⟨gl, i, none⟩ = false
  fr : ∀ i, w.frozen? ⟨gr, i, none⟩ = false
  ll : gl < w.heap.size
  rl : gr < w.heap.size
  bl : B ≤ gl
  br : B ≤ gr
  ne : gl ≠ gr
  bel : Below B w0 w
theorem Two.below {w w' w0 : World} {gl gr B : Nat} {A R : List Int} (h : Two w gl gr B A R w0) (g : Below w.heap.size w w') : Two w' gl gr B A R w0 :=
  ⟨h.l.below h.ll g, h.r.below h.rl g, fun i => (g.frozen (p := ⟨gl, i, none⟩) h.ll).trans (h.fl i), fun i => (g.frozen (p := ⟨gr, i, none⟩) h.rl).trans (h.fr i), Nat.lt_of_lt_of_le h.ll g.size, Nat.lt_of_lt_of_le h.rl g.size, h.bl, h.br, h.ne, h.bel.trans (g.mono (Nat.le_of_lt (Nat.lt_of_le_of_lt h.bl h.ll)))⟩
theorem Two.set {w w0 : World} {gl gr B : Nat} {A R : List Int} (h : Two w gl gr B A R w0) {b : Nat} (hb : b < A.length) (hr : b < R.length) (x y : Int) :
    Two ((w.setCell ⟨gl, b, none⟩ (.int .i64 x)).setCell ⟨gr, b, none⟩ (.int .i64 y)) gl gr B (A.set b x) (R.set b y) w0 := by
  have hB := h.bl; have hB2 := h.br
  refine ⟨?_, ?_, fun i => by rw [World.frozen?_setCell, World.frozen?_setCell]; exact h.fl i, fun i => by rw [World.frozen?_setCell, World.frozen?_setCell]; exact h.fr i, by simpa [World.setCell] using h.ll, by simpa [World.setCell] using h.rl, h.bl, h.br, h.ne, (h.bel.setCell (p := ⟨gl, b, none⟩) (by simp only; omega) _).setCell (p := ⟨gr, b, none⟩) (by simp only; omega) _⟩
  · have := CellsAt.put h.l hb x
    rw [Nat.zero_add] at this
    exact fun i hi => (World.cell?_of_block (w := w.setCell ⟨gl, b, none⟩ (.int .i64 x)) (Below.heap_setCell _ _ _ _ h.ne)).trans (this i hi)
  · have h1 : CellsAt (w.setCell ⟨gl, b, none⟩ (.int .i64 x)) gr 0 R := fun i hi => (World.cell?_of_block (w := w) (Below.heap_setCell _ _ _ _ (Ne.symm h.ne))).trans (h.r i hi)
    have := CellsAt.put h1 hr y
    rw [Nat.zero_add] at this
    exact this

theorem any_snoc {ws : List Int} {j : Nat} {x : Int} (p : Int → Bool) (hx : ws[j]? = some x) : (ws.take (j + 1)).any p = ((ws.take j).any p || p x) := by
  rw [List.take_add_one, hx]; simp
theorem any_of_get {ws : List Int} {j : Nat} {x : Int} {p : Int → Bool} (hx : ws[j]? = some x) (h : p x = true) : ws.any p = true := List.any_eq_true.2 ⟨x, List.mem_of_getElem? hx, h⟩

set_option maxRecDepth 20000 in
set_option maxHeartbeats 4000000 in
theorem ref_Split (a : Option Addr) (cap : Nat) (ws : List Int) (m : List Nat) (t : Int) (w : World) (h : Row w 1 a ws.length cap ws) (hn6 : ws.length ≤ 1000000) (htI : I64 t)
    (hm : badS t ws = false → sumE ws = 0 → Rises (keyN (remL t (sumV ws) ws)) m ∧ Stab (keyN (remL t (sumV ws) ws)) (List.range ws.length) m) :
    Calls Try.prog 9 #[.int .i64 t, .slice a ws.length cap] w (RefP w t ws m) := by
  have hbad : ∀ e w', badS t ws = true → e = Ending.returned (.tuple #[.slice none 0 0, .int .i64 1]) → Below w.heap.size w w' → RefP w t ws m e w' := fun e w' h1 h2 h3 => ⟨by rw [if_pos h1]; exact h2, h3⟩
  have hbig : ∀ e w', badS t ws = false → sumE ws ≠ 0 → e = Ending.returned (.tuple #[.slice none 0 0, .int .i64 2]) → Below w.heap.size w w' → RefP w t ws m e w' := fun e w' h1 h2 h3 h4 => ⟨by rw [h1, if_neg (by simp), if_pos h2]; exact h3, h4⟩
  have hfine : ∀ g cap' e w', badS t ws = false → sumE ws = 0 → e = Ending.returned (.tuple #[.slice (some ⟨g, 0, none⟩) ws.length cap', .int .i64 0]) → ws.length ≤ cap' → cap' ≤ maxLen → g < w'.heap.size → CellsAt w' g 0 (bump (quoL t (sumV ws) ws) (m.take (moreN t (sumV ws) ws))) → Below w.heap.size w w' → RefP w t ws m e w' :=
    fun g cap' e w' h1 h2 h3 h4 h5 h6 h7 h8 => ⟨by rw [h1, if_neg (by simp), if_neg (by simp [h2])]; exact ⟨g, cap', h3, h4, h5, h6, h7⟩, h8⟩
  obtain ⟨n, hN⟩ : ∃ n, ws.length = n := ⟨_, rfl⟩
  rw [hN] at h hn6 hm hfine ⊢
  have hNh := Lib.hid hN
  have hr0 := h
  obtain ⟨hl, hcap, hmax, hall, hat⟩ := h
  unfold maxLen at hmax
  have hcells : ∀ j x, ws[j]? = some x → ∃ b off, a = some ⟨b, off, none⟩ ∧ w.cell? ⟨b, off + j, none⟩ = some (.int .i64 x) ∧ b < w.heap.size := by
    intro j x hx
    have hj : j < ws.length := by
      rcases Nat.lt_or_ge j ws.length with g | g
      · exact g
      · rw [List.getElem?_eq_none g] at hx; cases hx
    rcases hat with h0 | ⟨b, off, e, hb, hc⟩
    · omega
    · exact ⟨b, off, e, by rw [hc j hj, List.getD_eq_getElem?_getD, hx]; rfl, hb⟩
  have hch := Lib.hid hcells
  have hrh := Lib.hid hr0
  have hmh := Lib.hid hm
  have hbadh := Lib.hid hbad
  have hbigh := Lib.hid hbig
  have hfineh := Lib.hid hfine
  have hallh := Lib.hid hall
  clear hN hat hcells hr0 hm hbad hbig hfine hall hl
  go_enter Try.func9, Try.ntmps9
  go_wp2_with fail
  go_loop [6, 7] (fun s i => ∃ j : Nat, j ≤ n ∧ i = .int .i64 j ∧ s = .bool ((ws.take j).any someI) ∧ Hid ((ws.take j).any wrongI = false)) (fun _ i => n - (intOf i).toNat)
  case atStart => exact ⟨0, by omega, rfl, rfl, rfl⟩
  case round =>
    obtain ⟨j, hj, rfl, rfl, hnw⟩ := hrel
    by_cases hlt : j < n
    · have hltI : (j : Int) < (n : Int) := by omega
      have hj0 : (0 : Int) ≤ (j : Int) := by omega
      obtain ⟨x, hx⟩ : ∃ x, ws[j]? = some x := ⟨ws[j]'(by rw [hNh.out]; exact hlt), List.getElem?_eq_getElem _⟩
      obtain ⟨b, off, rfl, c0, hbl⟩ := hch.out j x hx
      have hb1 : wrongI x = true → badS t ws = true := fun h1 => by simp [badS, any_of_get hx h1]
      have s1 := any_snoc someI hx
      have s2 := any_snoc wrongI hx
      rw [hnw.out] at s2
      have hxh := Lib.hid hx
      clear hx
      by_cases hx0 : x < 0
      · have hb2 := Lib.hid (hb1 (by simp [wrongI, hx0]))
        clear hb1 s1 s2
        go_wp2_with fail
        go_ret2
        exact hbadh.out _ _ hb2.out rfl (Below.refl _ _)
      · by_cases hx1 : 288230376151711744 < x
        · have hb2 := Lib.hid (hb1 (by simp [wrongI, hx1]))
          clear hb1 s1 s2
          go_wp2_with fail
          go_ret2
          exact hbadh.out _ _ hb2.out rfl (Below.refl _ _)
        · have hw : wrongI x = false := by simp [wrongI]; omega
          rw [hw] at s2
          have s2h := Lib.hid s2
          clear hb1 s2 hw
          cases hsm : (ws.take j).any someI with
          | true =>
            rw [hsm] at s1
            have s1h := Lib.hid s1
            clear hsm s1
            go_wp2_with fail
            go_round
            case rel => exact ⟨j + 1, by omega, by go_num, by rw [s1h.out]; rfl, s2h⟩
            case measure => simp [intOf]; omega
          | false =>
            rw [hsm] at s1
            have hsx : someI x = decide (0 < x) := by unfold someI; rw [Bool.eq_iff_iff]; simp; omega
            rw [hsx] at s1
            have s1h := Lib.hid s1
            clear hsm s1 hsx
            go_wp2_with fail
            go_round
            case rel => exact ⟨j + 1, by omega, by go_num, by rw [s1h.out]; simp, s2h⟩
            case measure => simp [intOf]; omega
    · have ej : j = n := by omega
      subst ej
      have hge : ¬ (j : Int) < (j : Int) := by omega
      have htk : ws.take j = ws := List.take_of_length_le (by rw [hNh.out]; omega)
      rw [htk] at hnw ⊢
      clear htk
      by_cases ht : wrongI t = true
      · have hb := Lib.hid (show badS t ws = true by simp [badS, ht])
        by_cases ht0 : t < 0
        · go_wp2_with fail
          go_ret2
          exact hbadh.out _ _ hb.out rfl (Below.refl _ _)
        · have ht1 : 288230376151711744 < t := by simp [wrongI] at ht; omega
          go_wp2_with fail
          go_ret2
          exact hbadh.out _ _ hb.out rfl (Below.refl _ _)
      · have ht' : wrongI t = false := by simpa using ht
        have ht0 : ¬ t < 0 := fun h => ht (by simp [wrongI, h])
        have ht1 : ¬ 288230376151711744 < t := fun h => ht (by simp [wrongI, h])
        cases hsm : ws.any someI with
        | false =>
          have hb := Lib.hid (show badS t ws = true by simp [badS, hsm])
          clear hsm ht ht'
          go_wp2_with fail
          go_ret2
          exact hbadh.out _ _ hb.out rfl (Below.refl _ _)
        | true =>
          have hb := Lib.hid (show badS t ws = false by simp [badS, hsm, ht', hnw.out])
          clear hsm ht ht' hnw
          go_wp2_with fail
          refine (ref_Sum _ _ _ _ _ hrh.out).mono ?_
          rintro e w1 ⟨rfl, rfl⟩
          by_cases hse : sumE ws = 0
          · have hO := SplitOk.of hb.out hse
            obtain ⟨hr, hs⟩ := hmh.out hb.out hse
            have hfine := fun g cap' e w' => hfineh.out g cap' e w' hb.out hse
            rw [hse]
            obtain ⟨s, hsV⟩ : ∃ s, sumV ws = s := ⟨_, rfl⟩
            rw [hsV] at hO hr hs hfine ⊢
            have hfineh2 := Lib.hid hfine
            have hOh := Lib.hid hO
            have hrh2 := Lib.hid hr
            have hsh2 := Lib.hid hs
            have hj1 : 1 ≤ j := by
              rcases Nat.eq_zero_or_pos j with h0 | h0
              · exfalso
                subst h0
                have : ws = [] := List.eq_nil_of_length_eq_zero hNh.out
                have h1 := hO.sum
                have h2 := hO.s0
                rw [this] at h1
                simp at h1
                omega
              · exact h0
            have hs0 : 1 ≤ s := hO.s0
            have hs1 : s ≤ 288230376151711744 := hO.s1
            have htt : 0 ≤ t := hO.t0
            have htt1 : t ≤ 288230376151711744 := hO.t1
            clear hO hr hs hfine hfineh hmh hse hsV
            go_wp2_with fail
            go_loopw [10, 11, 12, 13] (fun l r u i wr => ∃ k : Nat, k ≤ j ∧ i = .int .i64 (k : Int) ∧ u = .int .i64 (t - (quoL t s (ws.take k)).sum) ∧ OwnI wr w.heap.size 3 1 l k (quoL t s (ws.take k)) ∧ OwnI wr w.heap.size 3 1 r k (remL t s (ws.take k)) ∧ (l.ownBlock = none ∨ l.ownBlock ≠ r.ownBlock) ∧ Below w.heap.size w wr) (fun _ _ _ i _ => j - (intOf i).toNat)
            case atStart => exact ⟨0, by omega, rfl, by simp [quoL], OwnI.nil _ _ _ _, OwnI.nil _ _ _ _, .inl rfl, Below.refl _ _⟩
            case round =>
              obtain ⟨k, hk, rfl, rfl, hOl, hOr, hap, hbel⟩ := hrel
              have hsz := hbel.size
              have hlf := hOh.out.left k
              by_cases hlt : k < j
              · have hltI : (k : Int) < (j : Int) := by omega
                have hk0 : (0 : Int) ≤ (k : Int) := by omega
                obtain ⟨x, hx⟩ : ∃ x, ws[k]? = some x := ⟨ws[k]'(by rw [hNh.out]; exact hlt), List.getElem?_eq_getElem _⟩
                obtain ⟨b, off, rfl, c00, hbl⟩ := hch.out k x hx
                have c0 := (hbel.cell (p := ⟨b, off + k, none⟩) hbl).trans c00
                have hgx : ws.getD k 0 = x := by rw [List.getD_eq_getElem?_getD, hx]; rfl
                have hmd := hOh.out.md (List.mem_of_getElem? hx)
                have hxb := hOh.out.all x (List.mem_of_getElem? hx)
                have hqb := quo_bd htt (show 0 < s by omega) hxb.1 hxb.2
                have hMD := ref_MulDiv t x s
                rw [hmd.1, hmd.2] at hMD
                have hqs := quoL_snoc t s (ws := ws) (j := k) (by rw [hNh.out]; exact hlt)
                have hrs := remL_snoc t s (ws := ws) (j := k) (by rw [hNh.out]; exact hlt)
                rw [hgx] at hqs hrs
                have hlf2 := hOh.out.left (k + 1)
                have hsum : (quoL t s (ws.take (k + 1))).sum = (quoL t s (ws.take k)).sum + t * x / s := by rw [hqs]; simp
                obtain ⟨q, hq⟩ : ∃ q, t * x / s = q := ⟨_, rfl⟩
                obtain ⟨r, hr⟩ : ∃ r, t * x % s = r := ⟨_, rfl⟩
                rw [hq] at hMD hqs hsum hqb
                rw [hr] at hMD hrs hqb
                obtain ⟨A, hA⟩ : ∃ A, (quoL t s (ws.take k)).sum = A := ⟨_, rfl⟩
                rw [hA] at hlf hsum ⊢
                have hsumh := Lib.hid hsum
                have hqsh := Lib.hid hqs
                have hrsh := Lib.hid hrs
                have hxI : I64 x := ⟨by omega, by omega⟩
                have hsI : I64 s := ⟨by omega, by omega⟩
                have hb1 : 0 ≤ t - A := by omega
                have hb2 : 0 ≤ t - A - q := by omega
                have hb3 : t - A - q ≤ t := by omega
                have f1 : IntKind.i64.wrap (t - A - q) = t - A - q := IntWalk.i64_in _ (by omega)
                have hMDh := Lib.hid hMD
                clear hmd hMD hqs hrs hsum hq hr hA hx hgx hlf hlf2 c00
                go_wp2_with fail
                refine (hMDh.out _ htI hxI hsI).mono ?_
                rintro e w1 ⟨rfl, rfl⟩
                go_wp2_with (at_builtin; refine wpList_pushL _ rfl _ _ 22 rfl w.heap.size 3 1 elem_Int _ k (quoL t s (ws.take k)) rfl (hOl.alloc _) wr.heap.size 0 1 [q] rfl rfl (CellsAt.new wr [q] 3) ?c1 ?c2 ?_)
                case c1 => omega
                case c2 => simp; omega
                intro g1 cap1 w1 hO1 hg1 hl1 hlt1
                have hne1 : u11.ownBlock = none ∨ u11.ownBlock ≠ u10.ownBlock := by
                  cases h11 : u11.ownBlock with
                  | none => exact .inl rfl
                  | some z =>
                    right
                    rcases hap with h10 | h10
                    · rw [h10]; simp
                    · rw [h11] at h10; exact Ne.symm h10
                have hOr1 := (OwnI.alloc hOr (.cells #[.int .i64 q] 3)).kept2 hg1 hne1
                have hb1' : Below w.heap.size w w1 := (hbel.alloc hsz _).trans (below_grown hg1 (by simp; omega) fun z hz => (hOl.lt2 z hz).2)
                have hw1s : wr.heap.size < w1.heap.size := by have := hg1.size; simp at this; omega
                have hll : u10.ownBlock = some g1 ∨ g1 = wr.heap.size + 1 := by simpa using hl1
                have hg11 : u11.ownBlock ≠ some g1 := fun e => by
                  rcases hll with h10 | h10
                  · rcases hne1 with h | h
                    · rw [h] at e; cases e
                    · rw [h10] at h; exact h e
                  · have := (hOr.lt2 g1 e).1; omega
                have hr1s : w.heap.size ≤ w1.heap.size := by omega
                clear hg1 hl1 hOr hbel
                go_wp2_with (at_builtin; refine wpList_pushL _ rfl _ _ 22 rfl w.heap.size 3 1 elem_Int _ k (remL t s (ws.take k)) rfl (hOr1.alloc _) w1.heap.size 0 1 [r] rfl rfl (CellsAt.new w1 [r] 3) ?c1 ?c2 ?_)
                case c1 => omega
                case c2 => simp; omega
                intro g2 cap2 w2 hO2 hg2 hl2 hlt2
                have hO1b := (OwnI.alloc hO1 (.cells #[.int .i64 r] 3)).kept2 hg2 (.inr (fun e => hg11 e.symm))
                have hl22 : u11.ownBlock = some g2 ∨ g2 = w1.heap.size + 1 := by simpa using hl2
                have hgg : g1 ≠ g2 := by
                  rintro rfl
                  rcases hl22 with h | h
                  · exact hg11 h
                  · omega
                have hb2' : Below w.heap.size w w2 := (hb1'.alloc hr1s _).trans (below_grown hg2 (by simp; omega) fun z hz => (hOr1.lt2 z hz).2)
                rw [← hqsh.out] at hO1b
                rw [← hrsh.out] at hO2
                clear hg2 hl2 hOr1 hO1 hb1' hne1 hll hg11 hl22 hap hOl
                go_wp2_with fail
                go_roundw
                case rel => exact ⟨k + 1, by omega, by go_num, by rw [hsumh.out]; congr 1; omega, hO1b, hO2, .inr (fun e => hgg (by injection e)), hb2'⟩
                case measure => simp [intOf]; omega
              · have ek : k = j := by omega
                subst ek
                have hgek : ¬ (k : Int) < (k : Int) := by omega
                have htk : ws.take k = ws := List.take_of_length_le (by rw [hNh.out]; omega)
                rw [htk] at hOl hOr ⊢
                obtain ⟨gl, cl, rfl, hl1, hl2, hl3, hl4, hl5, hl6⟩ := hOl.fullI (by omega)
                obtain ⟨gr, cr, rfl, hr1, hr2, hr3, hr4, hr5, hr6⟩ := hOr.fullI (by omega)
                have hgg : gl ≠ gr := by
                  rintro rfl
                  rcases hap with h | h
                  · cases h
                  · exact h rfl
                have hTwo : Two wr gl gr w.heap.size (quoL t s ws) (remL t s ws) w := ⟨hl5, hr5, hl6, hr6, hl2, hr2, hl1, hr1, hgg, hbel⟩
                obtain ⟨L1, L2, L3⟩ := more_ok hOh.out
                rw [← L1]
                obtain ⟨L, hL⟩ : ∃ L, moreN t s ws = L := ⟨_, rfl⟩
                rw [hL] at L2 L3 hfineh2 ⊢
                rw [hNh.out] at L2
                have hLL3 := Lib.hid L3
                have hLh := Lib.hid hL
                unfold maxLen at hl4 hr4
                clear hl5 hr5 hl6 hr6 hl2 hr2 hl1 hr1 hap hbel hOl hOr htk L1 L3 hL hlf
                go_wp2_with fail
                go_loopw [12] (fun u wr => ∃ i r : Nat, i + r = L ∧ u = .int .i64 (r : Int) ∧ Two wr gl gr w.heap.size (bump (quoL t s ws) (m.take i)) (strike (remL t s ws) (m.take i)) w) (fun u _ => (intOf u).toNat)
                case atStart => exact ⟨0, L, by omega, rfl, hTwo⟩
                case round =>
                  obtain ⟨i, r, hir, rfl, hT⟩ := hrel
                  obtain ⟨wo, rfl⟩ : ∃ wo : World, wo = wr := ⟨_, rfl⟩
                  by_cases hr0 : 0 < r
                  · have hr0I : (0 : Int) < (r : Int) := by omega
                    have hAl : (bump (quoL t s ws) (m.take i)).length = k := by rw [bump_len, quoL_len]; exact hNh.out
                    have hRl : (strike (remL t s ws) (m.take i)).length = k := by rw [strike_len, remL_len]; exact hNh.out
                    have hAb : ∀ b, b < k → 0 ≤ (bump (quoL t s ws) (m.take i)).getD b 0 ∧ (bump (quoL t s ws) (m.take i)).getD b 0 ≤ 288230376152711744 := by
                      intro b hb
                      have hbw : b < ws.length := by rw [hNh.out]; exact hb
                      have hxm : ws.getD b 0 ∈ ws := by rw [List.getD_eq_getElem?_getD, List.getElem?_eq_getElem hbw]; exact List.getElem_mem hbw
                      have hx := hOh.out.all _ hxm
                      have hq := quo_bd htt (show 0 < s by omega) hx.1 hx.2
                      have hmem := (stab_range hsh2.out).2
                      rw [bump_get _ _ _ (fun p hp => by rw [quoL_len, hNh.out]; exact (hmem p).1 (List.mem_of_mem_take hp)), quoL_get hbw]
                      have hc := List.count_le_length (a := b) (l := m.take i)
                      rw [List.length_take] at hc
                      omega
                    have hbest : ∀ B, B < k → (∀ p, p < k → (strike (remL t s ws) (m.take i)).getD p 0 ≤ (strike (remL t s ws) (m.take i)).getD B 0) → (∀ p, p < B → (strike (remL t s ws) (m.take i)).getD p 0 < (strike (remL t s ws) (m.take i)).getD B 0) → m[i]? = some B := by
                      intro B hB h1 h2
                      have hrl : (remL t s ws).length = k := by rw [remL_len]; exact hNh.out
                      refine best_of hrh2.out (by rw [hrl]; exact hsh2.out) (fun z hz => ?_) (by omega) (by omega) (by rw [hrl]; exact h1) h2
                      obtain ⟨x, hx, rfl⟩ := List.mem_map.1 hz
                      exact Int.emod_nonneg _ (by omega)
                    have hstep : ∀ B, m[i]? = some B → bump (quoL t s ws) (m.take (i + 1)) = (bump (quoL t s ws) (m.take i)).set B ((bump (quoL t s ws) (m.take i)).getD B 0 + 1) ∧ strike (remL t s ws) (m.take (i + 1)) = (strike (remL t s ws) (m.take i)).set B (-1) := by
                      intro B hB
                      have htk : m.take (i + 1) = m.take i ++ [B] := by rw [List.take_add_one, hB]; rfl
                      rw [htk, bump_snoc, strike_snoc]
                      exact ⟨rfl, rfl⟩
                    generalize bump (quoL t s ws) (m.take i) = A at hT hAl hAb hstep
                    generalize strike (remL t s ws) (m.take i) = R at hT hRl hbest hstep
                    have hAlh := Lib.hid hAl
                    have hRlh := Lib.hid hRl
                    have hAbh := Lib.hid hAb
                    have hbesth := Lib.hid hbest
                    have hsteph := Lib.hid hstep
                    have hirh := Lib.hid hir
                    clear hAl hRl hAb hbest hstep hir
                    have hkI : (1 : Int) ≤ (k : Int) := by omega
                    have hrb : r ≤ 1000000 := by have := hirh.out; omega
                    go_wp2_with fail
                    go_loopw [17, 18] (fun b q wx => ∃ B p : Nat, 1 ≤ p ∧ p ≤ k ∧ B < p ∧ b = .int .i64 (B : Int) ∧ q = .int .i64 (p : Int) ∧ Hid (∀ z, z < p → R.getD z 0 ≤ R.getD B 0) ∧ Hid (∀ z, z < B → R.getD z 0 < R.getD B 0) ∧ Below wo.heap.size wo wx) (fun _ q _ => k - (intOf q).toNat)
                    case atStart =>
                      have hz1 : Hid (∀ z, z < 1 → R.getD z 0 ≤ R.getD 0 0) := fun z hz => by
                        have : z = 0 := by omega
                        subst this
                        exact Int.le_refl _
                      exact ⟨0, 1, by omega, by omega, by omega, rfl, rfl, hz1, fun z hz => by omega, Below.refl _ _⟩
                    case round =>
                      obtain ⟨B, p, hp1, hpk, hBp, rfl, rfl, hA1, hA2, hbw⟩ := hrel
                      have hT2 := hT.below hbw
                      have hB0 : (0 : Int) ≤ (B : Int) := by omega
                      have hBkI : (B : Int) < (k : Int) := by omega
                      by_cases hpk2 : p < k
                      · have hpkI : (p : Int) < (k : Int) := by omega
                        have hp0 : (0 : Int) ≤ (p : Int) := by omega
                        have c0 := hT2.r p (by rw [hRlh.out]; exact hpk2)
                        have c1 := hT2.r B (by rw [hRlh.out]; omega)
                        rw [Nat.zero_add] at c0 c1
                        obtain ⟨x, hx⟩ : ∃ x, R.getD p 0 = x := ⟨_, rfl⟩
                        obtain ⟨y, hy⟩ : ∃ y, R.getD B 0 = y := ⟨_, rfl⟩
                        rw [hx] at c0
                        rw [hy] at c1
                        have hxh := Lib.hid hx
                        have hyh := Lib.hid hy
                        clear hx hy hT2
                        by_cases hxy : y < x
                        · have hd : decide (y < x) = true := decide_eq_true hxy
                          go_wp2_with fail
                          go_quiet (fail)
                          go_wp2_with fail
                          case' roundEnd =>
                            refine ⟨⟨p, p + 1, by omega, by omega, by omega, rfl, by go_num, fun z hz => ?_, fun z hz => ?_, by (repeat (first | assumption | exact Below.refl _ _ | refine ballc ?_ _ | refine bdrew ?_ | refine bdrewN ?_ _ | refine bset ?_ _ _ | refine bsetN ?_ (by omega) _ _ | refine bthen ?_ (by assumption)))⟩, ?_⟩
                            · rcases Nat.lt_or_ge z p with g | g
                              · have := hA1.out z g; rw [hxh.out]; rw [hyh.out] at this; omega
                              · have : z = p := by omega
                                subst this; omega
                            · have := hA1.out z hz; rw [hxh.out]; rw [hyh.out] at this; omega
                            · simp [intOf]; omega
                        · have hd : decide (y < x) = false := decide_eq_false hxy
                          go_wp2_with fail
                          go_quiet (fail)
                          go_wp2_with fail
                          case' roundEnd =>
                            refine ⟨⟨B, p + 1, by omega, by omega, by omega, rfl, by go_num, fun z hz => ?_, hA2.out, by (repeat (first | assumption | exact Below.refl _ _ | refine ballc ?_ _ | refine bdrew ?_ | refine bdrewN ?_ _ | refine bset ?_ _ _ | refine bsetN ?_ (by omega) _ _ | refine bthen ?_ (by assumption)))⟩, ?_⟩
                            · rcases Nat.lt_or_ge z p with g | g
                              · exact hA1.out z g
                              · have : z = p := by omega
                                subst this; rw [hxh.out, hyh.out]; omega
                            · simp [intOf]; omega
                      · have ep : p = k := by omega
                        have hpkI : ¬ (p : Int) < (k : Int) := by omega
                        have hm := hbesth.out B (by omega) (fun z hz => hA1.out z (by omega)) hA2.out
                        obtain ⟨e1, e2⟩ := hsteph.out B hm
                        have hab := hAbh.out B (by omega)
                        have c0 := hT2.l B (by rw [hAlh.out]; omega)
                        rw [Nat.zero_add] at c0
                        have hT3 := hT2.set (b := B) (by rw [hAlh.out]; omega) (by rw [hRlh.out]; omega) (A.getD B 0 + 1) (-1)
                        rw [← e1, ← e2] at hT3
                        obtain ⟨y, hy⟩ : ∃ y, A.getD B 0 = y := ⟨_, rfl⟩
                        rw [hy] at c0 hab hT3
                        obtain ⟨hab1, hab2⟩ := hab
                        have f1 := hT2.fl B
                        have f2 := hT2.fr B
                        have c1 := hT2.r B (by rw [hRlh.out]; omega)
                        rw [Nat.zero_add] at c1
                        have w1 : IntKind.i64.wrap (y + 1) = y + 1 := IntWalk.i64_in _ (by omega)
                        clear hy hT2 hm e1 e2 hA1 hA2 hbw hT
                        go_wp2_with fail
                        case' roundEnd =>
                          obtain ⟨r', rfl⟩ : ∃ r', r = r' + 1 := ⟨r - 1, by omega⟩
                          refine ⟨⟨i + 1, r', by have := hirh.out; omega, by go_num, hT3⟩, ?_⟩
                          simp [intOf]
                  · obtain rfl : r = 0 := by omega
                    obtain rfl : i = L := by omega
                    have hz : ¬ (0 : Int) < ((0 : Nat) : Int) := by omega
                    have hf := hT.l
                    go_wp2_with fail
                    go_ret2
                    exact hfineh2.out gl cl _ _ rfl hl3 (by unfold maxLen; exact hl4) hT.ll hf hT.bel
          · have he2 : sumE ws = 2 := by unfold sumE at hse ⊢; split <;> simp_all
            have hseh := Lib.hid hse
            rw [he2]
            clear he2 hse
            go_wp2_with fail
            go_ret2
            exact hbigh.out _ _ hb.out hseh.out rfl (Below.refl _ _)
end Go.Proofs.Ytanmfhdljgphhaa
