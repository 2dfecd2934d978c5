/-
  VoucherPlain. Its walk.
-/
import Derived.Test.YtnkdbjmfpebcgaaVouS
import Derived.Test.YtnkdbjmfpebcgaaCopy
set_option linter.unusedVariables false
set_option linter.unusedSimpArgs false
namespace Go.Proofs.Ytnkdbjmfpebcgaa
open Go.RowKit

theorem sum_le {l : List Int} {B : Int} (h : ∀ z, z ∈ l → -B ≤ z ∧ z ≤ B) : -(B * l.length) ≤ l.sum ∧ l.sum ≤ B * l.length := by
  induction l with
  | nil => simp
  | cons z l ih =>
    have h1 := h z (by simp)
    have h2 := ih fun y hy => h y (by simp [hy])
    simp only [List.sum_cons, List.length_cons]
    have e : B * ((l.length + 1 : Nat) : Int) = B * (l.length : Int) + B := by rw [Int.natCast_add, Int.mul_add]; omega
    omega

set_option maxRecDepth 20000 in
set_option maxHeartbeats 4000000 in
theorem VoucherPlain_walk (a : Option Addr) (n cap : Nat) (zs : List Int) (w : World) (h : Row w 1 a n cap zs) :
    Calls Try.prog 5 #[.slice a n cap] w fun e w' => e = .returned (.bool true) ∧ Below w.heap.size w w' := by
  obtain ⟨p, P1, P2, P3, hp17, hpS, hpz, hpst, hps, T1, T2, C1⟩ := lines_law zs
  have hMS := (lines_small zs).1
  have hlen : (linesS zs).length ≤ 21 := by unfold linesS linesA linesT; simp; omega
  have hpos : 1 ≤ (linesS zs).length := by unfold linesS; simp
  have hlines := law_lines a n cap zs w h
  generalize linesS zs = M at *
  have hMl := hMS.len
  have hpl := hpS.len
  have hMI := Lib.hid hMS.I
  have hpI := Lib.hid hpS.I
  have hTI := Lib.hid (turnS_I hMS.I)
  have hT2I := Lib.hid (turnS_I hpS.I)
  have P1h := Lib.hid P1
  have P2h := Lib.hid P2
  have P3h := Lib.hid P3
  have T1h := Lib.hid T1
  have T2h := Lib.hid T2
  have C1h := Lib.hid C1
  have hpzh := Lib.hid hpz
  have hpsth := Lib.hid hpst
  have hpsh := Lib.hid hps
  have hpSh := Lib.hid hpS
  have hTl := Lib.hid (turnS_len M)
  have hT2l := Lib.hid (turnS_len p)
  clear P1 P2 P3 T1 T2 C1 hpz hpst hps hpS hMS h
  go_enter Try.func5, Try.ntmps5
  go_wp2_with fail
  refine hlines.mono ?_
  rintro e w1 ⟨v1, rfl, O1, hw1⟩
  obtain ⟨a1, c1, rfl, R1⟩ := O1.row hMI.out
  clear hlines O1
  go_wp2_with fail
  refine (vou_Plain_is R1 (by omega) P1h.out).mono ?_
  rintro e w2 ⟨⟨a2, c2, rfl, R2⟩, hw2⟩
  have R1b := R1.below hw2
  have hb2 : Below w.heap.size w w2 := by (repeat (first | assumption | exact Below.refl _ _ | refine ballc ?_ _ | refine bdrew ?_ | refine bdrewN ?_ _ | refine bset ?_ _ _ | refine bsetN ?_ (by omega) _ _ | refine bthen ?_ (by assumption)))
  clear R1 hw1 hw2
  go_wp2_with fail
  refine (vou_Plain_is R2 (by omega) P2h.out).mono ?_
  rintro e w3 ⟨⟨a3, c3, rfl, R3⟩, hw3⟩
  have R1c := R1b.below hw3
  have R2c := R2.below hw3
  have hb3 : Below w.heap.size w w3 := by (repeat (first | assumption | exact Below.refl _ _ | refine ballc ?_ _ | refine bdrew ?_ | refine bdrewN ?_ _ | refine bset ?_ _ _ | refine bsetN ?_ (by omega) _ _ | refine bthen ?_ (by assumption)))
  clear R1b R2 hw3 hb2
  go_wp2_with (at_builtin; refine wpList_copy _ rfl _ 23 rfl 25 2 elem_Line _ _ _ (flat2 p) rfl R2c (by omega) ?_)
  intro v4 w4 O4 hw4
  have R1d := R1c.below hw4
  have hs34 := hw4.size
  have hs3 := hb3.size
  clear R1c
  go_wp2_with fail
  refine (vou_Turned a1 c1 M _ R1d (by omega)).mono ?_
  rintro e w5 ⟨v5, rfl, O5, hw5⟩
  rw [← hTl.out] at O5
  obtain ⟨a5, c5, rfl, R5⟩ := O5.row hTI.out
  obtain ⟨ad5, rfl⟩ : ∃ ad, a5 = some ad := by
    cases a5 with
    | some ad => exact ⟨ad, rfl⟩
    | none =>
      rcases R5.at_ with h0 | ⟨b, off, e, -⟩
      · have := hTl.out
        omega
      · cases e
  have O4b := O4.below hw5
  have hs45 := hw5.size
  have hw35 : Below w3.heap.size w3 w5 := hw4.trans (hw5.mono hs34)
  clear R1d O4 O5 hw5 hw4
  go_wp2_with (at_builtin; refine wpList_pushN _ rfl _ _ 23 rfl w3.heap.size 25 2 elem_Line _ p.length (flat2 p) rfl O4b ad5 (turnS M).length c5 (flat2 (turnS M)) rfl R5 (by rw [hTl.out]; omega) (by omega) ?_)
  intro v6 w6 O6 hw6
  have hfl : flat2 p ++ flat2 (turnS M) = flat2 (p ++ turnS M) := by simp [flat2]
  have hll : p.length + (turnS M).length = (p ++ turnS M).length := by rw [List.length_append]
  rw [hfl, hll] at O6
  have hZl : p.length + (turnS M).length ≤ 38 := by rw [hTl.out]; omega
  rw [hll] at hZl
  have hZI : AllI (flat2 (p ++ turnS M)) := by rw [← hfl]; intro z hz; rcases List.mem_append.1 hz with hz | hz; exact hpI.out z hz; exact hTI.out z hz
  generalize p ++ turnS M = Z at *
  have hZIh := Lib.hid hZI
  obtain ⟨a6, c6, rfl, R6⟩ := O6.row hZIh.out
  have hw36 := hw35.trans hw6
  have R2f := R2c.below hw36
  have R3f := R3.below hw36
  have hb6 : Below w.heap.size w w6 := hb3.trans (hw36.mono hs3)
  clear R2c R3 O4b O6 R5 hw6 hw35 hw36 hb3 hfl hll hZI
  go_wp2_with fail
  refine (vou_Plain_is R6 (by omega) P3h.out).mono ?_
  rintro e w7 ⟨⟨a7, c7, rfl, -⟩, hw7⟩
  have R2g := R2f.below hw7
  have R3g := R3f.below hw7
  have hb7 : Below w.heap.size w w7 := by (repeat (first | assumption | exact Below.refl _ _ | refine ballc ?_ _ | refine bdrew ?_ | refine bdrewN ?_ _ | refine bset ?_ _ _ | refine bsetN ?_ (by omega) _ _ | refine bthen ?_ (by assumption)))
  clear R2f R3f R6 hw7 hb6
  go_wp2_with fail
  refine (same_lines a2 a3 c2 c3 p p _ R2g R3g).mono ?_
  rw [decide_eq_true (rfl : p = p)]
  rintro e w8 ⟨rfl, hw8⟩
  have R2h := R2g.below hw8
  have hb8 : Below w.heap.size w w8 := by (repeat (first | assumption | exact Below.refl _ _ | refine ballc ?_ _ | refine bdrew ?_ | refine bdrewN ?_ _ | refine bset ?_ _ _ | refine bsetN ?_ (by omega) _ _ | refine bthen ?_ (by assumption)))
  clear R2g R3g hw8 hb7
  go_wp2_with fail
  obtain ⟨n2, hn2⟩ : ∃ n2, p.length = n2 := ⟨_, rfl⟩
  have hn2h := Lib.hid hn2
  rw [hn2] at R2h hp17 hpl ⊢
  clear hn2
  have hs8 := hb8.size
  go_loopw [10, 11] (fun s i wr => ∃ j : Nat, j ≤ n2 ∧ i = .int .i64 (j : Int) ∧ s = .int .i64 (((amts p).take j).sum) ∧ Below w8.heap.size w8 wr) (fun _ i _ => n2 - (intOf i).toNat)
  case atStart => exact ⟨0, by omega, rfl, rfl, Below.refl _ _⟩
  case round =>
    obtain ⟨j, hj, rfl, rfl, hbel⟩ := hrel
    by_cases hlt : j < n2
    · have hltI : (j : Int) < (n2 : Int) := by omega
      have hj0 : (0 : Int) ≤ (j : Int) := by omega
      obtain ⟨b, off, rfl, hb, hc⟩ : ∃ b off, a2 = some ⟨b, off, none⟩ ∧ b < w8.heap.size ∧ CellsAt w8 b off (flat2 p) := by
        rcases R2h.at_ with h0 | h0
        · omega
        · exact h0
      obtain ⟨x, hx⟩ : ∃ x, p[j]? = some x := ⟨p[j]'(by rw [hn2h.out]; exact hlt), by simp [hn2h.out, hlt]⟩
      have hcr := hc.below hb hbel
      obtain ⟨x0, x1⟩ := hcr.line hx
      have hxz : (x.n == 0) = false := by rw [beq_eq_false_iff_ne]; exact hpzh.out x (List.mem_of_getElem? hx)
      have hxb := hpSh.out.amt x (List.mem_of_getElem? hx)
      have hst : ((amts p).take (j + 1)).sum = ((amts p).take j).sum + x.n := by
        rw [List.take_add_one]
        simp [amts, hx]
      have hsb : -(50000 * 100) ≤ ((amts p).take j).sum ∧ ((amts p).take j).sum ≤ 50000 * 100 := by
        have h1 := sum_le (l := (amts p).take j) (B := 50000) (fun z hz => by
          obtain ⟨y, hy, rfl⟩ := List.mem_map.1 (List.mem_of_mem_take hz)
          have := hpSh.out.amt y hy
          omega)
        have h2 : ((amts p).take j).length ≤ 100 := by rw [List.length_take]; omega
        omega
      obtain ⟨S, hS⟩ : ∃ S, ((amts p).take j).sum = S := ⟨_, rfl⟩
      rw [hS] at hst hsb ⊢
      have hsth := Lib.hid hst
      obtain ⟨hsb1, hsb2⟩ := hsb
      obtain ⟨hxb1, hxb2⟩ := hxb
      have hord : ∀ q, j = q + 1 → ∃ y : Lin, wr.cell? ⟨b, off + q * 2, none⟩ = some (.int .i64 y.a) ∧ y.a < x.a := by
        intro q hq
        obtain ⟨y, hy⟩ : ∃ y, p[q]? = some y := ⟨p[q]'(by rw [hn2h.out]; omega), List.getElem?_eq_getElem _⟩
        refine ⟨y, (hcr.line hy).1, ?_⟩
        have hpq := hpsth.out
        unfold Strict at hpq
        have l1 : q < p.length := by rw [hn2h.out]; omega
        have l2 : j < p.length := by rw [hn2h.out]; omega
        have := List.pairwise_iff_getElem.1 hpq q j l1 l2 (by omega)
        rw [List.getElem?_eq_getElem l1] at hy
        rw [List.getElem?_eq_getElem l2] at hx
        injection hy with hy; injection hx with hx
        rw [hy, hx] at this
        exact this
      have hordh := Lib.hid hord
      clear hx hst hS hord hc hcr
      rcases Nat.eq_zero_or_pos j with rfl | hjp
      · go_wp2_with fail
        go_quiet (fail)
        go_wp2_with fail
        case' roundEnd =>
          refine ⟨⟨1, by omega, rfl, ?_, by (repeat (first | assumption | exact Below.refl _ _ | refine ballc ?_ _ | refine bdrew ?_ | refine bdrewN ?_ _ | refine bset ?_ _ _ | refine bsetN ?_ (by omega) _ _ | refine bthen ?_ (by assumption)))⟩, ?_⟩
          · rw [hsth.out]
          · simp [intOf]; omega
      · obtain ⟨q, rfl⟩ : ∃ q, j = q + 1 := ⟨j - 1, by omega⟩
        obtain ⟨y, y0, hyx⟩ := hordh.out q rfl
        have e1 : IntKind.i64.wrap (((q + 1 : Nat) : Int) - 1) = (q : Int) := (IntWalk.i64_in _ (by omega)).trans (by omega)
        have e2 : ((q + 1 : Nat) : Int) - 1 = (q : Int) := by omega
        have e3 : (q : Int) < (n2 : Int) := by omega
        have e4 : (0 : Int) < ((q + 1 : Nat) : Int) := by omega
        have e5 : decide (x.a ≤ y.a) = false := decide_eq_false (by omega)
        have e6 : ¬ x.a ≤ y.a := by omega
        go_wp2_with fail
        go_quiet (fail)
        go_wp2_with fail
        case' roundEnd =>
          refine ⟨⟨q + 1 + 1, by omega, by go_num, ?_, by (repeat (first | assumption | exact Below.refl _ _ | refine ballc ?_ _ | refine bdrew ?_ | refine bdrewN ?_ _ | refine bset ?_ _ _ | refine bsetN ?_ (by omega) _ _ | refine bthen ?_ (by assumption)))⟩, ?_⟩
          · rw [hsth.out]
          · simp [intOf]; omega
    · have ej : j = n2 := by omega
      subst ej
      have hltI : ¬ ((j : Int) < (j : Int)) := by omega
      have hsum : ((amts p).take j).sum = 0 := by rw [List.take_of_length_le (by simp [amts, hn2h.out])]; exact hpsh.out
      rw [hsum]
      have Rr := R2h.below hbel
      have hbr : Below w.heap.size w wr := hb8.trans (hbel.mono hs8)
      have hn3 : j ≤ 1000 := by omega
      have hTot := fun W c a h => vou_Total a c p W h (by rw [hn2h.out]; omega)
      have hTur := fun W c a h => vou_Turned a c p W h (by rw [hn2h.out]; omega)
      have hChk := fun W c a h => vou_Check a c p W h
      rw [T1h.out] at hTot
      rw [C1h.out] at hChk
      simp only [hn2h.out] at hTot hTur hChk
      have hTt := fun W c a h => vou_Total a c (turnS p) W h (by rw [hT2l.out, hn2h.out]; omega)
      rw [T2h.out, hT2l.out, hn2h.out] at hTt
      have q1 := Lib.hid hTot
      have q2 := Lib.hid hTur
      have q3 := Lib.hid hChk
      have q4 := Lib.hid hTt
      clear hTot hTur hChk hTt hsum hbel R2h hb8
      obtain ⟨D, hD⟩ : ∃ D, debs p = D := ⟨_, rfl⟩
      have hDh := Lib.hid hD
      clear hD
      go_wp2_with fail
      refine (q1.out _ c2 a2 Rr).mono ?_
      rw [hDh.out]
      rintro e x1 ⟨rfl, hx1⟩
      have R1 := Rr.below hx1
      have hb1 : Below w.heap.size w x1 := by (repeat (first | assumption | exact Below.refl _ _ | refine ballc ?_ _ | refine bdrew ?_ | refine bdrewN ?_ _ | refine bset ?_ _ _ | refine bsetN ?_ (by omega) _ _ | refine bthen ?_ (by assumption)))
      clear Rr hx1 hbr
      go_wp2_with fail
      refine (q2.out _ c2 a2 R1).mono ?_
      rintro e x2 ⟨v, rfl, OT, hx2⟩
      have R2 := R1.below hx2
      have hb2 : Below w.heap.size w x2 := by (repeat (first | assumption | exact Below.refl _ _ | refine ballc ?_ _ | refine bdrew ?_ | refine bdrewN ?_ _ | refine bset ?_ _ _ | refine bsetN ?_ (by omega) _ _ | refine bthen ?_ (by assumption)))
      obtain ⟨a9, c9, rfl, RT⟩ := OT.row hT2I.out
      clear R1 OT hx2 hb1
      go_wp2_with fail
      refine (q4.out _ c9 a9 RT).mono ?_
      rw [hDh.out]
      rintro e x3 ⟨rfl, hx3⟩
      have R3 := R2.below hx3
      have hb3 : Below w.heap.size w x3 := by (repeat (first | assumption | exact Below.refl _ _ | refine ballc ?_ _ | refine bdrew ?_ | refine bdrewN ?_ _ | refine bset ?_ _ _ | refine bsetN ?_ (by omega) _ _ | refine bthen ?_ (by assumption)))
      clear R2 RT hx3 hb2
      go_wp2_with fail
      refine (q3.out _ c2 a2 R3).mono ?_
      rintro e x4 ⟨rfl, hx4⟩
      have hb4 : Below w.heap.size w x4 := by (repeat (first | assumption | exact Below.refl _ _ | refine ballc ?_ _ | refine bdrew ?_ | refine bdrewN ?_ _ | refine bset ?_ _ _ | refine bsetN ?_ (by omega) _ _ | refine bthen ?_ (by assumption)))
      clear R3 hx4 hb3
      have hP : ∀ z : Bool, z = (decide (1 ≤ j) && decide (j ≤ 12)) → z = true ∧ 1 ≤ j ∧ j ≤ 12 ∨ z = false ∧ j = 0 ∨ z = false ∧ 12 < j := by
        intro z hz
        by_cases h1 : 1 ≤ j
        · by_cases h2 : j ≤ 12
          · exact .inl ⟨by rw [hz]; simp [h1, h2], h1, h2⟩
          · exact .inr (.inr ⟨by rw [hz]; simp [h2], by omega⟩)
        · exact .inr (.inl ⟨by rw [hz]; simp [h1], by omega⟩)
      rcases hP _ rfl with ⟨hz, h1, h2⟩ | ⟨hz, rfl⟩ | ⟨hz, h1⟩
      · rw [hz]
        clear hz hP
        have h1I : (0 : Int) < (j : Int) := by omega
        have h2I : (j : Int) ≤ 12 := by omega
        go_wp2_with (go_at_call 11; refine (vou_awake _).mono ?_; rintro e w' ⟨rfl, hwa⟩)
        go_ret
        exact ⟨rfl, by (repeat (first | assumption | exact Below.refl _ _ | refine ballc ?_ _ | refine bdrew ?_ | refine bdrewN ?_ _ | refine bset ?_ _ _ | refine bsetN ?_ (by omega) _ _ | refine bthen ?_ (by assumption)))⟩
      · rw [hz]
        clear hz hP
        go_wp2_with (go_at_call 11; refine (vou_awake _).mono ?_; rintro e w' ⟨rfl, hwa⟩)
        go_ret
        exact ⟨rfl, by (repeat (first | assumption | exact Below.refl _ _ | refine ballc ?_ _ | refine bdrew ?_ | refine bdrewN ?_ _ | refine bset ?_ _ _ | refine bsetN ?_ (by omega) _ _ | refine bthen ?_ (by assumption)))⟩
      · rw [hz]
        clear hz hP
        have h1I : (0 : Int) < (j : Int) := by omega
        have h2I : ¬ (j : Int) ≤ 12 := by omega
        go_wp2_with (go_at_call 11; refine (vou_awake _).mono ?_; rintro e w' ⟨rfl, hwa⟩)
        go_ret
        exact ⟨ret_bool (by simp; omega), by (repeat (first | assumption | exact Below.refl _ _ | refine ballc ?_ _ | refine bdrew ?_ | refine bdrewN ?_ _ | refine bset ?_ _ _ | refine bsetN ?_ (by omega) _ _ | refine bthen ?_ (by assumption)))⟩
end Go.Proofs.Ytnkdbjmfpebcgaa
