/-
  The library's merge of two parts, the second of one line.
-/
import Derived.Test.YtnalblnmplnhmaaGreatMerge3
set_option linter.unusedVariables false
set_option linter.unusedSimpArgs false
namespace Go.Proofs.YtnalblnmplnhmaaGreat
open Go.RowKit

theorem merge_last {α : Type} {key : α → Int} {X1 X2 : List α} {y : α} (hr : Rises key (X1 ++ X2)) (h1 : ∀ x, x ∈ X1 → key x ≤ key y) (h2 : ∀ x, x ∈ X2 → key y < key x) :
    Rises key (X1 ++ y :: X2) ∧ Stab key ((X1 ++ X2) ++ [y]) (X1 ++ y :: X2) := by
  have a := Rises.app.1 hr
  constructor
  · refine Rises.app.2 ⟨a.1, List.pairwise_cons.2 ⟨fun z hz => Int.le_of_lt (h2 z hz), a.2.1⟩, fun z hz u hu => ?_⟩
    rcases List.mem_cons.1 hu with rfl | hu
    · exact h1 z hz
    · exact a.2.2 z hz u hu
  · have s : Stab key (X2 ++ [y]) ([y] ++ X2) := Stab.swap fun z hz u hu => by simp at hu; subst hu; have := h2 z hz; omega
    have := (Stab.refl (key := key) X1).app s
    simpa using this

set_option maxRecDepth 100000 in
set_option maxHeartbeats 4000000 in
theorem merge_right (b off c cap a m e n : Nat) (pre X post : List Lin) (y : Lin) (w : World) (h : Lay2 w b off c (pre ++ (X ++ ([y] ++ post)))) (hN : (pre ++ (X ++ ([y] ++ post))).length = n) (hn : n ≤ cap) (hm : cap ≤ maxLen) (hnb : n ≤ 1000000)
    (ha : pre.length = a) (hX : a + X.length = m) (hY : m + 1 = e) (hx2 : X.length ≠ 1) (hrX : Rises Lin.a X) :
    Calls Tryz.prog 220 #[.slice (some ⟨b, off, none⟩) n cap, .int .i64 a, .int .i64 m, .int .i64 e, byAcc c] w (Merged b off c pre X [y] post w) := by
  have hen : e ≤ n := by rw [← hN]; simp; omega
  unfold maxLen at hm
  obtain ⟨k, hk⟩ : ∃ k, X.length = k := ⟨_, rfl⟩
  have e0 : IntKind.i64.wrap ((m : Int) - (a : Int)) = (k : Int) := (IntWalk.i64_in _ (by omega)).trans (by omega)
  have e00 : (m : Int) - (a : Int) = (k : Int) := by omega
  have hk1 : ¬ (k : Int) = 1 := by omega
  have hk1B : ((k : Int) == 1) = false := by rw [beq_eq_false_iff_ne]; exact hk1
  have e1 : IntKind.i64.wrap ((e : Int) - (m : Int)) = 1 := (IntWalk.i64_in _ (by omega)).trans (by omega)
  have e2 : (e : Int) - (m : Int) = 1 := by omega
  have hah := Lib.hid ha
  have hXh := Lib.hid hX
  have hYh := Lib.hid hY
  have hNh := Lib.hid hN
  clear ha hX hY hN hk hx2
  unfold byAcc
  go_enter Tryz.func220, Tryz.ntmps220
  go_wp2_with fail
  clear e1 e2 e0 e00 hk1 hk1B
  go_loopw [14, 15] (fun i j wr => ∃ (I J ki kj : Nat), i = .int .i64 (I : Int) ∧ j = .int .i64 (J : Int) ∧ Hid (a + ki = I) ∧ Hid (a + kj = J) ∧ I ≤ J ∧ J ≤ m ∧ (ki = 0 ∨ ∃ u, X[ki - 1]? = some u ∧ u.a ≤ y.a) ∧ (kj = X.length ∨ ∃ u, X[kj]? = some u ∧ y.a < u.a) ∧ Lay2 wr b off c (pre ++ (X ++ ([y] ++ post))) ∧ Keep b w wr) (fun i j _ => (intOf j - intOf i).toNat)
  case atStart => exact ⟨a, m, 0, X.length, rfl, rfl, by show _ = _; omega, hXh, by have := hXh.out; omega, by omega, .inl rfl, .inl rfl, h, Keep.refl _ _⟩
  case round =>
    obtain ⟨I, J, ki, kj, rfl, rfl, hI, hJ, hIJ, hJe, hA, hB, hL, hK⟩ := hrel
    have hmn : m < n := by have := hYh.out; omega
    by_cases hlt : I < J
    · have hltI : (I : Int) < (J : Int) := by omega
      obtain ⟨H, hH⟩ : ∃ H : Nat, ((I : Int) + (J : Int)) / 2 = (H : Int) := ⟨(I + J) / 2, by omega⟩
      have hHI : I ≤ H := by omega
      have hHJ : H < J := by omega
      obtain ⟨kh, hkh⟩ : ∃ kh, a + kh = H := ⟨H - a, by have := hI.out; omega⟩
      have hkX : kh < X.length := by have := hXh.out; omega
      obtain ⟨x, hx⟩ : ∃ x, X[kh]? = some x := ⟨X[kh], by simp [hkX]⟩
      have g1 : (pre ++ (X ++ ([y] ++ post)))[m]? = some y := by
        have h1 := hah.out
        have h2 := hXh.out
        rw [List.getElem?_append_right (by omega), show m - pre.length = X.length by omega, List.getElem?_append_right (by omega), Nat.sub_self]; rfl
      have g2 : (pre ++ (X ++ ([y] ++ post)))[H]? = some x := by
        have h1 := hah.out
        rw [List.getElem?_append_right (by omega), show H - pre.length = kh by omega, List.getElem?_append_left hkX, hx]
      obtain ⟨x0, x1⟩ := hL.cells.line g1
      obtain ⟨y0, y1⟩ := hL.cells.line g2
      have hHn : (H : Int) < (n : Int) := by omega
      have hH0 : (0 : Int) ≤ (H : Int) := by omega
      have hm0 : (0 : Int) ≤ (m : Int) := by omega
      have hmnI : (m : Int) < (n : Int) := by omega
      have c0 := hL.ccell
      have hclt := hL.clt
      have hxh := Lib.hid hx
      have hkhh := Lib.hid hkh
      clear g1 g2 hx hkh
      go_wp2_with fail
      go_region_held3 (fun w' => Lay2 w' b off c (pre ++ (X ++ ([y] ++ post))) ∧ Keep b w w' ∧ c < w'.heap.size ∧ w'.cell? ⟨c, 0, none⟩ = some (.func (.func 147) #[] #[]) ∧ w'.cell? ⟨b, off + m * 2, none⟩ = some (.int .i64 y.a) ∧ w'.cell? ⟨b, off + m * 2 + 1, none⟩ = some (.int .i64 y.n) ∧ w'.cell? ⟨b, off + H * 2, none⟩ = some (.int .i64 x.a) ∧ w'.cell? ⟨b, off + H * 2 + 1, none⟩ = some (.int .i64 x.n))
        (first
          | exact ⟨hL.drew, hK.drew, hclt, c0, x0, x1, y0, y1⟩
          | (go_split_ands; rename_i s1 s2 s3 s4 s5 s6 s7 s8; exact ⟨s1.below hw2, s2.then hw2 h.lt, Nat.lt_of_lt_of_le s3 hw2.size, (hw2.cell s3).trans s4, (hw2.cell s1.lt).trans s5, (hw2.cell s1.lt).trans s6, (hw2.cell s1.lt).trans s7, (hw2.cell s1.lt).trans s8⟩))
        ((first
          | (go_at_call 189; refine (by_cmp y x c _ (by assumption) (by assumption)).mono ?_; rintro e w2 ⟨rfl, hw2⟩)
          | (go_at_call 189; refine (by_cmp x y c _ (by assumption) (by assumption)).mono ?_; rintro e w2 ⟨rfl, hw2⟩)))
      have hS3 := ‹Lay2 _ b off c _ ∧ _›
      clear hL hK x0 x1 y0 y1 c0 hclt
      obtain ⟨s1, s2, s3, s4, s5, s6, s7, s8⟩ := hS3
      by_cases hcmp : y.a < x.a
      · have hdc : (!decide (cmpI y.a x.a < 0)) = false := by simp [cmpI_neg.2 hcmp]
        rw [hdc]
        clear hdc
        go_wp2_with fail
        case' roundEnd =>
          refine ⟨⟨I, H, ki, kh, rfl, rfl, hI, hkhh.out, by omega, by omega, hA, .inr ⟨x, hxh.out, hcmp⟩, s1, s2⟩, ?_⟩
          simp [intOf]
          omega
      · have hdc : (!decide (cmpI y.a x.a < 0)) = true := by simp [show ¬ cmpI y.a x.a < 0 from fun h => hcmp (cmpI_neg.1 h)]
        rw [hdc]
        clear hdc
        go_wp2_with fail
        case' roundEnd =>
          refine ⟨⟨H + 1, J, kh + 1, kj, by go_num, rfl, by show _ = _; have := hkhh.out; omega, hJ, by omega, hJe, .inr ⟨x, hxh.out, by omega⟩, hB, s1, s2⟩, ?_⟩
          simp [intOf]
          omega
    · have eIJ : I = J := by omega
      subst eIJ
      have hge : ¬ (I : Int) < (I : Int) := by omega
      have ekk : ki = kj := by have := hI.out; have := hJ.out; omega
      subst ekk
      have hkl : ki ≤ X.length := by have := hI.out; have := hXh.out; omega
      have hL0 : Lay2 wr b off c (shiftL pre y X post X.length) := by simpa [shiftL] using hL
      clear hL
      go_wp2_with fail
      go_loopw [17] (fun k wx => ∃ (K kk : Nat), k = .int .i64 (K : Int) ∧ Hid (a + kk = K) ∧ ki ≤ kk ∧ kk ≤ X.length ∧ Lay2 wx b off c (shiftL pre y X post kk) ∧ Keep b w wx) (fun k _ => ((intOf k).toNat - I))
      case atStart => exact ⟨m, X.length, rfl, hXh, by omega, by omega, hL0, hK⟩
      case round =>
        obtain ⟨K, kk, rfl, hKk, hkk, hkx, hL, hK⟩ := hrel
        by_cases hlt2 : I < K
        · have hltI2 : (I : Int) < (K : Int) := by omega
          obtain ⟨q, rfl⟩ : ∃ q, kk = q + 1 := ⟨kk - 1, by have := hKk.out; have := hI.out; omega⟩
          have hqX : q < X.length := by omega
          obtain ⟨x, hx⟩ : ∃ x, X[q]? = some x := ⟨X[q], by simp [hqX]⟩
          obtain ⟨P, hP⟩ : ∃ P, a + q = P := ⟨_, rfl⟩
          have hPK : P + 1 = K := by have := hKk.out; omega
          obtain ⟨f1, f2⟩ := shiftL_step (pre := pre) (x := y) (post := post) hx
          have l1 : (pre ++ X.take q).length = P := by rw [List.length_append, List.length_take, hah.out]; omega
          rw [f2] at hL
          have hcx := hL.cells.line (get_near (B := []) (x := x) (y := y) l1)
          have hcy := hL.cells.line (get_far (B := []) (x := x) (y := y) l1 (j := K) hPK)
          have hlen : ((pre ++ X.take q) ++ x :: y :: (X.drop (q + 1) ++ post)).length = n := by
            rw [← f2, ← hNh.out]; simp [shiftL]; omega
          have hKm : K ≤ m := by have := hKk.out; have := hXh.out; omega
          have t1 := (hL.set (i := K) (by rw [hlen]; omega) x).set (i := P) (by rw [List.length_set, hlen]; omega) y
          have t0 := swap_far (B := []) (C := X.drop (q + 1) ++ post) (x := x) (y := y) l1 (j := K) hPK
          simp only [List.nil_append] at t0
          rw [List.set_comm _ _ (by omega), t0, ← f1] at t1
          have t2 := (hK.set2 (off + K * 2) x).set2 (off + P * 2) y
          have hf1 := hL.fz (off + P * 2)
          have hf2 := hL.fz (off + P * 2 + 1)
          have hf3 := hL.fz (off + K * 2)
          have hf4 := hL.fz (off + K * 2 + 1)
          obtain ⟨x0, x1⟩ := hcx
          obtain ⟨y0, y1⟩ := hcy
          have q1 : IntKind.i64.wrap ((K : Int) - 1) = (P : Int) := (IntWalk.i64_in _ (by omega)).trans (by omega)
          have q0 : (K : Int) - 1 = (P : Int) := by omega
          have q2 : (0 : Int) ≤ (P : Int) := by omega
          have q3 : (P : Int) < (n : Int) := by omega
          have q4 : (0 : Int) ≤ (K : Int) := by omega
          have q5 : (K : Int) < (n : Int) := by omega
          have t1h := Lib.hid t1
          have hne1 : off + K * 2 ≠ off + P * 2 := by omega
          have hPh := Lib.hid hP
          have hPKh := Lib.hid hPK
          clear hL hlen f1 f2 hx t1 t0 l1 hP hPK
          go_wp2_with fail
          go_region
          all_goals
            go_wp2_with fail
            refine ⟨⟨P, q, rfl, hPh, by have := hPh.out; have := hPKh.out; have := hI.out; omega, by omega, ?_, ?_⟩, ?_⟩
            · have t := t1h.out.drew; unfold set2 at t; exact t
            · have t := t2.drew; unfold set2 at t; exact t
            · have := hPKh.out
              simp [intOf]; omega
        · have hge2 : ¬ (I : Int) < (K : Int) := by omega
          have ek : kk = ki := by have := hKk.out; have := hI.out; omega
          subst ek
          have hXs : X = X.take kk ++ X.drop kk := (List.take_append_drop kk X).symm
          have h1 : ∀ z, z ∈ X.take kk → z.a ≤ y.a := by
            rcases hA with h0 | ⟨u, hu, hux⟩
            · rw [h0]; intro z hz; simp at hz
            · intro z hz
              rcases Nat.eq_zero_or_pos kk with h0 | h0
              · rw [h0] at hz; simp at hz
              · have := rise_before hrX hu z (by rw [show kk - 1 + 1 = kk by omega]; exact hz)
                omega
          have h2 : ∀ z, z ∈ X.drop kk → y.a < z.a := by
            rcases hB with h0 | ⟨u, hu, hux⟩
            · rw [h0]; intro z hz; simp at hz
            · intro z hz
              have := rise_behind hrX hu z hz
              omega
          obtain ⟨r1, r2⟩ := merge_last (key := Lin.a) (y := y) (by rw [← hXs]; exact hrX) h1 h2
          rw [← hXs] at r2
          have r1h := Lib.hid r1
          have r2h := Lib.hid r2
          clear hXs h1 h2 r1 r2
          go_wp2_with fail
          exact bodyPost_end (v := .tuple #[]) (by simp [results, Tryz.results220, go_sem]) rfl ⟨rfl, X.take kk ++ y :: X.drop kk, by simp; omega, r1h.out, r2h.out, by simpa [shiftL] using hL, hK⟩
end Go.Proofs.YtnalblnmplnhmaaGreat
