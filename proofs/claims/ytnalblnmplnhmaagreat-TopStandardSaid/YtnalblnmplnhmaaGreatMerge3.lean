/-
  The library's merge of two parts, at lines.
-/
import Derived.Test.YtnalblnmplnhmaaGreatMerge2
import Derived.Test.YtnalblnmplnhmaaGreatSortR
set_option linter.unusedVariables false
set_option linter.unusedSimpArgs false
namespace Go.Proofs.YtnalblnmplnhmaaGreat
open Go.RowKit

/-- What a merge leaves. -/
def Merged (b off c : Nat) (pre X Y post : List Lin) (w : World) (r : Ending) (w' : World) : Prop :=
  r = .returned (.tuple #[]) ∧ ∃ Z : List Lin, Z.length = X.length + Y.length ∧ Rises Lin.a Z ∧ Stab Lin.a (X ++ Y) Z ∧ Lay2 w' b off c (pre ++ (Z ++ post)) ∧ Keep b w w'

set_option maxRecDepth 100000 in
set_option maxHeartbeats 4000000 in
theorem merge_left (b off c cap a m e n : Nat) (pre Y post : List Lin) (x : Lin) (w : World) (h : Lay2 w b off c (pre ++ ([x] ++ (Y ++ post)))) (hN : (pre ++ ([x] ++ (Y ++ post))).length = n) (hn : n ≤ cap) (hm : cap ≤ maxLen) (hnb : n ≤ 1000000)
    (ha : pre.length = a) (hX : a + 1 = m) (hY : m + Y.length = e) (hrY : Rises Lin.a Y) :
    Calls Tryz.prog 220 #[.slice (some ⟨b, off, none⟩) n cap, .int .i64 a, .int .i64 m, .int .i64 e, byAcc c] w (Merged b off c pre [x] Y post w) := by
  have hen : e ≤ n := by rw [← hN]; simp; omega
  unfold maxLen at hm
  have e1 : IntKind.i64.wrap ((m : Int) - (a : Int)) = 1 := (IntWalk.i64_in _ (by omega)).trans (by omega)
  have e2 : (m : Int) - (a : Int) = 1 := by omega
  have hah := Lib.hid ha
  have hXh := Lib.hid hX
  have hYh := Lib.hid hY
  have hNh := Lib.hid hN
  clear ha hX hY hN
  unfold byAcc
  go_enter Tryz.func220, Tryz.ntmps220
  go_wp2_with fail
  clear e1 e2
  go_loopw [10, 11] (fun i j wr => ∃ (I J ki kj : Nat), i = .int .i64 (I : Int) ∧ j = .int .i64 (J : Int) ∧ Hid (m + ki = I) ∧ Hid (m + kj = J) ∧ I ≤ J ∧ J ≤ e ∧ (ki = 0 ∨ ∃ u, Y[ki - 1]? = some u ∧ u.a < x.a) ∧ (kj = Y.length ∨ ∃ u, Y[kj]? = some u ∧ x.a ≤ u.a) ∧ Lay2 wr b off c (pre ++ ([x] ++ (Y ++ post))) ∧ Keep b w wr) (fun i j _ => (intOf j - intOf i).toNat)
  case atStart => exact ⟨m, e, 0, Y.length, rfl, rfl, by show _ = _; omega, hYh.out, by have := hYh.out; omega, by omega, .inl rfl, .inl rfl, h, Keep.refl _ _⟩
  case round =>
    obtain ⟨I, J, ki, kj, rfl, rfl, hI, hJ, hIJ, hJe, hA, hB, hL, hK⟩ := hrel
    by_cases hlt : I < J
    · have hltI : (I : Int) < (J : Int) := by omega
      obtain ⟨H, hH⟩ : ∃ H : Nat, ((I : Int) + (J : Int)) / 2 = (H : Int) := ⟨(I + J) / 2, by omega⟩
      have hHI : I ≤ H := by omega
      have hHJ : H < J := by omega
      obtain ⟨kh, hkh⟩ : ∃ kh, m + kh = H := ⟨H - m, by have := hI.out; omega⟩
      have hkY : kh < Y.length := by have := hYh.out; omega
      obtain ⟨y, hy⟩ : ∃ y, Y[kh]? = some y := ⟨Y[kh], by simp [hkY]⟩
      have g1 : (pre ++ ([x] ++ (Y ++ post)))[a]? = some x := by
        rw [List.getElem?_append_right (by rw [hah.out]; omega), hah.out, Nat.sub_self]; rfl
      have g2 : (pre ++ ([x] ++ (Y ++ post)))[H]? = some y := by
        have h1 := hah.out
        have h2 := hXh.out
        rw [List.getElem?_append_right (by omega), show H - pre.length = kh + 1 by omega]
        simp [List.getElem?_append_left hkY, hy]
      obtain ⟨x0, x1⟩ := hL.cells.line g1
      obtain ⟨y0, y1⟩ := hL.cells.line g2
      have hHn : (H : Int) < (n : Int) := by omega
      have hH0 : (0 : Int) ≤ (H : Int) := by omega
      have ha0 : (0 : Int) ≤ (a : Int) := by omega
      have han : (a : Int) < (n : Int) := by have := hXh.out; omega
      have c0 := hL.ccell
      have hclt := hL.clt
      have hyh := Lib.hid hy
      have hkhh := Lib.hid hkh
      clear g1 g2 hy hkh
      go_wp2_with fail
      go_region_held3 (fun w' => Lay2 w' b off c (pre ++ ([x] ++ (Y ++ post))) ∧ Keep b w w' ∧ c < w'.heap.size ∧ w'.cell? ⟨c, 0, none⟩ = some (.func (.func 147) #[] #[]) ∧ w'.cell? ⟨b, off + H * 2, none⟩ = some (.int .i64 y.a) ∧ w'.cell? ⟨b, off + H * 2 + 1, none⟩ = some (.int .i64 y.n) ∧ w'.cell? ⟨b, off + a * 2, none⟩ = some (.int .i64 x.a) ∧ w'.cell? ⟨b, off + a * 2 + 1, none⟩ = some (.int .i64 x.n))
        (first
          | exact ⟨hL.drew, hK.drew, hclt, c0, y0, y1, x0, x1⟩
          | (go_split_ands; rename_i s1 s2 s3 s4 s5 s6 s7 s8; exact ⟨s1.below hw2, s2.then hw2 h.lt, Nat.lt_of_lt_of_le s3 hw2.size, (hw2.cell s3).trans s4, (hw2.cell s1.lt).trans s5, (hw2.cell s1.lt).trans s6, (hw2.cell s1.lt).trans s7, (hw2.cell s1.lt).trans s8⟩))
        ((first
          | (go_at_call 189; refine (by_cmp y x c _ (by assumption) (by assumption)).mono ?_; rintro e w2 ⟨rfl, hw2⟩)))
      have hS3 := ‹Lay2 _ b off c _ ∧ _›
      clear hL hK x0 x1 y0 y1 c0 hclt
      obtain ⟨s1, s2, s3, s4, s5, s6, s7, s8⟩ := hS3
      by_cases hcmp : y.a < x.a
      · have hdc : cmpI y.a x.a < 0 := cmpI_neg.2 hcmp
        go_wp2_with fail
        case' roundEnd =>
          refine ⟨⟨H + 1, J, kh + 1, kj, by go_num, rfl, by show _ = _; have := hkhh.out; omega, hJ, by omega, hJe, .inr ⟨y, hyh.out, hcmp⟩, hB, s1, s2⟩, ?_⟩
          simp [intOf]
          omega
      · have hdc : ¬ cmpI y.a x.a < 0 := fun h => hcmp (cmpI_neg.1 h)
        go_wp2_with fail
        case' roundEnd =>
          refine ⟨⟨I, H, ki, kh, rfl, rfl, hI, hkhh.out, by omega, by omega, hA, .inr ⟨y, hyh.out, by omega⟩, s1, s2⟩, ?_⟩
          simp [intOf]
          omega
    · have eIJ : I = J := by omega
      subst eIJ
      have hge : ¬ (I : Int) < (I : Int) := by omega
      have ekk : ki = kj := by have := hI.out; have := hJ.out; omega
      subst ekk
      have hkl : ki ≤ Y.length := by have := hI.out; have := hYh.out; omega
      obtain ⟨T, hT⟩ : ∃ T, a + ki = T := ⟨_, rfl⟩
      have e3 : IntKind.i64.wrap ((I : Int) - 1) = (T : Int) := (IntWalk.i64_in _ (by have := hXh.out; omega)).trans (by have := hI.out; have := hXh.out; omega)
      have e4 : (I : Int) - 1 = (T : Int) := by have := hI.out; have := hXh.out; omega
      have hTh := Lib.hid hT
      have hTn : T < n := by have := hI.out; have := hXh.out; omega
      have hL0 : Lay2 wr b off c (shiftL pre x Y post 0) := by simpa [shiftL] using hL
      clear hT hL
      go_wp2_with fail
      go_loopw [13] (fun k wx => ∃ (K kk : Nat), k = .int .i64 (K : Int) ∧ Hid (a + kk = K) ∧ kk ≤ ki ∧ Lay2 wx b off c (shiftL pre x Y post kk) ∧ Keep b w wx) (fun k _ => (T - (intOf k).toNat))
      case atStart => exact ⟨a, 0, rfl, rfl, by omega, hL0, hK⟩
      case round =>
        obtain ⟨K, kk, rfl, hKk, hkk, hL, hK⟩ := hrel
        by_cases hlt2 : K < T
        · have hltI2 : (K : Int) < (T : Int) := by omega
          have hkY : kk < Y.length := by have := hKk.out; have := hTh.out; omega
          obtain ⟨y, hy⟩ : ∃ y, Y[kk]? = some y := ⟨Y[kk], by simp [hkY]⟩
          obtain ⟨f1, f2⟩ := shiftL_step (pre := pre) (x := x) (post := post) hy
          have l1 : (pre ++ Y.take kk).length = K := by rw [List.length_append, List.length_take, hah.out]; have := hKk.out; omega
          rw [f1] at hL
          have hcx := hL.cells.line (get_near (B := []) (x := x) (y := y) l1)
          have hcy := hL.cells.line (get_far (B := []) (x := x) (y := y) l1 (j := K + 1) rfl)
          have hlen : ((pre ++ Y.take kk) ++ x :: y :: (Y.drop (kk + 1) ++ post)).length = n := by
            rw [← f1, ← hNh.out]; simp [shiftL]; omega
          have t1 := (hL.set (i := K) (by rw [hlen]; omega) y).set (i := K + 1) (by rw [List.length_set, hlen]; omega) x
          have t0 := swap_far (B := []) (C := Y.drop (kk + 1) ++ post) (x := x) (y := y) l1 (j := K + 1) rfl
          simp only [List.nil_append] at t0
          rw [t0, ← f2] at t1
          have t2 := (hK.set2 (off + K * 2) y).set2 (off + (K + 1) * 2) x
          have hf1 := hL.fz (off + K * 2)
          have hf2 := hL.fz (off + K * 2 + 1)
          have hf3 := hL.fz (off + (K + 1) * 2)
          have hf4 := hL.fz (off + (K + 1) * 2 + 1)
          obtain ⟨x0, x1⟩ := hcx
          obtain ⟨y0, y1⟩ := hcy
          have q1 : IntKind.i64.wrap ((K : Int) + 1) = (K : Int) + 1 := IntWalk.i64_in _ (by omega)
          have q2 : (0 : Int) ≤ (K : Int) + 1 := by omega
          have q3 : (K : Int) + 1 < (n : Int) := by omega
          have q4 : ((K : Int) + 1).toNat = K + 1 := by omega
          have q5 : (K : Int) < (n : Int) := by omega
          have t1h := Lib.hid t1
          clear hL hlen f1 f2 hy t1 t0 l1
          go_wp2_with fail
          go_region
          all_goals
            go_wp2_with fail
            refine ⟨⟨K + 1, kk + 1, by go_num, by show _ = _; have := hKk.out; omega, by have := hKk.out; have := hTh.out; omega, ?_, ?_⟩, ?_⟩
            · have t := t1h.out.drew; unfold set2 at t; exact t
            · have t := t2.drew; unfold set2 at t; exact t
            · simp [intOf]; omega
        · have hge2 : ¬ (K : Int) < (T : Int) := by omega
          have ek : kk = ki := by have := hKk.out; have := hTh.out; omega
          subst ek
          have hYs : Y = Y.take kk ++ Y.drop kk := (List.take_append_drop kk Y).symm
          have h1 : ∀ z, z ∈ Y.take kk → z.a < x.a := by
            rcases hA with h0 | ⟨u, hu, hux⟩
            · rw [h0]; intro z hz; simp at hz
            · intro z hz
              rcases Nat.eq_zero_or_pos kk with h0 | h0
              · rw [h0] at hz; simp at hz
              · have := rise_before hrY hu z (by rw [show kk - 1 + 1 = kk by omega]; exact hz)
                omega
          have h2 : ∀ z, z ∈ Y.drop kk → x.a ≤ z.a := by
            rcases hB with h0 | ⟨u, hu, hux⟩
            · rw [h0]; intro z hz; simp at hz
            · intro z hz
              have := rise_behind hrY hu z hz
              omega
          obtain ⟨r1, r2⟩ := merge_one (key := Lin.a) (x := x) (by rw [← hYs]; exact hrY) h1 h2
          rw [← hYs] at r2
          have r1h := Lib.hid r1
          have r2h := Lib.hid r2
          clear hYs h1 h2 r1 r2
          go_wp2_with fail
          exact bodyPost_end (v := .tuple #[]) (by simp [results, Tryz.results220, go_sem]) rfl ⟨rfl, Y.take kk ++ x :: Y.drop kk, by simp; omega, r1h.out, r2h.out, by simpa [shiftL] using hL, hK⟩
end Go.Proofs.YtnalblnmplnhmaaGreat
