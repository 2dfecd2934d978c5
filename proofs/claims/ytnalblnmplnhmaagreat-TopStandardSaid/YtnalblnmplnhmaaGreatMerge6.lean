/-
  The library's stable sort of lines by account, every length.
-/
import Derived.Test.YtnalblnmplnhmaaGreatMerge5
import Derived.Test.YtnalblnmplnhmaaGreatSortS
set_option linter.unusedVariables false
set_option linter.unusedSimpArgs false
namespace Go.Proofs.YtnalblnmplnhmaaGreat
open Go.RowKit

/-- What a sort leaves. -/
def Sorted2 (b off c : Nat) (l : List Lin) (w : World) (r : Ending) (w' : World) : Prop :=
  r = .returned (.tuple #[]) ∧ ∃ m : List Lin, m.length = l.length ∧ Rises Lin.a m ∧ Stab Lin.a l m ∧ Lay2 w' b off c m ∧ Keep b w w'

set_option maxRecDepth 20000 in
set_option maxHeartbeats 2000000 in
theorem stable_all (b off c cap : Nat) (l : List Lin) (w : World) (h : Lay2 w b off c l) (hn : l.length ≤ cap) (hm : cap ≤ maxLen) (hnb : l.length ≤ 1000000) :
    Calls Tryz.prog 209 #[.slice (some ⟨b, off, none⟩) l.length cap, .int .i64 l.length, byAcc c] w (Sorted2 b off c l w) := by
  obtain ⟨n, hN⟩ : ∃ n, l.length = n := ⟨_, rfl⟩
  rw [hN] at hn hnb ⊢
  have hNh := Lib.hid hN
  clear hN
  have hins := fun (a e : Nat) (pre seg post : List Lin) (W : World) h hN ha he => ins_sort b off c cap a e pre seg post W h n hN hn hm hnb ha he
  have hmer := fun (pre X Y post : List Lin) (a m e : Nat) (W : World) => sym_merge b off c cap n hn hm hnb (X.length + Y.length) pre X Y post a m e W (Nat.le_refl _)
  unfold byAcc at hins hmer ⊢
  have hinsh := Lib.hid hins
  have hmerh := Lib.hid hmer
  clear hins hmer
  go_enter Tryz.func209, Tryz.ntmps209
  go_wp2_with fail
  go_loopw [7, 8] (fun i j wr => ∃ (A E q : Nat) (P T : List Lin), i = .int .i64 (A : Int) ∧ j = .int .i64 (E : Int) ∧ A + 20 = E ∧ A ≤ n ∧ Hid (A = q * 20) ∧ Hid (P.length = A) ∧ Hid ((P ++ T).length = n) ∧ Hid (Blk Lin.a 20 P) ∧ Hid (Stab Lin.a l (P ++ T)) ∧ Lay2 wr b off c (P ++ T) ∧ Keep b w wr) (fun i _ _ => n - (intOf i).toNat)
  case atStart => exact ⟨0, 20, 0, [], l, rfl, rfl, rfl, by omega, rfl, rfl, hNh, Blk.nil, Stab.refl _, h, Keep.refl _ _⟩
  case round =>
    obtain ⟨A, E, q, P, T, rfl, rfl, hE, hAn, hq, hP, hPT, hB, hS, hL, hK⟩ := hrel
    have hlT : P.length + T.length = n := by have := hPT.out; rwa [List.length_append] at this
    by_cases hle : E ≤ n
    · have hleI : (E : Int) ≤ (n : Int) := by omega
      have hTs : T = T.take 20 ++ T.drop 20 := (List.take_append_drop 20 T).symm
      have s1 := hinsh.out A E P (T.take 20) (T.drop 20) wr (by rw [List.append_assoc, ← hTs]; exact hL) (by rw [List.append_assoc, ← hTs]; exact hPT.out) hP.out (by have := hP.out; rw [List.length_take]; omega)
      have hTl : (T.take 20).length = 20 := by have := hP.out; rw [List.length_take]; omega
      have hTsh := Lib.hid hTs
      have hTlh := Lib.hid hTl
      have hlTh := Lib.hid hlT
      clear hTs hTl hlT
      go_wp2_with fail
      refine s1.mono ?_
      rintro r w1 ⟨rfl, m, hm1, hm2, hm3, hL1, hK1⟩
      rw [hTlh.out] at hm1
      have fin : Hid (E = (q + 1) * 20) ∧ Hid ((P ++ m).length = E) ∧ Hid (((P ++ m) ++ T.drop 20).length = n) ∧ Hid (Blk Lin.a 20 (P ++ m)) ∧ Hid (Stab Lin.a l ((P ++ m) ++ T.drop 20)) := by
        have h1 := hq.out
        have h2 := hP.out
        have h3 := hlTh.out
        refine ⟨by show _ = _; omega, by show _ = _; rw [List.length_append]; omega, by show _ = _; rw [List.length_append, List.length_append, List.length_drop]; omega, hB.out.snoc (hP.out.trans h1) hm2, ?_⟩
        have t := (Stab.refl (key := Lin.a) P).app (hm3.app (Stab.refl (key := Lin.a) (T.drop 20)))
        rw [← hTsh.out] at t
        rw [List.append_assoc]
        exact hS.out.trans t
      have finh := Lib.hid fin
      clear fin hm1 hm2 hm3
      go_wp2_with fail
      case' roundEnd =>
        obtain ⟨f1, f2, f3, f4, f5⟩ := finh.out
        refine ⟨⟨E, E + 20, q + 1, P ++ m, T.drop 20, rfl, by go_num, rfl, hle, f1, f2, f3, f4, f5, hL1, hK.trans hK1⟩, ?_⟩
        simp [intOf]
        omega
    · have hleI : ¬ (E : Int) ≤ (n : Int) := by omega
      have s1 := hinsh.out A n P T [] wr (by simpa using hL) (by simpa using hPT.out) hP.out (by have := hP.out; omega)
      have hlTh := Lib.hid hlT
      clear hlT
      go_wp2_with fail
      refine s1.mono ?_
      rintro r w1 ⟨rfl, m, hm1, hm2, hm3, hL1, hK1⟩
      have hL1' : Lay2 w1 b off c (P ++ m) := by simpa using hL1
      have g1 : Hid (Blk Lin.a 20 (P ++ m)) := hB.out.snoc (hP.out.trans hq.out) hm2
      have g2 : Hid (Stab Lin.a l (P ++ m)) := hS.out.trans ((Stab.refl (key := Lin.a) P).app hm3)
      have g3 : Hid ((P ++ m).length = n) := by show _ = _; rw [List.length_append, hm1]; exact hlTh.out
      have hK2 := hK.trans hK1
      clear hm1 hm2 hm3 hL1 hK hK1 hL
      go_wp2_with fail
      go_loopw [6] (fun s wr => ∃ (B : Nat) (L : List Lin), s = .int .i64 (B : Int) ∧ 20 ≤ B ∧ Hid (L.length = n) ∧ Hid (Blk Lin.a B L) ∧ Hid (Stab Lin.a l L) ∧ Lay2 wr b off c L ∧ Keep b w wr) (fun s _ => n - (intOf s).toNat)
      case atStart => exact ⟨20, P ++ m, rfl, Nat.le_refl _, g3, g1, g2, hL1', hK2⟩
      case round =>
        obtain ⟨B, L, rfl, hB20, hLn, hBL, hSL, hL, hK⟩ := hrel
        clear g1 g2 g3 hK2 hL1' hB hS hPT hP hq hleI hle
        by_cases hlt : B < n
        · have hltI : (B : Int) < (n : Int) := by omega
          obtain ⟨B2, hB2⟩ : ∃ B2, 2 * B = B2 := ⟨_, rfl⟩
          have x1 : IntKind.i64.wrap (2 * (B : Int)) = (B2 : Int) := (IntWalk.i64_in _ (by omega)).trans (by omega)
          have x2 : 2 * (B : Int) = (B2 : Int) := by omega
          have x3 : IntKind.i64.wrap ((B : Int) * 2) = (B2 : Int) := (IntWalk.i64_in _ (by omega)).trans (by omega)
          have x4 : (B : Int) * 2 = (B2 : Int) := by omega
          have hB2n : B2 ≤ 2000000 := by omega
          have hB2h := Lib.hid hB2
          clear hB2
          go_wp2_with fail
          go_loopw [7, 8] (fun i j wr => ∃ (A E q : Nat) (Q R : List Lin), i = .int .i64 (A : Int) ∧ j = .int .i64 (E : Int) ∧ A + B2 = E ∧ A ≤ n ∧ Hid (A = q * B2) ∧ Hid (Q.length = A) ∧ Hid ((Q ++ R).length = n) ∧ Hid (Blk Lin.a B2 Q) ∧ Hid (Blk Lin.a B R) ∧ Hid (Stab Lin.a l (Q ++ R)) ∧ Lay2 wr b off c (Q ++ R) ∧ Keep b w wr) (fun i _ _ => n - (intOf i).toNat)
          case atStart => exact ⟨0, B2, 0, [], L, rfl, rfl, by omega, by omega, by show _ = _; omega, rfl, hLn, Blk.nil, hBL, hSL, hL, hK⟩
          case round =>
            obtain ⟨A, E, q, Q, R, rfl, rfl, hE, hAn, hq, hQ, hQR, hBQ, hBR, hS, hL, hK⟩ := hrel
            have hlR : Q.length + R.length = n := by have := hQR.out; rwa [List.length_append] at this
            obtain ⟨M, hM⟩ : ∃ M, A + B = M := ⟨_, rfl⟩
            have y1 : IntKind.i64.wrap ((A : Int) + (B : Int)) = (M : Int) := (IntWalk.i64_in _ (by omega)).trans (by omega)
            have y2 : (A : Int) + (B : Int) = (M : Int) := by omega
            have hMb : M ≤ 2000000 := by omega
            have hMh := Lib.hid hM
            by_cases hle : E ≤ n
            · have hleI : (E : Int) ≤ (n : Int) := by omega
              have hb2 := hB2h.out
              have hq1 := hQ.out
              have hRs : R = R.take B ++ ((R.drop B).take B ++ (R.drop B).drop B) := by rw [List.take_append_drop, List.take_append_drop]
              have l1 : (R.take B).length = B := by rw [List.length_take]; omega
              have l2 : ((R.drop B).take B).length = B := by rw [List.length_take, List.length_drop]; omega
              have l3 : ((R.drop B).drop B).length = n - E := by rw [List.length_drop, List.length_drop]; omega
              have s1 := hmerh.out Q (R.take B) ((R.drop B).take B) ((R.drop B).drop B) A M E wr (by rw [← hRs]; exact hL) (by rw [← hRs]; exact hQR.out) hQ.out (by rw [l1]; exact hM) (by rw [l2]; omega) (by omega) (by omega) hBR.out.head hBR.out.tail.head
              have hBR2 := Lib.hid hBR.out.tail.tail
              have hRsh := Lib.hid hRs
              have l1h := Lib.hid l1
              have l2h := Lib.hid l2
              have l3h := Lib.hid l3
              have hq1h := Lib.hid hq1
              clear hRs l1 l2 l3 hb2 hq1 hM hlR
              go_wp2_with fail
              refine s1.mono ?_
              rintro r w1 ⟨rfl, Z, hZ1, hZ2, hZ3, hL1, hK1⟩
              have fin : Hid (E = (q + 1) * B2) ∧ Hid ((Q ++ Z).length = E) ∧ Hid (((Q ++ Z) ++ (R.drop B).drop B).length = n) ∧ Hid (Blk Lin.a B2 (Q ++ Z)) ∧ Hid (Stab Lin.a l ((Q ++ Z) ++ (R.drop B).drop B)) := by
                have h1 := hq.out
                have h2 := hQ.out
                have h3 := l3h.out
                have h4 := hB2h.out
                rw [l1h.out, l2h.out] at hZ1
                have hlen : (Q ++ Z).length = E := by rw [List.length_append]; omega
                refine ⟨by show _ = _; rw [Nat.succ_mul]; omega, hlen, by show _ = _; rw [List.length_append, hlen, h3]; omega, hBQ.out.snoc (hQ.out.trans h1) hZ2, ?_⟩
                have t := (Stab.refl (key := Lin.a) Q).app (hZ3.app (Stab.refl (key := Lin.a) ((R.drop B).drop B)))
                rw [List.append_assoc (R.take B), ← hRsh.out] at t
                rw [List.append_assoc]
                exact hS.out.trans t
              have finh := Lib.hid fin
              have hL2 : Lay2 w1 b off c ((Q ++ Z) ++ (R.drop B).drop B) := by rw [List.append_assoc]; exact hL1
              clear fin hZ1 hZ2 hZ3
              go_wp2_with fail
              case' roundEnd =>
                obtain ⟨f1, f2, f3, f4, f5⟩ := finh.out
                refine ⟨⟨E, E + B2, q + 1, Q ++ Z, (R.drop B).drop B, rfl, by go_num, rfl, hle, f1, f2, f3, f4, hBR2, f5, hL2, hK.trans hK1⟩, ?_⟩
                simp [intOf]
                omega
            · have hleI : ¬ (E : Int) ≤ (n : Int) := by omega
              have hlRh := Lib.hid hlR
              have endr : ∀ (R2 : List Lin) (W : World), Rises Lin.a R2 → Stab Lin.a R R2 → R2.length = R.length → Lay2 W b off c (Q ++ R2) → Keep b w W → ∃ (B' : Nat) (L' : List Lin), Value.int .i64 (B2 : Int) = .int .i64 (B' : Int) ∧ 20 ≤ B' ∧ Hid (L'.length = n) ∧ Hid (Blk Lin.a B' L') ∧ Hid (Stab Lin.a l L') ∧ Lay2 W b off c L' ∧ Keep b w W := by
                intro R2 W t1 t2 t3 t4 t5
                exact ⟨B2, Q ++ R2, rfl, by have := hB2h.out; omega, by show _ = _; rw [List.length_append, t3]; exact hlRh.out, hBQ.out.snoc (hQ.out.trans hq.out) t1, hS.out.trans ((Stab.refl (key := Lin.a) Q).app t2), t4, t5⟩
              have endh := Lib.hid endr
              clear endr
              by_cases hMn : M < n
              · have hMnI : (M : Int) < (n : Int) := by omega
                have hb2 := hB2h.out
                have hq1 := hQ.out
                have hRs : R = R.take B ++ (R.drop B ++ []) := by rw [List.append_nil, List.take_append_drop]
                have l1 : (R.take B).length = B := by rw [List.length_take]; omega
                have l2 : M + (R.drop B).length = n := by rw [List.length_drop]; omega
                have s1 := hmerh.out Q (R.take B) (R.drop B) [] A M n wr (by rw [← hRs]; exact hL) (by rw [← hRs]; exact hQR.out) hQ.out (by rw [l1]; exact hM) l2 (by omega) (by omega) hBR.out.head (hBR.out.tail.whole (by omega))
                have l1h := Lib.hid l1
                have l2h := Lib.hid l2
                clear hRs l1 l2 hb2 hq1 hM hlR
                go_wp2_with fail
                refine s1.mono ?_
                rintro r w1 ⟨rfl, Z, hZ1, hZ2, hZ3, hL1, hK1⟩
                have f := endh.out Z w1 hZ2 (by rwa [List.take_append_drop] at hZ3) (by rw [hZ1, ← List.length_append, List.take_append_drop]) (by simpa using hL1) (hK.trans hK1)
                have fh := Lib.hid f
                clear f hZ1 hZ2 hZ3
                go_wp2_with fail
                case' roundEnd =>
                  refine ⟨fh.out, ?_⟩
                  have := hB2h.out
                  simp [intOf]
                  omega
              · have hMnI : ¬ (M : Int) < (n : Int) := by omega
                have f := endh.out R wr (hBR.out.whole (by have := hQ.out; omega)) (Stab.refl _) rfl hL hK
                have fh := Lib.hid f
                clear f hlR hM
                go_wp2_with fail
                case' roundEnd =>
                  refine ⟨fh.out, ?_⟩
                  have := hB2h.out
                  simp [intOf]
                  omega
        · have hltI : ¬ (B : Int) < (n : Int) := by omega
          have hLr := hBL.out.whole (by rw [hLn.out]; omega)
          have hLrh := Lib.hid hLr
          clear hLr
          go_wp2_with fail
          exact bodyPost_end (v := .tuple #[]) (by simp [results, Tryz.results209, go_sem]) rfl ⟨rfl, L, hLn.out.trans hNh.out.symm, hLrh.out, hSL.out, hL, hK⟩
end Go.Proofs.YtnalblnmplnhmaaGreat
