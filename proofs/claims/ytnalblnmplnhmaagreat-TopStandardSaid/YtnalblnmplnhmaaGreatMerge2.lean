/-
  The library's rotation, at lines.
-/
import Derived.Test.YtnalblnmplnhmaaGreatMerge1
set_option linter.unusedVariables false
set_option linter.unusedSimpArgs false
namespace Go.Proofs.YtnalblnmplnhmaaGreat
open Go.RowKit

/-- In the midst of a rotation. -/
structure Rot (m : Nat) (fin P X Y Q : List Lin) : Prop where
  at_ : P.length + X.length = m
  fin_ : P ++ (Y ++ (X ++ Q)) = fin
  x0 : 1 ≤ X.length
  y0 : 1 ≤ Y.length

set_option maxRecDepth 20000 in
set_option maxHeartbeats 2000000 in
theorem rotate_lines (b off c cap a m e n : Nat) (pre X0 Y0 post : List Lin) (w : World) (h : Lay2 w b off c (pre ++ (X0 ++ (Y0 ++ post)))) (F : Value) (hN : (pre ++ (X0 ++ (Y0 ++ post))).length = n) (hn : n ≤ cap) (hm : cap ≤ maxLen) (hnb : n ≤ 1000000)
    (ha : pre.length = a) (hX : a + X0.length = m) (hY : m + Y0.length = e) (hx0 : 1 ≤ X0.length) (hy0 : 1 ≤ Y0.length) :
    Calls Tryz.prog 224 #[.slice (some ⟨b, off, none⟩) n cap, .int .i64 a, .int .i64 m, .int .i64 e, F] w
      fun r w' => r = .returned (.tuple #[]) ∧ Lay2 w' b off c (pre ++ (Y0 ++ (X0 ++ post))) ∧ Keep b w w' := by
  have hen : e ≤ n := by rw [← hN]; simp; omega
  have hsw := fun (a' e' k : Nat) (P A M B Q : List Lin) (W : World) (h1 : Lay2 W b off c (P ++ (A ++ (M ++ (B ++ Q))))) (h2 : (P ++ (A ++ (M ++ (B ++ Q)))).length = n) => swap_range b off c cap a' e' k n P A M B Q W h1 F h2 hn hm hnb
  unfold maxLen at hm
  have hfin : (pre ++ (Y0 ++ (X0 ++ post))).length = n := by rw [← hN]; simp; omega
  obtain ⟨i0, hi0⟩ : ∃ i0, X0.length = i0 := ⟨_, rfl⟩
  obtain ⟨j0, hj0⟩ : ∃ j0, Y0.length = j0 := ⟨_, rfl⟩
  obtain ⟨fin, hf⟩ : ∃ fin, pre ++ (Y0 ++ (X0 ++ post)) = fin := ⟨_, rfl⟩
  rw [hf] at hfin ⊢
  have hmi : m - a = i0 := by omega
  have hej : e - m = j0 := by omega
  have w1 : IntKind.i64.wrap ((m : Int) - (a : Int)) = (i0 : Int) := (IntWalk.i64_in _ (by omega)).trans (by omega)
  have w2 : IntKind.i64.wrap ((e : Int) - (m : Int)) = (j0 : Int) := (IntWalk.i64_in _ (by omega)).trans (by omega)
  have w3 : (m : Int) - (a : Int) = (i0 : Int) := by omega
  have w4 : (e : Int) - (m : Int) = (j0 : Int) := by omega
  have hR0 : Rot m fin pre X0 Y0 post := ⟨by omega, hf, hx0, hy0⟩
  have hfh := Lib.hid hfin
  have hmn : m ≤ n := by omega
  have hih := Lib.hid hi0
  have hjh := Lib.hid hj0
  have hij : i0 + j0 ≤ n := by omega
  clear hmi hej hf hi0 hj0 hfin ha hX hY hN hx0 hy0
  go_enter Tryz.func224, Tryz.ntmps224
  go_wp2_with fail
  clear w1 w2 w3 w4
  go_loopw [10, 11] (fun i j wr => ∃ (ki kj : Nat) (P X Y Q : List Lin), i = .int .i64 (ki : Int) ∧ j = .int .i64 (kj : Int) ∧ Hid (X.length = ki) ∧ Hid (Y.length = kj) ∧ Hid (Rot m fin P X Y Q) ∧ Lay2 wr b off c (P ++ (X ++ (Y ++ Q))) ∧ Keep b w wr) (fun i j _ => (intOf i).toNat + (intOf j).toNat)
  case atStart => exact ⟨i0, j0, pre, X0, Y0, post, rfl, rfl, hih, hjh, hR0, h, Keep.refl _ _⟩
  case round =>
    obtain ⟨ki, kj, P, X, Y, Q, rfl, rfl, hX, hY, hR, hL, hK⟩ := hrel
    have hki : 1 ≤ ki := by rw [← hX.out]; exact hR.out.x0
    have hkj : 1 ≤ kj := by rw [← hY.out]; exact hR.out.y0
    have hPm : P.length + ki = m := by rw [← hX.out]; exact hR.out.at_
    have hall : P.length + (Y.length + (X.length + Q.length)) = n := by
      have := congrArg List.length hR.out.fin_
      rw [hfh.out] at this
      simpa using this
    have hlen : (P ++ (X ++ (Y ++ Q))).length = n := by simp; omega
    have hkn : m + kj ≤ n := by have := hX.out; have := hY.out; omega
    have hi1 : (1 : Int) ≤ (ki : Int) := by omega
    have hj1 : (1 : Int) ≤ (kj : Int) := by omega
    have hmi : (ki : Int) ≤ (m : Int) := by omega
    have hallh := Lib.hid hall
    have hlenh := Lib.hid hlen
    have hPmh := Lib.hid hPm
    clear hall hlen hPm
    have e1 : IntKind.i64.wrap ((m : Int) - (ki : Int)) = ((m - ki : Nat) : Int) := (IntWalk.i64_in _ (by omega)).trans (by omega)
    have e2 : (m : Int) - (ki : Int) = ((m - ki : Nat) : Int) := by omega
    have hPl : P.length = m - ki := by have := hPmh.out; omega
    obtain ⟨p, hp⟩ : ∃ p, m - ki = p := ⟨_, rfl⟩
    rw [hp] at e1 e2 hPl
    have hpm : p + ki = m := by omega
    have hPlh := Lib.hid hPl
    have hpmh := Lib.hid hpm
    clear hPl hp hpm
    by_cases hne : ki = kj
    · subst hne
      have s1 := hsw p m ki P X [] Y Q wr (by simpa using hL) (by simpa using hlenh.out) hPlh.out hX.out hY.out (by have := hpmh.out; simp; omega)
      have hfo := hR.out.fin_
      clear hsw
      go_wp2_with fail
      refine s1.mono ?_
      rintro r w1 ⟨rfl, hL1, hK1⟩
      go_wp2_with fail
      refine bodyPost_end (v := .tuple #[]) (by simp [results, Tryz.results224, go_sem]) rfl ⟨rfl, ?_, hK.trans hK1⟩
      rw [← hfo]
      simpa using hL1
    · have hneI : ¬ (ki : Int) = (kj : Int) := by omega
      have hneB : ((ki : Int) == (kj : Int)) = false := by rw [beq_eq_false_iff_ne]; exact hneI
      by_cases hgt : kj < ki
      · have hgtI : (kj : Int) < (ki : Int) := by omega
        have hXs : X = X.take kj ++ X.drop kj := (List.take_append_drop kj X).symm
        have lt1 : (X.take kj).length = kj := by rw [List.length_take, hX.out]; omega
        have ld1 : (X.drop kj).length = ki - kj := by rw [List.length_drop, hX.out]
        have s1 := hsw p m kj P (X.take kj) (X.drop kj) Y Q wr (by rw [← List.append_assoc (X.take kj), ← hXs]; exact hL) (by rw [← List.append_assoc (X.take kj), ← hXs]; exact hlenh.out) hPlh.out lt1 hY.out (by rw [ld1]; have := hpmh.out; omega)
        have e3 : IntKind.i64.wrap ((ki : Int) - (kj : Int)) = ((ki - kj : Nat) : Int) := (IntWalk.i64_in _ (by omega)).trans (by omega)
        have e4 : (ki : Int) - (kj : Int) = ((ki - kj : Nat) : Int) := by omega
        have hR2 : Rot m fin (P ++ Y) (X.drop kj) (X.take kj) Q := by
          refine ⟨by rw [List.length_append, ld1, hY.out, hPlh.out]; have := hpmh.out; omega, ?_, by omega, by omega⟩
          rw [← hR.out.fin_]
          simp only [List.append_assoc]
          rw [← List.append_assoc (X.take kj), ← hXs]
        obtain ⟨q, hq⟩ : ∃ q, ki - kj = q := ⟨_, rfl⟩
        rw [hq] at e3 e4 ld1
        have hqlt : q < ki := by omega
        have ld1h := Lib.hid ld1
        have lt1h := Lib.hid lt1
        have hR2h := Lib.hid hR2
        clear hsw hXs hR2 hq ld1 lt1
        go_wp2_with fail
        refine s1.mono ?_
        rintro r w1 ⟨rfl, hL1, hK1⟩
        go_wp2_with fail
        case' roundEnd =>
          refine ⟨⟨q, kj, P ++ Y, X.drop kj, X.take kj, Q, rfl, rfl, ld1h.out, lt1h.out, hR2h.out, by simpa using hL1, hK.trans hK1⟩, ?_⟩
          simp [intOf]
          omega
      · have hgtI : ¬ (kj : Int) < (ki : Int) := by omega
        have hlt : ki < kj := by omega
        have hYs : Y = Y.take (kj - ki) ++ Y.drop (kj - ki) := (List.take_append_drop (kj - ki) Y).symm
        have lt1 : (Y.take (kj - ki)).length = kj - ki := by rw [List.length_take, hY.out]; omega
        have ld1 : (Y.drop (kj - ki)).length = ki := by rw [List.length_drop, hY.out]; omega
        have s1 := hsw p (m + (kj - ki)) ki P X (Y.take (kj - ki)) (Y.drop (kj - ki)) Q wr (by rw [← List.append_assoc (Y.take _), ← hYs]; exact hL) (by rw [← List.append_assoc (Y.take _), ← hYs]; exact hlenh.out) hPlh.out hX.out ld1 (by rw [lt1]; have := hpmh.out; omega)
        have e3 : IntKind.i64.wrap ((kj : Int) - (ki : Int)) = ((kj - ki : Nat) : Int) := (IntWalk.i64_in _ (by omega)).trans (by omega)
        have e4 : (kj : Int) - (ki : Int) = ((kj - ki : Nat) : Int) := by omega
        have e5 : IntKind.i64.wrap ((m : Int) + (kj : Int) - (ki : Int)) = ((m + (kj - ki) : Nat) : Int) := (IntWalk.i64_in _ (by omega)).trans (by omega)
        have e6 : (m : Int) + (kj : Int) - (ki : Int) = ((m + (kj - ki) : Nat) : Int) := by omega
        have hR2 : Rot m fin P (Y.drop (kj - ki)) (Y.take (kj - ki)) (X ++ Q) := by
          refine ⟨by rw [ld1, hPlh.out]; have := hpmh.out; omega, ?_, by omega, by omega⟩
          rw [← hR.out.fin_, ← List.append_assoc (Y.take _), ← hYs]
        obtain ⟨q, hq⟩ : ∃ q, kj - ki = q := ⟨_, rfl⟩
        rw [hq] at e3 e4 e5 e6 lt1 s1 hR2 ld1
        obtain ⟨z, hz⟩ : ∃ z, m + q = z := ⟨_, rfl⟩
        rw [hz] at e5 e6 s1
        have hqlt : q < kj := by omega
        have ld1h := Lib.hid ld1
        have lt1h := Lib.hid lt1
        have hR2h := Lib.hid hR2
        clear hsw hYs hR2 hq ld1 lt1 hz
        go_wp2_with fail
        refine s1.mono ?_
        rintro r w1 ⟨rfl, hL1, hK1⟩
        go_wp2_with fail
        case' roundEnd =>
          refine ⟨⟨ki, q, P, Y.drop q, Y.take q, X ++ Q, rfl, rfl, ld1h.out, lt1h.out, hR2h.out, by simpa using hL1, hK.trans hK1⟩, ?_⟩
          simp [intOf]
          omega
end Go.Proofs.YtnalblnmplnhmaaGreat
