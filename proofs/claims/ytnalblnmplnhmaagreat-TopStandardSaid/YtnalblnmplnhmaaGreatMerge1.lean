/-
  The library's exchange of two parts, its rotation, at lines.
-/
import Derived.Test.YtnalblnmplnhmaaGreatSort2
import Derived.Test.YtnalblnmplnhmaaGreatSortQ
set_option linter.unusedVariables false
set_option linter.unusedSimpArgs false
namespace Go.Proofs.YtnalblnmplnhmaaGreat
open Go.RowKit

set_option maxRecDepth 20000 in
set_option maxHeartbeats 2000000 in
theorem swap_range (b off c cap a e k n : Nat) (pre X M Y post : List Lin) (w : World) (h : Lay2 w b off c (pre ++ (X ++ (M ++ (Y ++ post))))) (F : Value) (hN : (pre ++ (X ++ (M ++ (Y ++ post)))).length = n) (hn : n ≤ cap) (hm : cap ≤ maxLen) (hnb : n ≤ 1000000)
    (ha : pre.length = a) (hX : X.length = k) (hY : Y.length = k) (he : a + k + M.length = e) :
    Calls Tryz.prog 226 #[.slice (some ⟨b, off, none⟩) n cap, .int .i64 a, .int .i64 e, .int .i64 k, F] w
      fun r w' => r = .returned (.tuple #[]) ∧ Lay2 w' b off c (pre ++ (Y ++ (M ++ (X ++ post)))) ∧ Keep b w w' := by
  unfold maxLen at hm
  have hek : e + k ≤ n := by rw [← hN, ← he, ← ha]; simp; omega
  have hak : a + k ≤ e := by omega
  have hah := Lib.hid ha
  have hXh := Lib.hid hX
  have hYh := Lib.hid hY
  have heh := Lib.hid he
  have hNh := Lib.hid hN
  clear ha hX hY he hN
  go_enter Tryz.func226, Tryz.ntmps226
  go_wp2_with fail
  go_loopw [10] (fun i wr => ∃ j : Nat, j ≤ k ∧ i = .int .i64 (j : Int) ∧ Lay2 wr b off c (exch pre X M Y post j) ∧ Keep b w wr) (fun i _ => k - (intOf i).toNat)
  case atStart => exact ⟨0, by omega, rfl, by rw [exch_zero]; exact h, Keep.refl _ _⟩
  case round =>
    obtain ⟨j, hj, rfl, hL, hK⟩ := hrel
    by_cases hlt : j < k
    · have hltI : (j : Int) < (k : Int) := by omega
      obtain ⟨x, hx⟩ : ∃ x, X[j]? = some x := ⟨X[j]'(by rw [hXh.out]; exact hlt), by simp [hXh.out, hlt]⟩
      obtain ⟨y, hy⟩ : ∃ y, Y[j]? = some y := ⟨Y[j]'(by rw [hYh.out]; exact hlt), by simp [hYh.out, hlt]⟩
      obtain ⟨f1, f2⟩ := exch_form (pre := pre) (M := M) (post := post) hx hy
      have l1 : (pre ++ Y.take j).length = a + j := by rw [List.length_append, List.length_take, hah.out, hYh.out]; omega
      have l2 : a + j + 1 + (X.drop (j + 1) ++ (M ++ X.take j)).length = e + j := by
        have := heh.out
        simp [hXh.out]
        omega
      rw [f1] at hL
      have hcx := hL.cells.line (get_near (x := x) (y := y) l1)
      have hcy := hL.cells.line (get_far (x := x) (y := y) l1 l2)
      have hlen : ((pre ++ Y.take j) ++ x :: ((X.drop (j + 1) ++ (M ++ X.take j)) ++ y :: (Y.drop (j + 1) ++ post))).length = n := by
        rw [← f1, ← hNh.out]
        have := hXh.out; have := hYh.out
        simp [exch]; omega
      have t1 := (hL.set (i := a + j) (by rw [hlen]; omega) y).set (i := e + j) (by rw [List.length_set, hlen]; omega) x
      rw [swap_far l1 l2, ← f2] at t1
      have t2 := (hK.set2 (off + (a + j) * 2) y).set2 (off + (e + j) * 2) x
      have hf1 := hL.fz (off + (a + j) * 2)
      have hf2 := hL.fz (off + (a + j) * 2 + 1)
      have hf3 := hL.fz (off + (e + j) * 2)
      have hf4 := hL.fz (off + (e + j) * 2 + 1)
      obtain ⟨x0, x1⟩ := hcx
      obtain ⟨y0, y1⟩ := hcy
      have w1 : IntKind.i64.wrap ((a : Int) + (j : Int)) = (a : Int) + (j : Int) := IntWalk.i64_in _ (by omega)
      have w2 : IntKind.i64.wrap ((e : Int) + (j : Int)) = (e : Int) + (j : Int) := IntWalk.i64_in _ (by omega)
      have b1 : (0 : Int) ≤ (a : Int) + (j : Int) := by omega
      have b2 : (0 : Int) ≤ (e : Int) + (j : Int) := by omega
      have b3 : (a : Int) + (j : Int) < (n : Int) := by omega
      have b4 : (e : Int) + (j : Int) < (n : Int) := by omega
      have n1 : ((a : Int) + (j : Int)).toNat = a + j := by omega
      have n2 : ((e : Int) + (j : Int)).toNat = e + j := by omega
      have t1h := Lib.hid t1
      have hne1 : off + (a + j) * 2 ≠ off + (e + j) * 2 := by omega
      clear hL hlen f1 f2 hx hy t1 l1 l2
      go_wp2_with fail
      go_region
      all_goals
        go_wp2_with fail
        refine ⟨⟨j + 1, by omega, by go_num, ?_, ?_⟩, ?_⟩
        · have t := t1h.out.drew; unfold set2 at t; exact t
        · have t := t2.drew; unfold set2 at t; exact t
        · simp [intOf]; omega
    · have ej : j = k := by omega
      subst ej
      have hge : ¬ (j : Int) < (j : Int) := by omega
      rw [exch_end hXh.out hYh.out] at hL
      go_wp2_with fail
      exact bodyPost_end (v := .tuple #[]) (by simp [results, Tryz.results226, go_sem]) rfl ⟨rfl, hL, hK⟩
end Go.Proofs.YtnalblnmplnhmaaGreat
