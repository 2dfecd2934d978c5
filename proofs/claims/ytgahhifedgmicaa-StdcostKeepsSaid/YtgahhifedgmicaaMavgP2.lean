/-
  One layer at one price: what comes and goes. No program in sight.
-/
import Derived.Test.YtgahhifedgmicaaMavgP
set_option linter.unusedVariables false
set_option linter.unusedSimpArgs false
namespace Go.Proofs.Ytgahhifedgmicaa
def pot (h p : Int) : List Lay := if h = 0 then [] else [⟨h, h * p, 0⟩]
theorem pot_LR {h p : Int} (h0 : 0 ≤ h) (h1 : h ≤ 1800) (p0 : 0 ≤ p) (p1 : p ≤ 999) : LR (pot h p) := by
  unfold pot
  split
  · exact LR.nil
  · have := mul_bd (a := h) (b := p) (n := 1800) (m := 999) h0 h1 p0 p1
    exact LR.one (layOk_iff.2 ⟨by simp only; omega, by simp only; omega, by simp only; omega, by simp only; omega, by simp only; omega, by simp only; omega⟩)
theorem pot_qs {h p : Int} : qs (pot h p) = h := by
  unfold pot
  split <;> simp [qs, *]
theorem in_pot {h p q : Int} (h0 : 0 ≤ h) (h1 : h + q ≤ 1800) (p0 : 0 ≤ p) (p1 : p ≤ 999) (q0 : 1 ≤ q) : inM (pot h p) ⟨q, q * p, 0⟩ = (pot (h + q) p, 0) := by
  have b1 := mul_bd (a := h) (b := p) (n := 1800) (m := 999) h0 (by omega) p0 p1
  have b2 := mul_bd (a := q) (b := p) (n := 1800) (m := 999) (by omega) (by omega) p0 p1
  have hk : layOk ⟨q, q * p, 0⟩ = true := layOk_iff.2 ⟨by simp only; omega, by simp only; omega, by simp only; omega, by simp only; omega, by simp only; omega, by simp only; omega⟩
  have e : (h + q) * p = h * p + q * p := Int.add_mul _ _ _
  by_cases hz : h = 0
  · subst hz
    rw [show pot 0 p = [] by simp [pot], inM_ok (LR.one hk)]
    rw [pot, if_neg (by omega)]
    simp [qs, vs, ps]
  · have hL : LR (pot h p) := pot_LR h0 (by omega) p0 p1
    rw [pot, if_neg hz] at hL ⊢
    have hL2 : LR ([⟨h, h * p, 0⟩] ++ [⟨q, q * p, 0⟩]) := hL.snoc hk (by simp) (by simp [qs]; omega) (by simp [vs]; omega) (by simp [aps, absum])
    rw [inM_ok hL2, pot, if_neg (by omega), e]
    simp [qs, vs, ps]
theorem out_pot {h p q : Int} (h0 : 0 ≤ h) (h1 : h ≤ 1800) (p0 : 0 ≤ p) (p1 : p ≤ 999) (q0 : 1 ≤ q) (q1 : q ≤ h) : outS (pot h p) q = (pot (h - q) p, ⟨q, q * p, 0⟩, 0) := by
  have hL := pot_LR h0 h1 p0 p1
  rw [outS_ok hL q0 (by rw [pot_qs]; exact q1)]
  have hz : h ≠ 0 := by omega
  rw [pot, if_neg hz]
  by_cases he : h = q
  · subst he
    rw [outL_whole q0 rfl]
    simp [pot]
  · rw [outL_one q0 (by simp only; omega)]
    have e : (h - q) * p = h * p - q * p := Int.sub_mul _ _ _
    rw [pot, if_neg (by omega), e]
    have pz : partS 0 q h = 0 := by rw [part_pos (by rw [show inB 0 = true from by decide +kernel]; simp; omega) (by omega)]; simp
    simp [minusL, cutL, part_price (q := h) (k := q) (p := p) (by omega) (by omega) (by omega) (by omega) p0 (by omega), pz]
theorem out_pot_short {h p q : Int} (h0 : 0 ≤ h) (h1 : h ≤ 1800) (p0 : 0 ≤ p) (p1 : p ≤ 999) (q0 : 1 ≤ q) (q1 : h < q) : outS (pot h p) q = (pot h p, .zero, 5) :=
  outS_short (pot_LR h0 h1 p0 p1) q0 (by rw [pot_qs]; exact q1)
end Go.Proofs.Ytgahhifedgmicaa
