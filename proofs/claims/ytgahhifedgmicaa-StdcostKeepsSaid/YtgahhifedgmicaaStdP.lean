/-
  Standard cost: one layer at its cost, with more, with less, at another cost. No program in sight.
-/
import Derived.Test.YtgahhifedgmicaaStd3
import Derived.Test.YtgahhifedgmicaaMavgP2
set_option linter.unusedVariables false
set_option linter.unusedSimpArgs false
namespace Go.Proofs.Ytgahhifedgmicaa
theorem of_pot {c q : Int} (c0 : 0 ≤ c) (c1 : c ≤ 999) (q0 : 0 ≤ q) (q1 : q ≤ 1800) : fitsR c = true ∧ ofV c q = q * c ∧ ofE c q = 0 := by
  have hf : fitsR c = true := fitsR_iff.2 ⟨c0, by omega⟩
  have hb := mul_bd (a := q) (b := c) (n := 1800) (m := 999) q0 q1 c0 c1
  have hb2 : q * c ≤ 1798200 := hb.2
  have := of_ok (r := c) (q := q) hf q0 (by omega)
  exact ⟨hf, this.1, this.2⟩
theorem inC_pot {h c q v : Int} (h0 : 0 ≤ h) (h1 : h + q ≤ 1800) (c0 : 0 ≤ c) (c1 : c ≤ 999) (q0 : 1 ≤ q) (v0 : 0 ≤ v) (v1 : v ≤ 1000000) : inC (pot h c) ⟨q, v, 0⟩ c = (pot (h + q) c, v - q * c, 0) := by
  obtain ⟨hf, e1, e2⟩ := of_pot (c := c) (q := q) c0 c1 (by omega) (by omega)
  have := in_pot (h := h) (p := c) (q := q) h0 h1 c0 c1 q0
  rw [inC, if_neg (by simp [hf]; omega), if_neg (by simp [e2]; omega)]
  simp only [e1, this]
  simp
theorem outC_pot {h c q : Int} (h0 : 0 ≤ h) (h1 : h ≤ 1800) (c0 : 0 ≤ c) (c1 : c ≤ 999) (q0 : 1 ≤ q) (q1 : q ≤ h) : outC (pot h c) q c = (pot (h - q) c, ⟨q, q * c, 0⟩, 0) := by
  obtain ⟨hf, e1, e2⟩ := of_pot (c := c) (q := q) c0 c1 (by omega) (by omega)
  have e := out_pot (h := h) (p := c) (q := q) h0 h1 c0 c1 q0 q1
  have hb := mul_bd (a := h - q) (b := c) (n := 1800) (m := 999) (by omega) (by omega) c0 c1
  rw [outC, if_neg (by simp [hf]), e]
  unfold pot
  by_cases hz : h - q = 0
  · simp [hz]
  · simp only [if_neg hz]
    have hlt : ¬ ((h - q) * c + q * c < q * c) := by omega
    simp [e1, e2, hlt]
theorem outC_pot_short {h c q : Int} (h0 : 0 ≤ h) (h1 : h ≤ 1800) (c0 : 0 ≤ c) (c1 : c ≤ 999) (q0 : 1 ≤ q) (q1 : h < q) : outC (pot h c) q c = (pot h c, .zero, 5) := by
  have hf : fitsR c = true := fitsR_iff.2 ⟨c0, by omega⟩
  have e := out_pot_short (h := h) (p := c) (q := q) h0 h1 c0 c1 q0 q1
  rw [outC, if_neg (by simp [hf]), e]
  unfold pot
  by_cases hz : h = 0
  · simp [hz]
  · simp [hz]
theorem revC_pot {h c d : Int} (h0 : 0 ≤ h) (h1 : h ≤ 1800) (c0 : 0 ≤ d) (c1 : d ≤ 999) : revC (pot h c) d = (pot h d, h * d - h * c, 0) := by
  obtain ⟨hf, e1, e2⟩ := of_pot (c := d) (q := h) c0 c1 h0 h1
  unfold pot
  by_cases hz : h = 0
  · subst hz; simp [revC, hf]
  · simp [revC, hf, hz, e1, e2]
theorem pot_len {h p : Int} : (pot h p).length ≤ 1 := by unfold pot; split <;> simp
end Go.Proofs.Ytgahhifedgmicaa
