/-
  nrv.Target and the document's. The walk.
-/
import Derived.Test.YtglcnlkojlfheaaGreatBase
set_option linter.unusedVariables false
set_option linter.unusedSimpArgs false
namespace Go.Proofs.YtglcnlkojlfheaaGreat
open Go.RowKit

/-- How much is to be written down. -/
def tgtS (v q p : Int) : Int := if v < 0 ∨ q < 0 ∨ p < 0 then 0 else if v ≤ q * p then 0 else v - q * p
theorem tgt_way {v q p : Int} (hv : ¬ v < 0) (hq : ¬ q < 0) (hp : ¬ p < 0) (iv : I64 v) (iq : I64 q) (ip : I64 p) :
    tgtS v q p = (if wideHi q p > 0 ∨ wideLo q p ≥ IntKind.u64.wrap v then 0 else v - wideLo q p) ∧ (¬ wideHi q p > 0 → ¬ wideLo q p ≥ IntKind.u64.wrap v → 0 ≤ wideLo q p ∧ wideLo q p < v) := by
  have h1 := wide_nat (a := q) (b := p) (by omega) iq.hi (by omega) ip.hi
  have h2 := wideHi_bd q p
  have h3 := wideLo_bd q p
  have e : IntKind.u64.wrap v = v := wrap_small (by omega) (by have := iv.hi; omega)
  rw [e]
  unfold tgtS
  rw [if_neg (by omega)]
  have hvb := iv.hi
  generalize wideHi q p = hi at *
  generalize wideLo q p = lo at *
  generalize q * p = qp at *
  refine ⟨?_, fun a b => ⟨by omega, by omega⟩⟩
  split
  · rw [if_pos]; omega
  · rw [if_neg (by omega)]; omega

end Go.Proofs.YtglcnlkojlfheaaGreat