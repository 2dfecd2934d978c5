/-
  No cell of these rows narrows 'for every input' (looked for: loops, veiled, ifaces, maps, wideKeys, modest, calm, conditions, laid).
  DERIVED. THE GIVEN ROWS OF THIS SEAT. 6 by the template 'for every input the law returns true; each argument reads behind the call as it read before'; 0 by the template 'total and deterministic' (their statements: YtnepgggkgnckcaaGreatTotals.lean).
  GIVEN WITH THE SEED: the statements are not yours to turn. If you find one false, say at which input.
  Laid BY PROGRAM, IN A SANDBOX (cutbox-rows.mjs): the forced cells as the released guide's own fill.sh prints them over the translation 8bd92cc519bef11d… (all of the seat's roots in one cut). By AI agents, Wed Nov 11 2026. No macro, syntax, notation, axiom, sorry.
-/
import Derived.Test.YtnepgggkgnckcaaGreatChecked
import GoSem.Claim
import GoSem.ClaimJoined
import GoSem.ClaimMapViews
import Derived.JoinedTies
import Derived.KernelRfl
namespace Go.Proofs.YtnepgggkgnckcaaGreat
/- THE CELL 'sum', in the pinned program and in every row, IS THE sha256 OF THE DUMP (.gsa) THAT YtnepgggkgnckcaaGreatProg.lean LOADS. Nothing in Lean hashes anything: it is a label: what it is worth is what the hold of that sum in a sandbox is worth. -/
noncomputable def Tryz.pinned : Pinned := { name := "ytnepgggkgnckcaagreat", sum := "8bd92cc519bef11d08c557fb9fd5ed256f38691675eff13e1a0cc1f9f0b39e8e", checked := Tryz.checked }
namespace Rows
def none {H : Type} : Left H := { results := [], args := [] }

/-- 'purveyorlaw25.GroupSums': WHATEVER THE INPUT: true; the input reads as it did. -/
def groupSumsSpec : ChangeSpec := { name := "groupSums", fn := fun _ => fun
  | [d1, d2] => { results := [.lit (.bool true)], args := [d1, d2] }
  | _ => none }
def groupSumsRow : OpenClaim := { program := "ytnepgggkgnckcaagreat", sum := "8bd92cc519bef11d08c557fb9fd5ed256f38691675eff13e1a0cc1f9f0b39e8e", func := "purveyor/purveyorlaw25.GroupSums", spec := "groupSums", unfollowed := true, recurses := true, apart := false }
def GroupSumsSaid : Prop := groupSumsRow.holds Tryz.pinned (OpenSpec.ofChange groupSumsSpec)

/-- ITS FALSE NEIGHBOUR: 'it returns false'. Refute it at one input. -/
def groupSumsWrong : ChangeSpec := { name := "groupSums", fn := fun _ => fun
  | [d1, d2] => { results := [.lit (.bool false)], args := [d1, d2] }
  | _ => none }
def GroupSumsWrongFalsely : Prop := groupSumsRow.holds Tryz.pinned (OpenSpec.ofChange groupSumsWrong)

/-- 'purveyorlaw25.GroupLinear': WHATEVER THE INPUT: true; the input reads as it did. -/
def groupLinearSpec : ChangeSpec := { name := "groupLinear", fn := fun _ => fun
  | [d1, d2, d3, d4] => { results := [.lit (.bool true)], args := [d1, d2, d3, d4] }
  | _ => none }
def groupLinearRow : OpenClaim := { program := "ytnepgggkgnckcaagreat", sum := "8bd92cc519bef11d08c557fb9fd5ed256f38691675eff13e1a0cc1f9f0b39e8e", func := "purveyor/purveyorlaw25.GroupLinear", spec := "groupLinear", unfollowed := true, recurses := true, apart := false }
def GroupLinearSaid : Prop := groupLinearRow.holds Tryz.pinned (OpenSpec.ofChange groupLinearSpec)

/-- ITS FALSE NEIGHBOUR: 'it returns false'. Refute it at one input. -/
def groupLinearWrong : ChangeSpec := { name := "groupLinear", fn := fun _ => fun
  | [d1, d2, d3, d4] => { results := [.lit (.bool false)], args := [d1, d2, d3, d4] }
  | _ => none }
def GroupLinearWrongFalsely : Prop := groupLinearRow.holds Tryz.pinned (OpenSpec.ofChange groupLinearWrong)

/-- 'purveyorlaw25.GroupNumbers': WHATEVER THE INPUT: true; the input reads as it did. -/
def groupNumbersSpec : ChangeSpec := { name := "groupNumbers", fn := fun _ => fun
  | [d1, d2, d3] => { results := [.lit (.bool true)], args := [d1, d2, d3] }
  | _ => none }
def groupNumbersRow : OpenClaim := { program := "ytnepgggkgnckcaagreat", sum := "8bd92cc519bef11d08c557fb9fd5ed256f38691675eff13e1a0cc1f9f0b39e8e", func := "purveyor/purveyorlaw25.GroupNumbers", spec := "groupNumbers", unfollowed := true, recurses := true, apart := false }
def GroupNumbersSaid : Prop := groupNumbersRow.holds Tryz.pinned (OpenSpec.ofChange groupNumbersSpec)

/-- ITS FALSE NEIGHBOUR: 'it returns false'. Refute it at one input. -/
def groupNumbersWrong : ChangeSpec := { name := "groupNumbers", fn := fun _ => fun
  | [d1, d2, d3] => { results := [.lit (.bool false)], args := [d1, d2, d3] }
  | _ => none }
def GroupNumbersWrongFalsely : Prop := groupNumbersRow.holds Tryz.pinned (OpenSpec.ofChange groupNumbersWrong)

/-- 'purveyorlaw19.LandedNumbers': WHATEVER THE INPUT: true; the input reads as it did. -/
def landedNumbersSpec : ChangeSpec := { name := "landedNumbers", fn := fun _ => fun
  | [d1, d2, d3, d4] => { results := [.lit (.bool true)], args := [d1, d2, d3, d4] }
  | _ => none }
def landedNumbersRow : OpenClaim := { program := "ytnepgggkgnckcaagreat", sum := "8bd92cc519bef11d08c557fb9fd5ed256f38691675eff13e1a0cc1f9f0b39e8e", func := "purveyor/purveyorlaw19.LandedNumbers", spec := "landedNumbers", unfollowed := true, recurses := true, named := ["math/bits.divideError", "math/bits.overflowError"], apart := false }
def LandedNumbersSaid : Prop := landedNumbersRow.holds Tryz.pinned (OpenSpec.ofChange landedNumbersSpec)

/-- ITS FALSE NEIGHBOUR: 'it returns false'. Refute it at one input. -/
def landedNumbersWrong : ChangeSpec := { name := "landedNumbers", fn := fun _ => fun
  | [d1, d2, d3, d4] => { results := [.lit (.bool false)], args := [d1, d2, d3, d4] }
  | _ => none }
def LandedNumbersWrongFalsely : Prop := landedNumbersRow.holds Tryz.pinned (OpenSpec.ofChange landedNumbersWrong)

/-- 'purveyorlaw19.LandedLots': WHATEVER THE INPUT: true; the input reads as it did. -/
def landedLotsSpec : ChangeSpec := { name := "landedLots", fn := fun _ => fun
  | [d1, d2, d3] => { results := [.lit (.bool true)], args := [d1, d2, d3] }
  | _ => none }
def landedLotsRow : OpenClaim := { program := "ytnepgggkgnckcaagreat", sum := "8bd92cc519bef11d08c557fb9fd5ed256f38691675eff13e1a0cc1f9f0b39e8e", func := "purveyor/purveyorlaw19.LandedLots", spec := "landedLots", unfollowed := true, recurses := true, named := ["math/bits.divideError", "math/bits.overflowError"], apart := false }
def LandedLotsSaid : Prop := landedLotsRow.holds Tryz.pinned (OpenSpec.ofChange landedLotsSpec)

/-- ITS FALSE NEIGHBOUR: 'it returns false'. Refute it at one input. -/
def landedLotsWrong : ChangeSpec := { name := "landedLots", fn := fun _ => fun
  | [d1, d2, d3] => { results := [.lit (.bool false)], args := [d1, d2, d3] }
  | _ => none }
def LandedLotsWrongFalsely : Prop := landedLotsRow.holds Tryz.pinned (OpenSpec.ofChange landedLotsWrong)

/-- 'purveyorlaw19.LandedWeights': WHATEVER THE INPUT: true; the input reads as it did. -/
def landedWeightsSpec : ChangeSpec := { name := "landedWeights", fn := fun _ => fun
  | [d1, d2, d3, d4] => { results := [.lit (.bool true)], args := [d1, d2, d3, d4] }
  | _ => none }
def landedWeightsRow : OpenClaim := { program := "ytnepgggkgnckcaagreat", sum := "8bd92cc519bef11d08c557fb9fd5ed256f38691675eff13e1a0cc1f9f0b39e8e", func := "purveyor/purveyorlaw19.LandedWeights", spec := "landedWeights", unfollowed := true, recurses := true, named := ["math/bits.divideError", "math/bits.overflowError"], apart := false }
def LandedWeightsSaid : Prop := landedWeightsRow.holds Tryz.pinned (OpenSpec.ofChange landedWeightsSpec)

/-- ITS FALSE NEIGHBOUR: 'it returns false'. Refute it at one input. -/
def landedWeightsWrong : ChangeSpec := { name := "landedWeights", fn := fun _ => fun
  | [d1, d2, d3, d4] => { results := [.lit (.bool false)], args := [d1, d2, d3, d4] }
  | _ => none }
def LandedWeightsWrongFalsely : Prop := landedWeightsRow.holds Tryz.pinned (OpenSpec.ofChange landedWeightsWrong)

/- THE SECOND FORM. 'bulk': how many values and letters a reading holds, each counted each time it is reached (what is shared counts as often as it is met; a slice's spare places count too). A statement '..UptoSaid' is the law's where the arguments, and the package variables that the reading takes, are together of bulk at most 1048576: NARROWER than '..Said'. Prove '..Said' where nothing that the law and all that it calls make is longer than what came in: it says more and counts as full. Else prove '..UptoSaid'. A law counts once. -/
mutual
def uptoBulk {H : Type} : DataW H → Nat
  | .lit (.string bytes) => bytes.length + 1
  | .lit _ => 1
  | .nil => 1
  | .ptr d => uptoBulk d + 1
  | .slice elems spare => uptoBulkAll elems + uptoBulkAll spare + 1
  | .agg parts => uptoBulkAll parts + 1
  | .iface _ d => uptoBulk d + 1
  | .map entries => uptoBulkEntries entries + 1
  | .held _ => 1
def uptoBulkAll {H : Type} : List (DataW H) → Nat
  | [] => 0
  | d :: r => uptoBulk d + uptoBulkAll r
def uptoBulkEntries {H : Type} : List (Lit × DataW H) → Nat
  | [] => 0
  | x :: r => uptoBulkEntry x + uptoBulkEntries r
def uptoBulkEntry {H : Type} : Lit × DataW H → Nat
  | (.string bytes, d) => bytes.length + uptoBulk d + 1
  | (_, d) => uptoBulk d + 1
 end
def uptoSmall : (H : Type) → List (DataW H) → Bool := fun _ ds => decide (uptoBulkAll ds ≤ 1048576)
def OpenSpec.upto (s : _root_.Go.ChangeSpec) : _root_.Go.OpenSpec := { _root_.Go.OpenSpec.ofChange s with cond := some uptoSmall }

/-- 'purveyorlaw25.GroupSums', WHERE WHAT IT READS IS OF BULK AT MOST 1048576: true; the input reads as it did. -/
def groupSumsUptoRow : OpenClaim := { program := "ytnepgggkgnckcaagreat", sum := "8bd92cc519bef11d08c557fb9fd5ed256f38691675eff13e1a0cc1f9f0b39e8e", func := "purveyor/purveyorlaw25.GroupSums", spec := "groupSums", unfollowed := true, recurses := true, apart := false, narrowed := true }
def GroupSumsUptoSaid : Prop := groupSumsUptoRow.holds Tryz.pinned (OpenSpec.upto groupSumsSpec)

/-- 'purveyorlaw25.GroupLinear', WHERE WHAT IT READS IS OF BULK AT MOST 1048576: true; the input reads as it did. -/
def groupLinearUptoRow : OpenClaim := { program := "ytnepgggkgnckcaagreat", sum := "8bd92cc519bef11d08c557fb9fd5ed256f38691675eff13e1a0cc1f9f0b39e8e", func := "purveyor/purveyorlaw25.GroupLinear", spec := "groupLinear", unfollowed := true, recurses := true, apart := false, narrowed := true }
def GroupLinearUptoSaid : Prop := groupLinearUptoRow.holds Tryz.pinned (OpenSpec.upto groupLinearSpec)

/-- 'purveyorlaw25.GroupNumbers', WHERE WHAT IT READS IS OF BULK AT MOST 1048576: true; the input reads as it did. -/
def groupNumbersUptoRow : OpenClaim := { program := "ytnepgggkgnckcaagreat", sum := "8bd92cc519bef11d08c557fb9fd5ed256f38691675eff13e1a0cc1f9f0b39e8e", func := "purveyor/purveyorlaw25.GroupNumbers", spec := "groupNumbers", unfollowed := true, recurses := true, apart := false, narrowed := true }
def GroupNumbersUptoSaid : Prop := groupNumbersUptoRow.holds Tryz.pinned (OpenSpec.upto groupNumbersSpec)

/-- 'purveyorlaw19.LandedNumbers', WHERE WHAT IT READS IS OF BULK AT MOST 1048576: true; the input reads as it did. -/
def landedNumbersUptoRow : OpenClaim := { program := "ytnepgggkgnckcaagreat", sum := "8bd92cc519bef11d08c557fb9fd5ed256f38691675eff13e1a0cc1f9f0b39e8e", func := "purveyor/purveyorlaw19.LandedNumbers", spec := "landedNumbers", unfollowed := true, recurses := true, named := ["math/bits.divideError", "math/bits.overflowError"], apart := false, narrowed := true }
def LandedNumbersUptoSaid : Prop := landedNumbersUptoRow.holds Tryz.pinned (OpenSpec.upto landedNumbersSpec)

/-- 'purveyorlaw19.LandedLots', WHERE WHAT IT READS IS OF BULK AT MOST 1048576: true; the input reads as it did. -/
def landedLotsUptoRow : OpenClaim := { program := "ytnepgggkgnckcaagreat", sum := "8bd92cc519bef11d08c557fb9fd5ed256f38691675eff13e1a0cc1f9f0b39e8e", func := "purveyor/purveyorlaw19.LandedLots", spec := "landedLots", unfollowed := true, recurses := true, named := ["math/bits.divideError", "math/bits.overflowError"], apart := false, narrowed := true }
def LandedLotsUptoSaid : Prop := landedLotsUptoRow.holds Tryz.pinned (OpenSpec.upto landedLotsSpec)

/-- 'purveyorlaw19.LandedWeights', WHERE WHAT IT READS IS OF BULK AT MOST 1048576: true; the input reads as it did. -/
def landedWeightsUptoRow : OpenClaim := { program := "ytnepgggkgnckcaagreat", sum := "8bd92cc519bef11d08c557fb9fd5ed256f38691675eff13e1a0cc1f9f0b39e8e", func := "purveyor/purveyorlaw19.LandedWeights", spec := "landedWeights", unfollowed := true, recurses := true, named := ["math/bits.divideError", "math/bits.overflowError"], apart := false, narrowed := true }
def LandedWeightsUptoSaid : Prop := landedWeightsUptoRow.holds Tryz.pinned (OpenSpec.upto landedWeightsSpec)

end Rows
end Go.Proofs.YtnepgggkgnckcaaGreat
