/-
  No cell of these rows narrows 'for every input' (looked for: loops, veiled, ifaces, maps, wideKeys, modest, calm, conditions, laid).
  DERIVED. THE GIVEN ROWS OF THIS SEAT. 3 by the template 'for every input the law returns true; each argument reads behind the call as it read before'; 0 by the template 'total and deterministic' (their statements: YtkojakidcjfiaaaGreatTotals.lean).
  GIVEN WITH THE SEED: the statements are not yours to turn. If you find one false, say at which input.
  Laid BY PROGRAM, IN A SANDBOX (cutbox-rows.mjs): the forced cells as the released guide's own fill.sh prints them over the translation 1ce6037bd1fe6cce… (all of the seat's roots in one cut). By AI agents, Wed Nov 11 2026. No macro, syntax, notation, axiom, sorry.
-/
import Derived.Test.YtkojakidcjfiaaaGreatChecked
import GoSem.Claim
import GoSem.ClaimJoined
import GoSem.ClaimMapViews
import Derived.JoinedTies
import Derived.KernelRfl
namespace Go.Proofs.YtkojakidcjfiaaaGreat
/- THE CELL 'sum', in the pinned program and in every row, IS THE sha256 OF THE DUMP (.gsa) THAT YtkojakidcjfiaaaGreatProg.lean LOADS. Nothing in Lean hashes anything: it is a label: what it is worth is what the hold of that sum in a sandbox is worth. -/
noncomputable def Tryz.pinned : Pinned := { name := "ytkojakidcjfiaaagreat", sum := "1ce6037bd1fe6cce39c10c26b6c271c12399da01eb99dbae54da33bdd90e4ae9", checked := Tryz.checked }
namespace Rows
def none {H : Type} : Left H := { results := [], args := [] }

/-- 'purveyorlaw19.LandedSplit': WHATEVER THE INPUT: true; the input reads as it did. -/
def landedSplitSpec : ChangeSpec := { name := "landedSplit", fn := fun _ => fun
  | [d1, d2, d3] => { results := [.lit (.bool true)], args := [d1, d2, d3] }
  | _ => none }
def landedSplitRow : OpenClaim := { program := "ytkojakidcjfiaaagreat", sum := "1ce6037bd1fe6cce39c10c26b6c271c12399da01eb99dbae54da33bdd90e4ae9", func := "purveyor/purveyorlaw19.LandedSplit", spec := "landedSplit", unfollowed := true, recurses := true, named := ["math/bits.divideError", "math/bits.overflowError"], apart := false }
def LandedSplitSaid : Prop := landedSplitRow.holds Tryz.pinned (OpenSpec.ofChange landedSplitSpec)

/-- ITS FALSE NEIGHBOUR: 'it returns false'. Refute it at one input. -/
def landedSplitWrong : ChangeSpec := { name := "landedSplit", fn := fun _ => fun
  | [d1, d2, d3] => { results := [.lit (.bool false)], args := [d1, d2, d3] }
  | _ => none }
def LandedSplitWrongFalsely : Prop := landedSplitRow.holds Tryz.pinned (OpenSpec.ofChange landedSplitWrong)

/-- 'purveyorlaw19.LandedBases': WHATEVER THE INPUT: true; the input reads as it did. -/
def landedBasesSpec : ChangeSpec := { name := "landedBases", fn := fun _ => fun
  | [d1, d2, d3] => { results := [.lit (.bool true)], args := [d1, d2, d3] }
  | _ => none }
def landedBasesRow : OpenClaim := { program := "ytkojakidcjfiaaagreat", sum := "1ce6037bd1fe6cce39c10c26b6c271c12399da01eb99dbae54da33bdd90e4ae9", func := "purveyor/purveyorlaw19.LandedBases", spec := "landedBases", unfollowed := true, recurses := true, named := ["math/bits.divideError", "math/bits.overflowError"], apart := false }
def LandedBasesSaid : Prop := landedBasesRow.holds Tryz.pinned (OpenSpec.ofChange landedBasesSpec)

/-- ITS FALSE NEIGHBOUR: 'it returns false'. Refute it at one input. -/
def landedBasesWrong : ChangeSpec := { name := "landedBases", fn := fun _ => fun
  | [d1, d2, d3] => { results := [.lit (.bool false)], args := [d1, d2, d3] }
  | _ => none }
def LandedBasesWrongFalsely : Prop := landedBasesRow.holds Tryz.pinned (OpenSpec.ofChange landedBasesWrong)

/-- 'purveyorlaw19.LandedErrors': WHATEVER THE INPUT: true; the input reads as it did. -/
def landedErrorsSpec : ChangeSpec := { name := "landedErrors", fn := fun _ => fun
  | [d1, d2] => { results := [.lit (.bool true)], args := [d1, d2] }
  | _ => none }
def landedErrorsRow : OpenClaim := { program := "ytkojakidcjfiaaagreat", sum := "1ce6037bd1fe6cce39c10c26b6c271c12399da01eb99dbae54da33bdd90e4ae9", func := "purveyor/purveyorlaw19.LandedErrors", spec := "landedErrors", unfollowed := true, recurses := true, named := ["math/bits.divideError", "math/bits.overflowError"], apart := false }
def LandedErrorsSaid : Prop := landedErrorsRow.holds Tryz.pinned (OpenSpec.ofChange landedErrorsSpec)

/-- ITS FALSE NEIGHBOUR: 'it returns false'. Refute it at one input. -/
def landedErrorsWrong : ChangeSpec := { name := "landedErrors", fn := fun _ => fun
  | [d1, d2] => { results := [.lit (.bool false)], args := [d1, d2] }
  | _ => none }
def LandedErrorsWrongFalsely : Prop := landedErrorsRow.holds Tryz.pinned (OpenSpec.ofChange landedErrorsWrong)

/- THE SECOND FORM. 'bulk': how many values and letters a reading holds, each counted each time it is reached (what is shared counts as often as it is met; a slice's spare places count too). A statement '..UptoSaid' is the law's where the arguments, and the package variables that the reading takes, are together of bulk at most 1048576: NARROWER than '..Said'. Prove '..Said' where nothing that the law and all that it calls make is longer than what came in: it says more and counts as full. Else prove '..UptoSaid'. A law counts once. -/
mutual
def uptoBulk {H : Type} : DataW H → Nat
  | .lit (.string bytes) => bytes.length + 1
  | .lit _ => 1
  | .nil => 1
  | .ptr d => uptoBulk d + 1
  | .slice elems spare => uptoBulkAll elems + uptoBulkAll spare + 1
  | .agg parts => uptoBulkAll parts + 1
  | .iface _ d => uptoBulk d + 1
  | .map entries => uptoBulkEntries entries + 1
  | .held _ => 1
def uptoBulkAll {H : Type} : List (DataW H) → Nat
  | [] => 0
  | d :: r => uptoBulk d + uptoBulkAll r
def uptoBulkEntries {H : Type} : List (Lit × DataW H) → Nat
  | [] => 0
  | x :: r => uptoBulkEntry x + uptoBulkEntries r
def uptoBulkEntry {H : Type} : Lit × DataW H → Nat
  | (.string bytes, d) => bytes.length + uptoBulk d + 1
  | (_, d) => uptoBulk d + 1
 end
def uptoSmall : (H : Type) → List (DataW H) → Bool := fun _ ds => decide (uptoBulkAll ds ≤ 1048576)
def OpenSpec.upto (s : _root_.Go.ChangeSpec) : _root_.Go.OpenSpec := { _root_.Go.OpenSpec.ofChange s with cond := some uptoSmall }

/-- 'purveyorlaw19.LandedSplit', WHERE WHAT IT READS IS OF BULK AT MOST 1048576: true; the input reads as it did. -/
def landedSplitUptoRow : OpenClaim := { program := "ytkojakidcjfiaaagreat", sum := "1ce6037bd1fe6cce39c10c26b6c271c12399da01eb99dbae54da33bdd90e4ae9", func := "purveyor/purveyorlaw19.LandedSplit", spec := "landedSplit", unfollowed := true, recurses := true, named := ["math/bits.divideError", "math/bits.overflowError"], apart := false, narrowed := true }
def LandedSplitUptoSaid : Prop := landedSplitUptoRow.holds Tryz.pinned (OpenSpec.upto landedSplitSpec)

/-- 'purveyorlaw19.LandedBases', WHERE WHAT IT READS IS OF BULK AT MOST 1048576: true; the input reads as it did. -/
def landedBasesUptoRow : OpenClaim := { program := "ytkojakidcjfiaaagreat", sum := "1ce6037bd1fe6cce39c10c26b6c271c12399da01eb99dbae54da33bdd90e4ae9", func := "purveyor/purveyorlaw19.LandedBases", spec := "landedBases", unfollowed := true, recurses := true, named := ["math/bits.divideError", "math/bits.overflowError"], apart := false, narrowed := true }
def LandedBasesUptoSaid : Prop := landedBasesUptoRow.holds Tryz.pinned (OpenSpec.upto landedBasesSpec)

/-- 'purveyorlaw19.LandedErrors', WHERE WHAT IT READS IS OF BULK AT MOST 1048576: true; the input reads as it did. -/
def landedErrorsUptoRow : OpenClaim := { program := "ytkojakidcjfiaaagreat", sum := "1ce6037bd1fe6cce39c10c26b6c271c12399da01eb99dbae54da33bdd90e4ae9", func := "purveyor/purveyorlaw19.LandedErrors", spec := "landedErrors", unfollowed := true, recurses := true, named := ["math/bits.divideError", "math/bits.overflowError"], apart := false, narrowed := true }
def LandedErrorsUptoSaid : Prop := landedErrorsUptoRow.holds Tryz.pinned (OpenSpec.upto landedErrorsSpec)

end Rows
end Go.Proofs.YtkojakidcjfiaaaGreat
