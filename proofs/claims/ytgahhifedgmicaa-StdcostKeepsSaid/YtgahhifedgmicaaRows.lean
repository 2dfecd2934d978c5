/-
  No cell of these rows narrows 'for every input' (looked for: loops, veiled, ifaces, maps, wideKeys, modest, calm, conditions, laid).
  DERIVED. THE GIVEN ROWS OF THIS SEAT. 6 by the template 'for every input the law returns true; each argument reads behind the call as it read before'; 0 by the template 'total and deterministic' (their statements: YtgahhifedgmicaaTotals.lean).
  GIVEN WITH THE SEED: the statements are not yours to turn. If you find one false, say at which input.
  Laid BY PROGRAM, IN A SANDBOX (cutbox-rows.mjs): the forced cells as the released guide's own fill.sh prints them over the translation 3dc88bc22d16f45a… (all of the seat's roots in one cut). By AI agents, Wed Nov 11 2026. No macro, syntax, notation, axiom, sorry.
-/
import Derived.Test.YtgahhifedgmicaaChecked
import GoSem.Claim
import GoSem.ClaimJoined
import GoSem.ClaimMapViews
import Derived.JoinedTies
import Derived.KernelRfl
namespace Go.Proofs.Ytgahhifedgmicaa
/- THE CELL 'sum', in the pinned program and in every row, IS THE sha256 OF THE DUMP (.gsa) THAT YtgahhifedgmicaaProg.lean LOADS. Nothing in Lean hashes anything: it is a label: what it is worth is what the hold of that sum in a sandbox is worth. -/
noncomputable def Try.pinned : Pinned := { name := "ytgahhifedgmicaa", sum := "3dc88bc22d16f45a6c23b9552eb1891de039ce5d5371d391ddf06ee39cc93ea0", checked := Try.checked }
namespace Rows
def none {H : Type} : Left H := { results := [], args := [] }

/-- 'purveyorlaw10.MavgAll': WHATEVER THE INPUT: true; the input reads as it did. -/
def mavgAllSpec : ChangeSpec := { name := "mavgAll", fn := fun _ => fun
  | [d1, d2, d3] => { results := [.lit (.bool true)], args := [d1, d2, d3] }
  | _ => none }
def mavgAllRow : OpenClaim := { program := "ytgahhifedgmicaa", sum := "3dc88bc22d16f45a6c23b9552eb1891de039ce5d5371d391ddf06ee39cc93ea0", func := "purveyor/purveyorlaw10.MavgAll", spec := "mavgAll", unfollowed := true, recurses := true, named := ["math/bits.divideError", "math/bits.overflowError"], apart := false }
def MavgAllSaid : Prop := mavgAllRow.holds Try.pinned (OpenSpec.ofChange mavgAllSpec)

/-- ITS FALSE NEIGHBOUR: 'it returns false'. Refute it at one input. -/
def mavgAllWrong : ChangeSpec := { name := "mavgAll", fn := fun _ => fun
  | [d1, d2, d3] => { results := [.lit (.bool false)], args := [d1, d2, d3] }
  | _ => none }
def MavgAllWrongFalsely : Prop := mavgAllRow.holds Try.pinned (OpenSpec.ofChange mavgAllWrong)

/-- 'purveyorlaw10.MavgPlays': WHATEVER THE INPUT: true; the input reads as it did. -/
def mavgPlaysSpec : ChangeSpec := { name := "mavgPlays", fn := fun _ => fun
  | [d] => { results := [.lit (.bool true)], args := [d] }
  | _ => none }
def mavgPlaysRow : OpenClaim := { program := "ytgahhifedgmicaa", sum := "3dc88bc22d16f45a6c23b9552eb1891de039ce5d5371d391ddf06ee39cc93ea0", func := "purveyor/purveyorlaw10.MavgPlays", spec := "mavgPlays", unfollowed := true, recurses := true, named := ["math/bits.divideError", "math/bits.overflowError"], apart := false }
def MavgPlaysSaid : Prop := mavgPlaysRow.holds Try.pinned (OpenSpec.ofChange mavgPlaysSpec)

/-- ITS FALSE NEIGHBOUR: 'it returns false'. Refute it at one input. -/
def mavgPlaysWrong : ChangeSpec := { name := "mavgPlays", fn := fun _ => fun
  | [d] => { results := [.lit (.bool false)], args := [d] }
  | _ => none }
def MavgPlaysWrongFalsely : Prop := mavgPlaysRow.holds Try.pinned (OpenSpec.ofChange mavgPlaysWrong)

/-- 'purveyorlaw10.MavgAverage': WHATEVER THE INPUT: true; the input reads as it did. -/
def mavgAverageSpec : ChangeSpec := { name := "mavgAverage", fn := fun _ => fun
  | [d1, d2] => { results := [.lit (.bool true)], args := [d1, d2] }
  | _ => none }
def mavgAverageRow : OpenClaim := { program := "ytgahhifedgmicaa", sum := "3dc88bc22d16f45a6c23b9552eb1891de039ce5d5371d391ddf06ee39cc93ea0", func := "purveyor/purveyorlaw10.MavgAverage", spec := "mavgAverage", unfollowed := true, recurses := true, named := ["math/bits.divideError", "math/bits.overflowError"], apart := false }
def MavgAverageSaid : Prop := mavgAverageRow.holds Try.pinned (OpenSpec.ofChange mavgAverageSpec)

/-- ITS FALSE NEIGHBOUR: 'it returns false'. Refute it at one input. -/
def mavgAverageWrong : ChangeSpec := { name := "mavgAverage", fn := fun _ => fun
  | [d1, d2] => { results := [.lit (.bool false)], args := [d1, d2] }
  | _ => none }
def MavgAverageWrongFalsely : Prop := mavgAverageRow.holds Try.pinned (OpenSpec.ofChange mavgAverageWrong)

/-- 'purveyorlaw10.MavgMixes': WHATEVER THE INPUT: true; the input reads as it did. -/
def mavgMixesSpec : ChangeSpec := { name := "mavgMixes", fn := fun _ => fun
  | [d1, d2, d3, d4, d5] => { results := [.lit (.bool true)], args := [d1, d2, d3, d4, d5] }
  | _ => none }
def mavgMixesRow : OpenClaim := { program := "ytgahhifedgmicaa", sum := "3dc88bc22d16f45a6c23b9552eb1891de039ce5d5371d391ddf06ee39cc93ea0", func := "purveyor/purveyorlaw10.MavgMixes", spec := "mavgMixes", unfollowed := true, recurses := true, named := ["math/bits.divideError", "math/bits.overflowError"], apart := false }
def MavgMixesSaid : Prop := mavgMixesRow.holds Try.pinned (OpenSpec.ofChange mavgMixesSpec)

/-- ITS FALSE NEIGHBOUR: 'it returns false'. Refute it at one input. -/
def mavgMixesWrong : ChangeSpec := { name := "mavgMixes", fn := fun _ => fun
  | [d1, d2, d3, d4, d5] => { results := [.lit (.bool false)], args := [d1, d2, d3, d4, d5] }
  | _ => none }
def MavgMixesWrongFalsely : Prop := mavgMixesRow.holds Try.pinned (OpenSpec.ofChange mavgMixesWrong)

/-- 'purveyorlaw12.StdcostKeeps': WHATEVER THE INPUT: true; the input reads as it did. -/
def stdcostKeepsSpec : ChangeSpec := { name := "stdcostKeeps", fn := fun _ => fun
  | [d1, d2] => { results := [.lit (.bool true)], args := [d1, d2] }
  | _ => none }
def stdcostKeepsRow : OpenClaim := { program := "ytgahhifedgmicaa", sum := "3dc88bc22d16f45a6c23b9552eb1891de039ce5d5371d391ddf06ee39cc93ea0", func := "purveyor/purveyorlaw12.StdcostKeeps", spec := "stdcostKeeps", unfollowed := true, recurses := true, named := ["math/bits.divideError", "math/bits.overflowError"], apart := false }
def StdcostKeepsSaid : Prop := stdcostKeepsRow.holds Try.pinned (OpenSpec.ofChange stdcostKeepsSpec)

/-- ITS FALSE NEIGHBOUR: 'it returns false'. Refute it at one input. -/
def stdcostKeepsWrong : ChangeSpec := { name := "stdcostKeeps", fn := fun _ => fun
  | [d1, d2] => { results := [.lit (.bool false)], args := [d1, d2] }
  | _ => none }
def StdcostKeepsWrongFalsely : Prop := stdcostKeepsRow.holds Try.pinned (OpenSpec.ofChange stdcostKeepsWrong)

/-- 'purveyorlaw12.StdcostWrong': WHATEVER THE INPUT: true; the input reads as it did. -/
def stdcostWrongSpec : ChangeSpec := { name := "stdcostWrong", fn := fun _ => fun
  | [d1, d2] => { results := [.lit (.bool true)], args := [d1, d2] }
  | _ => none }
def stdcostWrongRow : OpenClaim := { program := "ytgahhifedgmicaa", sum := "3dc88bc22d16f45a6c23b9552eb1891de039ce5d5371d391ddf06ee39cc93ea0", func := "purveyor/purveyorlaw12.StdcostWrong", spec := "stdcostWrong", unfollowed := true, recurses := true, named := ["math/bits.divideError", "math/bits.overflowError"], apart := false }
def StdcostWrongSaid : Prop := stdcostWrongRow.holds Try.pinned (OpenSpec.ofChange stdcostWrongSpec)

/-- ITS FALSE NEIGHBOUR: 'it returns false'. Refute it at one input. -/
def stdcostWrongWrong : ChangeSpec := { name := "stdcostWrong", fn := fun _ => fun
  | [d1, d2] => { results := [.lit (.bool false)], args := [d1, d2] }
  | _ => none }
def StdcostWrongWrongFalsely : Prop := stdcostWrongRow.holds Try.pinned (OpenSpec.ofChange stdcostWrongWrong)

/- THE SECOND FORM. 'bulk': how many values and letters a reading holds, each counted each time it is reached (what is shared counts as often as it is met; a slice's spare places count too). A statement '..UptoSaid' is the law's where the arguments, and the package variables that the reading takes, are together of bulk at most 1048576: NARROWER than '..Said'. Prove '..Said' where nothing that the law and all that it calls make is longer than what came in: it says more and counts as full. Else prove '..UptoSaid'. A law counts once. -/
mutual
def uptoBulk {H : Type} : DataW H → Nat
  | .lit (.string bytes) => bytes.length + 1
  | .lit _ => 1
  | .nil => 1
  | .ptr d => uptoBulk d + 1
  | .slice elems spare => uptoBulkAll elems + uptoBulkAll spare + 1
  | .agg parts => uptoBulkAll parts + 1
  | .iface _ d => uptoBulk d + 1
  | .map entries => uptoBulkEntries entries + 1
  | .held _ => 1
def uptoBulkAll {H : Type} : List (DataW H) → Nat
  | [] => 0
  | d :: r => uptoBulk d + uptoBulkAll r
def uptoBulkEntries {H : Type} : List (Lit × DataW H) → Nat
  | [] => 0
  | x :: r => uptoBulkEntry x + uptoBulkEntries r
def uptoBulkEntry {H : Type} : Lit × DataW H → Nat
  | (.string bytes, d) => bytes.length + uptoBulk d + 1
  | (_, d) => uptoBulk d + 1
 end
def uptoSmall : (H : Type) → List (DataW H) → Bool := fun _ ds => decide (uptoBulkAll ds ≤ 1048576)
def OpenSpec.upto (s : _root_.Go.ChangeSpec) : _root_.Go.OpenSpec := { _root_.Go.OpenSpec.ofChange s with cond := some uptoSmall }

/-- 'purveyorlaw10.MavgAll', WHERE WHAT IT READS IS OF BULK AT MOST 1048576: true; the input reads as it did. -/
def mavgAllUptoRow : OpenClaim := { program := "ytgahhifedgmicaa", sum := "3dc88bc22d16f45a6c23b9552eb1891de039ce5d5371d391ddf06ee39cc93ea0", func := "purveyor/purveyorlaw10.MavgAll", spec := "mavgAll", unfollowed := true, recurses := true, named := ["math/bits.divideError", "math/bits.overflowError"], apart := false, narrowed := true }
def MavgAllUptoSaid : Prop := mavgAllUptoRow.holds Try.pinned (OpenSpec.upto mavgAllSpec)

/-- 'purveyorlaw10.MavgPlays', WHERE WHAT IT READS IS OF BULK AT MOST 1048576: true; the input reads as it did. -/
def mavgPlaysUptoRow : OpenClaim := { program := "ytgahhifedgmicaa", sum := "3dc88bc22d16f45a6c23b9552eb1891de039ce5d5371d391ddf06ee39cc93ea0", func := "purveyor/purveyorlaw10.MavgPlays", spec := "mavgPlays", unfollowed := true, recurses := true, named := ["math/bits.divideError", "math/bits.overflowError"], apart := false, narrowed := true }
def MavgPlaysUptoSaid : Prop := mavgPlaysUptoRow.holds Try.pinned (OpenSpec.upto mavgPlaysSpec)

/-- 'purveyorlaw10.MavgAverage', WHERE WHAT IT READS IS OF BULK AT MOST 1048576: true; the input reads as it did. -/
def mavgAverageUptoRow : OpenClaim := { program := "ytgahhifedgmicaa", sum := "3dc88bc22d16f45a6c23b9552eb1891de039ce5d5371d391ddf06ee39cc93ea0", func := "purveyor/purveyorlaw10.MavgAverage", spec := "mavgAverage", unfollowed := true, recurses := true, named := ["math/bits.divideError", "math/bits.overflowError"], apart := false, narrowed := true }
def MavgAverageUptoSaid : Prop := mavgAverageUptoRow.holds Try.pinned (OpenSpec.upto mavgAverageSpec)

/-- 'purveyorlaw10.MavgMixes', WHERE WHAT IT READS IS OF BULK AT MOST 1048576: true; the input reads as it did. -/
def mavgMixesUptoRow : OpenClaim := { program := "ytgahhifedgmicaa", sum := "3dc88bc22d16f45a6c23b9552eb1891de039ce5d5371d391ddf06ee39cc93ea0", func := "purveyor/purveyorlaw10.MavgMixes", spec := "mavgMixes", unfollowed := true, recurses := true, named := ["math/bits.divideError", "math/bits.overflowError"], apart := false, narrowed := true }
def MavgMixesUptoSaid : Prop := mavgMixesUptoRow.holds Try.pinned (OpenSpec.upto mavgMixesSpec)

/-- 'purveyorlaw12.StdcostKeeps', WHERE WHAT IT READS IS OF BULK AT MOST 1048576: true; the input reads as it did. -/
def stdcostKeepsUptoRow : OpenClaim := { program := "ytgahhifedgmicaa", sum := "3dc88bc22d16f45a6c23b9552eb1891de039ce5d5371d391ddf06ee39cc93ea0", func := "purveyor/purveyorlaw12.StdcostKeeps", spec := "stdcostKeeps", unfollowed := true, recurses := true, named := ["math/bits.divideError", "math/bits.overflowError"], apart := false, narrowed := true }
def StdcostKeepsUptoSaid : Prop := stdcostKeepsUptoRow.holds Try.pinned (OpenSpec.upto stdcostKeepsSpec)

/-- 'purveyorlaw12.StdcostWrong', WHERE WHAT IT READS IS OF BULK AT MOST 1048576: true; the input reads as it did. -/
def stdcostWrongUptoRow : OpenClaim := { program := "ytgahhifedgmicaa", sum := "3dc88bc22d16f45a6c23b9552eb1891de039ce5d5371d391ddf06ee39cc93ea0", func := "purveyor/purveyorlaw12.StdcostWrong", spec := "stdcostWrong", unfollowed := true, recurses := true, named := ["math/bits.divideError", "math/bits.overflowError"], apart := false, narrowed := true }
def StdcostWrongUptoSaid : Prop := stdcostWrongUptoRow.holds Try.pinned (OpenSpec.upto stdcostWrongSpec)

end Rows
end Go.Proofs.Ytgahhifedgmicaa
