/-
  No cell of these rows narrows 'for every input' (looked for: loops, veiled, ifaces, maps, wideKeys, modest, calm, conditions, laid).
  DERIVED. THE GIVEN ROWS OF THIS SEAT. 4 by the template 'for every input the law returns true; each argument reads behind the call as it read before'; 0 by the template 'total and deterministic' (their statements: YtanmfhdljgphhaaTotals.lean).
  GIVEN WITH THE SEED: the statements are not yours to turn. If you find one false, say at which input.
  Laid BY PROGRAM, IN A SANDBOX (cutbox-rows.mjs): the forced cells as the released guide's own fill.sh prints them over the translation 549ef033bd2e3307… (all of the seat's roots in one cut). By AI agents, Wed Nov 11 2026. No macro, syntax, notation, axiom, sorry.
-/
import Derived.Test.YtanmfhdljgphhaaChecked
import GoSem.Claim
import GoSem.ClaimJoined
import GoSem.ClaimMapViews
import Derived.JoinedTies
import Derived.KernelRfl
namespace Go.Proofs.Ytanmfhdljgphhaa
/- THE CELL 'sum', in the pinned program and in every row, IS THE sha256 OF THE DUMP (.gsa) THAT YtanmfhdljgphhaaProg.lean LOADS. Nothing in Lean hashes anything: it is a label: what it is worth is what the hold of that sum in a sandbox is worth. -/
noncomputable def Try.pinned : Pinned := { name := "ytanmfhdljgphhaa", sum := "549ef033bd2e33071ed98362e15699c212e3f1bc8666b7e3a7075d36c870a1a5", checked := Try.checked }
namespace Rows
def none {H : Type} : Left H := { results := [], args := [] }

/-- 'purveyorlaw02.PartsAll': WHATEVER THE INPUT: true; the input reads as it did. -/
def partsAllSpec : ChangeSpec := { name := "partsAll", fn := fun _ => fun
  | [d1, d2] => { results := [.lit (.bool true)], args := [d1, d2] }
  | _ => none }
def partsAllRow : OpenClaim := { program := "ytanmfhdljgphhaa", sum := "549ef033bd2e33071ed98362e15699c212e3f1bc8666b7e3a7075d36c870a1a5", func := "purveyor/purveyorlaw02.PartsAll", spec := "partsAll", unfollowed := true, recurses := true, named := ["math/bits.divideError", "math/bits.overflowError"], apart := false }
def PartsAllSaid : Prop := partsAllRow.holds Try.pinned (OpenSpec.ofChange partsAllSpec)

/-- ITS FALSE NEIGHBOUR: 'it returns false'. Refute it at one input. -/
def partsAllWrong : ChangeSpec := { name := "partsAll", fn := fun _ => fun
  | [d1, d2] => { results := [.lit (.bool false)], args := [d1, d2] }
  | _ => none }
def PartsAllWrongFalsely : Prop := partsAllRow.holds Try.pinned (OpenSpec.ofChange partsAllWrong)

/-- 'purveyorlaw02.PartsFair': WHATEVER THE INPUT: true; the input reads as it did. -/
def partsFairSpec : ChangeSpec := { name := "partsFair", fn := fun _ => fun
  | [d1, d2] => { results := [.lit (.bool true)], args := [d1, d2] }
  | _ => none }
def partsFairRow : OpenClaim := { program := "ytanmfhdljgphhaa", sum := "549ef033bd2e33071ed98362e15699c212e3f1bc8666b7e3a7075d36c870a1a5", func := "purveyor/purveyorlaw02.PartsFair", spec := "partsFair", unfollowed := true, recurses := true, named := ["math/bits.divideError", "math/bits.overflowError"], apart := false }
def PartsFairSaid : Prop := partsFairRow.holds Try.pinned (OpenSpec.ofChange partsFairSpec)

/-- ITS FALSE NEIGHBOUR: 'it returns false'. Refute it at one input. -/
def partsFairWrong : ChangeSpec := { name := "partsFair", fn := fun _ => fun
  | [d1, d2] => { results := [.lit (.bool false)], args := [d1, d2] }
  | _ => none }
def PartsFairWrongFalsely : Prop := partsFairRow.holds Try.pinned (OpenSpec.ofChange partsFairWrong)

/-- 'purveyorlaw02.PartsEven': WHATEVER THE INPUT: true; the input reads as it did. -/
def partsEvenSpec : ChangeSpec := { name := "partsEven", fn := fun _ => fun
  | [d1, d2] => { results := [.lit (.bool true)], args := [d1, d2] }
  | _ => none }
def partsEvenRow : OpenClaim := { program := "ytanmfhdljgphhaa", sum := "549ef033bd2e33071ed98362e15699c212e3f1bc8666b7e3a7075d36c870a1a5", func := "purveyor/purveyorlaw02.PartsEven", spec := "partsEven", unfollowed := true, recurses := true, named := ["math/bits.divideError", "math/bits.overflowError"], apart := false }
def PartsEvenSaid : Prop := partsEvenRow.holds Try.pinned (OpenSpec.ofChange partsEvenSpec)

/-- ITS FALSE NEIGHBOUR: 'it returns false'. Refute it at one input. -/
def partsEvenWrong : ChangeSpec := { name := "partsEven", fn := fun _ => fun
  | [d1, d2] => { results := [.lit (.bool false)], args := [d1, d2] }
  | _ => none }
def PartsEvenWrongFalsely : Prop := partsEvenRow.holds Try.pinned (OpenSpec.ofChange partsEvenWrong)

/-- 'purveyorlaw02.PartsWrong': WHATEVER THE INPUT: true; the input reads as it did. -/
def partsWrongSpec : ChangeSpec := { name := "partsWrong", fn := fun _ => fun
  | [d1, d2] => { results := [.lit (.bool true)], args := [d1, d2] }
  | _ => none }
def partsWrongRow : OpenClaim := { program := "ytanmfhdljgphhaa", sum := "549ef033bd2e33071ed98362e15699c212e3f1bc8666b7e3a7075d36c870a1a5", func := "purveyor/purveyorlaw02.PartsWrong", spec := "partsWrong", unfollowed := true, recurses := true, named := ["math/bits.divideError", "math/bits.overflowError"], apart := false }
def PartsWrongSaid : Prop := partsWrongRow.holds Try.pinned (OpenSpec.ofChange partsWrongSpec)

/-- ITS FALSE NEIGHBOUR: 'it returns false'. Refute it at one input. -/
def partsWrongWrong : ChangeSpec := { name := "partsWrong", fn := fun _ => fun
  | [d1, d2] => { results := [.lit (.bool false)], args := [d1, d2] }
  | _ => none }
def PartsWrongWrongFalsely : Prop := partsWrongRow.holds Try.pinned (OpenSpec.ofChange partsWrongWrong)

/- THE SECOND FORM. 'bulk': how many values and letters a reading holds, each counted each time it is reached (what is shared counts as often as it is met; a slice's spare places count too). A statement '..UptoSaid' is the law's where the arguments, and the package variables that the reading takes, are together of bulk at most 1048576: NARROWER than '..Said'. Prove '..Said' where nothing that the law and all that it calls make is longer than what came in: it says more and counts as full. Else prove '..UptoSaid'. A law counts once. -/
mutual
def uptoBulk {H : Type} : DataW H → Nat
  | .lit (.string bytes) => bytes.length + 1
  | .lit _ => 1
  | .nil => 1
  | .ptr d => uptoBulk d + 1
  | .slice elems spare => uptoBulkAll elems + uptoBulkAll spare + 1
  | .agg parts => uptoBulkAll parts + 1
  | .iface _ d => uptoBulk d + 1
  | .map entries => uptoBulkEntries entries + 1
  | .held _ => 1
def uptoBulkAll {H : Type} : List (DataW H) → Nat
  | [] => 0
  | d :: r => uptoBulk d + uptoBulkAll r
def uptoBulkEntries {H : Type} : List (Lit × DataW H) → Nat
  | [] => 0
  | x :: r => uptoBulkEntry x + uptoBulkEntries r
def uptoBulkEntry {H : Type} : Lit × DataW H → Nat
  | (.string bytes, d) => bytes.length + uptoBulk d + 1
  | (_, d) => uptoBulk d + 1
 end
def uptoSmall : (H : Type) → List (DataW H) → Bool := fun _ ds => decide (uptoBulkAll ds ≤ 1048576)
def OpenSpec.upto (s : _root_.Go.ChangeSpec) : _root_.Go.OpenSpec := { _root_.Go.OpenSpec.ofChange s with cond := some uptoSmall }

/-- 'purveyorlaw02.PartsAll', WHERE WHAT IT READS IS OF BULK AT MOST 1048576: true; the input reads as it did. -/
def partsAllUptoRow : OpenClaim := { program := "ytanmfhdljgphhaa", sum := "549ef033bd2e33071ed98362e15699c212e3f1bc8666b7e3a7075d36c870a1a5", func := "purveyor/purveyorlaw02.PartsAll", spec := "partsAll", unfollowed := true, recurses := true, named := ["math/bits.divideError", "math/bits.overflowError"], apart := false, narrowed := true }
def PartsAllUptoSaid : Prop := partsAllUptoRow.holds Try.pinned (OpenSpec.upto partsAllSpec)

/-- 'purveyorlaw02.PartsFair', WHERE WHAT IT READS IS OF BULK AT MOST 1048576: true; the input reads as it did. -/
def partsFairUptoRow : OpenClaim := { program := "ytanmfhdljgphhaa", sum := "549ef033bd2e33071ed98362e15699c212e3f1bc8666b7e3a7075d36c870a1a5", func := "purveyor/purveyorlaw02.PartsFair", spec := "partsFair", unfollowed := true, recurses := true, named := ["math/bits.divideError", "math/bits.overflowError"], apart := false, narrowed := true }
def PartsFairUptoSaid : Prop := partsFairUptoRow.holds Try.pinned (OpenSpec.upto partsFairSpec)

/-- 'purveyorlaw02.PartsEven', WHERE WHAT IT READS IS OF BULK AT MOST 1048576: true; the input reads as it did. -/
def partsEvenUptoRow : OpenClaim := { program := "ytanmfhdljgphhaa", sum := "549ef033bd2e33071ed98362e15699c212e3f1bc8666b7e3a7075d36c870a1a5", func := "purveyor/purveyorlaw02.PartsEven", spec := "partsEven", unfollowed := true, recurses := true, named := ["math/bits.divideError", "math/bits.overflowError"], apart := false, narrowed := true }
def PartsEvenUptoSaid : Prop := partsEvenUptoRow.holds Try.pinned (OpenSpec.upto partsEvenSpec)

/-- 'purveyorlaw02.PartsWrong', WHERE WHAT IT READS IS OF BULK AT MOST 1048576: true; the input reads as it did. -/
def partsWrongUptoRow : OpenClaim := { program := "ytanmfhdljgphhaa", sum := "549ef033bd2e33071ed98362e15699c212e3f1bc8666b7e3a7075d36c870a1a5", func := "purveyor/purveyorlaw02.PartsWrong", spec := "partsWrong", unfollowed := true, recurses := true, named := ["math/bits.divideError", "math/bits.overflowError"], apart := false, narrowed := true }
def PartsWrongUptoSaid : Prop := partsWrongUptoRow.holds Try.pinned (OpenSpec.upto partsWrongSpec)

end Rows
end Go.Proofs.Ytanmfhdljgphhaa
