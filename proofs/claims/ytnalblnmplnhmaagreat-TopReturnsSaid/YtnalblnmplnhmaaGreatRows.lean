/-
  No cell of these rows narrows 'for every input' (looked for: loops, veiled, ifaces, maps, wideKeys, modest, calm, conditions, laid).
  DERIVED. THE GIVEN ROWS OF THIS SEAT. 5 by the template 'for every input the law returns true; each argument reads behind the call as it read before'; 0 by the template 'total and deterministic' (their statements: YtnalblnmplnhmaaGreatTotals.lean).
  GIVEN WITH THE SEED: the statements are not yours to turn. If you find one false, say at which input.
  Laid BY PROGRAM, IN A SANDBOX (cutbox-rows.mjs): the forced cells as the released guide's own fill.sh prints them over the translation 9841d317afcfd908… (all of the seat's roots in one cut). By AI agents, Wed Nov 11 2026. No macro, syntax, notation, axiom, sorry.
-/
import Derived.Test.YtnalblnmplnhmaaGreatChecked
import GoSem.Claim
import GoSem.ClaimJoined
import GoSem.ClaimMapViews
import Derived.JoinedTies
import Derived.KernelRfl
namespace Go.Proofs.YtnalblnmplnhmaaGreat
/- THE CELL 'sum', in the pinned program and in every row, IS THE sha256 OF THE DUMP (.gsa) THAT YtnalblnmplnhmaaGreatProg.lean LOADS. Nothing in Lean hashes anything: it is a label: what it is worth is what the hold of that sum in a sandbox is worth. -/
noncomputable def Tryz.pinned : Pinned := { name := "ytnalblnmplnhmaagreat", sum := "9841d317afcfd908e18a11c791fa98a982020a33971cbf912f199a0b1fe3b45d", checked := Tryz.checked }
namespace Rows
def none {H : Type} : Left H := { results := [], args := [] }

/-- 'purveyortop.TopShares': WHATEVER THE INPUT: true; the input reads as it did. -/
def topSharesSpec : ChangeSpec := { name := "topShares", fn := fun _ => fun
  | [d1, d2, d3, d4] => { results := [.lit (.bool true)], args := [d1, d2, d3, d4] }
  | _ => none }
def topSharesRow : OpenClaim := { program := "ytnalblnmplnhmaagreat", sum := "9841d317afcfd908e18a11c791fa98a982020a33971cbf912f199a0b1fe3b45d", func := "purveyor/purveyortop.TopShares", spec := "topShares", inPlace := ["internal/bytealg.IndexByteString", "internal/bytealg.IndexString"], unfollowed := true, recurses := true, named := ["math/bits.divideError", "math/bits.overflowError", "internal/bytealg.MaxLen"], apart := false }
def TopSharesSaid : Prop := topSharesRow.holds Tryz.pinned (OpenSpec.ofChange topSharesSpec)

/-- ITS FALSE NEIGHBOUR: 'it returns false'. Refute it at one input. -/
def topSharesWrong : ChangeSpec := { name := "topShares", fn := fun _ => fun
  | [d1, d2, d3, d4] => { results := [.lit (.bool false)], args := [d1, d2, d3, d4] }
  | _ => none }
def TopSharesWrongFalsely : Prop := topSharesRow.holds Tryz.pinned (OpenSpec.ofChange topSharesWrong)

/-- 'purveyortop.TopReturns': WHATEVER THE INPUT: true; the input reads as it did. -/
def topReturnsSpec : ChangeSpec := { name := "topReturns", fn := fun _ => fun
  | [d1, d2, d3] => { results := [.lit (.bool true)], args := [d1, d2, d3] }
  | _ => none }
def topReturnsRow : OpenClaim := { program := "ytnalblnmplnhmaagreat", sum := "9841d317afcfd908e18a11c791fa98a982020a33971cbf912f199a0b1fe3b45d", func := "purveyor/purveyortop.TopReturns", spec := "topReturns", inPlace := ["internal/bytealg.IndexByteString", "internal/bytealg.IndexString"], unfollowed := true, recurses := true, named := ["math/bits.divideError", "math/bits.overflowError", "internal/bytealg.MaxLen"], apart := false }
def TopReturnsSaid : Prop := topReturnsRow.holds Tryz.pinned (OpenSpec.ofChange topReturnsSpec)

/-- ITS FALSE NEIGHBOUR: 'it returns false'. Refute it at one input. -/
def topReturnsWrong : ChangeSpec := { name := "topReturns", fn := fun _ => fun
  | [d1, d2, d3] => { results := [.lit (.bool false)], args := [d1, d2, d3] }
  | _ => none }
def TopReturnsWrongFalsely : Prop := topReturnsRow.holds Tryz.pinned (OpenSpec.ofChange topReturnsWrong)

/-- 'purveyortop.TopMoves': WHATEVER THE INPUT: true; the input reads as it did. -/
def topMovesSpec : ChangeSpec := { name := "topMoves", fn := fun _ => fun
  | [d1, d2] => { results := [.lit (.bool true)], args := [d1, d2] }
  | _ => none }
def topMovesRow : OpenClaim := { program := "ytnalblnmplnhmaagreat", sum := "9841d317afcfd908e18a11c791fa98a982020a33971cbf912f199a0b1fe3b45d", func := "purveyor/purveyortop.TopMoves", spec := "topMoves", inPlace := ["internal/bytealg.IndexByteString", "internal/bytealg.IndexString"], unfollowed := true, recurses := true, named := ["math/bits.divideError", "math/bits.overflowError", "internal/bytealg.MaxLen"], apart := false }
def TopMovesSaid : Prop := topMovesRow.holds Tryz.pinned (OpenSpec.ofChange topMovesSpec)

/-- ITS FALSE NEIGHBOUR: 'it returns false'. Refute it at one input. -/
def topMovesWrong : ChangeSpec := { name := "topMoves", fn := fun _ => fun
  | [d1, d2] => { results := [.lit (.bool false)], args := [d1, d2] }
  | _ => none }
def TopMovesWrongFalsely : Prop := topMovesRow.holds Tryz.pinned (OpenSpec.ofChange topMovesWrong)

/-- 'purveyortop.TopOwed': WHATEVER THE INPUT: true; the input reads as it did. -/
def topOwedSpec : ChangeSpec := { name := "topOwed", fn := fun _ => fun
  | [d1, d2] => { results := [.lit (.bool true)], args := [d1, d2] }
  | _ => none }
def topOwedRow : OpenClaim := { program := "ytnalblnmplnhmaagreat", sum := "9841d317afcfd908e18a11c791fa98a982020a33971cbf912f199a0b1fe3b45d", func := "purveyor/purveyortop.TopOwed", spec := "topOwed", inPlace := ["internal/bytealg.IndexByteString", "internal/bytealg.IndexString"], unfollowed := true, recurses := true, named := ["math/bits.divideError", "math/bits.overflowError", "internal/bytealg.MaxLen"], apart := false }
def TopOwedSaid : Prop := topOwedRow.holds Tryz.pinned (OpenSpec.ofChange topOwedSpec)

/-- ITS FALSE NEIGHBOUR: 'it returns false'. Refute it at one input. -/
def topOwedWrong : ChangeSpec := { name := "topOwed", fn := fun _ => fun
  | [d1, d2] => { results := [.lit (.bool false)], args := [d1, d2] }
  | _ => none }
def TopOwedWrongFalsely : Prop := topOwedRow.holds Tryz.pinned (OpenSpec.ofChange topOwedWrong)

/-- 'purveyortop.TopStandard': WHATEVER THE INPUT: true; the input reads as it did. -/
def topStandardSpec : ChangeSpec := { name := "topStandard", fn := fun _ => fun
  | [d] => { results := [.lit (.bool true)], args := [d] }
  | _ => none }
def topStandardRow : OpenClaim := { program := "ytnalblnmplnhmaagreat", sum := "9841d317afcfd908e18a11c791fa98a982020a33971cbf912f199a0b1fe3b45d", func := "purveyor/purveyortop.TopStandard", spec := "topStandard", inPlace := ["internal/bytealg.IndexByteString", "internal/bytealg.IndexString"], unfollowed := true, recurses := true, named := ["math/bits.divideError", "math/bits.overflowError", "internal/bytealg.MaxLen"], apart := false }
def TopStandardSaid : Prop := topStandardRow.holds Tryz.pinned (OpenSpec.ofChange topStandardSpec)

/-- ITS FALSE NEIGHBOUR: 'it returns false'. Refute it at one input. -/
def topStandardWrong : ChangeSpec := { name := "topStandard", fn := fun _ => fun
  | [d] => { results := [.lit (.bool false)], args := [d] }
  | _ => none }
def TopStandardWrongFalsely : Prop := topStandardRow.holds Tryz.pinned (OpenSpec.ofChange topStandardWrong)

/- THE SECOND FORM. 'bulk': how many values and letters a reading holds, each counted each time it is reached (what is shared counts as often as it is met; a slice's spare places count too). A statement '..UptoSaid' is the law's where the arguments, and the package variables that the reading takes, are together of bulk at most 1048576: NARROWER than '..Said'. Prove '..Said' where nothing that the law and all that it calls make is longer than what came in: it says more and counts as full. Else prove '..UptoSaid'. A law counts once. -/
mutual
def uptoBulk {H : Type} : DataW H → Nat
  | .lit (.string bytes) => bytes.length + 1
  | .lit _ => 1
  | .nil => 1
  | .ptr d => uptoBulk d + 1
  | .slice elems spare => uptoBulkAll elems + uptoBulkAll spare + 1
  | .agg parts => uptoBulkAll parts + 1
  | .iface _ d => uptoBulk d + 1
  | .map entries => uptoBulkEntries entries + 1
  | .held _ => 1
def uptoBulkAll {H : Type} : List (DataW H) → Nat
  | [] => 0
  | d :: r => uptoBulk d + uptoBulkAll r
def uptoBulkEntries {H : Type} : List (Lit × DataW H) → Nat
  | [] => 0
  | x :: r => uptoBulkEntry x + uptoBulkEntries r
def uptoBulkEntry {H : Type} : Lit × DataW H → Nat
  | (.string bytes, d) => bytes.length + uptoBulk d + 1
  | (_, d) => uptoBulk d + 1
 end
def uptoSmall : (H : Type) → List (DataW H) → Bool := fun _ ds => decide (uptoBulkAll ds ≤ 1048576)
def OpenSpec.upto (s : _root_.Go.ChangeSpec) : _root_.Go.OpenSpec := { _root_.Go.OpenSpec.ofChange s with cond := some uptoSmall }

/-- 'purveyortop.TopShares', WHERE WHAT IT READS IS OF BULK AT MOST 1048576: true; the input reads as it did. -/
def topSharesUptoRow : OpenClaim := { program := "ytnalblnmplnhmaagreat", sum := "9841d317afcfd908e18a11c791fa98a982020a33971cbf912f199a0b1fe3b45d", func := "purveyor/purveyortop.TopShares", spec := "topShares", inPlace := ["internal/bytealg.IndexByteString", "internal/bytealg.IndexString"], unfollowed := true, recurses := true, named := ["math/bits.divideError", "math/bits.overflowError", "internal/bytealg.MaxLen"], apart := false, narrowed := true }
def TopSharesUptoSaid : Prop := topSharesUptoRow.holds Tryz.pinned (OpenSpec.upto topSharesSpec)

/-- 'purveyortop.TopReturns', WHERE WHAT IT READS IS OF BULK AT MOST 1048576: true; the input reads as it did. -/
def topReturnsUptoRow : OpenClaim := { program := "ytnalblnmplnhmaagreat", sum := "9841d317afcfd908e18a11c791fa98a982020a33971cbf912f199a0b1fe3b45d", func := "purveyor/purveyortop.TopReturns", spec := "topReturns", inPlace := ["internal/bytealg.IndexByteString", "internal/bytealg.IndexString"], unfollowed := true, recurses := true, named := ["math/bits.divideError", "math/bits.overflowError", "internal/bytealg.MaxLen"], apart := false, narrowed := true }
def TopReturnsUptoSaid : Prop := topReturnsUptoRow.holds Tryz.pinned (OpenSpec.upto topReturnsSpec)

/-- 'purveyortop.TopMoves', WHERE WHAT IT READS IS OF BULK AT MOST 1048576: true; the input reads as it did. -/
def topMovesUptoRow : OpenClaim := { program := "ytnalblnmplnhmaagreat", sum := "9841d317afcfd908e18a11c791fa98a982020a33971cbf912f199a0b1fe3b45d", func := "purveyor/purveyortop.TopMoves", spec := "topMoves", inPlace := ["internal/bytealg.IndexByteString", "internal/bytealg.IndexString"], unfollowed := true, recurses := true, named := ["math/bits.divideError", "math/bits.overflowError", "internal/bytealg.MaxLen"], apart := false, narrowed := true }
def TopMovesUptoSaid : Prop := topMovesUptoRow.holds Tryz.pinned (OpenSpec.upto topMovesSpec)

/-- 'purveyortop.TopOwed', WHERE WHAT IT READS IS OF BULK AT MOST 1048576: true; the input reads as it did. -/
def topOwedUptoRow : OpenClaim := { program := "ytnalblnmplnhmaagreat", sum := "9841d317afcfd908e18a11c791fa98a982020a33971cbf912f199a0b1fe3b45d", func := "purveyor/purveyortop.TopOwed", spec := "topOwed", inPlace := ["internal/bytealg.IndexByteString", "internal/bytealg.IndexString"], unfollowed := true, recurses := true, named := ["math/bits.divideError", "math/bits.overflowError", "internal/bytealg.MaxLen"], apart := false, narrowed := true }
def TopOwedUptoSaid : Prop := topOwedUptoRow.holds Tryz.pinned (OpenSpec.upto topOwedSpec)

/-- 'purveyortop.TopStandard', WHERE WHAT IT READS IS OF BULK AT MOST 1048576: true; the input reads as it did. -/
def topStandardUptoRow : OpenClaim := { program := "ytnalblnmplnhmaagreat", sum := "9841d317afcfd908e18a11c791fa98a982020a33971cbf912f199a0b1fe3b45d", func := "purveyor/purveyortop.TopStandard", spec := "topStandard", inPlace := ["internal/bytealg.IndexByteString", "internal/bytealg.IndexString"], unfollowed := true, recurses := true, named := ["math/bits.divideError", "math/bits.overflowError", "internal/bytealg.MaxLen"], apart := false, narrowed := true }
def TopStandardUptoSaid : Prop := topStandardUptoRow.holds Tryz.pinned (OpenSpec.upto topStandardSpec)

end Rows
end Go.Proofs.YtnalblnmplnhmaaGreat
