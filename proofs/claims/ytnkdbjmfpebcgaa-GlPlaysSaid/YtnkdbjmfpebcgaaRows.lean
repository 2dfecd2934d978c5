/-
  No cell of these rows narrows 'for every input' (looked for: loops, veiled, ifaces, maps, wideKeys, modest, calm, conditions, laid).
  DERIVED. THE GIVEN ROWS OF THIS SEAT. 5 by the template 'for every input the law returns true; each argument reads behind the call as it read before'; 0 by the template 'total and deterministic' (their statements: YtnkdbjmfpebcgaaTotals.lean).
  GIVEN WITH THE SEED: the statements are not yours to turn. If you find one false, say at which input.
  Laid BY PROGRAM, IN A SANDBOX (cutbox-rows.mjs): the forced cells as the released guide's own fill.sh prints them over the translation f06c483d3b631669… (all of the seat's roots in one cut). By AI agents, Wed Nov 11 2026. No macro, syntax, notation, axiom, sorry.
-/
import Derived.Test.YtnkdbjmfpebcgaaChecked
import GoSem.Claim
import GoSem.ClaimJoined
import GoSem.ClaimMapViews
import Derived.JoinedTies
import Derived.KernelRfl
namespace Go.Proofs.Ytnkdbjmfpebcgaa
/- THE CELL 'sum', in the pinned program and in every row, IS THE sha256 OF THE DUMP (.gsa) THAT YtnkdbjmfpebcgaaProg.lean LOADS. Nothing in Lean hashes anything: it is a label: what it is worth is what the hold of that sum in a sandbox is worth. -/
noncomputable def Try.pinned : Pinned := { name := "ytnkdbjmfpebcgaa", sum := "f06c483d3b6316698c38f9d6e1e30f7632783483627abc9a4c7d946d2a6532f5", checked := Try.checked }
namespace Rows
def none {H : Type} : Left H := { results := [], args := [] }

/-- 'purveyorlaw07.VoucherLimits': WHATEVER THE INPUT: true; the input reads as it did. -/
def voucherLimitsSpec : ChangeSpec := { name := "voucherLimits", fn := fun _ => fun
  | [d1, d2] => { results := [.lit (.bool true)], args := [d1, d2] }
  | _ => none }
def voucherLimitsRow : OpenClaim := { program := "ytnkdbjmfpebcgaa", sum := "f06c483d3b6316698c38f9d6e1e30f7632783483627abc9a4c7d946d2a6532f5", func := "purveyor/purveyorlaw07.VoucherLimits", spec := "voucherLimits", unfollowed := true, recurses := true, apart := false }
def VoucherLimitsSaid : Prop := voucherLimitsRow.holds Try.pinned (OpenSpec.ofChange voucherLimitsSpec)

/-- ITS FALSE NEIGHBOUR: 'it returns false'. Refute it at one input. -/
def voucherLimitsWrong : ChangeSpec := { name := "voucherLimits", fn := fun _ => fun
  | [d1, d2] => { results := [.lit (.bool false)], args := [d1, d2] }
  | _ => none }
def VoucherLimitsWrongFalsely : Prop := voucherLimitsRow.holds Try.pinned (OpenSpec.ofChange voucherLimitsWrong)

/-- 'purveyorlaw07.VoucherAll': WHATEVER THE INPUT: true; the input reads as it did. -/
def voucherAllSpec : ChangeSpec := { name := "voucherAll", fn := fun _ => fun
  | [d] => { results := [.lit (.bool true)], args := [d] }
  | _ => none }
def voucherAllRow : OpenClaim := { program := "ytnkdbjmfpebcgaa", sum := "f06c483d3b6316698c38f9d6e1e30f7632783483627abc9a4c7d946d2a6532f5", func := "purveyor/purveyorlaw07.VoucherAll", spec := "voucherAll", unfollowed := true, recurses := true, apart := false }
def VoucherAllSaid : Prop := voucherAllRow.holds Try.pinned (OpenSpec.ofChange voucherAllSpec)

/-- ITS FALSE NEIGHBOUR: 'it returns false'. Refute it at one input. -/
def voucherAllWrong : ChangeSpec := { name := "voucherAll", fn := fun _ => fun
  | [d] => { results := [.lit (.bool false)], args := [d] }
  | _ => none }
def VoucherAllWrongFalsely : Prop := voucherAllRow.holds Try.pinned (OpenSpec.ofChange voucherAllWrong)

/-- 'purveyorlaw07.VoucherPlain': WHATEVER THE INPUT: true; the input reads as it did. -/
def voucherPlainSpec : ChangeSpec := { name := "voucherPlain", fn := fun _ => fun
  | [d] => { results := [.lit (.bool true)], args := [d] }
  | _ => none }
def voucherPlainRow : OpenClaim := { program := "ytnkdbjmfpebcgaa", sum := "f06c483d3b6316698c38f9d6e1e30f7632783483627abc9a4c7d946d2a6532f5", func := "purveyor/purveyorlaw07.VoucherPlain", spec := "voucherPlain", unfollowed := true, recurses := true, apart := false }
def VoucherPlainSaid : Prop := voucherPlainRow.holds Try.pinned (OpenSpec.ofChange voucherPlainSpec)

/-- ITS FALSE NEIGHBOUR: 'it returns false'. Refute it at one input. -/
def voucherPlainWrong : ChangeSpec := { name := "voucherPlain", fn := fun _ => fun
  | [d] => { results := [.lit (.bool false)], args := [d] }
  | _ => none }
def VoucherPlainWrongFalsely : Prop := voucherPlainRow.holds Try.pinned (OpenSpec.ofChange voucherPlainWrong)

/-- 'purveyorlaw08.GlPlays': WHATEVER THE INPUT: true; the input reads as it did. -/
def glPlaysSpec : ChangeSpec := { name := "glPlays", fn := fun _ => fun
  | [d1, d2] => { results := [.lit (.bool true)], args := [d1, d2] }
  | _ => none }
def glPlaysRow : OpenClaim := { program := "ytnkdbjmfpebcgaa", sum := "f06c483d3b6316698c38f9d6e1e30f7632783483627abc9a4c7d946d2a6532f5", func := "purveyor/purveyorlaw08.GlPlays", spec := "glPlays", unfollowed := true, recurses := true, apart := false }
def GlPlaysSaid : Prop := glPlaysRow.holds Try.pinned (OpenSpec.ofChange glPlaysSpec)

/-- ITS FALSE NEIGHBOUR: 'it returns false'. Refute it at one input. -/
def glPlaysWrong : ChangeSpec := { name := "glPlays", fn := fun _ => fun
  | [d1, d2] => { results := [.lit (.bool false)], args := [d1, d2] }
  | _ => none }
def GlPlaysWrongFalsely : Prop := glPlaysRow.holds Try.pinned (OpenSpec.ofChange glPlaysWrong)

/-- 'purveyorlaw08.GlLimits': WHATEVER THE INPUT: true; the input reads as it did. -/
def glLimitsSpec : ChangeSpec := { name := "glLimits", fn := fun _ => fun
  | [d1, d2, d3] => { results := [.lit (.bool true)], args := [d1, d2, d3] }
  | _ => none }
def glLimitsRow : OpenClaim := { program := "ytnkdbjmfpebcgaa", sum := "f06c483d3b6316698c38f9d6e1e30f7632783483627abc9a4c7d946d2a6532f5", func := "purveyor/purveyorlaw08.GlLimits", spec := "glLimits", unfollowed := true, recurses := true, apart := false }
def GlLimitsSaid : Prop := glLimitsRow.holds Try.pinned (OpenSpec.ofChange glLimitsSpec)

/-- ITS FALSE NEIGHBOUR: 'it returns false'. Refute it at one input. -/
def glLimitsWrong : ChangeSpec := { name := "glLimits", fn := fun _ => fun
  | [d1, d2, d3] => { results := [.lit (.bool false)], args := [d1, d2, d3] }
  | _ => none }
def GlLimitsWrongFalsely : Prop := glLimitsRow.holds Try.pinned (OpenSpec.ofChange glLimitsWrong)

/- THE SECOND FORM. 'bulk': how many values and letters a reading holds, each counted each time it is reached (what is shared counts as often as it is met; a slice's spare places count too). A statement '..UptoSaid' is the law's where the arguments, and the package variables that the reading takes, are together of bulk at most 1048576: NARROWER than '..Said'. Prove '..Said' where nothing that the law and all that it calls make is longer than what came in: it says more and counts as full. Else prove '..UptoSaid'. A law counts once. -/
mutual
def uptoBulk {H : Type} : DataW H → Nat
  | .lit (.string bytes) => bytes.length + 1
  | .lit _ => 1
  | .nil => 1
  | .ptr d => uptoBulk d + 1
  | .slice elems spare => uptoBulkAll elems + uptoBulkAll spare + 1
  | .agg parts => uptoBulkAll parts + 1
  | .iface _ d => uptoBulk d + 1
  | .map entries => uptoBulkEntries entries + 1
  | .held _ => 1
def uptoBulkAll {H : Type} : List (DataW H) → Nat
  | [] => 0
  | d :: r => uptoBulk d + uptoBulkAll r
def uptoBulkEntries {H : Type} : List (Lit × DataW H) → Nat
  | [] => 0
  | x :: r => uptoBulkEntry x + uptoBulkEntries r
def uptoBulkEntry {H : Type} : Lit × DataW H → Nat
  | (.string bytes, d) => bytes.length + uptoBulk d + 1
  | (_, d) => uptoBulk d + 1
 end
def uptoSmall : (H : Type) → List (DataW H) → Bool := fun _ ds => decide (uptoBulkAll ds ≤ 1048576)
def OpenSpec.upto (s : _root_.Go.ChangeSpec) : _root_.Go.OpenSpec := { _root_.Go.OpenSpec.ofChange s with cond := some uptoSmall }

/-- 'purveyorlaw07.VoucherLimits', WHERE WHAT IT READS IS OF BULK AT MOST 1048576: true; the input reads as it did. -/
def voucherLimitsUptoRow : OpenClaim := { program := "ytnkdbjmfpebcgaa", sum := "f06c483d3b6316698c38f9d6e1e30f7632783483627abc9a4c7d946d2a6532f5", func := "purveyor/purveyorlaw07.VoucherLimits", spec := "voucherLimits", unfollowed := true, recurses := true, apart := false, narrowed := true }
def VoucherLimitsUptoSaid : Prop := voucherLimitsUptoRow.holds Try.pinned (OpenSpec.upto voucherLimitsSpec)

/-- 'purveyorlaw07.VoucherAll', WHERE WHAT IT READS IS OF BULK AT MOST 1048576: true; the input reads as it did. -/
def voucherAllUptoRow : OpenClaim := { program := "ytnkdbjmfpebcgaa", sum := "f06c483d3b6316698c38f9d6e1e30f7632783483627abc9a4c7d946d2a6532f5", func := "purveyor/purveyorlaw07.VoucherAll", spec := "voucherAll", unfollowed := true, recurses := true, apart := false, narrowed := true }
def VoucherAllUptoSaid : Prop := voucherAllUptoRow.holds Try.pinned (OpenSpec.upto voucherAllSpec)

/-- 'purveyorlaw07.VoucherPlain', WHERE WHAT IT READS IS OF BULK AT MOST 1048576: true; the input reads as it did. -/
def voucherPlainUptoRow : OpenClaim := { program := "ytnkdbjmfpebcgaa", sum := "f06c483d3b6316698c38f9d6e1e30f7632783483627abc9a4c7d946d2a6532f5", func := "purveyor/purveyorlaw07.VoucherPlain", spec := "voucherPlain", unfollowed := true, recurses := true, apart := false, narrowed := true }
def VoucherPlainUptoSaid : Prop := voucherPlainUptoRow.holds Try.pinned (OpenSpec.upto voucherPlainSpec)

/-- 'purveyorlaw08.GlPlays', WHERE WHAT IT READS IS OF BULK AT MOST 1048576: true; the input reads as it did. -/
def glPlaysUptoRow : OpenClaim := { program := "ytnkdbjmfpebcgaa", sum := "f06c483d3b6316698c38f9d6e1e30f7632783483627abc9a4c7d946d2a6532f5", func := "purveyor/purveyorlaw08.GlPlays", spec := "glPlays", unfollowed := true, recurses := true, apart := false, narrowed := true }
def GlPlaysUptoSaid : Prop := glPlaysUptoRow.holds Try.pinned (OpenSpec.upto glPlaysSpec)

/-- 'purveyorlaw08.GlLimits', WHERE WHAT IT READS IS OF BULK AT MOST 1048576: true; the input reads as it did. -/
def glLimitsUptoRow : OpenClaim := { program := "ytnkdbjmfpebcgaa", sum := "f06c483d3b6316698c38f9d6e1e30f7632783483627abc9a4c7d946d2a6532f5", func := "purveyor/purveyorlaw08.GlLimits", spec := "glLimits", unfollowed := true, recurses := true, apart := false, narrowed := true }
def GlLimitsUptoSaid : Prop := glLimitsUptoRow.holds Try.pinned (OpenSpec.upto glLimitsSpec)

end Rows
end Go.Proofs.Ytnkdbjmfpebcgaa
