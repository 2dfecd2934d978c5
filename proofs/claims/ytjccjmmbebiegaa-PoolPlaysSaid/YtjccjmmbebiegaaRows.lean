/-
  No cell of these rows narrows 'for every input' (looked for: loops, veiled, ifaces, maps, wideKeys, modest, calm, conditions, laid).
  DERIVED. THE GIVEN ROWS OF THIS SEAT. 4 by the template 'for every input the law returns true; each argument reads behind the call as it read before'; 0 by the template 'total and deterministic' (their statements: YtjccjmmbebiegaaTotals.lean).
  GIVEN WITH THE SEED: the statements are not yours to turn. If you find one false, say at which input.
  Laid BY PROGRAM, IN A SANDBOX (cutbox-rows.mjs): the forced cells as the released guide's own fill.sh prints them over the translation 6b6f235c872cadd4… (all of the seat's roots in one cut). By AI agents, Wed Nov 11 2026. No macro, syntax, notation, axiom, sorry.
-/
import Derived.Test.YtjccjmmbebiegaaChecked
import GoSem.Claim
import GoSem.ClaimJoined
import GoSem.ClaimMapViews
import Derived.JoinedTies
import Derived.KernelRfl
namespace Go.Proofs.Ytjccjmmbebiegaa
/- THE CELL 'sum', in the pinned program and in every row, IS THE sha256 OF THE DUMP (.gsa) THAT YtjccjmmbebiegaaProg.lean LOADS. Nothing in Lean hashes anything: it is a label: what it is worth is what the hold of that sum in a sandbox is worth. -/
noncomputable def Try.pinned : Pinned := { name := "ytjccjmmbebiegaa", sum := "6b6f235c872cadd4390052688e92989c817f3ab18e390528ade1efa659ebe5ca", checked := Try.checked }
namespace Rows
def none {H : Type} : Left H := { results := [], args := [] }

/-- 'purveyorlaw11.PavgSettles': WHATEVER THE INPUT: true; the input reads as it did. -/
def pavgSettlesSpec : ChangeSpec := { name := "pavgSettles", fn := fun _ => fun
  | [d1, d2, d3, d4] => { results := [.lit (.bool true)], args := [d1, d2, d3, d4] }
  | _ => none }
def pavgSettlesRow : OpenClaim := { program := "ytjccjmmbebiegaa", sum := "6b6f235c872cadd4390052688e92989c817f3ab18e390528ade1efa659ebe5ca", func := "purveyor/purveyorlaw11.PavgSettles", spec := "pavgSettles", unfollowed := true, recurses := true, named := ["math/bits.divideError", "math/bits.overflowError"], apart := false }
def PavgSettlesSaid : Prop := pavgSettlesRow.holds Try.pinned (OpenSpec.ofChange pavgSettlesSpec)

/-- ITS FALSE NEIGHBOUR: 'it returns false'. Refute it at one input. -/
def pavgSettlesWrong : ChangeSpec := { name := "pavgSettles", fn := fun _ => fun
  | [d1, d2, d3, d4] => { results := [.lit (.bool false)], args := [d1, d2, d3, d4] }
  | _ => none }
def PavgSettlesWrongFalsely : Prop := pavgSettlesRow.holds Try.pinned (OpenSpec.ofChange pavgSettlesWrong)

/-- 'purveyorlaw11.PavgFree': WHATEVER THE INPUT: true; the input reads as it did. -/
def pavgFreeSpec : ChangeSpec := { name := "pavgFree", fn := fun _ => fun
  | [d1, d2] => { results := [.lit (.bool true)], args := [d1, d2] }
  | _ => none }
def pavgFreeRow : OpenClaim := { program := "ytjccjmmbebiegaa", sum := "6b6f235c872cadd4390052688e92989c817f3ab18e390528ade1efa659ebe5ca", func := "purveyor/purveyorlaw11.PavgFree", spec := "pavgFree", unfollowed := true, recurses := true, named := ["math/bits.divideError", "math/bits.overflowError"], apart := false }
def PavgFreeSaid : Prop := pavgFreeRow.holds Try.pinned (OpenSpec.ofChange pavgFreeSpec)

/-- ITS FALSE NEIGHBOUR: 'it returns false'. Refute it at one input. -/
def pavgFreeWrong : ChangeSpec := { name := "pavgFree", fn := fun _ => fun
  | [d1, d2] => { results := [.lit (.bool false)], args := [d1, d2] }
  | _ => none }
def PavgFreeWrongFalsely : Prop := pavgFreeRow.holds Try.pinned (OpenSpec.ofChange pavgFreeWrong)

/-- 'purveyorlaw13.PoolMethods': WHATEVER THE INPUT: true; the input reads as it did. -/
def poolMethodsSpec : ChangeSpec := { name := "poolMethods", fn := fun _ => fun
  | [d1, d2, d3] => { results := [.lit (.bool true)], args := [d1, d2, d3] }
  | _ => none }
def poolMethodsRow : OpenClaim := { program := "ytjccjmmbebiegaa", sum := "6b6f235c872cadd4390052688e92989c817f3ab18e390528ade1efa659ebe5ca", func := "purveyor/purveyorlaw13.PoolMethods", spec := "poolMethods", unfollowed := true, recurses := true, named := ["math/bits.divideError", "math/bits.overflowError"], apart := false }
def PoolMethodsSaid : Prop := poolMethodsRow.holds Try.pinned (OpenSpec.ofChange poolMethodsSpec)

/-- ITS FALSE NEIGHBOUR: 'it returns false'. Refute it at one input. -/
def poolMethodsWrong : ChangeSpec := { name := "poolMethods", fn := fun _ => fun
  | [d1, d2, d3] => { results := [.lit (.bool false)], args := [d1, d2, d3] }
  | _ => none }
def PoolMethodsWrongFalsely : Prop := poolMethodsRow.holds Try.pinned (OpenSpec.ofChange poolMethodsWrong)

/-- 'purveyorlaw13.PoolPlays': WHATEVER THE INPUT: true; the input reads as it did. -/
def poolPlaysSpec : ChangeSpec := { name := "poolPlays", fn := fun _ => fun
  | [d1, d2, d3] => { results := [.lit (.bool true)], args := [d1, d2, d3] }
  | _ => none }
def poolPlaysRow : OpenClaim := { program := "ytjccjmmbebiegaa", sum := "6b6f235c872cadd4390052688e92989c817f3ab18e390528ade1efa659ebe5ca", func := "purveyor/purveyorlaw13.PoolPlays", spec := "poolPlays", unfollowed := true, recurses := true, named := ["math/bits.divideError", "math/bits.overflowError"], apart := false }
def PoolPlaysSaid : Prop := poolPlaysRow.holds Try.pinned (OpenSpec.ofChange poolPlaysSpec)

/-- ITS FALSE NEIGHBOUR: 'it returns false'. Refute it at one input. -/
def poolPlaysWrong : ChangeSpec := { name := "poolPlays", fn := fun _ => fun
  | [d1, d2, d3] => { results := [.lit (.bool false)], args := [d1, d2, d3] }
  | _ => none }
def PoolPlaysWrongFalsely : Prop := poolPlaysRow.holds Try.pinned (OpenSpec.ofChange poolPlaysWrong)

/- THE SECOND FORM. 'bulk': how many values and letters a reading holds, each counted each time it is reached (what is shared counts as often as it is met; a slice's spare places count too). A statement '..UptoSaid' is the law's where the arguments, and the package variables that the reading takes, are together of bulk at most 1048576: NARROWER than '..Said'. Prove '..Said' where nothing that the law and all that it calls make is longer than what came in: it says more and counts as full. Else prove '..UptoSaid'. A law counts once. -/
mutual
def uptoBulk {H : Type} : DataW H → Nat
  | .lit (.string bytes) => bytes.length + 1
  | .lit _ => 1
  | .nil => 1
  | .ptr d => uptoBulk d + 1
  | .slice elems spare => uptoBulkAll elems + uptoBulkAll spare + 1
  | .agg parts => uptoBulkAll parts + 1
  | .iface _ d => uptoBulk d + 1
  | .map entries => uptoBulkEntries entries + 1
  | .held _ => 1
def uptoBulkAll {H : Type} : List (DataW H) → Nat
  | [] => 0
  | d :: r => uptoBulk d + uptoBulkAll r
def uptoBulkEntries {H : Type} : List (Lit × DataW H) → Nat
  | [] => 0
  | x :: r => uptoBulkEntry x + uptoBulkEntries r
def uptoBulkEntry {H : Type} : Lit × DataW H → Nat
  | (.string bytes, d) => bytes.length + uptoBulk d + 1
  | (_, d) => uptoBulk d + 1
 end
def uptoSmall : (H : Type) → List (DataW H) → Bool := fun _ ds => decide (uptoBulkAll ds ≤ 1048576)
def OpenSpec.upto (s : _root_.Go.ChangeSpec) : _root_.Go.OpenSpec := { _root_.Go.OpenSpec.ofChange s with cond := some uptoSmall }

/-- 'purveyorlaw11.PavgSettles', WHERE WHAT IT READS IS OF BULK AT MOST 1048576: true; the input reads as it did. -/
def pavgSettlesUptoRow : OpenClaim := { program := "ytjccjmmbebiegaa", sum := "6b6f235c872cadd4390052688e92989c817f3ab18e390528ade1efa659ebe5ca", func := "purveyor/purveyorlaw11.PavgSettles", spec := "pavgSettles", unfollowed := true, recurses := true, named := ["math/bits.divideError", "math/bits.overflowError"], apart := false, narrowed := true }
def PavgSettlesUptoSaid : Prop := pavgSettlesUptoRow.holds Try.pinned (OpenSpec.upto pavgSettlesSpec)

/-- 'purveyorlaw11.PavgFree', WHERE WHAT IT READS IS OF BULK AT MOST 1048576: true; the input reads as it did. -/
def pavgFreeUptoRow : OpenClaim := { program := "ytjccjmmbebiegaa", sum := "6b6f235c872cadd4390052688e92989c817f3ab18e390528ade1efa659ebe5ca", func := "purveyor/purveyorlaw11.PavgFree", spec := "pavgFree", unfollowed := true, recurses := true, named := ["math/bits.divideError", "math/bits.overflowError"], apart := false, narrowed := true }
def PavgFreeUptoSaid : Prop := pavgFreeUptoRow.holds Try.pinned (OpenSpec.upto pavgFreeSpec)

/-- 'purveyorlaw13.PoolMethods', WHERE WHAT IT READS IS OF BULK AT MOST 1048576: true; the input reads as it did. -/
def poolMethodsUptoRow : OpenClaim := { program := "ytjccjmmbebiegaa", sum := "6b6f235c872cadd4390052688e92989c817f3ab18e390528ade1efa659ebe5ca", func := "purveyor/purveyorlaw13.PoolMethods", spec := "poolMethods", unfollowed := true, recurses := true, named := ["math/bits.divideError", "math/bits.overflowError"], apart := false, narrowed := true }
def PoolMethodsUptoSaid : Prop := poolMethodsUptoRow.holds Try.pinned (OpenSpec.upto poolMethodsSpec)

/-- 'purveyorlaw13.PoolPlays', WHERE WHAT IT READS IS OF BULK AT MOST 1048576: true; the input reads as it did. -/
def poolPlaysUptoRow : OpenClaim := { program := "ytjccjmmbebiegaa", sum := "6b6f235c872cadd4390052688e92989c817f3ab18e390528ade1efa659ebe5ca", func := "purveyor/purveyorlaw13.PoolPlays", spec := "poolPlays", unfollowed := true, recurses := true, named := ["math/bits.divideError", "math/bits.overflowError"], apart := false, narrowed := true }
def PoolPlaysUptoSaid : Prop := poolPlaysUptoRow.holds Try.pinned (OpenSpec.upto poolPlaysSpec)

end Rows
end Go.Proofs.Ytjccjmmbebiegaa
