/-
  No cell of these rows narrows 'for every input' (looked for: loops, veiled, ifaces, maps, wideKeys, modest, calm, conditions, laid).
  DERIVED. THE GIVEN ROWS OF THIS SEAT. 29 by the template 'for every input the law returns true; each argument reads behind the call as it read before'; 0 by the template 'total and deterministic' (their statements: YtabmhfbmfdikaaaTotals.lean).
  GIVEN WITH THE SEED: the statements are not yours to turn. If you find one false, say at which input.
  Laid BY PROGRAM, IN A SANDBOX (cutbox-rows.mjs): the forced cells as the released guide's own fill.sh prints them over the translation 28d0cedec1f5b086… (all of the seat's roots in one cut). By AI agents, Wed Nov 11 2026. No macro, syntax, notation, axiom, sorry.
-/
import Derived.Test.YtabmhfbmfdikaaaChecked
import GoSem.Claim
import GoSem.ClaimJoined
import GoSem.ClaimMapViews
import Derived.JoinedTies
import Derived.KernelRfl
namespace Go.Proofs.Ytabmhfbmfdikaaa
/- THE CELL 'sum', in the pinned program and in every row, IS THE sha256 OF THE DUMP (.gsa) THAT YtabmhfbmfdikaaaProg.lean LOADS. Nothing in Lean hashes anything: it is a label: what it is worth is what the hold of that sum in a sandbox is worth. -/
noncomputable def Try.pinned : Pinned := { name := "ytabmhfbmfdikaaa", sum := "28d0cedec1f5b08674991df80c8e7856ef5922542c1d1222a55a443c8b25801f", checked := Try.checked }
namespace Rows
def none {H : Type} : Left H := { results := [], args := [] }

/-- 'purveyorlaw01.MoneyAll': WHATEVER THE INPUT: true; the input reads as it did. -/
def moneyAllSpec : ChangeSpec := { name := "moneyAll", fn := fun _ => fun
  | [d1, d2, d3, d4] => { results := [.lit (.bool true)], args := [d1, d2, d3, d4] }
  | _ => none }
def moneyAllRow : OpenClaim := { program := "ytabmhfbmfdikaaa", sum := "28d0cedec1f5b08674991df80c8e7856ef5922542c1d1222a55a443c8b25801f", func := "purveyor/purveyorlaw01.MoneyAll", spec := "moneyAll", named := ["math/bits.divideError", "math/bits.overflowError"], apart := false }
def MoneyAllSaid : Prop := moneyAllRow.holds Try.pinned (OpenSpec.ofChange moneyAllSpec)

/-- ITS FALSE NEIGHBOUR: 'it returns false'. Refute it at one input. -/
def moneyAllWrong : ChangeSpec := { name := "moneyAll", fn := fun _ => fun
  | [d1, d2, d3, d4] => { results := [.lit (.bool false)], args := [d1, d2, d3, d4] }
  | _ => none }
def MoneyAllWrongFalsely : Prop := moneyAllRow.holds Try.pinned (OpenSpec.ofChange moneyAllWrong)

/-- 'purveyorlaw01.MoneyBack': WHATEVER THE INPUT: true; the input reads as it did. -/
def moneyBackSpec : ChangeSpec := { name := "moneyBack", fn := fun _ => fun
  | [d1, d2, d3] => { results := [.lit (.bool true)], args := [d1, d2, d3] }
  | _ => none }
def moneyBackRow : OpenClaim := { program := "ytabmhfbmfdikaaa", sum := "28d0cedec1f5b08674991df80c8e7856ef5922542c1d1222a55a443c8b25801f", func := "purveyor/purveyorlaw01.MoneyBack", spec := "moneyBack", named := ["math/bits.divideError", "math/bits.overflowError"], apart := false }
def MoneyBackSaid : Prop := moneyBackRow.holds Try.pinned (OpenSpec.ofChange moneyBackSpec)

/-- ITS FALSE NEIGHBOUR: 'it returns false'. Refute it at one input. -/
def moneyBackWrong : ChangeSpec := { name := "moneyBack", fn := fun _ => fun
  | [d1, d2, d3] => { results := [.lit (.bool false)], args := [d1, d2, d3] }
  | _ => none }
def MoneyBackWrongFalsely : Prop := moneyBackRow.holds Try.pinned (OpenSpec.ofChange moneyBackWrong)

/-- 'purveyorlaw01.MoneyParts': WHATEVER THE INPUT: true; the input reads as it did. -/
def moneyPartsSpec : ChangeSpec := { name := "moneyParts", fn := fun _ => fun
  | [d1, d2, d3] => { results := [.lit (.bool true)], args := [d1, d2, d3] }
  | _ => none }
def moneyPartsRow : OpenClaim := { program := "ytabmhfbmfdikaaa", sum := "28d0cedec1f5b08674991df80c8e7856ef5922542c1d1222a55a443c8b25801f", func := "purveyor/purveyorlaw01.MoneyParts", spec := "moneyParts", named := ["math/bits.divideError", "math/bits.overflowError"], apart := false }
def MoneyPartsSaid : Prop := moneyPartsRow.holds Try.pinned (OpenSpec.ofChange moneyPartsSpec)

/-- ITS FALSE NEIGHBOUR: 'it returns false'. Refute it at one input. -/
def moneyPartsWrong : ChangeSpec := { name := "moneyParts", fn := fun _ => fun
  | [d1, d2, d3] => { results := [.lit (.bool false)], args := [d1, d2, d3] }
  | _ => none }
def MoneyPartsWrongFalsely : Prop := moneyPartsRow.holds Try.pinned (OpenSpec.ofChange moneyPartsWrong)

/-- 'purveyorlaw01.MoneySums': WHATEVER THE INPUT: true; the input reads as it did. -/
def moneySumsSpec : ChangeSpec := { name := "moneySums", fn := fun _ => fun
  | [d1, d2, d3] => { results := [.lit (.bool true)], args := [d1, d2, d3] }
  | _ => none }
def moneySumsRow : OpenClaim := { program := "ytabmhfbmfdikaaa", sum := "28d0cedec1f5b08674991df80c8e7856ef5922542c1d1222a55a443c8b25801f", func := "purveyor/purveyorlaw01.MoneySums", spec := "moneySums", named := ["math/bits.divideError", "math/bits.overflowError"], apart := false }
def MoneySumsSaid : Prop := moneySumsRow.holds Try.pinned (OpenSpec.ofChange moneySumsSpec)

/-- ITS FALSE NEIGHBOUR: 'it returns false'. Refute it at one input. -/
def moneySumsWrong : ChangeSpec := { name := "moneySums", fn := fun _ => fun
  | [d1, d2, d3] => { results := [.lit (.bool false)], args := [d1, d2, d3] }
  | _ => none }
def MoneySumsWrongFalsely : Prop := moneySumsRow.holds Try.pinned (OpenSpec.ofChange moneySumsWrong)

/-- 'purveyorlaw01.MoneyWide': WHATEVER THE INPUT: true; the input reads as it did. -/
def moneyWideSpec : ChangeSpec := { name := "moneyWide", fn := fun _ => fun
  | [d1, d2] => { results := [.lit (.bool true)], args := [d1, d2] }
  | _ => none }
def moneyWideRow : OpenClaim := { program := "ytabmhfbmfdikaaa", sum := "28d0cedec1f5b08674991df80c8e7856ef5922542c1d1222a55a443c8b25801f", func := "purveyor/purveyorlaw01.MoneyWide", spec := "moneyWide", named := ["math/bits.divideError", "math/bits.overflowError"], apart := false }
def MoneyWideSaid : Prop := moneyWideRow.holds Try.pinned (OpenSpec.ofChange moneyWideSpec)

/-- ITS FALSE NEIGHBOUR: 'it returns false'. Refute it at one input. -/
def moneyWideWrong : ChangeSpec := { name := "moneyWide", fn := fun _ => fun
  | [d1, d2] => { results := [.lit (.bool false)], args := [d1, d2] }
  | _ => none }
def MoneyWideWrongFalsely : Prop := moneyWideRow.holds Try.pinned (OpenSpec.ofChange moneyWideWrong)

/-- 'purveyorlaw09.FifoOne': WHATEVER THE INPUT: true; the input reads as it did. -/
def fifoOneSpec : ChangeSpec := { name := "fifoOne", fn := fun _ => fun
  | [d1, d2, d3] => { results := [.lit (.bool true)], args := [d1, d2, d3] }
  | _ => none }
def fifoOneRow : OpenClaim := { program := "ytabmhfbmfdikaaa", sum := "28d0cedec1f5b08674991df80c8e7856ef5922542c1d1222a55a443c8b25801f", func := "purveyor/purveyorlaw09.FifoOne", spec := "fifoOne", unfollowed := true, recurses := true, named := ["math/bits.divideError", "math/bits.overflowError"], apart := false }
def FifoOneSaid : Prop := fifoOneRow.holds Try.pinned (OpenSpec.ofChange fifoOneSpec)

/-- ITS FALSE NEIGHBOUR: 'it returns false'. Refute it at one input. -/
def fifoOneWrong : ChangeSpec := { name := "fifoOne", fn := fun _ => fun
  | [d1, d2, d3] => { results := [.lit (.bool false)], args := [d1, d2, d3] }
  | _ => none }
def FifoOneWrongFalsely : Prop := fifoOneRow.holds Try.pinned (OpenSpec.ofChange fifoOneWrong)

/-- 'purveyorlaw09.FifoAll': WHATEVER THE INPUT: true; the input reads as it did. -/
def fifoAllSpec : ChangeSpec := { name := "fifoAll", fn := fun _ => fun
  | [d1, d2, d3] => { results := [.lit (.bool true)], args := [d1, d2, d3] }
  | _ => none }
def fifoAllRow : OpenClaim := { program := "ytabmhfbmfdikaaa", sum := "28d0cedec1f5b08674991df80c8e7856ef5922542c1d1222a55a443c8b25801f", func := "purveyor/purveyorlaw09.FifoAll", spec := "fifoAll", unfollowed := true, recurses := true, named := ["math/bits.divideError", "math/bits.overflowError"], apart := false }
def FifoAllSaid : Prop := fifoAllRow.holds Try.pinned (OpenSpec.ofChange fifoAllSpec)

/-- ITS FALSE NEIGHBOUR: 'it returns false'. Refute it at one input. -/
def fifoAllWrong : ChangeSpec := { name := "fifoAll", fn := fun _ => fun
  | [d1, d2, d3] => { results := [.lit (.bool false)], args := [d1, d2, d3] }
  | _ => none }
def FifoAllWrongFalsely : Prop := fifoAllRow.holds Try.pinned (OpenSpec.ofChange fifoAllWrong)

/-- 'purveyorlaw09.FifoPlays': WHATEVER THE INPUT: true; the input reads as it did. -/
def fifoPlaysSpec : ChangeSpec := { name := "fifoPlays", fn := fun _ => fun
  | [d] => { results := [.lit (.bool true)], args := [d] }
  | _ => none }
def fifoPlaysRow : OpenClaim := { program := "ytabmhfbmfdikaaa", sum := "28d0cedec1f5b08674991df80c8e7856ef5922542c1d1222a55a443c8b25801f", func := "purveyor/purveyorlaw09.FifoPlays", spec := "fifoPlays", unfollowed := true, recurses := true, named := ["math/bits.divideError", "math/bits.overflowError"], apart := false }
def FifoPlaysSaid : Prop := fifoPlaysRow.holds Try.pinned (OpenSpec.ofChange fifoPlaysSpec)

/-- ITS FALSE NEIGHBOUR: 'it returns false'. Refute it at one input. -/
def fifoPlaysWrong : ChangeSpec := { name := "fifoPlays", fn := fun _ => fun
  | [d] => { results := [.lit (.bool false)], args := [d] }
  | _ => none }
def FifoPlaysWrongFalsely : Prop := fifoPlaysRow.holds Try.pinned (OpenSpec.ofChange fifoPlaysWrong)

/-- 'purveyorlaw09.FifoKeeps': WHATEVER THE INPUT: true; the input reads as it did. -/
def fifoKeepsSpec : ChangeSpec := { name := "fifoKeeps", fn := fun _ => fun
  | [d1, d2] => { results := [.lit (.bool true)], args := [d1, d2] }
  | _ => none }
def fifoKeepsRow : OpenClaim := { program := "ytabmhfbmfdikaaa", sum := "28d0cedec1f5b08674991df80c8e7856ef5922542c1d1222a55a443c8b25801f", func := "purveyor/purveyorlaw09.FifoKeeps", spec := "fifoKeeps", unfollowed := true, recurses := true, named := ["math/bits.divideError", "math/bits.overflowError"], apart := false }
def FifoKeepsSaid : Prop := fifoKeepsRow.holds Try.pinned (OpenSpec.ofChange fifoKeepsSpec)

/-- ITS FALSE NEIGHBOUR: 'it returns false'. Refute it at one input. -/
def fifoKeepsWrong : ChangeSpec := { name := "fifoKeeps", fn := fun _ => fun
  | [d1, d2] => { results := [.lit (.bool false)], args := [d1, d2] }
  | _ => none }
def FifoKeepsWrongFalsely : Prop := fifoKeepsRow.holds Try.pinned (OpenSpec.ofChange fifoKeepsWrong)

/-- 'purveyorlaw09.FifoBounds': WHATEVER THE INPUT: true; the input reads as it did. -/
def fifoBoundsSpec : ChangeSpec := { name := "fifoBounds", fn := fun _ => fun
  | [d1, d2] => { results := [.lit (.bool true)], args := [d1, d2] }
  | _ => none }
def fifoBoundsRow : OpenClaim := { program := "ytabmhfbmfdikaaa", sum := "28d0cedec1f5b08674991df80c8e7856ef5922542c1d1222a55a443c8b25801f", func := "purveyor/purveyorlaw09.FifoBounds", spec := "fifoBounds", unfollowed := true, recurses := true, named := ["math/bits.divideError", "math/bits.overflowError"], apart := false }
def FifoBoundsSaid : Prop := fifoBoundsRow.holds Try.pinned (OpenSpec.ofChange fifoBoundsSpec)

/-- ITS FALSE NEIGHBOUR: 'it returns false'. Refute it at one input. -/
def fifoBoundsWrong : ChangeSpec := { name := "fifoBounds", fn := fun _ => fun
  | [d1, d2] => { results := [.lit (.bool false)], args := [d1, d2] }
  | _ => none }
def FifoBoundsWrongFalsely : Prop := fifoBoundsRow.holds Try.pinned (OpenSpec.ofChange fifoBoundsWrong)

/-- 'purveyorlaw10.MavgAll': WHATEVER THE INPUT: true; the input reads as it did. -/
def mavgAllSpec : ChangeSpec := { name := "mavgAll", fn := fun _ => fun
  | [d1, d2, d3] => { results := [.lit (.bool true)], args := [d1, d2, d3] }
  | _ => none }
def mavgAllRow : OpenClaim := { program := "ytabmhfbmfdikaaa", sum := "28d0cedec1f5b08674991df80c8e7856ef5922542c1d1222a55a443c8b25801f", func := "purveyor/purveyorlaw10.MavgAll", spec := "mavgAll", unfollowed := true, recurses := true, named := ["math/bits.divideError", "math/bits.overflowError"], apart := false }
def MavgAllSaid : Prop := mavgAllRow.holds Try.pinned (OpenSpec.ofChange mavgAllSpec)

/-- ITS FALSE NEIGHBOUR: 'it returns false'. Refute it at one input. -/
def mavgAllWrong : ChangeSpec := { name := "mavgAll", fn := fun _ => fun
  | [d1, d2, d3] => { results := [.lit (.bool false)], args := [d1, d2, d3] }
  | _ => none }
def MavgAllWrongFalsely : Prop := mavgAllRow.holds Try.pinned (OpenSpec.ofChange mavgAllWrong)

/-- 'purveyorlaw10.MavgPlays': WHATEVER THE INPUT: true; the input reads as it did. -/
def mavgPlaysSpec : ChangeSpec := { name := "mavgPlays", fn := fun _ => fun
  | [d] => { results := [.lit (.bool true)], args := [d] }
  | _ => none }
def mavgPlaysRow : OpenClaim := { program := "ytabmhfbmfdikaaa", sum := "28d0cedec1f5b08674991df80c8e7856ef5922542c1d1222a55a443c8b25801f", func := "purveyor/purveyorlaw10.MavgPlays", spec := "mavgPlays", unfollowed := true, recurses := true, named := ["math/bits.divideError", "math/bits.overflowError"], apart := false }
def MavgPlaysSaid : Prop := mavgPlaysRow.holds Try.pinned (OpenSpec.ofChange mavgPlaysSpec)

/-- ITS FALSE NEIGHBOUR: 'it returns false'. Refute it at one input. -/
def mavgPlaysWrong : ChangeSpec := { name := "mavgPlays", fn := fun _ => fun
  | [d] => { results := [.lit (.bool false)], args := [d] }
  | _ => none }
def MavgPlaysWrongFalsely : Prop := mavgPlaysRow.holds Try.pinned (OpenSpec.ofChange mavgPlaysWrong)

/-- 'purveyorlaw10.MavgAverage': WHATEVER THE INPUT: true; the input reads as it did. -/
def mavgAverageSpec : ChangeSpec := { name := "mavgAverage", fn := fun _ => fun
  | [d1, d2] => { results := [.lit (.bool true)], args := [d1, d2] }
  | _ => none }
def mavgAverageRow : OpenClaim := { program := "ytabmhfbmfdikaaa", sum := "28d0cedec1f5b08674991df80c8e7856ef5922542c1d1222a55a443c8b25801f", func := "purveyor/purveyorlaw10.MavgAverage", spec := "mavgAverage", unfollowed := true, recurses := true, named := ["math/bits.divideError", "math/bits.overflowError"], apart := false }
def MavgAverageSaid : Prop := mavgAverageRow.holds Try.pinned (OpenSpec.ofChange mavgAverageSpec)

/-- ITS FALSE NEIGHBOUR: 'it returns false'. Refute it at one input. -/
def mavgAverageWrong : ChangeSpec := { name := "mavgAverage", fn := fun _ => fun
  | [d1, d2] => { results := [.lit (.bool false)], args := [d1, d2] }
  | _ => none }
def MavgAverageWrongFalsely : Prop := mavgAverageRow.holds Try.pinned (OpenSpec.ofChange mavgAverageWrong)

/-- 'purveyorlaw10.MavgMixes': WHATEVER THE INPUT: true; the input reads as it did. -/
def mavgMixesSpec : ChangeSpec := { name := "mavgMixes", fn := fun _ => fun
  | [d1, d2, d3, d4, d5] => { results := [.lit (.bool true)], args := [d1, d2, d3, d4, d5] }
  | _ => none }
def mavgMixesRow : OpenClaim := { program := "ytabmhfbmfdikaaa", sum := "28d0cedec1f5b08674991df80c8e7856ef5922542c1d1222a55a443c8b25801f", func := "purveyor/purveyorlaw10.MavgMixes", spec := "mavgMixes", unfollowed := true, recurses := true, named := ["math/bits.divideError", "math/bits.overflowError"], apart := false }
def MavgMixesSaid : Prop := mavgMixesRow.holds Try.pinned (OpenSpec.ofChange mavgMixesSpec)

/-- ITS FALSE NEIGHBOUR: 'it returns false'. Refute it at one input. -/
def mavgMixesWrong : ChangeSpec := { name := "mavgMixes", fn := fun _ => fun
  | [d1, d2, d3, d4, d5] => { results := [.lit (.bool false)], args := [d1, d2, d3, d4, d5] }
  | _ => none }
def MavgMixesWrongFalsely : Prop := mavgMixesRow.holds Try.pinned (OpenSpec.ofChange mavgMixesWrong)

/-- 'purveyorlaw07.VoucherLimits': WHATEVER THE INPUT: true; the input reads as it did. -/
def voucherLimitsSpec : ChangeSpec := { name := "voucherLimits", fn := fun _ => fun
  | [d1, d2] => { results := [.lit (.bool true)], args := [d1, d2] }
  | _ => none }
def voucherLimitsRow : OpenClaim := { program := "ytabmhfbmfdikaaa", sum := "28d0cedec1f5b08674991df80c8e7856ef5922542c1d1222a55a443c8b25801f", func := "purveyor/purveyorlaw07.VoucherLimits", spec := "voucherLimits", unfollowed := true, recurses := true, apart := false }
def VoucherLimitsSaid : Prop := voucherLimitsRow.holds Try.pinned (OpenSpec.ofChange voucherLimitsSpec)

/-- ITS FALSE NEIGHBOUR: 'it returns false'. Refute it at one input. -/
def voucherLimitsWrong : ChangeSpec := { name := "voucherLimits", fn := fun _ => fun
  | [d1, d2] => { results := [.lit (.bool false)], args := [d1, d2] }
  | _ => none }
def VoucherLimitsWrongFalsely : Prop := voucherLimitsRow.holds Try.pinned (OpenSpec.ofChange voucherLimitsWrong)

/-- 'purveyorlaw07.VoucherAll': WHATEVER THE INPUT: true; the input reads as it did. -/
def voucherAllSpec : ChangeSpec := { name := "voucherAll", fn := fun _ => fun
  | [d] => { results := [.lit (.bool true)], args := [d] }
  | _ => none }
def voucherAllRow : OpenClaim := { program := "ytabmhfbmfdikaaa", sum := "28d0cedec1f5b08674991df80c8e7856ef5922542c1d1222a55a443c8b25801f", func := "purveyor/purveyorlaw07.VoucherAll", spec := "voucherAll", unfollowed := true, recurses := true, apart := false }
def VoucherAllSaid : Prop := voucherAllRow.holds Try.pinned (OpenSpec.ofChange voucherAllSpec)

/-- ITS FALSE NEIGHBOUR: 'it returns false'. Refute it at one input. -/
def voucherAllWrong : ChangeSpec := { name := "voucherAll", fn := fun _ => fun
  | [d] => { results := [.lit (.bool false)], args := [d] }
  | _ => none }
def VoucherAllWrongFalsely : Prop := voucherAllRow.holds Try.pinned (OpenSpec.ofChange voucherAllWrong)

/-- 'purveyorlaw07.VoucherPlain': WHATEVER THE INPUT: true; the input reads as it did. -/
def voucherPlainSpec : ChangeSpec := { name := "voucherPlain", fn := fun _ => fun
  | [d] => { results := [.lit (.bool true)], args := [d] }
  | _ => none }
def voucherPlainRow : OpenClaim := { program := "ytabmhfbmfdikaaa", sum := "28d0cedec1f5b08674991df80c8e7856ef5922542c1d1222a55a443c8b25801f", func := "purveyor/purveyorlaw07.VoucherPlain", spec := "voucherPlain", unfollowed := true, recurses := true, apart := false }
def VoucherPlainSaid : Prop := voucherPlainRow.holds Try.pinned (OpenSpec.ofChange voucherPlainSpec)

/-- ITS FALSE NEIGHBOUR: 'it returns false'. Refute it at one input. -/
def voucherPlainWrong : ChangeSpec := { name := "voucherPlain", fn := fun _ => fun
  | [d] => { results := [.lit (.bool false)], args := [d] }
  | _ => none }
def VoucherPlainWrongFalsely : Prop := voucherPlainRow.holds Try.pinned (OpenSpec.ofChange voucherPlainWrong)

/-- 'purveyorlaw11.PavgSettles': WHATEVER THE INPUT: true; the input reads as it did. -/
def pavgSettlesSpec : ChangeSpec := { name := "pavgSettles", fn := fun _ => fun
  | [d1, d2, d3, d4] => { results := [.lit (.bool true)], args := [d1, d2, d3, d4] }
  | _ => none }
def pavgSettlesRow : OpenClaim := { program := "ytabmhfbmfdikaaa", sum := "28d0cedec1f5b08674991df80c8e7856ef5922542c1d1222a55a443c8b25801f", func := "purveyor/purveyorlaw11.PavgSettles", spec := "pavgSettles", unfollowed := true, recurses := true, named := ["math/bits.divideError", "math/bits.overflowError"], apart := false }
def PavgSettlesSaid : Prop := pavgSettlesRow.holds Try.pinned (OpenSpec.ofChange pavgSettlesSpec)

/-- ITS FALSE NEIGHBOUR: 'it returns false'. Refute it at one input. -/
def pavgSettlesWrong : ChangeSpec := { name := "pavgSettles", fn := fun _ => fun
  | [d1, d2, d3, d4] => { results := [.lit (.bool false)], args := [d1, d2, d3, d4] }
  | _ => none }
def PavgSettlesWrongFalsely : Prop := pavgSettlesRow.holds Try.pinned (OpenSpec.ofChange pavgSettlesWrong)

/-- 'purveyorlaw12.StdcostKeeps': WHATEVER THE INPUT: true; the input reads as it did. -/
def stdcostKeepsSpec : ChangeSpec := { name := "stdcostKeeps", fn := fun _ => fun
  | [d1, d2] => { results := [.lit (.bool true)], args := [d1, d2] }
  | _ => none }
def stdcostKeepsRow : OpenClaim := { program := "ytabmhfbmfdikaaa", sum := "28d0cedec1f5b08674991df80c8e7856ef5922542c1d1222a55a443c8b25801f", func := "purveyor/purveyorlaw12.StdcostKeeps", spec := "stdcostKeeps", unfollowed := true, recurses := true, named := ["math/bits.divideError", "math/bits.overflowError"], apart := false }
def StdcostKeepsSaid : Prop := stdcostKeepsRow.holds Try.pinned (OpenSpec.ofChange stdcostKeepsSpec)

/-- ITS FALSE NEIGHBOUR: 'it returns false'. Refute it at one input. -/
def stdcostKeepsWrong : ChangeSpec := { name := "stdcostKeeps", fn := fun _ => fun
  | [d1, d2] => { results := [.lit (.bool false)], args := [d1, d2] }
  | _ => none }
def StdcostKeepsWrongFalsely : Prop := stdcostKeepsRow.holds Try.pinned (OpenSpec.ofChange stdcostKeepsWrong)

/-- 'purveyorlaw12.StdcostWrong': WHATEVER THE INPUT: true; the input reads as it did. -/
def stdcostWrongSpec : ChangeSpec := { name := "stdcostWrong", fn := fun _ => fun
  | [d1, d2] => { results := [.lit (.bool true)], args := [d1, d2] }
  | _ => none }
def stdcostWrongRow : OpenClaim := { program := "ytabmhfbmfdikaaa", sum := "28d0cedec1f5b08674991df80c8e7856ef5922542c1d1222a55a443c8b25801f", func := "purveyor/purveyorlaw12.StdcostWrong", spec := "stdcostWrong", unfollowed := true, recurses := true, named := ["math/bits.divideError", "math/bits.overflowError"], apart := false }
def StdcostWrongSaid : Prop := stdcostWrongRow.holds Try.pinned (OpenSpec.ofChange stdcostWrongSpec)

/-- ITS FALSE NEIGHBOUR: 'it returns false'. Refute it at one input. -/
def stdcostWrongWrong : ChangeSpec := { name := "stdcostWrong", fn := fun _ => fun
  | [d1, d2] => { results := [.lit (.bool false)], args := [d1, d2] }
  | _ => none }
def StdcostWrongWrongFalsely : Prop := stdcostWrongRow.holds Try.pinned (OpenSpec.ofChange stdcostWrongWrong)

/-- 'purveyorlaw08.GlPlays': WHATEVER THE INPUT: true; the input reads as it did. -/
def glPlaysSpec : ChangeSpec := { name := "glPlays", fn := fun _ => fun
  | [d1, d2] => { results := [.lit (.bool true)], args := [d1, d2] }
  | _ => none }
def glPlaysRow : OpenClaim := { program := "ytabmhfbmfdikaaa", sum := "28d0cedec1f5b08674991df80c8e7856ef5922542c1d1222a55a443c8b25801f", func := "purveyor/purveyorlaw08.GlPlays", spec := "glPlays", unfollowed := true, recurses := true, apart := false }
def GlPlaysSaid : Prop := glPlaysRow.holds Try.pinned (OpenSpec.ofChange glPlaysSpec)

/-- ITS FALSE NEIGHBOUR: 'it returns false'. Refute it at one input. -/
def glPlaysWrong : ChangeSpec := { name := "glPlays", fn := fun _ => fun
  | [d1, d2] => { results := [.lit (.bool false)], args := [d1, d2] }
  | _ => none }
def GlPlaysWrongFalsely : Prop := glPlaysRow.holds Try.pinned (OpenSpec.ofChange glPlaysWrong)

/-- 'purveyorlaw08.GlLimits': WHATEVER THE INPUT: true; the input reads as it did. -/
def glLimitsSpec : ChangeSpec := { name := "glLimits", fn := fun _ => fun
  | [d1, d2, d3] => { results := [.lit (.bool true)], args := [d1, d2, d3] }
  | _ => none }
def glLimitsRow : OpenClaim := { program := "ytabmhfbmfdikaaa", sum := "28d0cedec1f5b08674991df80c8e7856ef5922542c1d1222a55a443c8b25801f", func := "purveyor/purveyorlaw08.GlLimits", spec := "glLimits", unfollowed := true, recurses := true, apart := false }
def GlLimitsSaid : Prop := glLimitsRow.holds Try.pinned (OpenSpec.ofChange glLimitsSpec)

/-- ITS FALSE NEIGHBOUR: 'it returns false'. Refute it at one input. -/
def glLimitsWrong : ChangeSpec := { name := "glLimits", fn := fun _ => fun
  | [d1, d2, d3] => { results := [.lit (.bool false)], args := [d1, d2, d3] }
  | _ => none }
def GlLimitsWrongFalsely : Prop := glLimitsRow.holds Try.pinned (OpenSpec.ofChange glLimitsWrong)

/-- 'purveyorlaw11.PavgFree': WHATEVER THE INPUT: true; the input reads as it did. -/
def pavgFreeSpec : ChangeSpec := { name := "pavgFree", fn := fun _ => fun
  | [d1, d2] => { results := [.lit (.bool true)], args := [d1, d2] }
  | _ => none }
def pavgFreeRow : OpenClaim := { program := "ytabmhfbmfdikaaa", sum := "28d0cedec1f5b08674991df80c8e7856ef5922542c1d1222a55a443c8b25801f", func := "purveyor/purveyorlaw11.PavgFree", spec := "pavgFree", unfollowed := true, recurses := true, named := ["math/bits.divideError", "math/bits.overflowError"], apart := false }
def PavgFreeSaid : Prop := pavgFreeRow.holds Try.pinned (OpenSpec.ofChange pavgFreeSpec)

/-- ITS FALSE NEIGHBOUR: 'it returns false'. Refute it at one input. -/
def pavgFreeWrong : ChangeSpec := { name := "pavgFree", fn := fun _ => fun
  | [d1, d2] => { results := [.lit (.bool false)], args := [d1, d2] }
  | _ => none }
def PavgFreeWrongFalsely : Prop := pavgFreeRow.holds Try.pinned (OpenSpec.ofChange pavgFreeWrong)

/-- 'purveyorlaw02.PartsAll': WHATEVER THE INPUT: true; the input reads as it did. -/
def partsAllSpec : ChangeSpec := { name := "partsAll", fn := fun _ => fun
  | [d1, d2] => { results := [.lit (.bool true)], args := [d1, d2] }
  | _ => none }
def partsAllRow : OpenClaim := { program := "ytabmhfbmfdikaaa", sum := "28d0cedec1f5b08674991df80c8e7856ef5922542c1d1222a55a443c8b25801f", func := "purveyor/purveyorlaw02.PartsAll", spec := "partsAll", unfollowed := true, recurses := true, named := ["math/bits.divideError", "math/bits.overflowError"], apart := false }
def PartsAllSaid : Prop := partsAllRow.holds Try.pinned (OpenSpec.ofChange partsAllSpec)

/-- ITS FALSE NEIGHBOUR: 'it returns false'. Refute it at one input. -/
def partsAllWrong : ChangeSpec := { name := "partsAll", fn := fun _ => fun
  | [d1, d2] => { results := [.lit (.bool false)], args := [d1, d2] }
  | _ => none }
def PartsAllWrongFalsely : Prop := partsAllRow.holds Try.pinned (OpenSpec.ofChange partsAllWrong)

/-- 'purveyorlaw02.PartsFair': WHATEVER THE INPUT: true; the input reads as it did. -/
def partsFairSpec : ChangeSpec := { name := "partsFair", fn := fun _ => fun
  | [d1, d2] => { results := [.lit (.bool true)], args := [d1, d2] }
  | _ => none }
def partsFairRow : OpenClaim := { program := "ytabmhfbmfdikaaa", sum := "28d0cedec1f5b08674991df80c8e7856ef5922542c1d1222a55a443c8b25801f", func := "purveyor/purveyorlaw02.PartsFair", spec := "partsFair", unfollowed := true, recurses := true, named := ["math/bits.divideError", "math/bits.overflowError"], apart := false }
def PartsFairSaid : Prop := partsFairRow.holds Try.pinned (OpenSpec.ofChange partsFairSpec)

/-- ITS FALSE NEIGHBOUR: 'it returns false'. Refute it at one input. -/
def partsFairWrong : ChangeSpec := { name := "partsFair", fn := fun _ => fun
  | [d1, d2] => { results := [.lit (.bool false)], args := [d1, d2] }
  | _ => none }
def PartsFairWrongFalsely : Prop := partsFairRow.holds Try.pinned (OpenSpec.ofChange partsFairWrong)

/-- 'purveyorlaw02.PartsEven': WHATEVER THE INPUT: true; the input reads as it did. -/
def partsEvenSpec : ChangeSpec := { name := "partsEven", fn := fun _ => fun
  | [d1, d2] => { results := [.lit (.bool true)], args := [d1, d2] }
  | _ => none }
def partsEvenRow : OpenClaim := { program := "ytabmhfbmfdikaaa", sum := "28d0cedec1f5b08674991df80c8e7856ef5922542c1d1222a55a443c8b25801f", func := "purveyor/purveyorlaw02.PartsEven", spec := "partsEven", unfollowed := true, recurses := true, named := ["math/bits.divideError", "math/bits.overflowError"], apart := false }
def PartsEvenSaid : Prop := partsEvenRow.holds Try.pinned (OpenSpec.ofChange partsEvenSpec)

/-- ITS FALSE NEIGHBOUR: 'it returns false'. Refute it at one input. -/
def partsEvenWrong : ChangeSpec := { name := "partsEven", fn := fun _ => fun
  | [d1, d2] => { results := [.lit (.bool false)], args := [d1, d2] }
  | _ => none }
def PartsEvenWrongFalsely : Prop := partsEvenRow.holds Try.pinned (OpenSpec.ofChange partsEvenWrong)

/-- 'purveyorlaw02.PartsWrong': WHATEVER THE INPUT: true; the input reads as it did. -/
def partsWrongSpec : ChangeSpec := { name := "partsWrong", fn := fun _ => fun
  | [d1, d2] => { results := [.lit (.bool true)], args := [d1, d2] }
  | _ => none }
def partsWrongRow : OpenClaim := { program := "ytabmhfbmfdikaaa", sum := "28d0cedec1f5b08674991df80c8e7856ef5922542c1d1222a55a443c8b25801f", func := "purveyor/purveyorlaw02.PartsWrong", spec := "partsWrong", unfollowed := true, recurses := true, named := ["math/bits.divideError", "math/bits.overflowError"], apart := false }
def PartsWrongSaid : Prop := partsWrongRow.holds Try.pinned (OpenSpec.ofChange partsWrongSpec)

/-- ITS FALSE NEIGHBOUR: 'it returns false'. Refute it at one input. -/
def partsWrongWrong : ChangeSpec := { name := "partsWrong", fn := fun _ => fun
  | [d1, d2] => { results := [.lit (.bool false)], args := [d1, d2] }
  | _ => none }
def PartsWrongWrongFalsely : Prop := partsWrongRow.holds Try.pinned (OpenSpec.ofChange partsWrongWrong)

/-- 'purveyorlaw13.PoolMethods': WHATEVER THE INPUT: true; the input reads as it did. -/
def poolMethodsSpec : ChangeSpec := { name := "poolMethods", fn := fun _ => fun
  | [d1, d2, d3] => { results := [.lit (.bool true)], args := [d1, d2, d3] }
  | _ => none }
def poolMethodsRow : OpenClaim := { program := "ytabmhfbmfdikaaa", sum := "28d0cedec1f5b08674991df80c8e7856ef5922542c1d1222a55a443c8b25801f", func := "purveyor/purveyorlaw13.PoolMethods", spec := "poolMethods", unfollowed := true, recurses := true, named := ["math/bits.divideError", "math/bits.overflowError"], apart := false }
def PoolMethodsSaid : Prop := poolMethodsRow.holds Try.pinned (OpenSpec.ofChange poolMethodsSpec)

/-- ITS FALSE NEIGHBOUR: 'it returns false'. Refute it at one input. -/
def poolMethodsWrong : ChangeSpec := { name := "poolMethods", fn := fun _ => fun
  | [d1, d2, d3] => { results := [.lit (.bool false)], args := [d1, d2, d3] }
  | _ => none }
def PoolMethodsWrongFalsely : Prop := poolMethodsRow.holds Try.pinned (OpenSpec.ofChange poolMethodsWrong)

/-- 'purveyorlaw13.PoolPlays': WHATEVER THE INPUT: true; the input reads as it did. -/
def poolPlaysSpec : ChangeSpec := { name := "poolPlays", fn := fun _ => fun
  | [d1, d2, d3] => { results := [.lit (.bool true)], args := [d1, d2, d3] }
  | _ => none }
def poolPlaysRow : OpenClaim := { program := "ytabmhfbmfdikaaa", sum := "28d0cedec1f5b08674991df80c8e7856ef5922542c1d1222a55a443c8b25801f", func := "purveyor/purveyorlaw13.PoolPlays", spec := "poolPlays", unfollowed := true, recurses := true, named := ["math/bits.divideError", "math/bits.overflowError"], apart := false }
def PoolPlaysSaid : Prop := poolPlaysRow.holds Try.pinned (OpenSpec.ofChange poolPlaysSpec)

/-- ITS FALSE NEIGHBOUR: 'it returns false'. Refute it at one input. -/
def poolPlaysWrong : ChangeSpec := { name := "poolPlays", fn := fun _ => fun
  | [d1, d2, d3] => { results := [.lit (.bool false)], args := [d1, d2, d3] }
  | _ => none }
def PoolPlaysWrongFalsely : Prop := poolPlaysRow.holds Try.pinned (OpenSpec.ofChange poolPlaysWrong)

/- THE SECOND FORM. 'bulk': how many values and letters a reading holds, each counted each time it is reached (what is shared counts as often as it is met; a slice's spare places count too). A statement '..UptoSaid' is the law's where the arguments, and the package variables that the reading takes, are together of bulk at most 1048576: NARROWER than '..Said'. Prove '..Said' where nothing that the law and all that it calls make is longer than what came in: it says more and counts as full. Else prove '..UptoSaid'. A law counts once. -/
mutual
def uptoBulk {H : Type} : DataW H → Nat
  | .lit (.string bytes) => bytes.length + 1
  | .lit _ => 1
  | .nil => 1
  | .ptr d => uptoBulk d + 1
  | .slice elems spare => uptoBulkAll elems + uptoBulkAll spare + 1
  | .agg parts => uptoBulkAll parts + 1
  | .iface _ d => uptoBulk d + 1
  | .map entries => uptoBulkEntries entries + 1
  | .held _ => 1
def uptoBulkAll {H : Type} : List (DataW H) → Nat
  | [] => 0
  | d :: r => uptoBulk d + uptoBulkAll r
def uptoBulkEntries {H : Type} : List (Lit × DataW H) → Nat
  | [] => 0
  | x :: r => uptoBulkEntry x + uptoBulkEntries r
def uptoBulkEntry {H : Type} : Lit × DataW H → Nat
  | (.string bytes, d) => bytes.length + uptoBulk d + 1
  | (_, d) => uptoBulk d + 1
 end
def uptoSmall : (H : Type) → List (DataW H) → Bool := fun _ ds => decide (uptoBulkAll ds ≤ 1048576)
def OpenSpec.upto (s : _root_.Go.ChangeSpec) : _root_.Go.OpenSpec := { _root_.Go.OpenSpec.ofChange s with cond := some uptoSmall }

/-- 'purveyorlaw01.MoneyAll', WHERE WHAT IT READS IS OF BULK AT MOST 1048576: true; the input reads as it did. -/
def moneyAllUptoRow : OpenClaim := { program := "ytabmhfbmfdikaaa", sum := "28d0cedec1f5b08674991df80c8e7856ef5922542c1d1222a55a443c8b25801f", func := "purveyor/purveyorlaw01.MoneyAll", spec := "moneyAll", named := ["math/bits.divideError", "math/bits.overflowError"], apart := false, narrowed := true }
def MoneyAllUptoSaid : Prop := moneyAllUptoRow.holds Try.pinned (OpenSpec.upto moneyAllSpec)

/-- 'purveyorlaw01.MoneyBack', WHERE WHAT IT READS IS OF BULK AT MOST 1048576: true; the input reads as it did. -/
def moneyBackUptoRow : OpenClaim := { program := "ytabmhfbmfdikaaa", sum := "28d0cedec1f5b08674991df80c8e7856ef5922542c1d1222a55a443c8b25801f", func := "purveyor/purveyorlaw01.MoneyBack", spec := "moneyBack", named := ["math/bits.divideError", "math/bits.overflowError"], apart := false, narrowed := true }
def MoneyBackUptoSaid : Prop := moneyBackUptoRow.holds Try.pinned (OpenSpec.upto moneyBackSpec)

/-- 'purveyorlaw01.MoneyParts', WHERE WHAT IT READS IS OF BULK AT MOST 1048576: true; the input reads as it did. -/
def moneyPartsUptoRow : OpenClaim := { program := "ytabmhfbmfdikaaa", sum := "28d0cedec1f5b08674991df80c8e7856ef5922542c1d1222a55a443c8b25801f", func := "purveyor/purveyorlaw01.MoneyParts", spec := "moneyParts", named := ["math/bits.divideError", "math/bits.overflowError"], apart := false, narrowed := true }
def MoneyPartsUptoSaid : Prop := moneyPartsUptoRow.holds Try.pinned (OpenSpec.upto moneyPartsSpec)

/-- 'purveyorlaw01.MoneySums', WHERE WHAT IT READS IS OF BULK AT MOST 1048576: true; the input reads as it did. -/
def moneySumsUptoRow : OpenClaim := { program := "ytabmhfbmfdikaaa", sum := "28d0cedec1f5b08674991df80c8e7856ef5922542c1d1222a55a443c8b25801f", func := "purveyor/purveyorlaw01.MoneySums", spec := "moneySums", named := ["math/bits.divideError", "math/bits.overflowError"], apart := false, narrowed := true }
def MoneySumsUptoSaid : Prop := moneySumsUptoRow.holds Try.pinned (OpenSpec.upto moneySumsSpec)

/-- 'purveyorlaw01.MoneyWide', WHERE WHAT IT READS IS OF BULK AT MOST 1048576: true; the input reads as it did. -/
def moneyWideUptoRow : OpenClaim := { program := "ytabmhfbmfdikaaa", sum := "28d0cedec1f5b08674991df80c8e7856ef5922542c1d1222a55a443c8b25801f", func := "purveyor/purveyorlaw01.MoneyWide", spec := "moneyWide", named := ["math/bits.divideError", "math/bits.overflowError"], apart := false, narrowed := true }
def MoneyWideUptoSaid : Prop := moneyWideUptoRow.holds Try.pinned (OpenSpec.upto moneyWideSpec)

/-- 'purveyorlaw09.FifoOne', WHERE WHAT IT READS IS OF BULK AT MOST 1048576: true; the input reads as it did. -/
def fifoOneUptoRow : OpenClaim := { program := "ytabmhfbmfdikaaa", sum := "28d0cedec1f5b08674991df80c8e7856ef5922542c1d1222a55a443c8b25801f", func := "purveyor/purveyorlaw09.FifoOne", spec := "fifoOne", unfollowed := true, recurses := true, named := ["math/bits.divideError", "math/bits.overflowError"], apart := false, narrowed := true }
def FifoOneUptoSaid : Prop := fifoOneUptoRow.holds Try.pinned (OpenSpec.upto fifoOneSpec)

/-- 'purveyorlaw09.FifoAll', WHERE WHAT IT READS IS OF BULK AT MOST 1048576: true; the input reads as it did. -/
def fifoAllUptoRow : OpenClaim := { program := "ytabmhfbmfdikaaa", sum := "28d0cedec1f5b08674991df80c8e7856ef5922542c1d1222a55a443c8b25801f", func := "purveyor/purveyorlaw09.FifoAll", spec := "fifoAll", unfollowed := true, recurses := true, named := ["math/bits.divideError", "math/bits.overflowError"], apart := false, narrowed := true }
def FifoAllUptoSaid : Prop := fifoAllUptoRow.holds Try.pinned (OpenSpec.upto fifoAllSpec)

/-- 'purveyorlaw09.FifoPlays', WHERE WHAT IT READS IS OF BULK AT MOST 1048576: true; the input reads as it did. -/
def fifoPlaysUptoRow : OpenClaim := { program := "ytabmhfbmfdikaaa", sum := "28d0cedec1f5b08674991df80c8e7856ef5922542c1d1222a55a443c8b25801f", func := "purveyor/purveyorlaw09.FifoPlays", spec := "fifoPlays", unfollowed := true, recurses := true, named := ["math/bits.divideError", "math/bits.overflowError"], apart := false, narrowed := true }
def FifoPlaysUptoSaid : Prop := fifoPlaysUptoRow.holds Try.pinned (OpenSpec.upto fifoPlaysSpec)

/-- 'purveyorlaw09.FifoKeeps', WHERE WHAT IT READS IS OF BULK AT MOST 1048576: true; the input reads as it did. -/
def fifoKeepsUptoRow : OpenClaim := { program := "ytabmhfbmfdikaaa", sum := "28d0cedec1f5b08674991df80c8e7856ef5922542c1d1222a55a443c8b25801f", func := "purveyor/purveyorlaw09.FifoKeeps", spec := "fifoKeeps", unfollowed := true, recurses := true, named := ["math/bits.divideError", "math/bits.overflowError"], apart := false, narrowed := true }
def FifoKeepsUptoSaid : Prop := fifoKeepsUptoRow.holds Try.pinned (OpenSpec.upto fifoKeepsSpec)

/-- 'purveyorlaw09.FifoBounds', WHERE WHAT IT READS IS OF BULK AT MOST 1048576: true; the input reads as it did. -/
def fifoBoundsUptoRow : OpenClaim := { program := "ytabmhfbmfdikaaa", sum := "28d0cedec1f5b08674991df80c8e7856ef5922542c1d1222a55a443c8b25801f", func := "purveyor/purveyorlaw09.FifoBounds", spec := "fifoBounds", unfollowed := true, recurses := true, named := ["math/bits.divideError", "math/bits.overflowError"], apart := false, narrowed := true }
def FifoBoundsUptoSaid : Prop := fifoBoundsUptoRow.holds Try.pinned (OpenSpec.upto fifoBoundsSpec)

/-- 'purveyorlaw10.MavgAll', WHERE WHAT IT READS IS OF BULK AT MOST 1048576: true; the input reads as it did. -/
def mavgAllUptoRow : OpenClaim := { program := "ytabmhfbmfdikaaa", sum := "28d0cedec1f5b08674991df80c8e7856ef5922542c1d1222a55a443c8b25801f", func := "purveyor/purveyorlaw10.MavgAll", spec := "mavgAll", unfollowed := true, recurses := true, named := ["math/bits.divideError", "math/bits.overflowError"], apart := false, narrowed := true }
def MavgAllUptoSaid : Prop := mavgAllUptoRow.holds Try.pinned (OpenSpec.upto mavgAllSpec)

/-- 'purveyorlaw10.MavgPlays', WHERE WHAT IT READS IS OF BULK AT MOST 1048576: true; the input reads as it did. -/
def mavgPlaysUptoRow : OpenClaim := { program := "ytabmhfbmfdikaaa", sum := "28d0cedec1f5b08674991df80c8e7856ef5922542c1d1222a55a443c8b25801f", func := "purveyor/purveyorlaw10.MavgPlays", spec := "mavgPlays", unfollowed := true, recurses := true, named := ["math/bits.divideError", "math/bits.overflowError"], apart := false, narrowed := true }
def MavgPlaysUptoSaid : Prop := mavgPlaysUptoRow.holds Try.pinned (OpenSpec.upto mavgPlaysSpec)

/-- 'purveyorlaw10.MavgAverage', WHERE WHAT IT READS IS OF BULK AT MOST 1048576: true; the input reads as it did. -/
def mavgAverageUptoRow : OpenClaim := { program := "ytabmhfbmfdikaaa", sum := "28d0cedec1f5b08674991df80c8e7856ef5922542c1d1222a55a443c8b25801f", func := "purveyor/purveyorlaw10.MavgAverage", spec := "mavgAverage", unfollowed := true, recurses := true, named := ["math/bits.divideError", "math/bits.overflowError"], apart := false, narrowed := true }
def MavgAverageUptoSaid : Prop := mavgAverageUptoRow.holds Try.pinned (OpenSpec.upto mavgAverageSpec)

/-- 'purveyorlaw10.MavgMixes', WHERE WHAT IT READS IS OF BULK AT MOST 1048576: true; the input reads as it did. -/
def mavgMixesUptoRow : OpenClaim := { program := "ytabmhfbmfdikaaa", sum := "28d0cedec1f5b08674991df80c8e7856ef5922542c1d1222a55a443c8b25801f", func := "purveyor/purveyorlaw10.MavgMixes", spec := "mavgMixes", unfollowed := true, recurses := true, named := ["math/bits.divideError", "math/bits.overflowError"], apart := false, narrowed := true }
def MavgMixesUptoSaid : Prop := mavgMixesUptoRow.holds Try.pinned (OpenSpec.upto mavgMixesSpec)

/-- 'purveyorlaw07.VoucherLimits', WHERE WHAT IT READS IS OF BULK AT MOST 1048576: true; the input reads as it did. -/
def voucherLimitsUptoRow : OpenClaim := { program := "ytabmhfbmfdikaaa", sum := "28d0cedec1f5b08674991df80c8e7856ef5922542c1d1222a55a443c8b25801f", func := "purveyor/purveyorlaw07.VoucherLimits", spec := "voucherLimits", unfollowed := true, recurses := true, apart := false, narrowed := true }
def VoucherLimitsUptoSaid : Prop := voucherLimitsUptoRow.holds Try.pinned (OpenSpec.upto voucherLimitsSpec)

/-- 'purveyorlaw07.VoucherAll', WHERE WHAT IT READS IS OF BULK AT MOST 1048576: true; the input reads as it did. -/
def voucherAllUptoRow : OpenClaim := { program := "ytabmhfbmfdikaaa", sum := "28d0cedec1f5b08674991df80c8e7856ef5922542c1d1222a55a443c8b25801f", func := "purveyor/purveyorlaw07.VoucherAll", spec := "voucherAll", unfollowed := true, recurses := true, apart := false, narrowed := true }
def VoucherAllUptoSaid : Prop := voucherAllUptoRow.holds Try.pinned (OpenSpec.upto voucherAllSpec)

/-- 'purveyorlaw07.VoucherPlain', WHERE WHAT IT READS IS OF BULK AT MOST 1048576: true; the input reads as it did. -/
def voucherPlainUptoRow : OpenClaim := { program := "ytabmhfbmfdikaaa", sum := "28d0cedec1f5b08674991df80c8e7856ef5922542c1d1222a55a443c8b25801f", func := "purveyor/purveyorlaw07.VoucherPlain", spec := "voucherPlain", unfollowed := true, recurses := true, apart := false, narrowed := true }
def VoucherPlainUptoSaid : Prop := voucherPlainUptoRow.holds Try.pinned (OpenSpec.upto voucherPlainSpec)

/-- 'purveyorlaw11.PavgSettles', WHERE WHAT IT READS IS OF BULK AT MOST 1048576: true; the input reads as it did. -/
def pavgSettlesUptoRow : OpenClaim := { program := "ytabmhfbmfdikaaa", sum := "28d0cedec1f5b08674991df80c8e7856ef5922542c1d1222a55a443c8b25801f", func := "purveyor/purveyorlaw11.PavgSettles", spec := "pavgSettles", unfollowed := true, recurses := true, named := ["math/bits.divideError", "math/bits.overflowError"], apart := false, narrowed := true }
def PavgSettlesUptoSaid : Prop := pavgSettlesUptoRow.holds Try.pinned (OpenSpec.upto pavgSettlesSpec)

/-- 'purveyorlaw12.StdcostKeeps', WHERE WHAT IT READS IS OF BULK AT MOST 1048576: true; the input reads as it did. -/
def stdcostKeepsUptoRow : OpenClaim := { program := "ytabmhfbmfdikaaa", sum := "28d0cedec1f5b08674991df80c8e7856ef5922542c1d1222a55a443c8b25801f", func := "purveyor/purveyorlaw12.StdcostKeeps", spec := "stdcostKeeps", unfollowed := true, recurses := true, named := ["math/bits.divideError", "math/bits.overflowError"], apart := false, narrowed := true }
def StdcostKeepsUptoSaid : Prop := stdcostKeepsUptoRow.holds Try.pinned (OpenSpec.upto stdcostKeepsSpec)

/-- 'purveyorlaw12.StdcostWrong', WHERE WHAT IT READS IS OF BULK AT MOST 1048576: true; the input reads as it did. -/
def stdcostWrongUptoRow : OpenClaim := { program := "ytabmhfbmfdikaaa", sum := "28d0cedec1f5b08674991df80c8e7856ef5922542c1d1222a55a443c8b25801f", func := "purveyor/purveyorlaw12.StdcostWrong", spec := "stdcostWrong", unfollowed := true, recurses := true, named := ["math/bits.divideError", "math/bits.overflowError"], apart := false, narrowed := true }
def StdcostWrongUptoSaid : Prop := stdcostWrongUptoRow.holds Try.pinned (OpenSpec.upto stdcostWrongSpec)

/-- 'purveyorlaw08.GlPlays', WHERE WHAT IT READS IS OF BULK AT MOST 1048576: true; the input reads as it did. -/
def glPlaysUptoRow : OpenClaim := { program := "ytabmhfbmfdikaaa", sum := "28d0cedec1f5b08674991df80c8e7856ef5922542c1d1222a55a443c8b25801f", func := "purveyor/purveyorlaw08.GlPlays", spec := "glPlays", unfollowed := true, recurses := true, apart := false, narrowed := true }
def GlPlaysUptoSaid : Prop := glPlaysUptoRow.holds Try.pinned (OpenSpec.upto glPlaysSpec)

/-- 'purveyorlaw08.GlLimits', WHERE WHAT IT READS IS OF BULK AT MOST 1048576: true; the input reads as it did. -/
def glLimitsUptoRow : OpenClaim := { program := "ytabmhfbmfdikaaa", sum := "28d0cedec1f5b08674991df80c8e7856ef5922542c1d1222a55a443c8b25801f", func := "purveyor/purveyorlaw08.GlLimits", spec := "glLimits", unfollowed := true, recurses := true, apart := false, narrowed := true }
def GlLimitsUptoSaid : Prop := glLimitsUptoRow.holds Try.pinned (OpenSpec.upto glLimitsSpec)

/-- 'purveyorlaw11.PavgFree', WHERE WHAT IT READS IS OF BULK AT MOST 1048576: true; the input reads as it did. -/
def pavgFreeUptoRow : OpenClaim := { program := "ytabmhfbmfdikaaa", sum := "28d0cedec1f5b08674991df80c8e7856ef5922542c1d1222a55a443c8b25801f", func := "purveyor/purveyorlaw11.PavgFree", spec := "pavgFree", unfollowed := true, recurses := true, named := ["math/bits.divideError", "math/bits.overflowError"], apart := false, narrowed := true }
def PavgFreeUptoSaid : Prop := pavgFreeUptoRow.holds Try.pinned (OpenSpec.upto pavgFreeSpec)

/-- 'purveyorlaw02.PartsAll', WHERE WHAT IT READS IS OF BULK AT MOST 1048576: true; the input reads as it did. -/
def partsAllUptoRow : OpenClaim := { program := "ytabmhfbmfdikaaa", sum := "28d0cedec1f5b08674991df80c8e7856ef5922542c1d1222a55a443c8b25801f", func := "purveyor/purveyorlaw02.PartsAll", spec := "partsAll", unfollowed := true, recurses := true, named := ["math/bits.divideError", "math/bits.overflowError"], apart := false, narrowed := true }
def PartsAllUptoSaid : Prop := partsAllUptoRow.holds Try.pinned (OpenSpec.upto partsAllSpec)

/-- 'purveyorlaw02.PartsFair', WHERE WHAT IT READS IS OF BULK AT MOST 1048576: true; the input reads as it did. -/
def partsFairUptoRow : OpenClaim := { program := "ytabmhfbmfdikaaa", sum := "28d0cedec1f5b08674991df80c8e7856ef5922542c1d1222a55a443c8b25801f", func := "purveyor/purveyorlaw02.PartsFair", spec := "partsFair", unfollowed := true, recurses := true, named := ["math/bits.divideError", "math/bits.overflowError"], apart := false, narrowed := true }
def PartsFairUptoSaid : Prop := partsFairUptoRow.holds Try.pinned (OpenSpec.upto partsFairSpec)

/-- 'purveyorlaw02.PartsEven', WHERE WHAT IT READS IS OF BULK AT MOST 1048576: true; the input reads as it did. -/
def partsEvenUptoRow : OpenClaim := { program := "ytabmhfbmfdikaaa", sum := "28d0cedec1f5b08674991df80c8e7856ef5922542c1d1222a55a443c8b25801f", func := "purveyor/purveyorlaw02.PartsEven", spec := "partsEven", unfollowed := true, recurses := true, named := ["math/bits.divideError", "math/bits.overflowError"], apart := false, narrowed := true }
def PartsEvenUptoSaid : Prop := partsEvenUptoRow.holds Try.pinned (OpenSpec.upto partsEvenSpec)

/-- 'purveyorlaw02.PartsWrong', WHERE WHAT IT READS IS OF BULK AT MOST 1048576: true; the input reads as it did. -/
def partsWrongUptoRow : OpenClaim := { program := "ytabmhfbmfdikaaa", sum := "28d0cedec1f5b08674991df80c8e7856ef5922542c1d1222a55a443c8b25801f", func := "purveyor/purveyorlaw02.PartsWrong", spec := "partsWrong", unfollowed := true, recurses := true, named := ["math/bits.divideError", "math/bits.overflowError"], apart := false, narrowed := true }
def PartsWrongUptoSaid : Prop := partsWrongUptoRow.holds Try.pinned (OpenSpec.upto partsWrongSpec)

/-- 'purveyorlaw13.PoolMethods', WHERE WHAT IT READS IS OF BULK AT MOST 1048576: true; the input reads as it did. -/
def poolMethodsUptoRow : OpenClaim := { program := "ytabmhfbmfdikaaa", sum := "28d0cedec1f5b08674991df80c8e7856ef5922542c1d1222a55a443c8b25801f", func := "purveyor/purveyorlaw13.PoolMethods", spec := "poolMethods", unfollowed := true, recurses := true, named := ["math/bits.divideError", "math/bits.overflowError"], apart := false, narrowed := true }
def PoolMethodsUptoSaid : Prop := poolMethodsUptoRow.holds Try.pinned (OpenSpec.upto poolMethodsSpec)

/-- 'purveyorlaw13.PoolPlays', WHERE WHAT IT READS IS OF BULK AT MOST 1048576: true; the input reads as it did. -/
def poolPlaysUptoRow : OpenClaim := { program := "ytabmhfbmfdikaaa", sum := "28d0cedec1f5b08674991df80c8e7856ef5922542c1d1222a55a443c8b25801f", func := "purveyor/purveyorlaw13.PoolPlays", spec := "poolPlays", unfollowed := true, recurses := true, named := ["math/bits.divideError", "math/bits.overflowError"], apart := false, narrowed := true }
def PoolPlaysUptoSaid : Prop := poolPlaysUptoRow.holds Try.pinned (OpenSpec.upto poolPlaysSpec)

end Rows
end Go.Proofs.Ytabmhfbmfdikaaa
