/-
  DERIVED. GIVEN WITH THE SEED: THE CARDS: each row of YtaocfoahipeboaaDoorRows.lean that lists a variable, with what it lists TIED to the program's text (the seventh form; the later family's looks); each row that meets fmt, with fmt's text TOLD by the authors' own Lean function (tested against real Go, not proved from fmt's source: count such statements apart). THE CARD IS WHAT COUNTS. Prove the row's statement (the work); the ties are given (YtaocfoahipeboaaDoorTie.lean); close each card by the builder's one call (the guide's Derived/Test/ToyasCard.lean, 'card_holds'). Laid BY PROGRAM, IN A SANDBOX (cutbox-door.mjs). By AI agents, Wed Nov 11 2026. No macro, syntax, notation, axiom, sorry.
-/
import Derived.Test.YtaocfoahipeboaaDoorRows
import GoSem.ClaimSeven
namespace Go.Proofs.YtaocfoahipeboaaDoor
namespace Rows

/-- THE TIED CARD OF 'purveyorlaw06.ChartAll'. -/
def chartAllCard : Claim7 := { stood := { row := chartAllRow, standIns := [], harness := (true, "c72870d934646b758c6ada084a13af763456ce4e1779a40037695e73f6de8e2d"), looks := false }, kinds := [], alts := [], laidByText := true, laidKinds := [.listed, .data], laidTests := true, laidLooks := .later }
def ChartAllCardSaid : Prop := Claim7.holds Tryd.pinned (.plain (OpenSpec.ofChange chartAllSpec)) chartAllCard

/-- THE TIED CARD OF 'purveyorlaw06.ChartKinds'. -/
def chartKindsCard : Claim7 := { stood := { row := chartKindsRow, standIns := [], harness := (true, "c72870d934646b758c6ada084a13af763456ce4e1779a40037695e73f6de8e2d"), looks := false }, kinds := [], alts := [], laidByText := true, laidKinds := [.listed, .data], laidTests := true, laidLooks := .later }
def ChartKindsCardSaid : Prop := Claim7.holds Tryd.pinned (.plain (OpenSpec.ofChange chartKindsSpec)) chartKindsCard

/-- THE TIED CARD OF 'purveyorlaw06.ChartNames'. -/
def chartNamesCard : Claim7 := { stood := { row := chartNamesRow, standIns := [], harness := (true, "c72870d934646b758c6ada084a13af763456ce4e1779a40037695e73f6de8e2d"), looks := false }, kinds := [], alts := [], laidByText := true, laidKinds := [.listed, .data], laidTests := true, laidLooks := .later }
def ChartNamesCardSaid : Prop := Claim7.holds Tryd.pinned (.plain (OpenSpec.ofChange chartNamesSpec)) chartNamesCard

/-- THE SECOND FORM's CARD OF 'purveyorlaw06.ChartAll'. -/
def chartAllUptoCard : Claim7 := { stood := { row := chartAllUptoRow, standIns := [], harness := (true, "c72870d934646b758c6ada084a13af763456ce4e1779a40037695e73f6de8e2d"), looks := false }, kinds := [], alts := [], laidByText := true, laidKinds := [.listed, .data], laidTests := true, laidLooks := .later }
def ChartAllUptoCardSaid : Prop := Claim7.holds Tryd.pinned (.plain (OpenSpec.upto chartAllSpec)) chartAllUptoCard

/-- THE SECOND FORM's CARD OF 'purveyorlaw06.ChartKinds'. -/
def chartKindsUptoCard : Claim7 := { stood := { row := chartKindsUptoRow, standIns := [], harness := (true, "c72870d934646b758c6ada084a13af763456ce4e1779a40037695e73f6de8e2d"), looks := false }, kinds := [], alts := [], laidByText := true, laidKinds := [.listed, .data], laidTests := true, laidLooks := .later }
def ChartKindsUptoCardSaid : Prop := Claim7.holds Tryd.pinned (.plain (OpenSpec.upto chartKindsSpec)) chartKindsUptoCard

/-- THE SECOND FORM's CARD OF 'purveyorlaw06.ChartNames'. -/
def chartNamesUptoCard : Claim7 := { stood := { row := chartNamesUptoRow, standIns := [], harness := (true, "c72870d934646b758c6ada084a13af763456ce4e1779a40037695e73f6de8e2d"), looks := false }, kinds := [], alts := [], laidByText := true, laidKinds := [.listed, .data], laidTests := true, laidLooks := .later }
def ChartNamesUptoCardSaid : Prop := Claim7.holds Tryd.pinned (.plain (OpenSpec.upto chartNamesSpec)) chartNamesUptoCard
end Rows
end Go.Proofs.YtaocfoahipeboaaDoor
