/-
  DERIVED. GIVEN WITH THE SEED: THE CARDS: each row of YtlfhikphdkpfgaaDoorRows.lean that lists a variable, with what it lists TIED to the program's text (the seventh form; the later family's looks); each row that meets fmt, with fmt's text TOLD by the authors' own Lean function (tested against real Go, not proved from fmt's source: count such statements apart). THE CARD IS WHAT COUNTS. Prove the row's statement (the work); the ties are given (YtlfhikphdkpfgaaDoorTie.lean); close each card by the builder's one call (the guide's Derived/Test/ToyasCard.lean, 'card_holds'). Laid BY PROGRAM, IN A SANDBOX (cutbox-door.mjs). By AI agents, Wed Nov 11 2026. No macro, syntax, notation, axiom, sorry.
-/
import Derived.Test.YtlfhikphdkpfgaaDoorRows
import GoSem.ClaimSeven
namespace Go.Proofs.YtlfhikphdkpfgaaDoor
namespace Rows

/-- THE TIED CARD OF 'partywalllaw07.TokenChecks'. -/
def tokenChecksCard : Claim7 := { stood := { row := tokenChecksRow, standIns := [], harness := (true, "68c6ae240927bed11a25891137df7d657c0639ffd5eb721771b63895f8b85a92"), looks := true }, kinds := [], alts := [], laidByText := true, laidKinds := [.data, .data, .data, .sentinel, .sentinel], laidTests := true, laidLooks := .later }
def TokenChecksCardSaid : Prop := Claim7.holds Tryd.pinned (.plain (OpenSpec.ofChange tokenChecksSpec)) tokenChecksCard

/-- THE TIED CARD OF 'partywalllaw10.WellformedParts'. -/
def wellformedPartsCard : Claim7 := { stood := { row := wellformedPartsRow, standIns := [], harness := (true, "68c6ae240927bed11a25891137df7d657c0639ffd5eb721771b63895f8b85a92"), looks := true }, kinds := [], alts := [], laidByText := true, laidKinds := [.widerDeep], laidTests := true, laidLooks := .later }
def WellformedPartsCardSaid : Prop := Claim7.holds Tryd.pinned (.plain (OpenSpec.ofChange wellformedPartsSpec)) wellformedPartsCard

/-- THE TIED CARD OF 'partywalllaw08.AstPrints'. -/
def astPrintsCard : Claim7 := { stood := { row := astPrintsRow, standIns := [], harness := (true, "68c6ae240927bed11a25891137df7d657c0639ffd5eb721771b63895f8b85a92"), looks := true }, kinds := [], alts := [], laidByText := true, laidKinds := [.data, .data, .data, .widerDeep, .data], laidTests := true, laidLooks := .later }
def AstPrintsCardSaid : Prop := Claim7.holds Tryd.pinned (.plain (OpenSpec.ofChange astPrintsSpec)) astPrintsCard

/-- THE TIED CARD OF 'partywalllaw08.AstSame'. -/
def astSameCard : Claim7 := { stood := { row := astSameRow, standIns := [], harness := (true, "68c6ae240927bed11a25891137df7d657c0639ffd5eb721771b63895f8b85a92"), looks := true }, kinds := [], alts := [], laidByText := true, laidKinds := [.data, .data, .data, .widerDeep, .data], laidTests := true, laidLooks := .later }
def AstSameCardSaid : Prop := Claim7.holds Tryd.pinned (.plain (OpenSpec.ofChange astSameSpec)) astSameCard

/-- THE TIED CARD OF 'partywalllaw08.AstKids'. -/
def astKidsCard : Claim7 := { stood := { row := astKidsRow, standIns := [], harness := (true, "68c6ae240927bed11a25891137df7d657c0639ffd5eb721771b63895f8b85a92"), looks := true }, kinds := [], alts := [], laidByText := true, laidKinds := [.data, .data, .data, .widerDeep, .data], laidTests := true, laidLooks := .later }
def AstKidsCardSaid : Prop := Claim7.holds Tryd.pinned (.plain (OpenSpec.ofChange astKidsSpec)) astKidsCard

/-- THE TIED CARD OF 'partywalllaw08.AstParts'. -/
def astPartsCard : Claim7 := { stood := { row := astPartsRow, standIns := [], harness := (true, "68c6ae240927bed11a25891137df7d657c0639ffd5eb721771b63895f8b85a92"), looks := true }, kinds := [], alts := [], laidByText := true, laidKinds := [.data, .data, .data, .widerDeep, .data], laidTests := true, laidLooks := .later }
def AstPartsCardSaid : Prop := Claim7.holds Tryd.pinned (.plain (OpenSpec.ofChange astPartsSpec)) astPartsCard

/-- THE TIED CARD OF 'partywalllaw08.AstTexts'. -/
def astTextsCard : Claim7 := { stood := { row := astTextsRow, standIns := [], harness := (true, "68c6ae240927bed11a25891137df7d657c0639ffd5eb721771b63895f8b85a92"), looks := true }, kinds := [], alts := [], laidByText := true, laidKinds := [.data, .data, .data, .widerDeep, .data], laidTests := true, laidLooks := .later }
def AstTextsCardSaid : Prop := Claim7.holds Tryd.pinned (.plain (OpenSpec.ofChange astTextsSpec)) astTextsCard

/-- THE SECOND FORM's CARD OF 'partywalllaw07.TokenChecks'. -/
def tokenChecksUptoCard : Claim7 := { stood := { row := tokenChecksUptoRow, standIns := [], harness := (true, "68c6ae240927bed11a25891137df7d657c0639ffd5eb721771b63895f8b85a92"), looks := true }, kinds := [], alts := [], laidByText := true, laidKinds := [.data, .data, .data, .sentinel, .sentinel], laidTests := true, laidLooks := .later }
def TokenChecksUptoCardSaid : Prop := Claim7.holds Tryd.pinned (.plain (OpenSpec.upto tokenChecksSpec)) tokenChecksUptoCard

/-- THE SECOND FORM's CARD OF 'partywalllaw10.WellformedParts'. -/
def wellformedPartsUptoCard : Claim7 := { stood := { row := wellformedPartsUptoRow, standIns := [], harness := (true, "68c6ae240927bed11a25891137df7d657c0639ffd5eb721771b63895f8b85a92"), looks := true }, kinds := [], alts := [], laidByText := true, laidKinds := [.widerDeep], laidTests := true, laidLooks := .later }
def WellformedPartsUptoCardSaid : Prop := Claim7.holds Tryd.pinned (.plain (OpenSpec.upto wellformedPartsSpec)) wellformedPartsUptoCard

/-- THE SECOND FORM's CARD OF 'partywalllaw08.AstPrints'. -/
def astPrintsUptoCard : Claim7 := { stood := { row := astPrintsUptoRow, standIns := [], harness := (true, "68c6ae240927bed11a25891137df7d657c0639ffd5eb721771b63895f8b85a92"), looks := true }, kinds := [], alts := [], laidByText := true, laidKinds := [.data, .data, .data, .widerDeep, .data], laidTests := true, laidLooks := .later }
def AstPrintsUptoCardSaid : Prop := Claim7.holds Tryd.pinned (.plain (OpenSpec.upto astPrintsSpec)) astPrintsUptoCard

/-- THE SECOND FORM's CARD OF 'partywalllaw08.AstSame'. -/
def astSameUptoCard : Claim7 := { stood := { row := astSameUptoRow, standIns := [], harness := (true, "68c6ae240927bed11a25891137df7d657c0639ffd5eb721771b63895f8b85a92"), looks := true }, kinds := [], alts := [], laidByText := true, laidKinds := [.data, .data, .data, .widerDeep, .data], laidTests := true, laidLooks := .later }
def AstSameUptoCardSaid : Prop := Claim7.holds Tryd.pinned (.plain (OpenSpec.upto astSameSpec)) astSameUptoCard

/-- THE SECOND FORM's CARD OF 'partywalllaw08.AstKids'. -/
def astKidsUptoCard : Claim7 := { stood := { row := astKidsUptoRow, standIns := [], harness := (true, "68c6ae240927bed11a25891137df7d657c0639ffd5eb721771b63895f8b85a92"), looks := true }, kinds := [], alts := [], laidByText := true, laidKinds := [.data, .data, .data, .widerDeep, .data], laidTests := true, laidLooks := .later }
def AstKidsUptoCardSaid : Prop := Claim7.holds Tryd.pinned (.plain (OpenSpec.upto astKidsSpec)) astKidsUptoCard

/-- THE SECOND FORM's CARD OF 'partywalllaw08.AstParts'. -/
def astPartsUptoCard : Claim7 := { stood := { row := astPartsUptoRow, standIns := [], harness := (true, "68c6ae240927bed11a25891137df7d657c0639ffd5eb721771b63895f8b85a92"), looks := true }, kinds := [], alts := [], laidByText := true, laidKinds := [.data, .data, .data, .widerDeep, .data], laidTests := true, laidLooks := .later }
def AstPartsUptoCardSaid : Prop := Claim7.holds Tryd.pinned (.plain (OpenSpec.upto astPartsSpec)) astPartsUptoCard

/-- THE SECOND FORM's CARD OF 'partywalllaw08.AstTexts'. -/
def astTextsUptoCard : Claim7 := { stood := { row := astTextsUptoRow, standIns := [], harness := (true, "68c6ae240927bed11a25891137df7d657c0639ffd5eb721771b63895f8b85a92"), looks := true }, kinds := [], alts := [], laidByText := true, laidKinds := [.data, .data, .data, .widerDeep, .data], laidTests := true, laidLooks := .later }
def AstTextsUptoCardSaid : Prop := Claim7.holds Tryd.pinned (.plain (OpenSpec.upto astTextsSpec)) astTextsUptoCard
end Rows
end Go.Proofs.YtlfhikphdkpfgaaDoor
