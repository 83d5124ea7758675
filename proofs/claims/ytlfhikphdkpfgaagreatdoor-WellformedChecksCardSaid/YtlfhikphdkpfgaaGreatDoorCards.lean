/-
  DERIVED. GIVEN WITH THE SEED: THE CARDS: each row of YtlfhikphdkpfgaaGreatDoorRows.lean that lists a variable, with what it lists TIED to the program's text (the seventh form; the later family's looks); each row that meets fmt, with fmt's text TOLD by the authors' own Lean function (tested against real Go, not proved from fmt's source: count such statements apart). THE CARD IS WHAT COUNTS. Prove the row's statement (the work); the ties are given (YtlfhikphdkpfgaaGreatDoorTie.lean); close each card by the builder's one call (the guide's Derived/Test/ToyasCard.lean, 'card_holds'). Laid BY PROGRAM, IN A SANDBOX (cutbox-door.mjs). By AI agents, Wed Nov 11 2026. No macro, syntax, notation, axiom, sorry.
-/
import Derived.Test.YtlfhikphdkpfgaaGreatDoorRows
import GoSem.ClaimSeven
namespace Go.Proofs.YtlfhikphdkpfgaaGreatDoor
namespace Rows

/-- THE TIED CARD OF 'partywalllaw10.WellformedChecks'. -/
def wellformedChecksCard : Claim7 := { stood := { row := wellformedChecksRow, standIns := [], harness := (true, "64ae72e54e9aad23921aa2f101828d75d528092f347ccf741e85854b41aa24ed"), looks := false }, kinds := [], alts := [], laidByText := true, laidKinds := [.widerDeep], laidTests := true, laidLooks := .later }
def WellformedChecksCardSaid : Prop := Claim7.holds Tryz.pinned (.plain (OpenSpec.ofChange wellformedChecksSpec)) wellformedChecksCard

/-- THE TIED CARD OF 'partywalllaw10.WellformedLess'. -/
def wellformedLessCard : Claim7 := { stood := { row := wellformedLessRow, standIns := [], harness := (true, "64ae72e54e9aad23921aa2f101828d75d528092f347ccf741e85854b41aa24ed"), looks := false }, kinds := [], alts := [], laidByText := true, laidKinds := [.data, .data, .data, .widerDeep, .data], laidTests := true, laidLooks := .later }
def WellformedLessCardSaid : Prop := Claim7.holds Tryz.pinned (.plain (OpenSpec.ofChange wellformedLessSpec)) wellformedLessCard

/-- THE SECOND FORM's CARD OF 'partywalllaw10.WellformedChecks'. -/
def wellformedChecksUptoCard : Claim7 := { stood := { row := wellformedChecksUptoRow, standIns := [], harness := (true, "64ae72e54e9aad23921aa2f101828d75d528092f347ccf741e85854b41aa24ed"), looks := false }, kinds := [], alts := [], laidByText := true, laidKinds := [.widerDeep], laidTests := true, laidLooks := .later }
def WellformedChecksUptoCardSaid : Prop := Claim7.holds Tryz.pinned (.plain (OpenSpec.upto wellformedChecksSpec)) wellformedChecksUptoCard

/-- THE SECOND FORM's CARD OF 'partywalllaw10.WellformedLess'. -/
def wellformedLessUptoCard : Claim7 := { stood := { row := wellformedLessUptoRow, standIns := [], harness := (true, "64ae72e54e9aad23921aa2f101828d75d528092f347ccf741e85854b41aa24ed"), looks := false }, kinds := [], alts := [], laidByText := true, laidKinds := [.data, .data, .data, .widerDeep, .data], laidTests := true, laidLooks := .later }
def WellformedLessUptoCardSaid : Prop := Claim7.holds Tryz.pinned (.plain (OpenSpec.upto wellformedLessSpec)) wellformedLessUptoCard
end Rows
end Go.Proofs.YtlfhikphdkpfgaaGreatDoor
