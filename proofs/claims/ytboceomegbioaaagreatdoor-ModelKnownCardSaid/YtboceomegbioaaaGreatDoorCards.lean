/-
  DERIVED. GIVEN WITH THE SEED: THE CARDS: each row of YtboceomegbioaaaGreatDoorRows.lean that lists a variable, with what it lists TIED to the program's text (the seventh form; the later family's looks); each row that meets fmt, with fmt's text TOLD by the authors' own Lean function (tested against real Go, not proved from fmt's source: count such statements apart). THE CARD IS WHAT COUNTS. Prove the row's statement (the work); the ties are given (YtboceomegbioaaaGreatDoorTie.lean); close each card by the builder's one call (the guide's Derived/Test/ToyasCard.lean, 'card_holds'). Laid BY PROGRAM, IN A SANDBOX (cutbox-door.mjs). By AI agents, Wed Nov 11 2026. No macro, syntax, notation, axiom, sorry.
-/
import Derived.Test.YtboceomegbioaaaGreatDoorRows
import GoSem.ClaimSeven
namespace Go.Proofs.YtboceomegbioaaaGreatDoor
namespace Rows

/-- THE TIED CARD OF 'partywalllaw36.ModelKnown'. -/
def modelKnownCard : Claim7 := { stood := { row := modelKnownRow, standIns := [], harness := (true, "1bc2a57ff770a91f1d700b7f1a55e4484559f5356f2437cf8403f2ff1159f4cf"), looks := true }, kinds := [], alts := [], laidByText := true, laidKinds := [.data, .data, .data, .sentinel, .sentinel, .widerDeep], laidTests := true, laidLooks := .later }
def ModelKnownCardSaid : Prop := Claim7.holds Tryz.pinned (.plain (OpenSpec.ofChange modelKnownSpec)) modelKnownCard

/-- THE SECOND FORM's CARD OF 'partywalllaw36.ModelKnown'. -/
def modelKnownUptoCard : Claim7 := { stood := { row := modelKnownUptoRow, standIns := [], harness := (true, "1bc2a57ff770a91f1d700b7f1a55e4484559f5356f2437cf8403f2ff1159f4cf"), looks := true }, kinds := [], alts := [], laidByText := true, laidKinds := [.data, .data, .data, .sentinel, .sentinel, .widerDeep], laidTests := true, laidLooks := .later }
def ModelKnownUptoCardSaid : Prop := Claim7.holds Tryz.pinned (.plain (OpenSpec.upto modelKnownSpec)) modelKnownUptoCard
end Rows
end Go.Proofs.YtboceomegbioaaaGreatDoor
