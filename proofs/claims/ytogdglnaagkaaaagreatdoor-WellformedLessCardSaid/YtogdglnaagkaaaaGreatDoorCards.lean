/-
  DERIVED. GIVEN WITH THE SEED: THE CARDS: each row of YtogdglnaagkaaaaGreatDoorRows.lean that lists a variable, with what it lists TIED to the program's text (the seventh form; the later family's looks); each row that meets fmt, with fmt's text TOLD by the authors' own Lean function (tested against real Go, not proved from fmt's source: count such statements apart). THE CARD IS WHAT COUNTS. Prove the row's statement (the work); the ties are given (YtogdglnaagkaaaaGreatDoorTie.lean); close each card by the builder's one call (the guide's Derived/Test/ToyasCard.lean, 'card_holds'). Laid BY PROGRAM, IN A SANDBOX (cutbox-door.mjs). By AI agents, Wed Nov 11 2026. No macro, syntax, notation, axiom, sorry.
-/
import Derived.Test.YtogdglnaagkaaaaGreatDoorRows
import GoSem.ClaimSeven
namespace Go.Proofs.YtogdglnaagkaaaaGreatDoor
namespace Rows

/-- THE TIED CARD OF 'partywalllaw10.WellformedLess'. -/
def wellformedLessCard : Claim7 := { stood := { row := wellformedLessRow, standIns := [], harness := (true, "71bdea57b632e6e6d981dcf0aa150e29e24d09a3ed123a54d605fea60115aaf9"), looks := false }, kinds := [], alts := [], laidByText := true, laidKinds := [.data, .data, .data, .widerDeep, .data], laidTests := true, laidLooks := .later }
def WellformedLessCardSaid : Prop := Claim7.holds Tryz.pinned (.plain (OpenSpec.ofChange wellformedLessSpec)) wellformedLessCard

/-- THE SECOND FORM's CARD OF 'partywalllaw10.WellformedLess'. -/
def wellformedLessUptoCard : Claim7 := { stood := { row := wellformedLessUptoRow, standIns := [], harness := (true, "71bdea57b632e6e6d981dcf0aa150e29e24d09a3ed123a54d605fea60115aaf9"), looks := false }, kinds := [], alts := [], laidByText := true, laidKinds := [.data, .data, .data, .widerDeep, .data], laidTests := true, laidLooks := .later }
def WellformedLessUptoCardSaid : Prop := Claim7.holds Tryz.pinned (.plain (OpenSpec.upto wellformedLessSpec)) wellformedLessUptoCard
end Rows
end Go.Proofs.YtogdglnaagkaaaaGreatDoor
