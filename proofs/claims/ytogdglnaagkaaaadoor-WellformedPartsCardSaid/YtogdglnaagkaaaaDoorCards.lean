/-
  DERIVED. GIVEN WITH THE SEED: THE CARDS: each row of YtogdglnaagkaaaaDoorRows.lean that lists a variable, with what it lists TIED to the program's text (the seventh form; the later family's looks); each row that meets fmt, with fmt's text TOLD by the authors' own Lean function (tested against real Go, not proved from fmt's source: count such statements apart). THE CARD IS WHAT COUNTS. Prove the row's statement (the work); the ties are given (YtogdglnaagkaaaaDoorTie.lean); close each card by the builder's one call (the guide's Derived/Test/ToyasCard.lean, 'card_holds'). Laid BY PROGRAM, IN A SANDBOX (cutbox-door.mjs). By AI agents, Wed Nov 11 2026. No macro, syntax, notation, axiom, sorry.
-/
import Derived.Test.YtogdglnaagkaaaaDoorRows
import GoSem.ClaimSeven
namespace Go.Proofs.YtogdglnaagkaaaaDoor
namespace Rows

/-- THE TIED CARD OF 'partywalllaw10.WellformedParts'. -/
def wellformedPartsCard : Claim7 := { stood := { row := wellformedPartsRow, standIns := [], harness := (true, "f28176270dbda29062fa5c888dcb4d517f0d6872a2d80561e20d17962d99ad7e"), looks := false }, kinds := [], alts := [], laidByText := true, laidKinds := [.widerDeep], laidTests := true, laidLooks := .later }
def WellformedPartsCardSaid : Prop := Claim7.holds Tryd.pinned (.plain (OpenSpec.ofChange wellformedPartsSpec)) wellformedPartsCard

/-- THE SECOND FORM's CARD OF 'partywalllaw10.WellformedParts'. -/
def wellformedPartsUptoCard : Claim7 := { stood := { row := wellformedPartsUptoRow, standIns := [], harness := (true, "f28176270dbda29062fa5c888dcb4d517f0d6872a2d80561e20d17962d99ad7e"), looks := false }, kinds := [], alts := [], laidByText := true, laidKinds := [.widerDeep], laidTests := true, laidLooks := .later }
def WellformedPartsUptoCardSaid : Prop := Claim7.holds Tryd.pinned (.plain (OpenSpec.upto wellformedPartsSpec)) wellformedPartsUptoCard
end Rows
end Go.Proofs.YtogdglnaagkaaaaDoor
