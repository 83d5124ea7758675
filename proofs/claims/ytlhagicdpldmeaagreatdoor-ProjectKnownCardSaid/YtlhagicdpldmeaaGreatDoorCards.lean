/-
  DERIVED. GIVEN WITH THE SEED: THE CARDS: each row of YtlhagicdpldmeaaGreatDoorRows.lean that lists a variable, with what it lists TIED to the program's text (the seventh form; the later family's looks); each row that meets fmt, with fmt's text TOLD by the authors' own Lean function (tested against real Go, not proved from fmt's source: count such statements apart). THE CARD IS WHAT COUNTS. Prove the row's statement (the work); the ties are given (YtlhagicdpldmeaaGreatDoorTie.lean); close each card by the builder's one call (the guide's Derived/Test/ToyasCard.lean, 'card_holds'). Laid BY PROGRAM, IN A SANDBOX (cutbox-door.mjs). By AI agents, Wed Nov 11 2026. No macro, syntax, notation, axiom, sorry.
-/
import Derived.Test.YtlhagicdpldmeaaGreatDoorRows
import GoSem.ClaimSeven
namespace Go.Proofs.YtlhagicdpldmeaaGreatDoor
namespace Rows

/-- THE TIED CARD OF 'partywalllaw37.ProjectKnown'. -/
def projectKnownCard : Claim7 := { stood := { row := projectKnownRow, standIns := [], harness := (true, "44bd0eb170bedc9f1ed8d25b5b3ffcaec45034226736667a8b76b4ae6a98afd7"), looks := true }, kinds := [], alts := [], laidByText := true, laidKinds := [.data, .data, .data, .sentinel, .sentinel, .widerDeep], laidTests := true, laidLooks := .later }
def ProjectKnownCardSaid : Prop := Claim7.holds Tryz.pinned (.plain (OpenSpec.ofChange projectKnownSpec)) projectKnownCard

/-- THE SECOND FORM's CARD OF 'partywalllaw37.ProjectKnown'. -/
def projectKnownUptoCard : Claim7 := { stood := { row := projectKnownUptoRow, standIns := [], harness := (true, "44bd0eb170bedc9f1ed8d25b5b3ffcaec45034226736667a8b76b4ae6a98afd7"), looks := true }, kinds := [], alts := [], laidByText := true, laidKinds := [.data, .data, .data, .sentinel, .sentinel, .widerDeep], laidTests := true, laidLooks := .later }
def ProjectKnownUptoCardSaid : Prop := Claim7.holds Tryz.pinned (.plain (OpenSpec.upto projectKnownSpec)) projectKnownUptoCard
end Rows
end Go.Proofs.YtlhagicdpldmeaaGreatDoor
