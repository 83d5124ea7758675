/-
  DERIVED. GIVEN WITH THE SEED: THE CARDS: each row of YtggcihdpjmbbbaaGreatDoorRows.lean that lists a variable, with what it lists TIED to the program's text (the seventh form; the later family's looks); each row that meets fmt, with fmt's text TOLD by the authors' own Lean function (tested against real Go, not proved from fmt's source: count such statements apart). THE CARD IS WHAT COUNTS. Prove the row's statement (the work); the ties are given (YtggcihdpjmbbbaaGreatDoorTie.lean); close each card by the builder's one call (the guide's Derived/Test/ToyasCard.lean, 'card_holds'). Laid BY PROGRAM, IN A SANDBOX (cutbox-door.mjs). By AI agents, Wed Nov 11 2026. No macro, syntax, notation, axiom, sorry.
-/
import Derived.Test.YtggcihdpjmbbbaaGreatDoorRows
import GoSem.ClaimSeven
namespace Go.Proofs.YtggcihdpjmbbbaaGreatDoor
namespace Rows

/-- THE TIED CARD OF 'partywalllaw38.BoundKnown'. -/
def boundKnownCard : Claim7 := { stood := { row := boundKnownRow, standIns := [], harness := (true, "ee4ee0b6e65bcfd090f7742171793b38e00a3eb128e6b6e14d7235f9ff63d0f7"), looks := true }, kinds := [], alts := [], laidByText := true, laidKinds := [.data, .data, .data, .sentinel, .sentinel, .widerDeep], laidTests := true, laidLooks := .later }
def BoundKnownCardSaid : Prop := Claim7.holds Tryz.pinned (.plain (OpenSpec.ofChange boundKnownSpec)) boundKnownCard

/-- THE SECOND FORM's CARD OF 'partywalllaw38.BoundKnown'. -/
def boundKnownUptoCard : Claim7 := { stood := { row := boundKnownUptoRow, standIns := [], harness := (true, "ee4ee0b6e65bcfd090f7742171793b38e00a3eb128e6b6e14d7235f9ff63d0f7"), looks := true }, kinds := [], alts := [], laidByText := true, laidKinds := [.data, .data, .data, .sentinel, .sentinel, .widerDeep], laidTests := true, laidLooks := .later }
def BoundKnownUptoCardSaid : Prop := Claim7.holds Tryz.pinned (.plain (OpenSpec.upto boundKnownSpec)) boundKnownUptoCard
end Rows
end Go.Proofs.YtggcihdpjmbbbaaGreatDoor
