/-
  DERIVED. GIVEN WITH THE SEED: THE CARDS: each row of YtdhgpmhlnechbaaGreatDoorRows.lean that lists a variable, with what it lists TIED to the program's text (the seventh form; the later family's looks); each row that meets fmt, with fmt's text TOLD by the authors' own Lean function (tested against real Go, not proved from fmt's source: count such statements apart). THE CARD IS WHAT COUNTS. Prove the row's statement (the work); the ties are given (YtdhgpmhlnechbaaGreatDoorTie.lean); close each card by the builder's one call (the guide's Derived/Test/ToyasCard.lean, 'card_holds'). Laid BY PROGRAM, IN A SANDBOX (cutbox-door.mjs). By AI agents, Wed Nov 11 2026. No macro, syntax, notation, axiom, sorry.
-/
import Derived.Test.YtdhgpmhlnechbaaGreatDoorRows
import GoSem.ClaimSeven
namespace Go.Proofs.YtdhgpmhlnechbaaGreatDoor
namespace Rows

/-- THE TIED CARD OF 'partywalllaw38.BoundBelow'. -/
def boundBelowCard : Claim7 := { stood := { row := boundBelowRow, standIns := [], harness := (true, "ec50e2e34b3fb009360ef4ac843f6bd90427284d1a48d891848ed851ffbaf936"), looks := true }, kinds := [], alts := [], laidByText := true, laidKinds := [.data, .data, .data, .sentinel, .sentinel, .widerDeep], laidTests := true, laidLooks := .later }
def BoundBelowCardSaid : Prop := Claim7.holds Tryz.pinned (.plain (OpenSpec.ofChange boundBelowSpec)) boundBelowCard

/-- THE SECOND FORM's CARD OF 'partywalllaw38.BoundBelow'. -/
def boundBelowUptoCard : Claim7 := { stood := { row := boundBelowUptoRow, standIns := [], harness := (true, "ec50e2e34b3fb009360ef4ac843f6bd90427284d1a48d891848ed851ffbaf936"), looks := true }, kinds := [], alts := [], laidByText := true, laidKinds := [.data, .data, .data, .sentinel, .sentinel, .widerDeep], laidTests := true, laidLooks := .later }
def BoundBelowUptoCardSaid : Prop := Claim7.holds Tryz.pinned (.plain (OpenSpec.upto boundBelowSpec)) boundBelowUptoCard
end Rows
end Go.Proofs.YtdhgpmhlnechbaaGreatDoor
