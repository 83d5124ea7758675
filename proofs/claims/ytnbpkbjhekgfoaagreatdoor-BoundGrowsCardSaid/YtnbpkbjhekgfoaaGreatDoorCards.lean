/-
  DERIVED. GIVEN WITH THE SEED: THE CARDS: each row of YtnbpkbjhekgfoaaGreatDoorRows.lean that lists a variable, with what it lists TIED to the program's text (the seventh form; the later family's looks); each row that meets fmt, with fmt's text TOLD by the authors' own Lean function (tested against real Go, not proved from fmt's source: count such statements apart). THE CARD IS WHAT COUNTS. Prove the row's statement (the work); the ties are given (YtnbpkbjhekgfoaaGreatDoorTie.lean); close each card by the builder's one call (the guide's Derived/Test/ToyasCard.lean, 'card_holds'). Laid BY PROGRAM, IN A SANDBOX (cutbox-door.mjs). By AI agents, Wed Nov 11 2026. No macro, syntax, notation, axiom, sorry.
-/
import Derived.Test.YtnbpkbjhekgfoaaGreatDoorRows
import GoSem.ClaimSeven
namespace Go.Proofs.YtnbpkbjhekgfoaaGreatDoor
namespace Rows

/-- THE TIED CARD OF 'partywalllaw38.BoundGrows'. -/
def boundGrowsCard : Claim7 := { stood := { row := boundGrowsRow, standIns := [], harness := (true, "d98c98e01dbb5624f45ecd20c1016afff54df86785343c7c5bdc12420854bb82"), looks := true }, kinds := [], alts := [], laidByText := true, laidKinds := [.data, .data, .data, .sentinel, .sentinel, .widerDeep], laidTests := true, laidLooks := .later }
def BoundGrowsCardSaid : Prop := Claim7.holds Tryz.pinned (.plain (OpenSpec.ofChange boundGrowsSpec)) boundGrowsCard

/-- THE SECOND FORM's CARD OF 'partywalllaw38.BoundGrows'. -/
def boundGrowsUptoCard : Claim7 := { stood := { row := boundGrowsUptoRow, standIns := [], harness := (true, "d98c98e01dbb5624f45ecd20c1016afff54df86785343c7c5bdc12420854bb82"), looks := true }, kinds := [], alts := [], laidByText := true, laidKinds := [.data, .data, .data, .sentinel, .sentinel, .widerDeep], laidTests := true, laidLooks := .later }
def BoundGrowsUptoCardSaid : Prop := Claim7.holds Tryz.pinned (.plain (OpenSpec.upto boundGrowsSpec)) boundGrowsUptoCard
end Rows
end Go.Proofs.YtnbpkbjhekgfoaaGreatDoor
