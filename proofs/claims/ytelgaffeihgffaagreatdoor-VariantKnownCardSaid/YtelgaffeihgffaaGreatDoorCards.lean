/-
  DERIVED. GIVEN WITH THE SEED: THE CARDS: each row of YtelgaffeihgffaaGreatDoorRows.lean that lists a variable, with what it lists TIED to the program's text (the seventh form; the later family's looks); each row that meets fmt, with fmt's text TOLD by the authors' own Lean function (tested against real Go, not proved from fmt's source: count such statements apart). THE CARD IS WHAT COUNTS. Prove the row's statement (the work); the ties are given (YtelgaffeihgffaaGreatDoorTie.lean); close each card by the builder's one call (the guide's Derived/Test/ToyasCard.lean, 'card_holds'). Laid BY PROGRAM, IN A SANDBOX (cutbox-door.mjs). By AI agents, Wed Nov 11 2026. No macro, syntax, notation, axiom, sorry.
-/
import Derived.Test.YtelgaffeihgffaaGreatDoorRows
import GoSem.ClaimSeven
namespace Go.Proofs.YtelgaffeihgffaaGreatDoor
namespace Rows

/-- THE TIED CARD OF 'partywalllaw43.VariantKnown'. -/
def variantKnownCard : Claim7 := { stood := { row := variantKnownRow, standIns := [], harness := (true, "fd43796a037c0ef6005670fdb937fd5c7032b6ffe0cac8df06775a9310a1eccf"), looks := true }, kinds := [], alts := [], laidByText := true, laidKinds := [.data, .data, .data, .sentinel, .sentinel, .widerDeep], laidTests := true, laidLooks := .later }
def VariantKnownCardSaid : Prop := Claim7.holds Tryz.pinned (.plain (OpenSpec.ofChange variantKnownSpec)) variantKnownCard

/-- THE SECOND FORM's CARD OF 'partywalllaw43.VariantKnown'. -/
def variantKnownUptoCard : Claim7 := { stood := { row := variantKnownUptoRow, standIns := [], harness := (true, "fd43796a037c0ef6005670fdb937fd5c7032b6ffe0cac8df06775a9310a1eccf"), looks := true }, kinds := [], alts := [], laidByText := true, laidKinds := [.data, .data, .data, .sentinel, .sentinel, .widerDeep], laidTests := true, laidLooks := .later }
def VariantKnownUptoCardSaid : Prop := Claim7.holds Tryz.pinned (.plain (OpenSpec.upto variantKnownSpec)) variantKnownUptoCard
end Rows
end Go.Proofs.YtelgaffeihgffaaGreatDoor
