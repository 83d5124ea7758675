/-
  DERIVED. GIVEN WITH THE SEED: THE CARDS: each row of YtpgbihleidcdkaaDoorRows.lean that lists a variable, with what it lists TIED to the program's text (the seventh form; the later family's looks); each row that meets fmt, with fmt's text TOLD by the authors' own Lean function (tested against real Go, not proved from fmt's source: count such statements apart). THE CARD IS WHAT COUNTS. Prove the row's statement (the work); the ties are given (YtpgbihleidcdkaaDoorTie.lean); close each card by the builder's one call (the guide's Derived/Test/ToyasCard.lean, 'card_holds'). Laid BY PROGRAM, IN A SANDBOX (cutbox-door.mjs). By AI agents, Wed Nov 11 2026. No macro, syntax, notation, axiom, sorry.
-/
import Derived.Test.YtpgbihleidcdkaaDoorRows
import GoSem.ClaimSeven
namespace Go.Proofs.YtpgbihleidcdkaaDoor
namespace Rows

/-- THE TIED CARD OF 'partywalllaw10.WellformedKnown'. -/
def wellformedKnownCard : Claim7 := { stood := { row := wellformedKnownRow, standIns := [], harness := (true, "9b85ce0b14b4e8076a14ee56b20cbdbc2595dc95beec87a9f2d6343fa2059733"), looks := true }, kinds := [], alts := [], laidByText := true, laidKinds := [.widerDeep], laidTests := true, laidLooks := .later }
def WellformedKnownCardSaid : Prop := Claim7.holds Tryd.pinned (.plain (OpenSpec.ofChange wellformedKnownSpec)) wellformedKnownCard

/-- THE TIED CARD OF 'partywalllaw10.WellformedFew'. -/
def wellformedFewCard : Claim7 := { stood := { row := wellformedFewRow, standIns := [], harness := (true, "9b85ce0b14b4e8076a14ee56b20cbdbc2595dc95beec87a9f2d6343fa2059733"), looks := true }, kinds := [], alts := [], laidByText := true, laidKinds := [.widerDeep], laidTests := true, laidLooks := .later }
def WellformedFewCardSaid : Prop := Claim7.holds Tryd.pinned (.plain (OpenSpec.ofChange wellformedFewSpec)) wellformedFewCard

/-- THE TIED CARD OF 'partywalllaw07.TokenKnown'. -/
def tokenKnownCard : Claim7 := { stood := { row := tokenKnownRow, standIns := [], harness := (true, "9b85ce0b14b4e8076a14ee56b20cbdbc2595dc95beec87a9f2d6343fa2059733"), looks := true }, kinds := [], alts := [], laidByText := true, laidKinds := [.data, .data, .data, .sentinel, .sentinel], laidTests := true, laidLooks := .later }
def TokenKnownCardSaid : Prop := Claim7.holds Tryd.pinned (.plain (OpenSpec.ofChange tokenKnownSpec)) tokenKnownCard

/-- THE SECOND FORM's CARD OF 'partywalllaw10.WellformedKnown'. -/
def wellformedKnownUptoCard : Claim7 := { stood := { row := wellformedKnownUptoRow, standIns := [], harness := (true, "9b85ce0b14b4e8076a14ee56b20cbdbc2595dc95beec87a9f2d6343fa2059733"), looks := true }, kinds := [], alts := [], laidByText := true, laidKinds := [.widerDeep], laidTests := true, laidLooks := .later }
def WellformedKnownUptoCardSaid : Prop := Claim7.holds Tryd.pinned (.plain (OpenSpec.upto wellformedKnownSpec)) wellformedKnownUptoCard

/-- THE SECOND FORM's CARD OF 'partywalllaw10.WellformedFew'. -/
def wellformedFewUptoCard : Claim7 := { stood := { row := wellformedFewUptoRow, standIns := [], harness := (true, "9b85ce0b14b4e8076a14ee56b20cbdbc2595dc95beec87a9f2d6343fa2059733"), looks := true }, kinds := [], alts := [], laidByText := true, laidKinds := [.widerDeep], laidTests := true, laidLooks := .later }
def WellformedFewUptoCardSaid : Prop := Claim7.holds Tryd.pinned (.plain (OpenSpec.upto wellformedFewSpec)) wellformedFewUptoCard

/-- THE SECOND FORM's CARD OF 'partywalllaw07.TokenKnown'. -/
def tokenKnownUptoCard : Claim7 := { stood := { row := tokenKnownUptoRow, standIns := [], harness := (true, "9b85ce0b14b4e8076a14ee56b20cbdbc2595dc95beec87a9f2d6343fa2059733"), looks := true }, kinds := [], alts := [], laidByText := true, laidKinds := [.data, .data, .data, .sentinel, .sentinel], laidTests := true, laidLooks := .later }
def TokenKnownUptoCardSaid : Prop := Claim7.holds Tryd.pinned (.plain (OpenSpec.upto tokenKnownSpec)) tokenKnownUptoCard
end Rows
end Go.Proofs.YtpgbihleidcdkaaDoor
