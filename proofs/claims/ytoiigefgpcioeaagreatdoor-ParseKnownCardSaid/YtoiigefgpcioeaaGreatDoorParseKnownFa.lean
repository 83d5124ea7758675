/-
  ParseKnown: closed facts of the program, each by itself (a). Conditions: none.
-/
import Derived.Test.YtoiigefgpcioeaaGreatDoorCards
import Derived.ProofKit
import Derived.JoinedOf
import Derived.SevenTiedAt
import Derived.KernelRfl
set_option linter.unusedSimpArgs false
set_option linter.unusedVariables false
namespace Go.Proofs.YtoiigefgpcioeaaGreatDoor
open Go Go.RowKit
theorem parseKnown_k0 : laidOutB Tryz.prog = true := by kernel_rfl
theorem parseKnown_k1 : mapsRowed Tryz.prog = true := by kernel_rfl
theorem parseKnown_k2 : (Rows.parseKnownRow.inPlace == Tryz.prog.inPlace 3) = true := by kernel_rfl
end Go.Proofs.YtoiigefgpcioeaaGreatDoor
