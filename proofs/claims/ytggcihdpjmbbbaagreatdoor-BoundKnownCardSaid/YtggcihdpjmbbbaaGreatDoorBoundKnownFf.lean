/-
  BoundKnown: closed facts of the program, each by itself (f). Conditions: none.
-/
import Derived.Test.YtggcihdpjmbbbaaGreatDoorCards
import Derived.ProofKit
import Derived.JoinedOf
import Derived.SevenTiedAt
import Derived.KernelRfl
set_option linter.unusedSimpArgs false
set_option linter.unusedVariables false
namespace Go.Proofs.YtggcihdpjmbbbaaGreatDoor
open Go Go.RowKit
theorem boundKnown_goes : false = Rows.boundKnownRow.goesBy Tryz.prog := by kernel_rfl
end Go.Proofs.YtggcihdpjmbbbaaGreatDoor
