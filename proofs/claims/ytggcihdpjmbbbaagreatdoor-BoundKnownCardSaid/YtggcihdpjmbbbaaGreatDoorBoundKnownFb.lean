/-
  BoundKnown: closed facts of the program, each by itself (b). Conditions: none.
-/
import Derived.Test.YtggcihdpjmbbbaaGreatDoorCards
import Derived.ProofKit
import Derived.JoinedOf
import Derived.SevenTiedAt
import Derived.KernelRfl
set_option linter.unusedSimpArgs false
set_option linter.unusedVariables false
namespace Go.Proofs.YtggcihdpjmbbbaaGreatDoor
open Go Go.RowKit
theorem boundKnown_k3 : (Rows.boundKnownRow.unfollowed == Tryz.prog.unfollowed 3) = true := by kernel_rfl
theorem boundKnown_k4 : (Rows.boundKnownRow.recurses == Tryz.prog.recurses 3) = true := by kernel_rfl
end Go.Proofs.YtggcihdpjmbbbaaGreatDoor
