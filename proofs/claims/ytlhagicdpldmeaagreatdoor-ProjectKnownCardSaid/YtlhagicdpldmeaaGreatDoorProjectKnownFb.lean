/-
  ProjectKnown: closed facts of the program, each by itself (b). Conditions: none.
-/
import Derived.Test.YtlhagicdpldmeaaGreatDoorCards
import Derived.ProofKit
import Derived.JoinedOf
import Derived.SevenTiedAt
import Derived.KernelRfl
set_option linter.unusedSimpArgs false
set_option linter.unusedVariables false
namespace Go.Proofs.YtlhagicdpldmeaaGreatDoor
open Go Go.RowKit
theorem projectKnown_k3 : (Rows.projectKnownRow.unfollowed == Tryz.prog.unfollowed 3) = true := by kernel_rfl
theorem projectKnown_k4 : (Rows.projectKnownRow.recurses == Tryz.prog.recurses 3) = true := by kernel_rfl
end Go.Proofs.YtlhagicdpldmeaaGreatDoor
