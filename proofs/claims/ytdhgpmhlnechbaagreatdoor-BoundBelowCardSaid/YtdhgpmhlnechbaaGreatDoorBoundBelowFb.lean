/-
  BoundBelow: closed facts of the program, each by itself (b). Conditions: none.
-/
import Derived.Test.YtdhgpmhlnechbaaGreatDoorCards
import Derived.ProofKit
import Derived.JoinedOf
import Derived.SevenTiedAt
import Derived.KernelRfl
set_option linter.unusedSimpArgs false
set_option linter.unusedVariables false
namespace Go.Proofs.YtdhgpmhlnechbaaGreatDoor
open Go Go.RowKit
theorem boundBelow_k3 : (Rows.boundBelowRow.unfollowed == Tryz.prog.unfollowed 3) = true := by kernel_rfl
theorem boundBelow_k4 : (Rows.boundBelowRow.recurses == Tryz.prog.recurses 3) = true := by kernel_rfl
end Go.Proofs.YtdhgpmhlnechbaaGreatDoor
