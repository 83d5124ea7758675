/-
  BoundBelow: closed facts of the program, each by itself (c). Conditions: none.
-/
import Derived.Test.YtdhgpmhlnechbaaGreatDoorCards
import Derived.ProofKit
import Derived.JoinedOf
import Derived.SevenTiedAt
import Derived.KernelRfl
set_option linter.unusedSimpArgs false
set_option linter.unusedVariables false
namespace Go.Proofs.YtdhgpmhlnechbaaGreatDoor
open Go Go.RowKit
theorem boundBelow_k5 : (Rows.boundBelowRow.named == Tryz.prog.varsNamed 3) = true := by kernel_rfl
theorem boundBelow_k6 : Tryz.prog.stopsHeard = true := by kernel_rfl
theorem boundBelow_k7 : Tryz.prog.mayEnter = true := by kernel_rfl
theorem boundBelow_k8 : (Rows.boundBelowRow.lifted == Tryz.prog.liftsFinal) = true := by kernel_rfl
end Go.Proofs.YtdhgpmhlnechbaaGreatDoor
