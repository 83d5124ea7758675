/-
  ProjectKnown: closed facts of the program, each by itself (c). Conditions: none.
-/
import Derived.Test.YtlhagicdpldmeaaGreatDoorCards
import Derived.ProofKit
import Derived.JoinedOf
import Derived.SevenTiedAt
import Derived.KernelRfl
set_option linter.unusedSimpArgs false
set_option linter.unusedVariables false
namespace Go.Proofs.YtlhagicdpldmeaaGreatDoor
open Go Go.RowKit
theorem projectKnown_k5 : (Rows.projectKnownRow.named == Tryz.prog.varsNamed 3) = true := by kernel_rfl
theorem projectKnown_k6 : Tryz.prog.stopsHeard = true := by kernel_rfl
theorem projectKnown_k7 : Tryz.prog.mayEnter = true := by kernel_rfl
theorem projectKnown_k8 : (Rows.projectKnownRow.lifted == Tryz.prog.liftsFinal) = true := by kernel_rfl
end Go.Proofs.YtlhagicdpldmeaaGreatDoor
