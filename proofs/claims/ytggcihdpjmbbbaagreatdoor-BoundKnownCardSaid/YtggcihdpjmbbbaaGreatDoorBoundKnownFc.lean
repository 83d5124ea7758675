/-
  BoundKnown: closed facts of the program, each by itself (c). Conditions: none.
-/
import Derived.Test.YtggcihdpjmbbbaaGreatDoorCards
import Derived.ProofKit
import Derived.JoinedOf
import Derived.SevenTiedAt
import Derived.KernelRfl
set_option linter.unusedSimpArgs false
set_option linter.unusedVariables false
namespace Go.Proofs.YtggcihdpjmbbbaaGreatDoor
open Go Go.RowKit
theorem boundKnown_k5 : (Rows.boundKnownRow.named == Tryz.prog.varsNamed 3) = true := by kernel_rfl
theorem boundKnown_k6 : Tryz.prog.stopsHeard = true := by kernel_rfl
theorem boundKnown_k7 : Tryz.prog.mayEnter = true := by kernel_rfl
theorem boundKnown_k8 : (Rows.boundKnownRow.lifted == Tryz.prog.liftsFinal) = true := by kernel_rfl
end Go.Proofs.YtggcihdpjmbbbaaGreatDoor
