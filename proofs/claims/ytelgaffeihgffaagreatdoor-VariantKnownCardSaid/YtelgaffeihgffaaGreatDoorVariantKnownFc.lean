/-
  VariantKnown: closed facts of the program, each by itself (c). Conditions: none.
-/
import Derived.Test.YtelgaffeihgffaaGreatDoorCards
import Derived.ProofKit
import Derived.JoinedOf
import Derived.SevenTiedAt
import Derived.KernelRfl
set_option linter.unusedSimpArgs false
set_option linter.unusedVariables false
namespace Go.Proofs.YtelgaffeihgffaaGreatDoor
open Go Go.RowKit
theorem variantKnown_k5 : (Rows.variantKnownRow.named == Tryz.prog.varsNamed 3) = true := by kernel_rfl
theorem variantKnown_k6 : Tryz.prog.stopsHeard = true := by kernel_rfl
theorem variantKnown_k7 : Tryz.prog.mayEnter = true := by kernel_rfl
theorem variantKnown_k8 : (Rows.variantKnownRow.lifted == Tryz.prog.liftsFinal) = true := by kernel_rfl
end Go.Proofs.YtelgaffeihgffaaGreatDoor
