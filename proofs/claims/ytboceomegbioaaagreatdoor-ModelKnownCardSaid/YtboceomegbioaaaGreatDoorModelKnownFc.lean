/-
  ModelKnown: closed facts of the program, each by itself (c). Conditions: none.
-/
import Derived.Test.YtboceomegbioaaaGreatDoorCards
import Derived.ProofKit
import Derived.JoinedOf
import Derived.SevenTiedAt
import Derived.KernelRfl
set_option linter.unusedSimpArgs false
set_option linter.unusedVariables false
namespace Go.Proofs.YtboceomegbioaaaGreatDoor
open Go Go.RowKit
theorem modelKnown_k5 : (Rows.modelKnownRow.named == Tryz.prog.varsNamed 3) = true := by kernel_rfl
theorem modelKnown_k6 : Tryz.prog.stopsHeard = true := by kernel_rfl
theorem modelKnown_k7 : Tryz.prog.mayEnter = true := by kernel_rfl
theorem modelKnown_k8 : (Rows.modelKnownRow.lifted == Tryz.prog.liftsFinal) = true := by kernel_rfl
end Go.Proofs.YtboceomegbioaaaGreatDoor
