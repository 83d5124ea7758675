/-
  ModelKnown: closed facts of the program, each by itself (f). Conditions: none.
-/
import Derived.Test.YtboceomegbioaaaGreatDoorCards
import Derived.ProofKit
import Derived.JoinedOf
import Derived.SevenTiedAt
import Derived.KernelRfl
set_option linter.unusedSimpArgs false
set_option linter.unusedVariables false
namespace Go.Proofs.YtboceomegbioaaaGreatDoor
open Go Go.RowKit
theorem modelKnown_goes : false = Rows.modelKnownRow.goesBy Tryz.prog := by kernel_rfl
end Go.Proofs.YtboceomegbioaaaGreatDoor
