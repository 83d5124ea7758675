/-
  ModelKnown: closed facts of the program, each by itself (b). Conditions: none.
-/
import Derived.Test.YtboceomegbioaaaGreatDoorCards
import Derived.ProofKit
import Derived.JoinedOf
import Derived.SevenTiedAt
import Derived.KernelRfl
set_option linter.unusedSimpArgs false
set_option linter.unusedVariables false
namespace Go.Proofs.YtboceomegbioaaaGreatDoor
open Go Go.RowKit
theorem modelKnown_k3 : (Rows.modelKnownRow.unfollowed == Tryz.prog.unfollowed 3) = true := by kernel_rfl
theorem modelKnown_k4 : (Rows.modelKnownRow.recurses == Tryz.prog.recurses 3) = true := by kernel_rfl
end Go.Proofs.YtboceomegbioaaaGreatDoor
