/-
  ModelKnown: closed facts of the program, each by itself (d). Conditions: none.
-/
import Derived.Test.YtboceomegbioaaaGreatDoorCards
import Derived.Test.YtboceomegbioaaaGreatDoorModelKnownFa
import Derived.Test.YtboceomegbioaaaGreatDoorModelKnownFb
import Derived.Test.YtboceomegbioaaaGreatDoorModelKnownFc
import Derived.ProofKit
import Derived.JoinedOf
import Derived.SevenTiedAt
import Derived.KernelRfl
set_option linter.unusedSimpArgs false
set_option linter.unusedVariables false
namespace Go.Proofs.YtboceomegbioaaaGreatDoor
open Go Go.RowKit
theorem modelKnown_band {a b : Bool} (h : a = true) (k : b = true) : (a && b) = true := by rw [h, k]; rfl
theorem modelKnown_closed : joinedFacts Tryz.prog 3 Tryz.f3 Rows.modelKnownSpec Rows.modelKnownRow = true := by
  unfold joinedFacts
  repeat' (with_reducible apply modelKnown_band)
  all_goals first | (with_reducible first | exact modelKnown_k0 | exact modelKnown_k1 | exact modelKnown_k2 | exact modelKnown_k3 | exact modelKnown_k4 | exact modelKnown_k5 | exact modelKnown_k6 | exact modelKnown_k7 | exact modelKnown_k8) | kernel_rfl
end Go.Proofs.YtboceomegbioaaaGreatDoor
