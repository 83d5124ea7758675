/-
  VariantKnown: closed facts of the program, each by itself (d). Conditions: none.
-/
import Derived.Test.YtelgaffeihgffaaGreatDoorCards
import Derived.Test.YtelgaffeihgffaaGreatDoorVariantKnownFa
import Derived.Test.YtelgaffeihgffaaGreatDoorVariantKnownFb
import Derived.Test.YtelgaffeihgffaaGreatDoorVariantKnownFc
import Derived.ProofKit
import Derived.JoinedOf
import Derived.SevenTiedAt
import Derived.KernelRfl
set_option linter.unusedSimpArgs false
set_option linter.unusedVariables false
namespace Go.Proofs.YtelgaffeihgffaaGreatDoor
open Go Go.RowKit
theorem variantKnown_band {a b : Bool} (h : a = true) (k : b = true) : (a && b) = true := by rw [h, k]; rfl
theorem variantKnown_closed : joinedFacts Tryz.prog 3 Tryz.f3 Rows.variantKnownSpec Rows.variantKnownRow = true := by
  unfold joinedFacts
  repeat' (with_reducible apply variantKnown_band)
  all_goals first | (with_reducible first | exact variantKnown_k0 | exact variantKnown_k1 | exact variantKnown_k2 | exact variantKnown_k3 | exact variantKnown_k4 | exact variantKnown_k5 | exact variantKnown_k6 | exact variantKnown_k7 | exact variantKnown_k8) | kernel_rfl
end Go.Proofs.YtelgaffeihgffaaGreatDoor
