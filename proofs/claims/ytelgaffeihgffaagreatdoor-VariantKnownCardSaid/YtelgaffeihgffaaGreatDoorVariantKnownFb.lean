/-
  VariantKnown: closed facts of the program, each by itself (b). Conditions: none.
-/
import Derived.Test.YtelgaffeihgffaaGreatDoorCards
import Derived.ProofKit
import Derived.JoinedOf
import Derived.SevenTiedAt
import Derived.KernelRfl
set_option linter.unusedSimpArgs false
set_option linter.unusedVariables false
namespace Go.Proofs.YtelgaffeihgffaaGreatDoor
open Go Go.RowKit
theorem variantKnown_k3 : (Rows.variantKnownRow.unfollowed == Tryz.prog.unfollowed 3) = true := by kernel_rfl
theorem variantKnown_k4 : (Rows.variantKnownRow.recurses == Tryz.prog.recurses 3) = true := by kernel_rfl
end Go.Proofs.YtelgaffeihgffaaGreatDoor
