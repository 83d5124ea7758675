/-
  VariantKnown: closed facts of the program, each by itself (a). Conditions: none.
-/
import Derived.Test.YtelgaffeihgffaaGreatDoorCards
import Derived.ProofKit
import Derived.JoinedOf
import Derived.SevenTiedAt
import Derived.KernelRfl
set_option linter.unusedSimpArgs false
set_option linter.unusedVariables false
namespace Go.Proofs.YtelgaffeihgffaaGreatDoor
open Go Go.RowKit
theorem variantKnown_k0 : laidOutB Tryz.prog = true := by kernel_rfl
theorem variantKnown_k1 : mapsRowed Tryz.prog = true := by kernel_rfl
theorem variantKnown_k2 : (Rows.variantKnownRow.inPlace == Tryz.prog.inPlace 3) = true := by kernel_rfl
end Go.Proofs.YtelgaffeihgffaaGreatDoor
