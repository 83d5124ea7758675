/-
  VariantKnown: closed facts of the program, each by itself (e). Conditions: none.
-/
import Derived.Test.YtelgaffeihgffaaGreatDoorCards
import Derived.ProofKit
import Derived.JoinedOf
import Derived.SevenTiedAt
import Derived.KernelRfl
set_option linter.unusedSimpArgs false
set_option linter.unusedVariables false
namespace Go.Proofs.YtelgaffeihgffaaGreatDoor
open Go Go.RowKit
theorem variantKnown_main : Tryz.prog.mainIs = some (true, "fd43796a037c0ef6005670fdb937fd5c7032b6ffe0cac8df06775a9310a1eccf".toList) := by kernel_rfl
theorem variantKnown_looks : true = Tryz.prog.looks [] := by kernel_rfl
end Go.Proofs.YtelgaffeihgffaaGreatDoor
