/-
  ProjectKnown: closed facts of the program, each by itself (e). Conditions: none.
-/
import Derived.Test.YtlhagicdpldmeaaGreatDoorCards
import Derived.ProofKit
import Derived.JoinedOf
import Derived.SevenTiedAt
import Derived.KernelRfl
set_option linter.unusedSimpArgs false
set_option linter.unusedVariables false
namespace Go.Proofs.YtlhagicdpldmeaaGreatDoor
open Go Go.RowKit
theorem projectKnown_main : Tryz.prog.mainIs = some (true, "44bd0eb170bedc9f1ed8d25b5b3ffcaec45034226736667a8b76b4ae6a98afd7".toList) := by kernel_rfl
theorem projectKnown_looks : true = Tryz.prog.looks [] := by kernel_rfl
end Go.Proofs.YtlhagicdpldmeaaGreatDoor
