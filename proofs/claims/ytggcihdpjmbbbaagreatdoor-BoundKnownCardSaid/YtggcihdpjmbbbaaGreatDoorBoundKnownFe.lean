/-
  BoundKnown: closed facts of the program, each by itself (e). Conditions: none.
-/
import Derived.Test.YtggcihdpjmbbbaaGreatDoorCards
import Derived.ProofKit
import Derived.JoinedOf
import Derived.SevenTiedAt
import Derived.KernelRfl
set_option linter.unusedSimpArgs false
set_option linter.unusedVariables false
namespace Go.Proofs.YtggcihdpjmbbbaaGreatDoor
open Go Go.RowKit
theorem boundKnown_main : Tryz.prog.mainIs = some (true, "ee4ee0b6e65bcfd090f7742171793b38e00a3eb128e6b6e14d7235f9ff63d0f7".toList) := by kernel_rfl
theorem boundKnown_looks : true = Tryz.prog.looks [] := by kernel_rfl
end Go.Proofs.YtggcihdpjmbbbaaGreatDoor
