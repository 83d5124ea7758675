/-
  BoundBelow: closed facts of the program, each by itself (e). Conditions: none.
-/
import Derived.Test.YtdhgpmhlnechbaaGreatDoorCards
import Derived.ProofKit
import Derived.JoinedOf
import Derived.SevenTiedAt
import Derived.KernelRfl
set_option linter.unusedSimpArgs false
set_option linter.unusedVariables false
namespace Go.Proofs.YtdhgpmhlnechbaaGreatDoor
open Go Go.RowKit
theorem boundBelow_main : Tryz.prog.mainIs = some (true, "ec50e2e34b3fb009360ef4ac843f6bd90427284d1a48d891848ed851ffbaf936".toList) := by kernel_rfl
theorem boundBelow_looks : true = Tryz.prog.looks [] := by kernel_rfl
end Go.Proofs.YtdhgpmhlnechbaaGreatDoor
