/-
  BoundBelow: closed facts of the program, each by itself (a). Conditions: none.
-/
import Derived.Test.YtdhgpmhlnechbaaGreatDoorCards
import Derived.ProofKit
import Derived.JoinedOf
import Derived.SevenTiedAt
import Derived.KernelRfl
set_option linter.unusedSimpArgs false
set_option linter.unusedVariables false
namespace Go.Proofs.YtdhgpmhlnechbaaGreatDoor
open Go Go.RowKit
theorem boundBelow_k0 : laidOutB Tryz.prog = true := by kernel_rfl
theorem boundBelow_k1 : mapsRowed Tryz.prog = true := by kernel_rfl
theorem boundBelow_k2 : (Rows.boundBelowRow.inPlace == Tryz.prog.inPlace 3) = true := by kernel_rfl
end Go.Proofs.YtdhgpmhlnechbaaGreatDoor
