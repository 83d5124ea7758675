/-
  ProjectKnown: closed facts of the program, each by itself (a). Conditions: none.
-/
import Derived.Test.YtlhagicdpldmeaaGreatDoorCards
import Derived.ProofKit
import Derived.JoinedOf
import Derived.SevenTiedAt
import Derived.KernelRfl
set_option linter.unusedSimpArgs false
set_option linter.unusedVariables false
namespace Go.Proofs.YtlhagicdpldmeaaGreatDoor
open Go Go.RowKit
theorem projectKnown_k0 : laidOutB Tryz.prog = true := by kernel_rfl
theorem projectKnown_k1 : mapsRowed Tryz.prog = true := by kernel_rfl
theorem projectKnown_k2 : (Rows.projectKnownRow.inPlace == Tryz.prog.inPlace 3) = true := by kernel_rfl
end Go.Proofs.YtlhagicdpldmeaaGreatDoor
