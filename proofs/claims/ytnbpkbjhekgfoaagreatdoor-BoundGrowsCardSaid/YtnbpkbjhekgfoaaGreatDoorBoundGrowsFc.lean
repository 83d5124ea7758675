/-
  BoundGrows: closed facts of the program, each by itself (c). Conditions: none.
-/
import Derived.Test.YtnbpkbjhekgfoaaGreatDoorCards
import Derived.ProofKit
import Derived.JoinedOf
import Derived.SevenTiedAt
import Derived.KernelRfl
set_option linter.unusedSimpArgs false
set_option linter.unusedVariables false
namespace Go.Proofs.YtnbpkbjhekgfoaaGreatDoor
open Go Go.RowKit
theorem boundGrows_k5 : (Rows.boundGrowsRow.named == Tryz.prog.varsNamed 3) = true := by kernel_rfl
theorem boundGrows_k6 : Tryz.prog.stopsHeard = true := by kernel_rfl
theorem boundGrows_k7 : Tryz.prog.mayEnter = true := by kernel_rfl
theorem boundGrows_k8 : (Rows.boundGrowsRow.lifted == Tryz.prog.liftsFinal) = true := by kernel_rfl
end Go.Proofs.YtnbpkbjhekgfoaaGreatDoor
