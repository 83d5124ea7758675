/-
  BoundGrows: closed facts of the program, each by itself (b). Conditions: none.
-/
import Derived.Test.YtnbpkbjhekgfoaaGreatDoorCards
import Derived.ProofKit
import Derived.JoinedOf
import Derived.SevenTiedAt
import Derived.KernelRfl
set_option linter.unusedSimpArgs false
set_option linter.unusedVariables false
namespace Go.Proofs.YtnbpkbjhekgfoaaGreatDoor
open Go Go.RowKit
theorem boundGrows_k3 : (Rows.boundGrowsRow.unfollowed == Tryz.prog.unfollowed 3) = true := by kernel_rfl
theorem boundGrows_k4 : (Rows.boundGrowsRow.recurses == Tryz.prog.recurses 3) = true := by kernel_rfl
end Go.Proofs.YtnbpkbjhekgfoaaGreatDoor
