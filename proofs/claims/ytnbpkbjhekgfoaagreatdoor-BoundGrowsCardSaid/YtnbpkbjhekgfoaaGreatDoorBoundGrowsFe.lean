/-
  BoundGrows: closed facts of the program, each by itself (e). Conditions: none.
-/
import Derived.Test.YtnbpkbjhekgfoaaGreatDoorCards
import Derived.ProofKit
import Derived.JoinedOf
import Derived.SevenTiedAt
import Derived.KernelRfl
set_option linter.unusedSimpArgs false
set_option linter.unusedVariables false
namespace Go.Proofs.YtnbpkbjhekgfoaaGreatDoor
open Go Go.RowKit
theorem boundGrows_main : Tryz.prog.mainIs = some (true, "d98c98e01dbb5624f45ecd20c1016afff54df86785343c7c5bdc12420854bb82".toList) := by kernel_rfl
theorem boundGrows_looks : true = Tryz.prog.looks [] := by kernel_rfl
end Go.Proofs.YtnbpkbjhekgfoaaGreatDoor
