/-
  ParseKnown: closed facts of the program, each by itself (e). Conditions: none.
-/
import Derived.Test.YtoiigefgpcioeaaGreatDoorCards
import Derived.ProofKit
import Derived.JoinedOf
import Derived.SevenTiedAt
import Derived.KernelRfl
set_option linter.unusedSimpArgs false
set_option linter.unusedVariables false
namespace Go.Proofs.YtoiigefgpcioeaaGreatDoor
open Go Go.RowKit
theorem parseKnown_main : Tryz.prog.mainIs = some (true, "993a1d470e5f3137c801d1b62874b88ef8cc3bfde79ce515f75c05c57a60bd6a".toList) := by kernel_rfl
theorem parseKnown_looks : true = Tryz.prog.looks [] := by kernel_rfl
end Go.Proofs.YtoiigefgpcioeaaGreatDoor
