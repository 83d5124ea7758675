/-
  ParseKnown: closed facts of the program, each by itself (c). Conditions: none.
-/
import Derived.Test.YtoiigefgpcioeaaGreatDoorCards
import Derived.ProofKit
import Derived.JoinedOf
import Derived.SevenTiedAt
import Derived.KernelRfl
set_option linter.unusedSimpArgs false
set_option linter.unusedVariables false
namespace Go.Proofs.YtoiigefgpcioeaaGreatDoor
open Go Go.RowKit
theorem parseKnown_k5 : (Rows.parseKnownRow.named == Tryz.prog.varsNamed 3) = true := by kernel_rfl
theorem parseKnown_k6 : Tryz.prog.stopsHeard = true := by kernel_rfl
theorem parseKnown_k7 : Tryz.prog.mayEnter = true := by kernel_rfl
theorem parseKnown_k8 : (Rows.parseKnownRow.lifted == Tryz.prog.liftsFinal) = true := by kernel_rfl
end Go.Proofs.YtoiigefgpcioeaaGreatDoor
