/-
  ParseKnown: closed facts of the program, each by itself (b). Conditions: none.
-/
import Derived.Test.YtoiigefgpcioeaaGreatDoorCards
import Derived.ProofKit
import Derived.JoinedOf
import Derived.SevenTiedAt
import Derived.KernelRfl
set_option linter.unusedSimpArgs false
set_option linter.unusedVariables false
namespace Go.Proofs.YtoiigefgpcioeaaGreatDoor
open Go Go.RowKit
theorem parseKnown_k3 : (Rows.parseKnownRow.unfollowed == Tryz.prog.unfollowed 3) = true := by kernel_rfl
theorem parseKnown_k4 : (Rows.parseKnownRow.recurses == Tryz.prog.recurses 3) = true := by kernel_rfl
end Go.Proofs.YtoiigefgpcioeaaGreatDoor
