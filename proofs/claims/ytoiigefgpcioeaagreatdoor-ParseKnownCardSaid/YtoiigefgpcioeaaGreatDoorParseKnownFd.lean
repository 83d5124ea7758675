/-
  ParseKnown: closed facts of the program, each by itself (d). Conditions: none.
-/
import Derived.Test.YtoiigefgpcioeaaGreatDoorCards
import Derived.Test.YtoiigefgpcioeaaGreatDoorParseKnownFa
import Derived.Test.YtoiigefgpcioeaaGreatDoorParseKnownFb
import Derived.Test.YtoiigefgpcioeaaGreatDoorParseKnownFc
import Derived.ProofKit
import Derived.JoinedOf
import Derived.SevenTiedAt
import Derived.KernelRfl
set_option linter.unusedSimpArgs false
set_option linter.unusedVariables false
namespace Go.Proofs.YtoiigefgpcioeaaGreatDoor
open Go Go.RowKit
theorem parseKnown_band {a b : Bool} (h : a = true) (k : b = true) : (a && b) = true := by rw [h, k]; rfl
theorem parseKnown_closed : joinedFacts Tryz.prog 3 Tryz.f3 Rows.parseKnownSpec Rows.parseKnownRow = true := by
  unfold joinedFacts
  repeat' (with_reducible apply parseKnown_band)
  all_goals first | (with_reducible first | exact parseKnown_k0 | exact parseKnown_k1 | exact parseKnown_k2 | exact parseKnown_k3 | exact parseKnown_k4 | exact parseKnown_k5 | exact parseKnown_k6 | exact parseKnown_k7 | exact parseKnown_k8) | kernel_rfl
end Go.Proofs.YtoiigefgpcioeaaGreatDoor
