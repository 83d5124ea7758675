/-
  BoundKnown: closed facts of the program, each by itself (d). Conditions: none.
-/
import Derived.Test.YtggcihdpjmbbbaaGreatDoorCards
import Derived.Test.YtggcihdpjmbbbaaGreatDoorBoundKnownFa
import Derived.Test.YtggcihdpjmbbbaaGreatDoorBoundKnownFb
import Derived.Test.YtggcihdpjmbbbaaGreatDoorBoundKnownFc
import Derived.ProofKit
import Derived.JoinedOf
import Derived.SevenTiedAt
import Derived.KernelRfl
set_option linter.unusedSimpArgs false
set_option linter.unusedVariables false
namespace Go.Proofs.YtggcihdpjmbbbaaGreatDoor
open Go Go.RowKit
theorem boundKnown_band {a b : Bool} (h : a = true) (k : b = true) : (a && b) = true := by rw [h, k]; rfl
theorem boundKnown_closed : joinedFacts Tryz.prog 3 Tryz.f3 Rows.boundKnownSpec Rows.boundKnownRow = true := by
  unfold joinedFacts
  repeat' (with_reducible apply boundKnown_band)
  all_goals first | (with_reducible first | exact boundKnown_k0 | exact boundKnown_k1 | exact boundKnown_k2 | exact boundKnown_k3 | exact boundKnown_k4 | exact boundKnown_k5 | exact boundKnown_k6 | exact boundKnown_k7 | exact boundKnown_k8) | kernel_rfl
end Go.Proofs.YtggcihdpjmbbbaaGreatDoor
