/-
  BoundBelow: closed facts of the program, each by itself (d). Conditions: none.
-/
import Derived.Test.YtdhgpmhlnechbaaGreatDoorCards
import Derived.Test.YtdhgpmhlnechbaaGreatDoorBoundBelowFa
import Derived.Test.YtdhgpmhlnechbaaGreatDoorBoundBelowFb
import Derived.Test.YtdhgpmhlnechbaaGreatDoorBoundBelowFc
import Derived.ProofKit
import Derived.JoinedOf
import Derived.SevenTiedAt
import Derived.KernelRfl
set_option linter.unusedSimpArgs false
set_option linter.unusedVariables false
namespace Go.Proofs.YtdhgpmhlnechbaaGreatDoor
open Go Go.RowKit
theorem boundBelow_band {a b : Bool} (h : a = true) (k : b = true) : (a && b) = true := by rw [h, k]; rfl
theorem boundBelow_closed : joinedFacts Tryz.prog 3 Tryz.f3 Rows.boundBelowSpec Rows.boundBelowRow = true := by
  unfold joinedFacts
  repeat' (with_reducible apply boundBelow_band)
  all_goals first | (with_reducible first | exact boundBelow_k0 | exact boundBelow_k1 | exact boundBelow_k2 | exact boundBelow_k3 | exact boundBelow_k4 | exact boundBelow_k5 | exact boundBelow_k6 | exact boundBelow_k7 | exact boundBelow_k8) | kernel_rfl
end Go.Proofs.YtdhgpmhlnechbaaGreatDoor
