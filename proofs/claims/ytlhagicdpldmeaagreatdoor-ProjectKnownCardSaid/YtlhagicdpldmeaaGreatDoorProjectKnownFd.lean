/-
  ProjectKnown: closed facts of the program, each by itself (d). Conditions: none.
-/
import Derived.Test.YtlhagicdpldmeaaGreatDoorCards
import Derived.Test.YtlhagicdpldmeaaGreatDoorProjectKnownFa
import Derived.Test.YtlhagicdpldmeaaGreatDoorProjectKnownFb
import Derived.Test.YtlhagicdpldmeaaGreatDoorProjectKnownFc
import Derived.ProofKit
import Derived.JoinedOf
import Derived.SevenTiedAt
import Derived.KernelRfl
set_option linter.unusedSimpArgs false
set_option linter.unusedVariables false
namespace Go.Proofs.YtlhagicdpldmeaaGreatDoor
open Go Go.RowKit
theorem projectKnown_band {a b : Bool} (h : a = true) (k : b = true) : (a && b) = true := by rw [h, k]; rfl
theorem projectKnown_closed : joinedFacts Tryz.prog 3 Tryz.f3 Rows.projectKnownSpec Rows.projectKnownRow = true := by
  unfold joinedFacts
  repeat' (with_reducible apply projectKnown_band)
  all_goals first | (with_reducible first | exact projectKnown_k0 | exact projectKnown_k1 | exact projectKnown_k2 | exact projectKnown_k3 | exact projectKnown_k4 | exact projectKnown_k5 | exact projectKnown_k6 | exact projectKnown_k7 | exact projectKnown_k8) | kernel_rfl
end Go.Proofs.YtlhagicdpldmeaaGreatDoor
