/-
  BoundGrows: closed facts of the program, each by itself (d). Conditions: none.
-/
import Derived.Test.YtnbpkbjhekgfoaaGreatDoorCards
import Derived.Test.YtnbpkbjhekgfoaaGreatDoorBoundGrowsFa
import Derived.Test.YtnbpkbjhekgfoaaGreatDoorBoundGrowsFb
import Derived.Test.YtnbpkbjhekgfoaaGreatDoorBoundGrowsFc
import Derived.ProofKit
import Derived.JoinedOf
import Derived.SevenTiedAt
import Derived.KernelRfl
set_option linter.unusedSimpArgs false
set_option linter.unusedVariables false
namespace Go.Proofs.YtnbpkbjhekgfoaaGreatDoor
open Go Go.RowKit
theorem boundGrows_band {a b : Bool} (h : a = true) (k : b = true) : (a && b) = true := by rw [h, k]; rfl
theorem boundGrows_closed : joinedFacts Tryz.prog 3 Tryz.f3 Rows.boundGrowsSpec Rows.boundGrowsRow = true := by
 unfold joinedFacts
 repeat' (with_reducible apply boundGrows_band)
 all_goals first | (with_reducible first | exact boundGrows_k0 | exact boundGrows_k1 | exact boundGrows_k2 | exact boundGrows_k3 | exact boundGrows_k4 | exact boundGrows_k5 | exact boundGrows_k6 | exact boundGrows_k7 | exact boundGrows_k8) | kernel_rfl
end Go.Proofs.YtnbpkbjhekgfoaaGreatDoor
