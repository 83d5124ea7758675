/-
  ProjectKnown: the kernel runs its parts, text 1. Conditions: none.
-/
import Derived.Test.YtlhagicdpldmeaaGreatDoorProjectKnownD
import Derived.KernelRfl
set_option linter.unusedSimpArgs false
set_option linter.unusedVariables false
namespace Go.Proofs.YtlhagicdpldmeaaGreatDoor
open Go Go.Cx Go.RowKit
set_option maxRecDepth 1000000 in
theorem projectKnown_p1_1 : covN 40521 56 k1_t1 k1_o1 (runS (runF Tryz.prog (fun _ => none) 1000000) 3 k1_c0 ⟨Tryz.f12.ntmps, ofList 0 k1_a .nil⟩ (mkM 35036 k1_o0)) = true := by kernel_rfl
set_option maxRecDepth 1000000 in
theorem projectKnown_p1_2 : covN 44704 56 k1_t2 k1_o2 (runS (runF Tryz.prog (fun _ => none) 1000000) 4 k1_c1 (mkT 56 k1_t1) (mkM 40521 k1_o1)) = true := by kernel_rfl
end Go.Proofs.YtlhagicdpldmeaaGreatDoor
