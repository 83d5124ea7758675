/-
  ProjectKnown: the kernel runs its parts, text 4. Conditions: none.
-/
import Derived.Test.YtlhagicdpldmeaaGreatDoorProjectKnownD
import Derived.KernelRfl
set_option linter.unusedSimpArgs false
set_option linter.unusedVariables false
namespace Go.Proofs.YtlhagicdpldmeaaGreatDoor
open Go Go.Cx Go.RowKit
set_option maxRecDepth 1000000 in
theorem projectKnown_p3_1 : covN 59699 24 k3_t1 k3_o1 (runS (runF Tryz.prog (fun _ => none) 1000000) 2 k3_c0 ⟨Tryz.f14.ntmps, ofList 0 k3_a .nil⟩ (mkM 54764 k3_o0)) = true := by kernel_rfl
set_option maxRecDepth 1000000 in
theorem projectKnown_p3_2 : covN 64900 24 k3_t2 k3_o2 (runS (runF Tryz.prog (fun _ => none) 1000000) 1 k3_c1 (mkT 24 k3_t1) (mkM 59699 k3_o1)) = true := by kernel_rfl
end Go.Proofs.YtlhagicdpldmeaaGreatDoor
