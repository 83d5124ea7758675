/-
  ProjectKnown: the kernel runs its parts, text 11. Conditions: none.
-/
import Derived.Test.YtlhagicdpldmeaaGreatDoorProjectKnownD
import Derived.KernelRfl
set_option linter.unusedSimpArgs false
set_option linter.unusedVariables false
namespace Go.Proofs.YtlhagicdpldmeaaGreatDoor
open Go Go.Cx Go.RowKit
set_option maxRecDepth 1000000 in
theorem projectKnown_p0_12 : covN 54764 240 k0_t12 k0_o12 (runS (runF Tryz.prog (fun _ => none) 1000000) 3 k0_c9 (mkT 240 k0_t11) (mkM 54657 k0_o11)) = true := by kernel_rfl
set_option maxRecDepth 1000000 in
theorem projectKnown_p0_13 : covN 64900 240 k0_t13 k0_o13 (runOps Tryz.prog (ihS 14 k3_a 54764 k3_o0 (.ret k3_v (mkM 64900 k3_o3)) (runF Tryz.prog (fun _ => none) 1000000)) (opsC k0_c10).toList none (List.take 1 (opsC k0_c10).toList) (mkT 240 k0_t12) [] (mkM 54764 k0_o12)) = true := by kernel_rfl
end Go.Proofs.YtlhagicdpldmeaaGreatDoor
