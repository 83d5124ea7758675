/-
  ProjectKnown: the kernel runs its parts, text 9. Conditions: none.
-/
import Derived.Test.YtlhagicdpldmeaaGreatDoorProjectKnownD
import Derived.KernelRfl
set_option linter.unusedSimpArgs false
set_option linter.unusedVariables false
namespace Go.Proofs.YtlhagicdpldmeaaGreatDoor
open Go Go.Cx Go.RowKit
set_option maxRecDepth 1000000 in
theorem projectKnown_p0_8 : covN 35036 240 k0_t8 k0_o8 (runOps Tryz.prog (runF Tryz.prog (fun _ => none) 1000000) (opsC k0_c7).toList none (List.take 3 (opsC k0_c7).toList) (mkT 240 k0_t7) [] (mkM 35036 k0_o7)) = true := by kernel_rfl
set_option maxRecDepth 1000000 in
theorem projectKnown_p0_9 : covN 44704 240 k0_t9 k0_o9 (runOps Tryz.prog (ihS 12 k1_a 35036 k1_o0 (.ret k1_v (mkM 44704 k1_o3)) (runF Tryz.prog (fun _ => none) 1000000)) (opsC k0_c7).toList none (List.take 1 (List.drop 3 (opsC k0_c7).toList)) (mkT 240 k0_t8) [] (mkM 35036 k0_o8)) = true := by kernel_rfl
end Go.Proofs.YtlhagicdpldmeaaGreatDoor
