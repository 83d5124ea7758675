/-
  ProjectKnown: the kernel runs its parts, text 10. Conditions: none.
-/
import Derived.Test.YtlhagicdpldmeaaGreatDoorProjectKnownD
import Derived.KernelRfl
set_option linter.unusedSimpArgs false
set_option linter.unusedVariables false
namespace Go.Proofs.YtlhagicdpldmeaaGreatDoor
open Go Go.Cx Go.RowKit
set_option maxRecDepth 1000000 in
theorem projectKnown_p0_10 : covN 44704 240 k0_t10 k0_o10 (runOps Tryz.prog (runF Tryz.prog (fun _ => none) 1000000) (opsC k0_c7).toList none (List.take 5 (List.drop 1 (List.drop 3 (opsC k0_c7).toList))) (mkT 240 k0_t9) [] (mkM 44704 k0_o9)) = true := by kernel_rfl
set_option maxRecDepth 1000000 in
theorem projectKnown_p0_11 : covN 54657 240 k0_t11 k0_o11 (runS (ihL Tryz.prog (ihS 12 k2_a 44714 k2_o0 (.ret k2_v (mkM 54657 k2_o3)) (runF Tryz.prog (fun _ => none) 1000000))) 1 k0_c8 (mkT 240 k0_t10) (mkM 44704 k0_o10)) = true := by kernel_rfl
end Go.Proofs.YtlhagicdpldmeaaGreatDoor
