/-
  ProjectKnown: the kernel runs its parts, text 12. Conditions: none.
-/
import Derived.Test.YtlhagicdpldmeaaGreatDoorProjectKnownD
import Derived.KernelRfl
set_option linter.unusedSimpArgs false
set_option linter.unusedVariables false
namespace Go.Proofs.YtlhagicdpldmeaaGreatDoor
open Go Go.Cx Go.RowKit
set_option maxRecDepth 1000000 in
theorem projectKnown_p0_14 : covN 70102 240 k0_t14 k0_o14 (runOps Tryz.prog (runF Tryz.prog (fun _ => none) 1000000) (opsC k0_c10).toList none (List.take 12 (List.drop 1 (opsC k0_c10).toList)) (mkT 240 k0_t13) [] (mkM 64900 k0_o13)) = true := by kernel_rfl
set_option maxRecDepth 1000000 in
theorem projectKnown_p0_15 : covN 75152 240 k0_t15 k0_o15 (runOps Tryz.prog (runF Tryz.prog (fun _ => none) 1000000) (opsC k0_c10).toList none (List.take 31 (List.drop 12 (List.drop 1 (opsC k0_c10).toList))) (mkT 240 k0_t14) [] (mkM 70102 k0_o14)) = true := by kernel_rfl
end Go.Proofs.YtlhagicdpldmeaaGreatDoor
