/-
  VariantKnown: the kernel runs its parts, text 17. Conditions: none.
-/
import Derived.Test.YtelgaffeihgffaaGreatDoorVariantKnownD
import Derived.KernelRfl
set_option linter.unusedSimpArgs false
set_option linter.unusedVariables false
namespace Go.Proofs.YtelgaffeihgffaaGreatDoor
open Go Go.Cx Go.RowKit
set_option maxRecDepth 1000000 in
theorem variantKnown_p0_13 : covN 54924 111 k0_t13 k0_o13 (runS (runF Tryz.prog (fun _ => none) 1000000) 1 k0_c7 (mkT 111 k0_t12) (mkM 50010 k0_o12)) = true := by kernel_rfl
set_option maxRecDepth 1000000 in
theorem variantKnown_p0_14 : covN 58879 111 k0_t14 k0_o14 (runS (runF Tryz.prog (fun _ => none) 1000000) 2 k0_c8 (mkT 111 k0_t13) (mkM 54924 k0_o13)) = true := by kernel_rfl
set_option maxRecDepth 1000000 in
theorem variantKnown_p0_15 : covN 58879 111 k0_t15 k0_o15 (runOps Tryz.prog (runF Tryz.prog (fun _ => none) 1000000) (opsC k0_c9).toList none (List.take 23 (opsC k0_c9).toList) (mkT 111 k0_t14) [] (mkM 58879 k0_o14)) = true := by kernel_rfl
set_option maxRecDepth 1000000 in
theorem variantKnown_p0_16 : covN 87685 111 k0_t16 k0_o16 (runOps Tryz.prog (ihS 13 k14_a 58879 k14_o0 (.ret k14_v (mkM 87685 k14_o8)) (runF Tryz.prog (fun _ => none) 1000000)) (opsC k0_c9).toList none (List.take 1 (List.drop 23 (opsC k0_c9).toList)) (mkT 111 k0_t15) [] (mkM 58879 k0_o15)) = true := by kernel_rfl
set_option maxRecDepth 1000000 in
theorem variantKnown_p0_17 : covN 87685 111 k0_t17 k0_o17 (runOps Tryz.prog (runF Tryz.prog (fun _ => none) 1000000) (opsC k0_c9).toList none (List.take 2 (List.drop 1 (List.drop 23 (opsC k0_c9).toList))) (mkT 111 k0_t16) [] (mkM 87685 k0_o16)) = true := by kernel_rfl
set_option maxRecDepth 1000000 in
theorem variantKnown_p0_18 : covR 87685 111 k0_t18 k0_o18 ((runF Tryz.prog (fun _ => none) 1000000) (.code k0_c10 (mkT 111 k0_t17) [] none (mkM 87685 k0_o17))) = true := by kernel_rfl
end Go.Proofs.YtelgaffeihgffaaGreatDoor
