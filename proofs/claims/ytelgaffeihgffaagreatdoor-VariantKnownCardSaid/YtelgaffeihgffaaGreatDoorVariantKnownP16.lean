/-
  VariantKnown: the kernel runs its parts, text 16. Conditions: none.
-/
import Derived.Test.YtelgaffeihgffaaGreatDoorVariantKnownD
import Derived.KernelRfl
set_option linter.unusedSimpArgs false
set_option linter.unusedVariables false
namespace Go.Proofs.YtelgaffeihgffaaGreatDoor
open Go Go.Cx Go.RowKit
set_option maxRecDepth 1000000 in
theorem variantKnown_p0_6 : covN 41668 111 k0_t6 k0_o6 (runOps Tryz.prog (ihS 10 k6_a 21470 k6_o0 (.ret k6_v (mkM 41668 k6_o6)) (runF Tryz.prog (fun _ => none) 1000000)) (opsC k0_c3).toList none (List.take 1 (List.drop 5 (List.drop 1 (List.drop 20 (opsC k0_c3).toList)))) (mkT 111 k0_t5) [] (mkM 21470 k0_o5)) = true := by kernel_rfl
set_option maxRecDepth 1000000 in
theorem variantKnown_p0_7 : covN 41668 111 k0_t7 k0_o7 (runOps Tryz.prog (runF Tryz.prog (fun _ => none) 1000000) (opsC k0_c3).toList none (List.take 2 (List.drop 1 (List.drop 5 (List.drop 1 (List.drop 20 (opsC k0_c3).toList))))) (mkT 111 k0_t6) [] (mkM 41668 k0_o6)) = true := by kernel_rfl
set_option maxRecDepth 1000000 in
theorem variantKnown_p0_8 : covN 41668 111 k0_t8 k0_o8 ((runF Tryz.prog (fun _ => none) 1000000) (.code k0_c4 (mkT 111 k0_t7) [] none (mkM 41668 k0_o7))) = true := by kernel_rfl
set_option maxRecDepth 1000000 in
theorem variantKnown_p0_9 : covN 41677 111 k0_t9 k0_o9 (runS (runF Tryz.prog (fun _ => none) 1000000) 1 k0_c5 (mkT 111 k0_t8) (mkM 41668 k0_o8)) = true := by kernel_rfl
set_option maxRecDepth 1000000 in
theorem variantKnown_p0_10 : covN 41736 111 k0_t10 k0_o10 (runOps Tryz.prog (runF Tryz.prog (fun _ => none) 1000000) (opsC k0_c6).toList none (List.take 4 (opsC k0_c6).toList) (mkT 111 k0_t9) [] (mkM 41677 k0_o9)) = true := by kernel_rfl
set_option maxRecDepth 1000000 in
theorem variantKnown_p0_11 : covN 50010 111 k0_t11 k0_o11 (runOps Tryz.prog (ihS 11 k13_a 41736 k13_o0 (.ret k13_v (mkM 50010 k13_o3)) (runF Tryz.prog (fun _ => none) 1000000)) (opsC k0_c6).toList none (List.take 1 (List.drop 4 (opsC k0_c6).toList)) (mkT 111 k0_t10) [] (mkM 41736 k0_o10)) = true := by kernel_rfl
set_option maxRecDepth 1000000 in
theorem variantKnown_p0_12 : covN 50010 111 k0_t12 k0_o12 (runOps Tryz.prog (runF Tryz.prog (fun _ => none) 1000000) (opsC k0_c6).toList none (List.take 5 (List.drop 1 (List.drop 4 (opsC k0_c6).toList))) (mkT 111 k0_t11) [] (mkM 50010 k0_o11)) = true := by kernel_rfl
end Go.Proofs.YtelgaffeihgffaaGreatDoor
