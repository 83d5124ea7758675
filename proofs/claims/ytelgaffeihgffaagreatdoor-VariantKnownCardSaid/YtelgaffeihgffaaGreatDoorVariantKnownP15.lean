/-
  VariantKnown: the kernel runs its parts, text 15. Conditions: none.
-/
import Derived.Test.YtelgaffeihgffaaGreatDoorVariantKnownD
import Derived.KernelRfl
set_option linter.unusedSimpArgs false
set_option linter.unusedVariables false
namespace Go.Proofs.YtelgaffeihgffaaGreatDoor
open Go Go.Cx Go.RowKit
set_option maxRecDepth 1000000 in
theorem variantKnown_p14_7 : covN 87685 29 k14_t7 k14_o7 (runOps Tryz.prog (runF Tryz.prog (fun _ => none) 1000000) (opsC k14_c2).toList none (List.take 6 (List.drop 1 (List.drop 12 (opsC k14_c2).toList))) (mkT 29 k14_t6) [] (mkM 83753 k14_o6)) = true := by kernel_rfl
set_option maxRecDepth 1000000 in
theorem variantKnown_p14_8 : covR 87685 29 k14_t8 k14_o8 ((runF Tryz.prog (fun _ => none) 1000000) (.code k14_c3 (mkT 29 k14_t7) [] none (mkM 87685 k14_o7))) = true := by kernel_rfl
set_option maxRecDepth 1000000 in
theorem variantKnown_p0_1 : covN 3944 111 k0_t1 k0_o1 (runS (runF Tryz.prog (fun _ => none) 1000000) 2 k0_c0 ⟨Tryz.f3.ntmps, .nil⟩ (mem0 64 rows0)) = true := by kernel_rfl
set_option maxRecDepth 1000000 in
theorem variantKnown_p0_2 : covN 8854 111 k0_t2 k0_o2 (runS (runF Tryz.prog (fun _ => none) 1000000) 1 k0_c1 (mkT 111 k0_t1) (mkM 3944 k0_o1)) = true := by kernel_rfl
set_option maxRecDepth 1000000 in
theorem variantKnown_p0_3 : covN 8872 111 k0_t3 k0_o3 (runOps Tryz.prog (runF Tryz.prog (fun _ => none) 1000000) (opsC k0_c3).toList none (List.take 20 (opsC k0_c3).toList) (mkT 111 k0_t2) [] (mkM 8854 k0_o2)) = true := by kernel_rfl
set_option maxRecDepth 1000000 in
theorem variantKnown_p0_4 : covN 21462 111 k0_t4 k0_o4 (runOps Tryz.prog (ihS 10 k1_a 8872 k1_o0 (.ret k1_v (mkM 21462 k1_o6)) (runF Tryz.prog (fun _ => none) 1000000)) (opsC k0_c3).toList none (List.take 1 (List.drop 20 (opsC k0_c3).toList)) (mkT 111 k0_t3) [] (mkM 8872 k0_o3)) = true := by kernel_rfl
set_option maxRecDepth 1000000 in
theorem variantKnown_p0_5 : covN 21470 111 k0_t5 k0_o5 (runOps Tryz.prog (runF Tryz.prog (fun _ => none) 1000000) (opsC k0_c3).toList none (List.take 5 (List.drop 1 (List.drop 20 (opsC k0_c3).toList))) (mkT 111 k0_t4) [] (mkM 21462 k0_o4)) = true := by kernel_rfl
end Go.Proofs.YtelgaffeihgffaaGreatDoor
