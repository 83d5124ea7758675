/-
  VariantKnown: the kernel runs its parts, text 8. Conditions: none.
-/
import Derived.Test.YtelgaffeihgffaaGreatDoorVariantKnownD
import Derived.KernelRfl
set_option linter.unusedSimpArgs false
set_option linter.unusedVariables false
namespace Go.Proofs.YtelgaffeihgffaaGreatDoor
open Go Go.Cx Go.RowKit
set_option maxRecDepth 1000000 in
theorem variantKnown_p8_8 : covR 41623 73 k8_t8 k8_o8 ((runF Tryz.prog (fun _ => none) 1000000) (.code k8_c8 (mkT 73 k8_t7) [] none (mkM 41623 k8_o7))) = true := by kernel_rfl
set_option maxRecDepth 1000000 in
theorem variantKnown_p7_1 : covN 25350 31 k7_t1 k7_o1 (runS (runF Tryz.prog (fun _ => none) 1000000) 4 k7_c0 ⟨Tryz.f12.ntmps, ofList 0 k7_a .nil⟩ (mkM 21475 k7_o0)) = true := by kernel_rfl
set_option maxRecDepth 1000000 in
theorem variantKnown_p7_2 : covN 25350 31 k7_t2 k7_o2 (runOps Tryz.prog (runF Tryz.prog (fun _ => none) 1000000) (opsC k7_c1).toList none (List.take 2 (opsC k7_c1).toList) (mkT 31 k7_t1) [] (mkM 25350 k7_o1)) = true := by kernel_rfl
set_option maxRecDepth 1000000 in
theorem variantKnown_p7_3 : covN 41623 31 k7_t3 k7_o3 (runOps Tryz.prog (ihS 20 k8_a 25350 k8_o0 (.ret k8_v (mkM 41623 k8_o8)) (runF Tryz.prog (fun _ => none) 1000000)) (opsC k7_c1).toList none (List.take 1 (List.drop 2 (opsC k7_c1).toList)) (mkT 31 k7_t2) [] (mkM 25350 k7_o2)) = true := by kernel_rfl
set_option maxRecDepth 1000000 in
theorem variantKnown_p7_4 : covN 41623 31 k7_t4 k7_o4 (runOps Tryz.prog (runF Tryz.prog (fun _ => none) 1000000) (opsC k7_c1).toList none (List.take 2 (List.drop 1 (List.drop 2 (opsC k7_c1).toList))) (mkT 31 k7_t3) [] (mkM 41623 k7_o3)) = true := by kernel_rfl
set_option maxRecDepth 1000000 in
theorem variantKnown_p7_5 : covR 41623 31 k7_t5 k7_o5 ((runF Tryz.prog (fun _ => none) 1000000) (.code k7_c2 (mkT 31 k7_t4) [] none (mkM 41623 k7_o4))) = true := by kernel_rfl
set_option maxRecDepth 1000000 in
theorem variantKnown_p6_1 : covN 21470 21 k6_t1 k6_o1 (runS (runF Tryz.prog (fun _ => none) 1000000) 1 k6_c0 ⟨Tryz.f10.ntmps, ofList 0 k6_a .nil⟩ (mkM 21470 k6_o0)) = true := by kernel_rfl
end Go.Proofs.YtelgaffeihgffaaGreatDoor
