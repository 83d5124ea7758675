/-
  VariantKnown: the kernel runs its parts, text 3. Conditions: none.
-/
import Derived.Test.YtelgaffeihgffaaGreatDoorVariantKnownD
import Derived.KernelRfl
set_option linter.unusedSimpArgs false
set_option linter.unusedVariables false
namespace Go.Proofs.YtelgaffeihgffaaGreatDoor
open Go Go.Cx Go.RowKit
set_option maxRecDepth 1000000 in
theorem variantKnown_p2_1 : covN 12752 31 k2_t1 k2_o1 (runS (runF Tryz.prog (fun _ => none) 1000000) 4 k2_c0 ⟨Tryz.f12.ntmps, ofList 0 k2_a .nil⟩ (mkM 8877 k2_o0)) = true := by kernel_rfl
set_option maxRecDepth 1000000 in
theorem variantKnown_p2_2 : covN 12752 31 k2_t2 k2_o2 (runOps Tryz.prog (runF Tryz.prog (fun _ => none) 1000000) (opsC k2_c1).toList none (List.take 2 (opsC k2_c1).toList) (mkT 31 k2_t1) [] (mkM 12752 k2_o1)) = true := by kernel_rfl
set_option maxRecDepth 1000000 in
theorem variantKnown_p2_3 : covN 21417 31 k2_t3 k2_o3 (runOps Tryz.prog (ihS 20 k3_a 12752 k3_o0 (.ret k3_v (mkM 21417 k3_o6)) (runF Tryz.prog (fun _ => none) 1000000)) (opsC k2_c1).toList none (List.take 1 (List.drop 2 (opsC k2_c1).toList)) (mkT 31 k2_t2) [] (mkM 12752 k2_o2)) = true := by kernel_rfl
set_option maxRecDepth 1000000 in
theorem variantKnown_p2_4 : covN 21417 31 k2_t4 k2_o4 (runOps Tryz.prog (runF Tryz.prog (fun _ => none) 1000000) (opsC k2_c1).toList none (List.take 2 (List.drop 1 (List.drop 2 (opsC k2_c1).toList))) (mkT 31 k2_t3) [] (mkM 21417 k2_o3)) = true := by kernel_rfl
set_option maxRecDepth 1000000 in
theorem variantKnown_p2_5 : covR 21417 31 k2_t5 k2_o5 ((runF Tryz.prog (fun _ => none) 1000000) (.code k2_c2 (mkT 31 k2_t4) [] none (mkM 21417 k2_o4))) = true := by kernel_rfl
set_option maxRecDepth 1000000 in
theorem variantKnown_p1_1 : covN 8872 21 k1_t1 k1_o1 (runS (runF Tryz.prog (fun _ => none) 1000000) 1 k1_c0 ⟨Tryz.f10.ntmps, ofList 0 k1_a .nil⟩ (mkM 8872 k1_o0)) = true := by kernel_rfl
set_option maxRecDepth 1000000 in
theorem variantKnown_p1_2 : covN 8877 21 k1_t2 k1_o2 (runOps Tryz.prog (runF Tryz.prog (fun _ => none) 1000000) (opsC k1_c1).toList none (List.take 3 (opsC k1_c1).toList) (mkT 21 k1_t1) [] (mkM 8872 k1_o1)) = true := by kernel_rfl
end Go.Proofs.YtelgaffeihgffaaGreatDoor
