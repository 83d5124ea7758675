/-
  VariantKnown: the kernel runs its parts, text 1. Conditions: none.
-/
import Derived.Test.YtelgaffeihgffaaGreatDoorVariantKnownD
import Derived.KernelRfl
set_option linter.unusedSimpArgs false
set_option linter.unusedVariables false
namespace Go.Proofs.YtelgaffeihgffaaGreatDoor
open Go Go.Cx Go.RowKit
set_option maxRecDepth 1000000 in
theorem variantKnown_p5_1 : covN 16899 56 k5_t1 k5_o1 (runS (runF Tryz.prog (fun _ => none) 1000000) 3 k5_c0 ⟨Tryz.f35.ntmps, ofList 0 k5_a .nil⟩ (mkM 12806 k5_o0)) = true := by kernel_rfl
set_option maxRecDepth 1000000 in
theorem variantKnown_p5_2 : covN 21417 56 k5_t2 k5_o2 (runS (runF Tryz.prog (fun _ => none) 1000000) 4 k5_c1 (mkT 56 k5_t1) (mkM 16899 k5_o1)) = true := by kernel_rfl
set_option maxRecDepth 1000000 in
theorem variantKnown_p5_3 : covR 21417 56 k5_t3 k5_o3 ((runF Tryz.prog (fun _ => none) 1000000) (.code k5_c2 (mkT 56 k5_t2) [] none (mkM 21417 k5_o2))) = true := by kernel_rfl
set_option maxRecDepth 1000000 in
theorem variantKnown_p4_1 : covN 12806 20 k4_t1 k4_o1 (runS (runF Tryz.prog (fun _ => none) 1000000) 1 k4_c0 ⟨Tryz.f34.ntmps, ofList 0 k4_a .nil⟩ (mkM 12805 k4_o0)) = true := by kernel_rfl
set_option maxRecDepth 1000000 in
theorem variantKnown_p4_2 : covN 12806 20 k4_t2 k4_o2 (runOps Tryz.prog (runF Tryz.prog (fun _ => none) 1000000) (opsC k4_c1).toList none (List.take 5 (opsC k4_c1).toList) (mkT 20 k4_t1) [] (mkM 12806 k4_o1)) = true := by kernel_rfl
set_option maxRecDepth 1000000 in
theorem variantKnown_p4_3 : covN 21417 20 k4_t3 k4_o3 (runOps Tryz.prog (ihS 35 k5_a 12806 k5_o0 (.ret k5_v (mkM 21417 k5_o3)) (runF Tryz.prog (fun _ => none) 1000000)) (opsC k4_c1).toList none (List.take 1 (List.drop 5 (opsC k4_c1).toList)) (mkT 20 k4_t2) [] (mkM 12806 k4_o2)) = true := by kernel_rfl
set_option maxRecDepth 1000000 in
theorem variantKnown_p4_4 : covN 21417 20 k4_t4 k4_o4 (runOps Tryz.prog (runF Tryz.prog (fun _ => none) 1000000) (opsC k4_c1).toList none (List.take 4 (List.drop 1 (List.drop 5 (opsC k4_c1).toList))) (mkT 20 k4_t3) [] (mkM 21417 k4_o3)) = true := by kernel_rfl
end Go.Proofs.YtelgaffeihgffaaGreatDoor
