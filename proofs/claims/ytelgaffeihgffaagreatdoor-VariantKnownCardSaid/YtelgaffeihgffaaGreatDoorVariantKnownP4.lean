/-
  VariantKnown: the kernel runs its parts, text 4. Conditions: none.
-/
import Derived.Test.YtelgaffeihgffaaGreatDoorVariantKnownD
import Derived.KernelRfl
set_option linter.unusedSimpArgs false
set_option linter.unusedVariables false
namespace Go.Proofs.YtelgaffeihgffaaGreatDoor
open Go Go.Cx Go.RowKit
set_option maxRecDepth 1000000 in
theorem variantKnown_p1_3 : covN 21417 21 k1_t3 k1_o3 (runOps Tryz.prog (ihS 12 k2_a 8877 k2_o0 (.ret k2_v (mkM 21417 k2_o5)) (runF Tryz.prog (fun _ => none) 1000000)) (opsC k1_c1).toList none (List.take 1 (List.drop 3 (opsC k1_c1).toList)) (mkT 21 k1_t2) [] (mkM 8877 k1_o2)) = true := by kernel_rfl
set_option maxRecDepth 1000000 in
theorem variantKnown_p1_4 : covN 21417 21 k1_t4 k1_o4 (runOps Tryz.prog (runF Tryz.prog (fun _ => none) 1000000) (opsC k1_c1).toList none (List.take 5 (List.drop 1 (List.drop 3 (opsC k1_c1).toList))) (mkT 21 k1_t3) [] (mkM 21417 k1_o3)) = true := by kernel_rfl
set_option maxRecDepth 1000000 in
theorem variantKnown_p1_5 : covN 21462 21 k1_t5 k1_o5 (runS (runF Tryz.prog (fun _ => none) 1000000) 1 k1_c2 (mkT 21 k1_t4) (mkM 21417 k1_o4)) = true := by kernel_rfl
set_option maxRecDepth 1000000 in
theorem variantKnown_p1_6 : covR 21462 21 k1_t6 k1_o6 ((runF Tryz.prog (fun _ => none) 1000000) (.code k1_c3 (mkT 21 k1_t5) [] none (mkM 21462 k1_o5))) = true := by kernel_rfl
set_option maxRecDepth 1000000 in
theorem variantKnown_p10_1 : covN 29242 59 k10_t1 k10_o1 (runS (runF Tryz.prog (fun _ => none) 1000000) 2 k10_c0 ⟨Tryz.f54.ntmps, ofList 0 k10_a .nil⟩ (mkM 25363 k10_o0)) = true := by kernel_rfl
set_option maxRecDepth 1000000 in
theorem variantKnown_p10_2 : covN 33100 59 k10_t2 k10_o2 (runS (runF Tryz.prog (fun _ => none) 1000000) 1 k10_c1 (mkT 59 k10_t1) (mkM 29242 k10_o1)) = true := by kernel_rfl
set_option maxRecDepth 1000000 in
theorem variantKnown_p10_3 : covR 33100 59 k10_t3 k10_o3 ((runF Tryz.prog (fun _ => none) 1000000) (.code k10_c2 (mkT 59 k10_t2) [] none (mkM 33100 k10_o2))) = true := by kernel_rfl
end Go.Proofs.YtelgaffeihgffaaGreatDoor
