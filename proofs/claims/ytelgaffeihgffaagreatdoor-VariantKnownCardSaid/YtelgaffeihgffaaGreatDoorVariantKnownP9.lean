/-
  VariantKnown: the kernel runs its parts, text 9. Conditions: none.
-/
import Derived.Test.YtelgaffeihgffaaGreatDoorVariantKnownD
import Derived.KernelRfl
set_option linter.unusedSimpArgs false
set_option linter.unusedVariables false
namespace Go.Proofs.YtelgaffeihgffaaGreatDoor
open Go Go.Cx Go.RowKit
set_option maxRecDepth 1000000 in
theorem variantKnown_p6_2 : covN 21475 21 k6_t2 k6_o2 (runOps Tryz.prog (runF Tryz.prog (fun _ => none) 1000000) (opsC k6_c1).toList none (List.take 3 (opsC k6_c1).toList) (mkT 21 k6_t1) [] (mkM 21470 k6_o1)) = true := by kernel_rfl
set_option maxRecDepth 1000000 in
theorem variantKnown_p6_3 : covN 41623 21 k6_t3 k6_o3 (runOps Tryz.prog (ihS 12 k7_a 21475 k7_o0 (.ret k7_v (mkM 41623 k7_o5)) (runF Tryz.prog (fun _ => none) 1000000)) (opsC k6_c1).toList none (List.take 1 (List.drop 3 (opsC k6_c1).toList)) (mkT 21 k6_t2) [] (mkM 21475 k6_o2)) = true := by kernel_rfl
set_option maxRecDepth 1000000 in
theorem variantKnown_p6_4 : covN 41623 21 k6_t4 k6_o4 (runOps Tryz.prog (runF Tryz.prog (fun _ => none) 1000000) (opsC k6_c1).toList none (List.take 5 (List.drop 1 (List.drop 3 (opsC k6_c1).toList))) (mkT 21 k6_t3) [] (mkM 41623 k6_o3)) = true := by kernel_rfl
set_option maxRecDepth 1000000 in
theorem variantKnown_p6_5 : covN 41668 21 k6_t5 k6_o5 (runS (runF Tryz.prog (fun _ => none) 1000000) 1 k6_c2 (mkT 21 k6_t4) (mkM 41623 k6_o4)) = true := by kernel_rfl
set_option maxRecDepth 1000000 in
theorem variantKnown_p6_6 : covR 41668 21 k6_t6 k6_o6 ((runF Tryz.prog (fun _ => none) 1000000) (.code k6_c3 (mkT 21 k6_t5) [] none (mkM 41668 k6_o5))) = true := by kernel_rfl
set_option maxRecDepth 1000000 in
theorem variantKnown_p13_1 : covN 45551 64 k13_t1 k13_o1 (runS (runF Tryz.prog (fun _ => none) 1000000) 3 k13_c0 ⟨Tryz.f11.ntmps, ofList 0 k13_a .nil⟩ (mkM 41736 k13_o0)) = true := by kernel_rfl
set_option maxRecDepth 1000000 in
theorem variantKnown_p13_2 : covN 50010 64 k13_t2 k13_o2 (runS (runF Tryz.prog (fun _ => none) 1000000) 3 k13_c1 (mkT 64 k13_t1) (mkM 45551 k13_o1)) = true := by kernel_rfl
end Go.Proofs.YtelgaffeihgffaaGreatDoor
