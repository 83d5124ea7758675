/-
  VariantKnown: the kernel runs its parts, text 7. Conditions: none.
-/
import Derived.Test.YtelgaffeihgffaaGreatDoorVariantKnownD
import Derived.KernelRfl
set_option linter.unusedSimpArgs false
set_option linter.unusedVariables false
namespace Go.Proofs.YtelgaffeihgffaaGreatDoor
open Go Go.Cx Go.RowKit
set_option maxRecDepth 1000000 in
theorem variantKnown_p8_1 : covN 25350 73 k8_t1 k8_o1 (runS (runF Tryz.prog (fun _ => none) 1000000) 3 k8_c0 ⟨Tryz.f20.ntmps, ofList 0 k8_a .nil⟩ (mkM 25350 k8_o0)) = true := by kernel_rfl
set_option maxRecDepth 1000000 in
theorem variantKnown_p8_2 : covN 33121 73 k8_t2 k8_o2 (runS (ihL Tryz.prog (ihS 53 k9_a 25363 k9_o0 (.ret k9_v (mkM 33121 k9_o6)) (runF Tryz.prog (fun _ => none) 1000000))) 1 k8_c1 (mkT 73 k8_t1) (mkM 25350 k8_o1)) = true := by kernel_rfl
set_option maxRecDepth 1000000 in
theorem variantKnown_p8_3 : covN 33121 73 k8_t3 k8_o3 (runS (runF Tryz.prog (fun _ => none) 1000000) 1 k8_c2 (mkT 73 k8_t2) (mkM 33121 k8_o2)) = true := by kernel_rfl
set_option maxRecDepth 1000000 in
theorem variantKnown_p8_4 : covN 41623 73 k8_t4 k8_o4 (runS (ihL Tryz.prog (ihS 34 k11_a 33140 k11_o0 (.ret k11_v (mkM 41623 k11_o5)) (runF Tryz.prog (fun _ => none) 1000000))) 1 k8_c4 (mkT 73 k8_t3) (mkM 33121 k8_o3)) = true := by kernel_rfl
set_option maxRecDepth 1000000 in
theorem variantKnown_p8_5 : covN 41623 73 k8_t5 k8_o5 (runS (runF Tryz.prog (fun _ => none) 1000000) 1 k8_c5 (mkT 73 k8_t4) (mkM 41623 k8_o4)) = true := by kernel_rfl
set_option maxRecDepth 1000000 in
theorem variantKnown_p8_6 : covN 41623 73 k8_t6 k8_o6 ((runF Tryz.prog (fun _ => none) 1000000) (.code k8_c6 (mkT 73 k8_t5) [] none (mkM 41623 k8_o5))) = true := by kernel_rfl
set_option maxRecDepth 1000000 in
theorem variantKnown_p8_7 : covN 41623 73 k8_t7 k8_o7 (runS (runF Tryz.prog (fun _ => none) 1000000) 1 k8_c7 (mkT 73 k8_t6) (mkM 41623 k8_o6)) = true := by kernel_rfl
end Go.Proofs.YtelgaffeihgffaaGreatDoor
