/-
  VariantKnown: the kernel runs its parts, text 14. Conditions: none.
-/
import Derived.Test.YtelgaffeihgffaaGreatDoorVariantKnownD
import Derived.KernelRfl
set_option linter.unusedSimpArgs false
set_option linter.unusedVariables false
namespace Go.Proofs.YtelgaffeihgffaaGreatDoor
open Go Go.Cx Go.RowKit
set_option maxRecDepth 1000000 in
theorem variantKnown_p16_6 : covR 83753 21 k16_t6 k16_o6 ((runF Tryz.prog (fun _ => none) 1000000) (.code k16_c3 (mkT 21 k16_t5) [] none (mkM 83753 k16_o5))) = true := by kernel_rfl
set_option maxRecDepth 1000000 in
theorem variantKnown_p14_1 : covN 58879 29 k14_t1 k14_o1 (runS (runF Tryz.prog (fun _ => none) 1000000) 1 k14_c0 ⟨Tryz.f13.ntmps, ofList 0 k14_a .nil⟩ (mkM 58879 k14_o0)) = true := by kernel_rfl
set_option maxRecDepth 1000000 in
theorem variantKnown_p14_2 : covN 58884 29 k14_t2 k14_o2 (runOps Tryz.prog (runF Tryz.prog (fun _ => none) 1000000) (opsC k14_c1).toList none (List.take 2 (opsC k14_c1).toList) (mkT 29 k14_t1) [] (mkM 58879 k14_o1)) = true := by kernel_rfl
set_option maxRecDepth 1000000 in
theorem variantKnown_p14_3 : covN 66619 29 k14_t3 k14_o3 (runOps Tryz.prog (ihS 21 k15_a 58884 k15_o0 (.ret k15_v (mkM 66619 k15_o3)) (runF Tryz.prog (fun _ => none) 1000000)) (opsC k14_c1).toList none (List.take 1 (List.drop 2 (opsC k14_c1).toList)) (mkT 29 k14_t2) [] (mkM 58884 k14_o2)) = true := by kernel_rfl
set_option maxRecDepth 1000000 in
theorem variantKnown_p14_4 : covN 66619 29 k14_t4 k14_o4 (runOps Tryz.prog (runF Tryz.prog (fun _ => none) 1000000) (opsC k14_c1).toList none (List.take 7 (List.drop 1 (List.drop 2 (opsC k14_c1).toList))) (mkT 29 k14_t3) [] (mkM 66619 k14_o3)) = true := by kernel_rfl
set_option maxRecDepth 1000000 in
theorem variantKnown_p14_5 : covN 66673 29 k14_t5 k14_o5 (runOps Tryz.prog (runF Tryz.prog (fun _ => none) 1000000) (opsC k14_c2).toList none (List.take 12 (opsC k14_c2).toList) (mkT 29 k14_t4) [] (mkM 66619 k14_o4)) = true := by kernel_rfl
set_option maxRecDepth 1000000 in
theorem variantKnown_p14_6 : covN 83753 29 k14_t6 k14_o6 (runOps Tryz.prog (ihS 10 k16_a 66673 k16_o0 (.ret k16_v (mkM 83753 k16_o6)) (runF Tryz.prog (fun _ => none) 1000000)) (opsC k14_c2).toList none (List.take 1 (List.drop 12 (opsC k14_c2).toList)) (mkT 29 k14_t5) [] (mkM 66673 k14_o5)) = true := by kernel_rfl
end Go.Proofs.YtelgaffeihgffaaGreatDoor
