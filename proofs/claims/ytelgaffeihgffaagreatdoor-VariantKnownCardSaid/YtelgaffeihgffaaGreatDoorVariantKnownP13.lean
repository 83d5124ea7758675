/-
  VariantKnown: the kernel runs its parts, text 13. Conditions: none.
-/
import Derived.Test.YtelgaffeihgffaaGreatDoorVariantKnownD
import Derived.KernelRfl
set_option linter.unusedSimpArgs false
set_option linter.unusedVariables false
namespace Go.Proofs.YtelgaffeihgffaaGreatDoor
open Go Go.Cx Go.RowKit
set_option maxRecDepth 1000000 in
theorem variantKnown_p17_4 : covN 83708 31 k17_t4 k17_o4 (runOps Tryz.prog (runF Tryz.prog (fun _ => none) 1000000) (opsC k17_c1).toList none (List.take 2 (List.drop 1 (List.drop 2 (opsC k17_c1).toList))) (mkT 31 k17_t3) [] (mkM 83708 k17_o3)) = true := by kernel_rfl
set_option maxRecDepth 1000000 in
theorem variantKnown_p17_5 : covR 83708 31 k17_t5 k17_o5 ((runF Tryz.prog (fun _ => none) 1000000) (.code k17_c2 (mkT 31 k17_t4) [] none (mkM 83708 k17_o4))) = true := by kernel_rfl
set_option maxRecDepth 1000000 in
theorem variantKnown_p16_1 : covN 66673 21 k16_t1 k16_o1 (runS (runF Tryz.prog (fun _ => none) 1000000) 1 k16_c0 ⟨Tryz.f10.ntmps, ofList 0 k16_a .nil⟩ (mkM 66673 k16_o0)) = true := by kernel_rfl
set_option maxRecDepth 1000000 in
theorem variantKnown_p16_2 : covN 66678 21 k16_t2 k16_o2 (runOps Tryz.prog (runF Tryz.prog (fun _ => none) 1000000) (opsC k16_c1).toList none (List.take 3 (opsC k16_c1).toList) (mkT 21 k16_t1) [] (mkM 66673 k16_o1)) = true := by kernel_rfl
set_option maxRecDepth 1000000 in
theorem variantKnown_p16_3 : covN 83708 21 k16_t3 k16_o3 (runOps Tryz.prog (ihS 12 k17_a 66678 k17_o0 (.ret k17_v (mkM 83708 k17_o5)) (runF Tryz.prog (fun _ => none) 1000000)) (opsC k16_c1).toList none (List.take 1 (List.drop 3 (opsC k16_c1).toList)) (mkT 21 k16_t2) [] (mkM 66678 k16_o2)) = true := by kernel_rfl
set_option maxRecDepth 1000000 in
theorem variantKnown_p16_4 : covN 83708 21 k16_t4 k16_o4 (runOps Tryz.prog (runF Tryz.prog (fun _ => none) 1000000) (opsC k16_c1).toList none (List.take 5 (List.drop 1 (List.drop 3 (opsC k16_c1).toList))) (mkT 21 k16_t3) [] (mkM 83708 k16_o3)) = true := by kernel_rfl
set_option maxRecDepth 1000000 in
theorem variantKnown_p16_5 : covN 83753 21 k16_t5 k16_o5 (runS (runF Tryz.prog (fun _ => none) 1000000) 1 k16_c2 (mkT 21 k16_t4) (mkM 83708 k16_o4)) = true := by kernel_rfl
end Go.Proofs.YtelgaffeihgffaaGreatDoor
