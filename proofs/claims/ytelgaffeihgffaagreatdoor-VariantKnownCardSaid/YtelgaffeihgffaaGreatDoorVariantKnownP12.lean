/-
  VariantKnown: the kernel runs its parts, text 12. Conditions: none.
-/
import Derived.Test.YtelgaffeihgffaaGreatDoorVariantKnownD
import Derived.KernelRfl
set_option linter.unusedSimpArgs false
set_option linter.unusedVariables false
namespace Go.Proofs.YtelgaffeihgffaaGreatDoor
open Go Go.Cx Go.RowKit
set_option maxRecDepth 1000000 in
theorem variantKnown_p18_3 : covN 83708 73 k18_t3 k18_o3 (runS (runF Tryz.prog (fun _ => none) 1000000) 1 k18_c3 (mkT 73 k18_t2) (mkM 83708 k18_o2)) = true := by kernel_rfl
set_option maxRecDepth 1000000 in
theorem variantKnown_p18_4 : covN 83708 73 k18_t4 k18_o4 ((runF Tryz.prog (fun _ => none) 1000000) (.code k18_c4 (mkT 73 k18_t3) [] none (mkM 83708 k18_o3))) = true := by kernel_rfl
set_option maxRecDepth 1000000 in
theorem variantKnown_p18_5 : covN 83708 73 k18_t5 k18_o5 (runS (runF Tryz.prog (fun _ => none) 1000000) 1 k18_c5 (mkT 73 k18_t4) (mkM 83708 k18_o4)) = true := by kernel_rfl
set_option maxRecDepth 1000000 in
theorem variantKnown_p18_6 : covR 83708 73 k18_t6 k18_o6 ((runF Tryz.prog (fun _ => none) 1000000) (.code k18_c6 (mkT 73 k18_t5) [] none (mkM 83708 k18_o5))) = true := by kernel_rfl
set_option maxRecDepth 1000000 in
theorem variantKnown_p17_1 : covN 70553 31 k17_t1 k17_o1 (runS (runF Tryz.prog (fun _ => none) 1000000) 4 k17_c0 ⟨Tryz.f12.ntmps, ofList 0 k17_a .nil⟩ (mkM 66678 k17_o0)) = true := by kernel_rfl
set_option maxRecDepth 1000000 in
theorem variantKnown_p17_2 : covN 70553 31 k17_t2 k17_o2 (runOps Tryz.prog (runF Tryz.prog (fun _ => none) 1000000) (opsC k17_c1).toList none (List.take 2 (opsC k17_c1).toList) (mkT 31 k17_t1) [] (mkM 70553 k17_o1)) = true := by kernel_rfl
set_option maxRecDepth 1000000 in
theorem variantKnown_p17_3 : covN 83708 31 k17_t3 k17_o3 (runOps Tryz.prog (ihS 20 k18_a 70553 k18_o0 (.ret k18_v (mkM 83708 k18_o6)) (runF Tryz.prog (fun _ => none) 1000000)) (opsC k17_c1).toList none (List.take 1 (List.drop 2 (opsC k17_c1).toList)) (mkT 31 k17_t2) [] (mkM 70553 k17_o2)) = true := by kernel_rfl
end Go.Proofs.YtelgaffeihgffaaGreatDoor
