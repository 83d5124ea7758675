/-
  VariantKnown: the kernel runs its parts, text 5. Conditions: none.
-/
import Derived.Test.YtelgaffeihgffaaGreatDoorVariantKnownD
import Derived.KernelRfl
set_option linter.unusedSimpArgs false
set_option linter.unusedVariables false
namespace Go.Proofs.YtelgaffeihgffaaGreatDoor
open Go Go.Cx Go.RowKit
set_option maxRecDepth 1000000 in
theorem variantKnown_p9_1 : covN 25363 21 k9_t1 k9_o1 (runS (runF Tryz.prog (fun _ => none) 1000000) 1 k9_c0 ⟨Tryz.f53.ntmps, ofList 0 k9_a .nil⟩ (mkM 25363 k9_o0)) = true := by kernel_rfl
set_option maxRecDepth 1000000 in
theorem variantKnown_p9_2 : covN 25363 21 k9_t2 k9_o2 (runOps Tryz.prog (runF Tryz.prog (fun _ => none) 1000000) (opsC k9_c1).toList none (List.take 1 (opsC k9_c1).toList) (mkT 21 k9_t1) [] (mkM 25363 k9_o1)) = true := by kernel_rfl
set_option maxRecDepth 1000000 in
theorem variantKnown_p9_3 : covN 33100 21 k9_t3 k9_o3 (runOps Tryz.prog (ihS 54 k10_a 25363 k10_o0 (.ret k10_v (mkM 33100 k10_o3)) (runF Tryz.prog (fun _ => none) 1000000)) (opsC k9_c1).toList none (List.take 1 (List.drop 1 (opsC k9_c1).toList)) (mkT 21 k9_t2) [] (mkM 25363 k9_o2)) = true := by kernel_rfl
set_option maxRecDepth 1000000 in
theorem variantKnown_p9_4 : covN 33100 21 k9_t4 k9_o4 (runOps Tryz.prog (runF Tryz.prog (fun _ => none) 1000000) (opsC k9_c1).toList none (List.take 5 (List.drop 1 (List.drop 1 (opsC k9_c1).toList))) (mkT 21 k9_t3) [] (mkM 33100 k9_o3)) = true := by kernel_rfl
set_option maxRecDepth 1000000 in
theorem variantKnown_p9_5 : covN 33121 21 k9_t5 k9_o5 (runS (runF Tryz.prog (fun _ => none) 1000000) 2 k9_c2 (mkT 21 k9_t4) (mkM 33100 k9_o4)) = true := by kernel_rfl
set_option maxRecDepth 1000000 in
theorem variantKnown_p9_6 : covR 33121 21 k9_t6 k9_o6 ((runF Tryz.prog (fun _ => none) 1000000) (.code k9_c3 (mkT 21 k9_t5) [] none (mkM 33121 k9_o5))) = true := by kernel_rfl
set_option maxRecDepth 1000000 in
theorem variantKnown_p12_1 : covN 37234 56 k12_t1 k12_o1 (runS (runF Tryz.prog (fun _ => none) 1000000) 3 k12_c0 ⟨Tryz.f35.ntmps, ofList 0 k12_a .nil⟩ (mkM 33141 k12_o0)) = true := by kernel_rfl
end Go.Proofs.YtelgaffeihgffaaGreatDoor
