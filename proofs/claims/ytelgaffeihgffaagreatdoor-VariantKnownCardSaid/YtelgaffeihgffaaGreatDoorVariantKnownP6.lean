/-
  VariantKnown: the kernel runs its parts, text 6. Conditions: none.
-/
import Derived.Test.YtelgaffeihgffaaGreatDoorVariantKnownD
import Derived.KernelRfl
set_option linter.unusedSimpArgs false
set_option linter.unusedVariables false
namespace Go.Proofs.YtelgaffeihgffaaGreatDoor
open Go Go.Cx Go.RowKit
set_option maxRecDepth 1000000 in
theorem variantKnown_p12_2 : covN 41623 56 k12_t2 k12_o2 (runS (runF Tryz.prog (fun _ => none) 1000000) 4 k12_c1 (mkT 56 k12_t1) (mkM 37234 k12_o1)) = true := by kernel_rfl
set_option maxRecDepth 1000000 in
theorem variantKnown_p12_3 : covR 41623 56 k12_t3 k12_o3 ((runF Tryz.prog (fun _ => none) 1000000) (.code k12_c2 (mkT 56 k12_t2) [] none (mkM 41623 k12_o2))) = true := by kernel_rfl
set_option maxRecDepth 1000000 in
theorem variantKnown_p11_1 : covN 33141 20 k11_t1 k11_o1 (runS (runF Tryz.prog (fun _ => none) 1000000) 1 k11_c0 ⟨Tryz.f34.ntmps, ofList 0 k11_a .nil⟩ (mkM 33140 k11_o0)) = true := by kernel_rfl
set_option maxRecDepth 1000000 in
theorem variantKnown_p11_2 : covN 33141 20 k11_t2 k11_o2 (runOps Tryz.prog (runF Tryz.prog (fun _ => none) 1000000) (opsC k11_c1).toList none (List.take 5 (opsC k11_c1).toList) (mkT 20 k11_t1) [] (mkM 33141 k11_o1)) = true := by kernel_rfl
set_option maxRecDepth 1000000 in
theorem variantKnown_p11_3 : covN 41623 20 k11_t3 k11_o3 (runOps Tryz.prog (ihS 35 k12_a 33141 k12_o0 (.ret k12_v (mkM 41623 k12_o3)) (runF Tryz.prog (fun _ => none) 1000000)) (opsC k11_c1).toList none (List.take 1 (List.drop 5 (opsC k11_c1).toList)) (mkT 20 k11_t2) [] (mkM 33141 k11_o2)) = true := by kernel_rfl
set_option maxRecDepth 1000000 in
theorem variantKnown_p11_4 : covN 41623 20 k11_t4 k11_o4 (runOps Tryz.prog (runF Tryz.prog (fun _ => none) 1000000) (opsC k11_c1).toList none (List.take 4 (List.drop 1 (List.drop 5 (opsC k11_c1).toList))) (mkT 20 k11_t3) [] (mkM 41623 k11_o3)) = true := by kernel_rfl
set_option maxRecDepth 1000000 in
theorem variantKnown_p11_5 : covR 41623 20 k11_t5 k11_o5 ((runF Tryz.prog (fun _ => none) 1000000) (.code k11_c2 (mkT 20 k11_t4) [] none (mkM 41623 k11_o4))) = true := by kernel_rfl
end Go.Proofs.YtelgaffeihgffaaGreatDoor
