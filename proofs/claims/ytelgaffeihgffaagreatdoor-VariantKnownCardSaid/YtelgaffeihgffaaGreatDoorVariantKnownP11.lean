/-
  VariantKnown: the kernel runs its parts, text 11. Conditions: none.
-/
import Derived.Test.YtelgaffeihgffaaGreatDoorVariantKnownD
import Derived.KernelRfl
set_option linter.unusedSimpArgs false
set_option linter.unusedVariables false
namespace Go.Proofs.YtelgaffeihgffaaGreatDoor
open Go Go.Cx Go.RowKit
set_option maxRecDepth 1000000 in
theorem variantKnown_p19_1 : covN 74512 20 k19_t1 k19_o1 (runS (runF Tryz.prog (fun _ => none) 1000000) 1 k19_c0 ⟨Tryz.f34.ntmps, ofList 0 k19_a .nil⟩ (mkM 74511 k19_o0)) = true := by kernel_rfl
set_option maxRecDepth 1000000 in
theorem variantKnown_p19_2 : covN 74512 20 k19_t2 k19_o2 (runOps Tryz.prog (runF Tryz.prog (fun _ => none) 1000000) (opsC k19_c1).toList none (List.take 5 (opsC k19_c1).toList) (mkT 20 k19_t1) [] (mkM 74512 k19_o1)) = true := by kernel_rfl
set_option maxRecDepth 1000000 in
theorem variantKnown_p19_3 : covN 83708 20 k19_t3 k19_o3 (runOps Tryz.prog (ihS 35 k20_a 74512 k20_o0 (.ret k20_v (mkM 83708 k20_o3)) (runF Tryz.prog (fun _ => none) 1000000)) (opsC k19_c1).toList none (List.take 1 (List.drop 5 (opsC k19_c1).toList)) (mkT 20 k19_t2) [] (mkM 74512 k19_o2)) = true := by kernel_rfl
set_option maxRecDepth 1000000 in
theorem variantKnown_p19_4 : covN 83708 20 k19_t4 k19_o4 (runOps Tryz.prog (runF Tryz.prog (fun _ => none) 1000000) (opsC k19_c1).toList none (List.take 4 (List.drop 1 (List.drop 5 (opsC k19_c1).toList))) (mkT 20 k19_t3) [] (mkM 83708 k19_o3)) = true := by kernel_rfl
set_option maxRecDepth 1000000 in
theorem variantKnown_p19_5 : covR 83708 20 k19_t5 k19_o5 ((runF Tryz.prog (fun _ => none) 1000000) (.code k19_c2 (mkT 20 k19_t4) [] none (mkM 83708 k19_o4))) = true := by kernel_rfl
set_option maxRecDepth 1000000 in
theorem variantKnown_p18_1 : covN 74492 73 k18_t1 k18_o1 (runS (runF Tryz.prog (fun _ => none) 1000000) 5 k18_c0 ⟨Tryz.f20.ntmps, ofList 0 k18_a .nil⟩ (mkM 70553 k18_o0)) = true := by kernel_rfl
set_option maxRecDepth 1000000 in
theorem variantKnown_p18_2 : covN 83708 73 k18_t2 k18_o2 (runS (ihL Tryz.prog (ihS 34 k19_a 74511 k19_o0 (.ret k19_v (mkM 83708 k19_o5)) (runF Tryz.prog (fun _ => none) 1000000))) 1 k18_c2 (mkT 73 k18_t1) (mkM 74492 k18_o1)) = true := by kernel_rfl
end Go.Proofs.YtelgaffeihgffaaGreatDoor
