/-
  VariantKnown: the kernel runs its parts, text 2. Conditions: none.
-/
import Derived.Test.YtelgaffeihgffaaGreatDoorVariantKnownD
import Derived.KernelRfl
set_option linter.unusedSimpArgs false
set_option linter.unusedVariables false
namespace Go.Proofs.YtelgaffeihgffaaGreatDoor
open Go Go.Cx Go.RowKit
set_option maxRecDepth 1000000 in
theorem variantKnown_p4_5 : covR 21417 20 k4_t5 k4_o5 ((runF Tryz.prog (fun _ => none) 1000000) (.code k4_c2 (mkT 20 k4_t4) [] none (mkM 21417 k4_o4))) = true := by kernel_rfl
set_option maxRecDepth 1000000 in
theorem variantKnown_p3_1 : covN 12786 73 k3_t1 k3_o1 (runS (runF Tryz.prog (fun _ => none) 1000000) 5 k3_c0 ⟨Tryz.f20.ntmps, ofList 0 k3_a .nil⟩ (mkM 12752 k3_o0)) = true := by kernel_rfl
set_option maxRecDepth 1000000 in
theorem variantKnown_p3_2 : covN 21417 73 k3_t2 k3_o2 (runS (ihL Tryz.prog (ihS 34 k4_a 12805 k4_o0 (.ret k4_v (mkM 21417 k4_o5)) (runF Tryz.prog (fun _ => none) 1000000))) 1 k3_c2 (mkT 73 k3_t1) (mkM 12786 k3_o1)) = true := by kernel_rfl
set_option maxRecDepth 1000000 in
theorem variantKnown_p3_3 : covN 21417 73 k3_t3 k3_o3 (runS (runF Tryz.prog (fun _ => none) 1000000) 1 k3_c3 (mkT 73 k3_t2) (mkM 21417 k3_o2)) = true := by kernel_rfl
set_option maxRecDepth 1000000 in
theorem variantKnown_p3_4 : covN 21417 73 k3_t4 k3_o4 ((runF Tryz.prog (fun _ => none) 1000000) (.code k3_c4 (mkT 73 k3_t3) [] none (mkM 21417 k3_o3))) = true := by kernel_rfl
set_option maxRecDepth 1000000 in
theorem variantKnown_p3_5 : covN 21417 73 k3_t5 k3_o5 (runS (runF Tryz.prog (fun _ => none) 1000000) 1 k3_c5 (mkT 73 k3_t4) (mkM 21417 k3_o4)) = true := by kernel_rfl
set_option maxRecDepth 1000000 in
theorem variantKnown_p3_6 : covR 21417 73 k3_t6 k3_o6 ((runF Tryz.prog (fun _ => none) 1000000) (.code k3_c6 (mkT 73 k3_t5) [] none (mkM 21417 k3_o5))) = true := by kernel_rfl
end Go.Proofs.YtelgaffeihgffaaGreatDoor
