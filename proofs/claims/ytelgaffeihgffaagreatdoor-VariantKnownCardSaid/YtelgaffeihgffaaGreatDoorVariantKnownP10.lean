/-
  VariantKnown: the kernel runs its parts, text 10. Conditions: none.
-/
import Derived.Test.YtelgaffeihgffaaGreatDoorVariantKnownD
import Derived.KernelRfl
set_option linter.unusedSimpArgs false
set_option linter.unusedVariables false
namespace Go.Proofs.YtelgaffeihgffaaGreatDoor
open Go Go.Cx Go.RowKit
set_option maxRecDepth 1000000 in
theorem variantKnown_p13_3 : covR 50010 64 k13_t3 k13_o3 ((runF Tryz.prog (fun _ => none) 1000000) (.code k13_c2 (mkT 64 k13_t2) [] none (mkM 50010 k13_o2))) = true := by kernel_rfl
set_option maxRecDepth 1000000 in
theorem variantKnown_p15_1 : covN 62759 27 k15_t1 k15_o1 (runS (runF Tryz.prog (fun _ => none) 1000000) 3 k15_c0 ⟨Tryz.f21.ntmps, ofList 0 k15_a .nil⟩ (mkM 58884 k15_o0)) = true := by kernel_rfl
set_option maxRecDepth 1000000 in
theorem variantKnown_p15_2 : covN 66619 27 k15_t2 k15_o2 (runS (runF Tryz.prog (fun _ => none) 1000000) 2 k15_c1 (mkT 27 k15_t1) (mkM 62759 k15_o1)) = true := by kernel_rfl
set_option maxRecDepth 1000000 in
theorem variantKnown_p15_3 : covR 66619 27 k15_t3 k15_o3 ((runF Tryz.prog (fun _ => none) 1000000) (.code k15_c2 (mkT 27 k15_t2) [] none (mkM 66619 k15_o2))) = true := by kernel_rfl
set_option maxRecDepth 1000000 in
theorem variantKnown_p20_1 : covN 78605 56 k20_t1 k20_o1 (runS (runF Tryz.prog (fun _ => none) 1000000) 3 k20_c0 ⟨Tryz.f35.ntmps, ofList 0 k20_a .nil⟩ (mkM 74512 k20_o0)) = true := by kernel_rfl
set_option maxRecDepth 1000000 in
theorem variantKnown_p20_2 : covN 83708 56 k20_t2 k20_o2 (runS (runF Tryz.prog (fun _ => none) 1000000) 4 k20_c1 (mkT 56 k20_t1) (mkM 78605 k20_o1)) = true := by kernel_rfl
set_option maxRecDepth 1000000 in
theorem variantKnown_p20_3 : covR 83708 56 k20_t3 k20_o3 ((runF Tryz.prog (fun _ => none) 1000000) (.code k20_c2 (mkT 56 k20_t2) [] none (mkM 83708 k20_o2))) = true := by kernel_rfl
end Go.Proofs.YtelgaffeihgffaaGreatDoor
