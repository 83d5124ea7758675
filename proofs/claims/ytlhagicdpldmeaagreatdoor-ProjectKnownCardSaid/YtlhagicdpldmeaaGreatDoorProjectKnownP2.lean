/-
  ProjectKnown: the kernel runs its parts, text 2. Conditions: none.
-/
import Derived.Test.YtlhagicdpldmeaaGreatDoorProjectKnownD
import Derived.KernelRfl
set_option linter.unusedSimpArgs false
set_option linter.unusedVariables false
namespace Go.Proofs.YtlhagicdpldmeaaGreatDoor
open Go Go.Cx Go.RowKit
set_option maxRecDepth 1000000 in
theorem projectKnown_p1_3 : covR 44704 56 k1_t3 k1_o3 ((runF Tryz.prog (fun _ => none) 1000000) (.code k1_c2 (mkT 56 k1_t2) [] none (mkM 44704 k1_o2))) = true := by kernel_rfl
set_option maxRecDepth 1000000 in
theorem projectKnown_p2_1 : covN 50199 56 k2_t1 k2_o1 (runS (runF Tryz.prog (fun _ => none) 1000000) 3 k2_c0 ⟨Tryz.f12.ntmps, ofList 0 k2_a .nil⟩ (mkM 44714 k2_o0)) = true := by kernel_rfl
end Go.Proofs.YtlhagicdpldmeaaGreatDoor
