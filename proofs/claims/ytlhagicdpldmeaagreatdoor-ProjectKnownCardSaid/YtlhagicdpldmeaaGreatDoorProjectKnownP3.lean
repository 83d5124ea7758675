/-
  ProjectKnown: the kernel runs its parts, text 3. Conditions: none.
-/
import Derived.Test.YtlhagicdpldmeaaGreatDoorProjectKnownD
import Derived.KernelRfl
set_option linter.unusedSimpArgs false
set_option linter.unusedVariables false
namespace Go.Proofs.YtlhagicdpldmeaaGreatDoor
open Go Go.Cx Go.RowKit
set_option maxRecDepth 1000000 in
theorem projectKnown_p2_2 : covN 54657 56 k2_t2 k2_o2 (runS (runF Tryz.prog (fun _ => none) 1000000) 1 k2_c1 (mkT 56 k2_t1) (mkM 50199 k2_o1)) = true := by kernel_rfl
set_option maxRecDepth 1000000 in
theorem projectKnown_p2_3 : covR 54657 56 k2_t3 k2_o3 ((runF Tryz.prog (fun _ => none) 1000000) (.code k2_c2 (mkT 56 k2_t2) [] none (mkM 54657 k2_o2))) = true := by kernel_rfl
end Go.Proofs.YtlhagicdpldmeaaGreatDoor
