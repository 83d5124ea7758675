/-
  ProjectKnown: the kernel runs its parts, text 7. Conditions: none.
-/
import Derived.Test.YtlhagicdpldmeaaGreatDoorProjectKnownD
import Derived.KernelRfl
set_option linter.unusedSimpArgs false
set_option linter.unusedVariables false
namespace Go.Proofs.YtlhagicdpldmeaaGreatDoor
open Go Go.Cx Go.RowKit
set_option maxRecDepth 1000000 in
theorem projectKnown_p0_4 : covN 19780 240 k0_t4 k0_o4 (runS (runF Tryz.prog (fun _ => none) 1000000) 1 k0_c3 (mkT 240 k0_t3) (mkM 14865 k0_o3)) = true := by kernel_rfl
set_option maxRecDepth 1000000 in
theorem projectKnown_p0_5 : covN 24663 240 k0_t5 k0_o5 (runS (runF Tryz.prog (fun _ => none) 1000000) 1 k0_c4 (mkT 240 k0_t4) (mkM 19780 k0_o4)) = true := by kernel_rfl
end Go.Proofs.YtlhagicdpldmeaaGreatDoor
