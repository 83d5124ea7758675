/-
  ProjectKnown: the kernel runs its parts, text 6. Conditions: none.
-/
import Derived.Test.YtlhagicdpldmeaaGreatDoorProjectKnownD
import Derived.KernelRfl
set_option linter.unusedSimpArgs false
set_option linter.unusedVariables false
namespace Go.Proofs.YtlhagicdpldmeaaGreatDoor
open Go Go.Cx Go.RowKit
set_option maxRecDepth 1000000 in
theorem projectKnown_p0_2 : covN 9949 240 k0_t2 k0_o2 (runS (runF Tryz.prog (fun _ => none) 1000000) 1 k0_c1 (mkT 240 k0_t1) (mkM 5059 k0_o1)) = true := by kernel_rfl
set_option maxRecDepth 1000000 in
theorem projectKnown_p0_3 : covN 14865 240 k0_t3 k0_o3 (runS (runF Tryz.prog (fun _ => none) 1000000) 1 k0_c2 (mkT 240 k0_t2) (mkM 9949 k0_o2)) = true := by kernel_rfl
end Go.Proofs.YtlhagicdpldmeaaGreatDoor
