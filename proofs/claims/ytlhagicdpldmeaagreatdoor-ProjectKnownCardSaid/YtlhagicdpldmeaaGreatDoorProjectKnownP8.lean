/-
  ProjectKnown: the kernel runs its parts, text 8. Conditions: none.
-/
import Derived.Test.YtlhagicdpldmeaaGreatDoorProjectKnownD
import Derived.KernelRfl
set_option linter.unusedSimpArgs false
set_option linter.unusedVariables false
namespace Go.Proofs.YtlhagicdpldmeaaGreatDoor
open Go Go.Cx Go.RowKit
set_option maxRecDepth 1000000 in
theorem projectKnown_p0_6 : covN 29552 240 k0_t6 k0_o6 (runS (runF Tryz.prog (fun _ => none) 1000000) 1 k0_c5 (mkT 240 k0_t5) (mkM 24663 k0_o5)) = true := by kernel_rfl
set_option maxRecDepth 1000000 in
theorem projectKnown_p0_7 : covN 35036 240 k0_t7 k0_o7 (runS (runF Tryz.prog (fun _ => none) 1000000) 1 k0_c6 (mkT 240 k0_t6) (mkM 29552 k0_o6)) = true := by kernel_rfl
end Go.Proofs.YtlhagicdpldmeaaGreatDoor
