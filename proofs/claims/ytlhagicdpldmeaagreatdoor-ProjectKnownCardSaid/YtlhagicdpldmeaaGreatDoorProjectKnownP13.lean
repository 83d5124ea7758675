/-
  ProjectKnown: the kernel runs its parts, text 13. Conditions: none.
-/
import Derived.Test.YtlhagicdpldmeaaGreatDoorProjectKnownD
import Derived.KernelRfl
set_option linter.unusedSimpArgs false
set_option linter.unusedVariables false
namespace Go.Proofs.YtlhagicdpldmeaaGreatDoor
open Go Go.Cx Go.RowKit
set_option maxRecDepth 1000000 in
theorem projectKnown_p0_16 : covR 75152 240 k0_t16 k0_o16 ((runF Tryz.prog (fun _ => none) 1000000) (.code k0_c11 (mkT 240 k0_t15) [] none (mkM 75152 k0_o15))) = true := by kernel_rfl
end Go.Proofs.YtlhagicdpldmeaaGreatDoor
