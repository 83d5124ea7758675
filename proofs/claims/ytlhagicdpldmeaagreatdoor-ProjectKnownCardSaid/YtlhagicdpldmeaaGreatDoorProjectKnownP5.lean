/-
  ProjectKnown: the kernel runs its parts, text 5. Conditions: none.
-/
import Derived.Test.YtlhagicdpldmeaaGreatDoorProjectKnownD
import Derived.KernelRfl
set_option linter.unusedSimpArgs false
set_option linter.unusedVariables false
namespace Go.Proofs.YtlhagicdpldmeaaGreatDoor
open Go Go.Cx Go.RowKit
set_option maxRecDepth 1000000 in
theorem projectKnown_p3_3 : covR 64900 24 k3_t3 k3_o3 ((runF Tryz.prog (fun _ => none) 1000000) (.code k3_c2 (mkT 24 k3_t2) [] none (mkM 64900 k3_o2))) = true := by kernel_rfl
set_option maxRecDepth 1000000 in
theorem projectKnown_p0_1 : covN 5059 240 k0_t1 k0_o1 (runS (runF Tryz.prog (fun _ => none) 1000000) 5 k0_c0 ⟨Tryz.f3.ntmps, .nil⟩ (mem0 64 rows0)) = true := by kernel_rfl
end Go.Proofs.YtlhagicdpldmeaaGreatDoor
