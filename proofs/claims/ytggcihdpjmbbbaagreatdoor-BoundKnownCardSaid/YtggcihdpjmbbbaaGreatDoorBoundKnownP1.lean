/-
  BoundKnown, part 1: the kernel runs it. Conditions: none.
-/
import Derived.Test.YtggcihdpjmbbbaaGreatDoorBoundKnownD
import Derived.KernelRfl
set_option linter.unusedSimpArgs false
set_option linter.unusedVariables false
namespace Go.Proofs.YtggcihdpjmbbbaaGreatDoor
open Go Go.Cx Go.RowKit
set_option maxRecDepth 1000000 in
theorem boundKnown_p1 : covR 1791 127 kn_t1 kn_o1 (runF Tryz.prog (fun _ => none) 1000000 (.code kn_c0 ⟨Tryz.f3.ntmps, .nil⟩ [] none (mem0 64 []))) = true := by kernel_rfl
end Go.Proofs.YtggcihdpjmbbbaaGreatDoor
