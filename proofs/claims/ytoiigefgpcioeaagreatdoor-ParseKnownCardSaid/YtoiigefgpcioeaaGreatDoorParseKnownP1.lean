/-
  ParseKnown, part 1: the kernel runs it. Conditions: none.
-/
import Derived.Test.YtoiigefgpcioeaaGreatDoorParseKnownD
import Derived.KernelRfl
set_option linter.unusedSimpArgs false
set_option linter.unusedVariables false
namespace Go.Proofs.YtoiigefgpcioeaaGreatDoor
open Go Go.Cx Go.RowKit
set_option maxRecDepth 1000000 in
theorem parseKnown_p1 : covN 2112 114 kn_t1 kn_o1 (runS (runF Tryz.prog strX 1000000) 6 kn_c0 ⟨Tryz.f3.ntmps, .nil⟩ (mem0 64 rows0)) = true := by kernel_rfl
end Go.Proofs.YtoiigefgpcioeaaGreatDoor
