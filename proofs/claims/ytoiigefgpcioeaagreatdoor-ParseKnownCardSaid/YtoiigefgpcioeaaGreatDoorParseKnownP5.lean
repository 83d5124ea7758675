/-
  ParseKnown, part 5: the kernel runs it. Conditions: none.
-/
import Derived.Test.YtoiigefgpcioeaaGreatDoorParseKnownD
import Derived.KernelRfl
set_option linter.unusedSimpArgs false
set_option linter.unusedVariables false
namespace Go.Proofs.YtoiigefgpcioeaaGreatDoor
open Go Go.Cx Go.RowKit
set_option maxRecDepth 1000000 in
theorem parseKnown_p5 : covN 13727 114 kn_t5 kn_o5 (runS (runF Tryz.prog strX 1000000) 1 kn_c2 (mkT 114 kn_t4) (mkM 12535 kn_o4)) = true := by kernel_rfl
end Go.Proofs.YtoiigefgpcioeaaGreatDoor
