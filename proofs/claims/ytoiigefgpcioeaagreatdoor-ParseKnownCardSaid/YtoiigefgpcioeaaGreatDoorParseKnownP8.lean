/-
  ParseKnown, part 8: the kernel runs it. Conditions: none.
-/
import Derived.Test.YtoiigefgpcioeaaGreatDoorParseKnownD
import Derived.KernelRfl
set_option linter.unusedSimpArgs false
set_option linter.unusedVariables false
namespace Go.Proofs.YtoiigefgpcioeaaGreatDoor
open Go Go.Cx Go.RowKit
set_option maxRecDepth 1000000 in
theorem parseKnown_p8 : covR 24625 114 kn_t8 kn_o8 (runF Tryz.prog strX 1000000 (.code kn_c4 (mkT 114 kn_t7) [] none (mkM 21031 kn_o7))) = true := by kernel_rfl
end Go.Proofs.YtoiigefgpcioeaaGreatDoor
