/-
  ParseKnown, part 7: the kernel runs it. Conditions: none.
-/
import Derived.Test.YtoiigefgpcioeaaGreatDoorParseKnownD
import Derived.KernelRfl
set_option linter.unusedSimpArgs false
set_option linter.unusedVariables false
namespace Go.Proofs.YtoiigefgpcioeaaGreatDoor
open Go Go.Cx Go.RowKit
set_option maxRecDepth 1000000 in
theorem parseKnown_p7 : covN 21031 114 kn_t7 kn_o7 (runOps Tryz.prog (runF Tryz.prog strX 1000000) (opsC kn_c3).toList none (List.take 6 (List.drop 11 (opsC kn_c3).toList)) (mkT 114 kn_t6) [] (mkM 18460 kn_o6)) = true := by kernel_rfl
end Go.Proofs.YtoiigefgpcioeaaGreatDoor
