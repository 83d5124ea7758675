/-
  ParseKnown, part 4: the kernel runs it. Conditions: none.
-/
import Derived.Test.YtoiigefgpcioeaaGreatDoorParseKnownD
import Derived.KernelRfl
set_option linter.unusedSimpArgs false
set_option linter.unusedVariables false
namespace Go.Proofs.YtoiigefgpcioeaaGreatDoor
open Go Go.Cx Go.RowKit
set_option maxRecDepth 1000000 in
theorem parseKnown_p4 : covN 12535 114 kn_t4 kn_o4 (runOps Tryz.prog (runF Tryz.prog strX 1000000) (opsC kn_c1).toList none (List.take 7 (List.drop 1 (List.drop 2 (opsC kn_c1).toList))) (mkT 114 kn_t3) [] (mkM 10202 kn_o3)) = true := by kernel_rfl
end Go.Proofs.YtoiigefgpcioeaaGreatDoor
