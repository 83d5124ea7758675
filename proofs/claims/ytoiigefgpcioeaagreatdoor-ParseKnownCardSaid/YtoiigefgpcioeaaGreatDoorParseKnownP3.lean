/-
  ParseKnown, part 3: the kernel runs it. Conditions: none.
-/
import Derived.Test.YtoiigefgpcioeaaGreatDoorParseKnownD
import Derived.KernelRfl
set_option linter.unusedSimpArgs false
set_option linter.unusedVariables false
namespace Go.Proofs.YtoiigefgpcioeaaGreatDoor
open Go Go.Cx Go.RowKit
set_option maxRecDepth 1000000 in
theorem parseKnown_p3 : covN 10202 114 kn_t3 kn_o3 (runOps Tryz.prog (runF Tryz.prog strX 1000000) (opsC kn_c1).toList none (List.take 1 (List.drop 2 (opsC kn_c1).toList)) (mkT 114 kn_t2) [] (mkM 2112 kn_o2)) = true := by kernel_rfl
end Go.Proofs.YtoiigefgpcioeaaGreatDoor
