/-
  ParseKnown, part 2: the kernel runs it. Conditions: none.
-/
import Derived.Test.YtoiigefgpcioeaaGreatDoorParseKnownD
import Derived.KernelRfl
set_option linter.unusedSimpArgs false
set_option linter.unusedVariables false
namespace Go.Proofs.YtoiigefgpcioeaaGreatDoor
open Go Go.Cx Go.RowKit
set_option maxRecDepth 1000000 in
theorem parseKnown_p2 : covN 2112 114 kn_t2 kn_o2 (runOps Tryz.prog (runF Tryz.prog strX 1000000) (opsC kn_c1).toList none (List.take 2 (opsC kn_c1).toList) (mkT 114 kn_t1) [] (mkM 2112 kn_o1)) = true := by kernel_rfl
end Go.Proofs.YtoiigefgpcioeaaGreatDoor
