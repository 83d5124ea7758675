/-
  ModelKnown, part 3: the kernel runs it. Conditions: none.
-/
import Derived.Test.YtboceomegbioaaaGreatDoorModelKnownD
import Derived.KernelRfl
set_option linter.unusedSimpArgs false
set_option linter.unusedVariables false
namespace Go.Proofs.YtboceomegbioaaaGreatDoor
open Go Go.Cx Go.RowKit
set_option maxRecDepth 1000000 in
theorem modelKnown_p3 : covN 15456 147 kn_t3 kn_o3 (runS (runF Tryz.prog (fun _ => none) 1000000) 9 kn_c2 (mkT 147 kn_t2) (mkM 11154 kn_o2)) = true := by kernel_rfl
end Go.Proofs.YtboceomegbioaaaGreatDoor
