/-
  ModelKnown, part 2: the kernel runs it. Conditions: none.
-/
import Derived.Test.YtboceomegbioaaaGreatDoorModelKnownD
import Derived.KernelRfl
set_option linter.unusedSimpArgs false
set_option linter.unusedVariables false
namespace Go.Proofs.YtboceomegbioaaaGreatDoor
open Go Go.Cx Go.RowKit
set_option maxRecDepth 1000000 in
theorem modelKnown_p2 : covN 11154 147 kn_t2 kn_o2 (runS (runF Tryz.prog (fun _ => none) 1000000) 1 kn_c1 (mkT 147 kn_t1) (mkM 3741 kn_o1)) = true := by kernel_rfl
end Go.Proofs.YtboceomegbioaaaGreatDoor
