/-
  ModelKnown, part 4: the kernel runs it. Conditions: none.
-/
import Derived.Test.YtboceomegbioaaaGreatDoorModelKnownD
import Derived.KernelRfl
set_option linter.unusedSimpArgs false
set_option linter.unusedVariables false
namespace Go.Proofs.YtboceomegbioaaaGreatDoor
open Go Go.Cx Go.RowKit
set_option maxRecDepth 1000000 in
theorem modelKnown_p4 : covR 21680 147 kn_t4 kn_o4 (runF Tryz.prog (fun _ => none) 1000000 (.code kn_c3 (mkT 147 kn_t3) [] none (mkM 15456 kn_o3))) = true := by kernel_rfl
end Go.Proofs.YtboceomegbioaaaGreatDoor
