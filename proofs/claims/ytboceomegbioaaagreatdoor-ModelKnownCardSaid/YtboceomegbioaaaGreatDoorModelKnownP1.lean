/-
  ModelKnown, part 1: the kernel runs it. Conditions: none.
-/
import Derived.Test.YtboceomegbioaaaGreatDoorModelKnownD
import Derived.KernelRfl
set_option linter.unusedSimpArgs false
set_option linter.unusedVariables false
namespace Go.Proofs.YtboceomegbioaaaGreatDoor
open Go Go.Cx Go.RowKit
set_option maxRecDepth 1000000 in
theorem modelKnown_p1 : covN 3741 147 kn_t1 kn_o1 (runS (runF Tryz.prog (fun _ => none) 1000000) 4 kn_c0 ⟨Tryz.f3.ntmps, .nil⟩ (mem0 64 [])) = true := by kernel_rfl
end Go.Proofs.YtboceomegbioaaaGreatDoor
