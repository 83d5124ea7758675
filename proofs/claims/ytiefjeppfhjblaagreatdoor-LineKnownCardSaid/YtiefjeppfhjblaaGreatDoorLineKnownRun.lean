/-
  LineKnown: the kernel runs it. Conditions: none.
-/
import Derived.Test.YtiefjeppfhjblaaGreatDoorLs
import Derived.KernelRfl
set_option linter.unusedSimpArgs false
set_option linter.unusedVariables false
namespace Go.Proofs.YtiefjeppfhjblaaGreatDoor
open Go Go.Cx
set_option maxRecDepth 1000000 in
theorem lineKnown_run : isTrue (runF Tryz.prog strX 1000000 (.call 4 [] (mem0 64 []))) = true := by kernel_rfl
end Go.Proofs.YtiefjeppfhjblaaGreatDoor
