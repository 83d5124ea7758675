/-
  TokenKnown: the kernel runs it. Conditions: none.
-/
import Derived.Test.YtpgbihleidcdkaaDoorLs
import Derived.KernelRfl
set_option linter.unusedSimpArgs false
set_option linter.unusedVariables false
namespace Go.Proofs.YtpgbihleidcdkaaDoor
open Go Go.Cx
noncomputable def rows0 : List (Nat × List CV) := [(1, [.ifc 168 (.ptr 64 0)]), (0, [.ifc 168 (.ptr 65 0)])]
set_option maxRecDepth 1000000 in
theorem tokenKnown_run : isTrue (runF Tryd.prog strX 1000000 (.call 5 [] (mem0 66 rows0))) = true := by kernel_rfl
end Go.Proofs.YtpgbihleidcdkaaDoor
