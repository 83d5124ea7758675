/-
  WellformedKnown: the kernel runs it.
-/
import Derived.Test.YtpgbihleidcdkaaDoorCu
import Derived.Test.YtpgbihleidcdkaaDoorChecked
import Derived.KernelRfl
set_option linter.unusedSimpArgs false
set_option linter.unusedVariables false
namespace Go.Proofs.YtpgbihleidcdkaaDoor
open Go Go.Cx

noncomputable def rowsWK : List (Nat × List CV) := [(3, [[99, 111, 117, 110, 116], [115, 117, 109], [109, 105, 110], [109, 97, 120], [102, 105, 114, 115, 116], [108, 97, 115, 116]].map fun s => CV.str (s.map UInt8.toNat))]
set_option maxRecDepth 1000000 in
theorem wellformedKnown_run : isTrue (runF Tryd.prog (fun _ => none) 100000 (.call 3 [] (mem0 64 rowsWK))) = true := by kernel_rfl
end Go.Proofs.YtpgbihleidcdkaaDoor
