import Derived.Test.YtogdglnaagkaaaaDoorAf
set_option linter.unusedSimpArgs false
set_option linter.unusedVariables false
set_option maxRecDepth 100000
namespace Go.Proofs.YtogdglnaagkaaaaDoor
open Go Go.Cx
theorem k3{n:NodeM}(h:(n.kind==3)=true):(n.kind==3||n.kind==4)=true:=by rw[h];rfl
theorem k4{n:NodeM}(h:(n.kind==4)=true):(n.kind==3||n.kind==4)=true:=by rw[h];simp
end Go.Proofs.YtogdglnaagkaaaaDoor
