import Derived.Test.YtogdglnaagkaaaaDoorRa
import Derived.Test.YtogdglnaagkaaaaDoorGh
import Derived.Test.YtogdglnaagkaaaaDoorProg
import Derived.KernelRfl
set_option linter.unusedSimpArgs false
set_option linter.unusedVariables false
set_option maxRecDepth 100000
namespace Go.Proofs.YtogdglnaagkaaaaDoor
open Go Go.Cx
section
variable{H:Type}
theorem zt6(n:Nat)(d:DataW H)(h:wfD Tryd.prog n 22 d):∃(c:List Int) (w:SV),c.length<=maxLen/\svD Tryd.prog n 22 d=[w]/\Same w (.isl 1 c.length (zju c)):=by
 obtain⟨cl,l0,v0,s0,e0⟩:=zjF (g:=fun x:Int=>[ai x]) Tryd.underlying22 h fun m y hy=>by
  obtain⟨x,_,_,s⟩:=zAf Tryd.underlying3 hy;exact⟨x,s⟩
 rw[show Tryd.prog.cellsOf 3=1 by kernel_rfl]at e0;exact⟨cl,v0,l0,s0,e0⟩
end
end Go.Proofs.YtogdglnaagkaaaaDoor
