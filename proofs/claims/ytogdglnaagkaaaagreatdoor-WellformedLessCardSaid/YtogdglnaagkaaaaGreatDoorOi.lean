import Derived.Test.YtogdglnaagkaaaaGreatDoorRa
import Derived.Test.YtogdglnaagkaaaaGreatDoorGh
import Derived.Test.YtogdglnaagkaaaaGreatDoorProg
import Derived.KernelRfl
set_option linter.unusedSimpArgs false
set_option linter.unusedVariables false
set_option maxRecDepth 100000
namespace Go.Proofs.YtogdglnaagkaaaaGreatDoor
open Go Go.Cx
section
variable{H:Type}
theorem zvP(n:Nat)(d:DataW H)(h:wfD Tryz.prog n 22 d):∃(c:List Int) (w:SV),c.length<=maxLen/\svD Tryz.prog n 22 d=[w]/\Same w (.isl 1 c.length (zpU c)):=by
 obtain⟨cl,l0,v0,s0,e0⟩:=zkn (g:=fun x:Int=>[ai x]) Tryz.underlying22 h fun m y hy=>by
  obtain⟨x,_,_,s⟩:=zDn Tryz.underlying3 hy;exact⟨x,s⟩
 rw[show Tryz.prog.cellsOf 3=1 by kernel_rfl]at e0;exact⟨cl,v0,l0,s0,e0⟩
end
end Go.Proofs.YtogdglnaagkaaaaGreatDoor
