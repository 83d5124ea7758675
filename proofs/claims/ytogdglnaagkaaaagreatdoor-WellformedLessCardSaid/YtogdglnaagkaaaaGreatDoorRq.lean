import Derived.Test.YtogdglnaagkaaaaGreatDoorRb
set_option linter.unusedSimpArgs false
set_option linter.unusedVariables false
set_option maxRecDepth 100000
namespace Go.Proofs.YtogdglnaagkaaaaGreatDoor
open Go Go.Cx
theorem zBv(l:List Int)(hl:l.length<=maxLen):DSpec Tryz.prog axX axG 5 [.isl 1 l.length (zpU l)] [] (fun v O=>v=.agg (zaD (zd8 l))/\O=[]):=
 DSpec.same (zz9 l hl) fun v O h=>⟨_,h.1,rfl,h.2⟩
end Go.Proofs.YtogdglnaagkaaaaGreatDoor
