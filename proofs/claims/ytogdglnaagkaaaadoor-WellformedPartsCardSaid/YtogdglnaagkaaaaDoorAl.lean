import Derived.Test.YtogdglnaagkaaaaDoorAk
set_option linter.unusedSimpArgs false
set_option linter.unusedVariables false
set_option maxRecDepth 100000
namespace Go.Proofs.YtogdglnaagkaaaaDoor
open Go Go.Cx
theorem LElA.app{A:Type}[Inhabited A]{g:A->List SV}{l l2:List A}{n:Nat}{el:Nat->List SV}(h:LElA g l n el):LElA g (l++l2) (n+l2.length) (zcd n el (elF g l2)):=by
 obtain⟨rfl,h⟩:=h;refine⟨by simp,fun i hi=>?_⟩;unfold zcd;split
 ·rename_i hq;rw[h i hq,ya8,ya8,yb8 hq]
 ·rename_i hq;unfold elF;rw[ya8,ya8,yd0 (by omega)]
end Go.Proofs.YtogdglnaagkaaaaDoor
