import Derived.Test.YtogdglnaagkaaaaDoorAl
set_option linter.unusedSimpArgs false
set_option linter.unusedVariables false
set_option maxRecDepth 100000
namespace Go.Proofs.YtogdglnaagkaaaaDoor
open Go Go.Cx
def LElS{A:Type}[Inhabited A](g:A->List SV)(l:List A)(n:Nat)(el:Nat->List SV):Prop:=n=l.length/\∀i,i<n->SameL (el i) (g (l.getD i default))
theorem LElS.snoc{A:Type}[Inhabited A]{g:A->List SV}{l:List A}{n sz:Nat}{el:Nat->List SV}{x:A}{cs:List SV}(h:LElS g l n el)(hc:SameL cs (g x))(hl:cs.length=sz):LElS g (l++[x]) (n+1) (zcd n el (zc9 sz cs)):=by
 obtain⟨rfl,h⟩:=h;refine⟨by simp,fun i hi=>?_⟩;unfold zcd;split
 ·rename_i hq;have:=h i hq;rw[ya8]at this ⊢;rw[yb8 hq];exact this
 ·have:i=l.length:=by omega
  subst this;rw[<- hl];simp[zc9];exact hc
end Go.Proofs.YtogdglnaagkaaaaDoor
