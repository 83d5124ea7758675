import Derived.Test.YtogdglnaagkaaaaGreatDoorAf
set_option linter.unusedSimpArgs false
set_option linter.unusedVariables false
set_option maxRecDepth 100000
namespace Go.Proofs.YtogdglnaagkaaaaGreatDoor
open Go Go.Cx
theorem k3{n:NodeM}(h:(n.kind==3)=true):(n.kind==3||n.kind==4)=true:=by rw[h];rfl
theorem k4{n:NodeM}(h:(n.kind==4)=true):(n.kind==3||n.kind==4)=true:=by rw[h];simp
end Go.Proofs.YtogdglnaagkaaaaGreatDoor
set_option maxRecDepth 100000
namespace Go.Proofs.YtogdglnaagkaaaaGreatDoor
open Go Go.Cx
theorem LElA.app{A:Type}[Inhabited A]{g:A->List SV}{l l2:List A}{n:Nat}{el:Nat->List SV}(h:LElA g l n el):LElA g (l++l2) (n+l2.length) (zcb n el (elF g l2)):=by
 obtain⟨rfl,h⟩:=h;refine⟨by simp,fun i hi=>?_⟩;unfold zcb;split
 ·rename_i hq;rw[h i hq,ya8,ya8,yb8 hq]
 ·rename_i hq;unfold elF;rw[ya8,ya8,yd0 (by omega)]
end Go.Proofs.YtogdglnaagkaaaaGreatDoor
set_option maxRecDepth 100000
namespace Go.Proofs.YtogdglnaagkaaaaGreatDoor
open Go Go.Cx
def LElS{A:Type}[Inhabited A](g:A->List SV)(l:List A)(n:Nat)(el:Nat->List SV):Prop:=n=l.length/\∀i,i<n->SameL (el i) (g (l.getD i default))
theorem LElS.snoc{A:Type}[Inhabited A]{g:A->List SV}{l:List A}{n sz:Nat}{el:Nat->List SV}{x:A}{cs:List SV}(h:LElS g l n el)(hc:SameL cs (g x))(hl:cs.length=sz):LElS g (l++[x]) (n+1) (zcb n el (zcz sz cs)):=by
 obtain⟨rfl,h⟩:=h;refine⟨by simp,fun i hi=>?_⟩;unfold zcb;split
 ·rename_i hq;have:=h i hq;rw[ya8]at this ⊢;rw[yb8 hq];exact this
 ·have:i=l.length:=by omega
  subst this;rw[<- hl];simp[zcz];exact hc
end Go.Proofs.YtogdglnaagkaaaaGreatDoor
