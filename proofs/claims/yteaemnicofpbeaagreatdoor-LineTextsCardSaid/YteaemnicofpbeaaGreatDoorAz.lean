import Derived.Test.YteaemnicofpbeaaGreatDoorGh
set_option linter.unusedSimpArgs false
set_option linter.unusedVariables false
namespace Go.Proofs.YteaemnicofpbeaaGreatDoor
open Go Go.Cx
def elF{A:Type}[Inhabited A](g:A->List SV)(l:List A):Nat->List SV:=fun i=>g (l.getD i default)
def LElA{A:Type}[Inhabited A](g:A->List SV)(l:List A)(n:Nat)(el:Nat->List SV):Prop:=n=l.length/\∀i,i<n->el i=g (l.getD i default)
theorem LElA.snoc{A:Type}[Inhabited A]{g:A->List SV}{l:List A}{n sz:Nat}{el:Nat->List SV}{x:A}{cs:List SV}(h:LElA g l n el)(hc:cs=g x)(hl:cs.length=sz):LElA g (l++[x]) (n+1) (zei n el (zgw sz cs)):=by
 obtain⟨rfl,h⟩:=h;refine⟨by simp,fun i hi=>?_⟩;unfold zei;split
 ·rename_i hq;rw[h i hq,ya8,ya8,yb8 hq]
 ·have:i=l.length:=by omega
  subst this;rw[<- hl];simp[zgw,<- hc]
theorem LElA.one{A:Type}[Inhabited A]{g:A->List SV}{sz:Nat}{x:A}{cs:List SV}(hc:cs=g x)(hl:cs.length=sz):LElA g [x] 1 (zgw sz cs):=by
 refine⟨rfl,fun i hi=>?_⟩;have:i=0:=by omega
 subst this;rw[<- hl];simp[zgw,<- hc]
theorem LElA.same{A:Type}[Inhabited A]{g:A->List SV}{sz:Nat}{l:List A}{n:Nat}{el:Nat->List SV}(h:LElA g l n el):Same (.isl sz n el) (.isl sz l.length (elF g l)):=by
 obtain⟨rfl,h⟩:=h;exact .isl h
end Go.Proofs.YteaemnicofpbeaaGreatDoor
