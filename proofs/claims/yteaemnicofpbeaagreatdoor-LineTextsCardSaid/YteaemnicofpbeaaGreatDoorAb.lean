import Derived.Test.YteaemnicofpbeaaGreatDoorAa
import Derived.Test.YteaemnicofpbeaaGreatDoorAx
import Derived.KernelRfl
set_option linter.unusedSimpArgs false
set_option linter.unusedVariables false
set_option maxRecDepth 100000
namespace Go.Proofs.YteaemnicofpbeaaGreatDoor
open Go Go.Cx
theorem zwG{A:Type}{d:A}{l:List A}{p:A->Bool}{k:Nat}(hk:k<l.length)(h:p (l.getD k d)=true):decide ((k:Int)>=0)=l.any p:=by
 have:l.any p=true:=by
  rw[List.any_eq_true];refine⟨l.getD k d,?_,h⟩;rw[ya8,yb5 hk];exact List.getElem_mem hk
 rw[this];simp
theorem zvi{A:Type}{d:A}{l:List A}{p:A->Bool}{k:Nat}(hk:l.length<=k)(h:∀j,j<k->p (l.getD j d)=false):decide ((-1:Int)>=0)=l.any p:=by
 have:l.any p=false:=by
  rw[Bool.eq_false_iff,Ne,List.any_eq_true];rintro⟨x,hx,hp⟩;obtain⟨i,hi,rfl⟩:=List.mem_iff_getElem.1 hx;have:=h i (by omega);rw[ya8,yb5 hi]at this;simp only[Option.getD_some]at this;rw[this]at hp;cases hp
 rw[this];rfl
theorem zhQ{p:Nat->Bool}{k:Nat}(h:∀j,j<k->p j=false)(hk:p k=false):∀j,j<k+1->p j=false:=fun j hj=>by
 rcases Nat.lt_succ_iff_lt_or_eq.1 hj with h1 |rfl
 ·exact h j h1
 ·exact hk
theorem zm2{A:Type}[Inhabited A]{l:List A}{k:Nat}(hk:k<l.length):l.getD k default∈l:=by
 rw[ya8,yb5 hk];exact List.getElem_mem hk
end Go.Proofs.YteaemnicofpbeaaGreatDoor
