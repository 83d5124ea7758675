import Derived.Test.YtogdglnaagkaaaaGreatDoorAu
set_option linter.unusedSimpArgs false
set_option linter.unusedVariables false
set_option maxRecDepth 100000
namespace Go.Proofs.YtogdglnaagkaaaaGreatDoor
open Go Go.Cx
def zEl(c:CondM):Prop := -9223372036854775808<=c.val/\c.val<=9223372036854775807
structure ANum(a:AtomM):Prop where
 bound:0<=a.bound/\a.bound<=18446744073709551615
 cond:∀c∈a.cs,zEl c
def NumN(n:NodeM):Prop:=∀d p,p∈zaE d n->ANum p.2.atom
structure QNum(q:QueryM):Prop where
 p:NumN q.p
 within:0<=q.within/\q.within<=18446744073709551615
 hv:∀h∈q.hv,zEl h.cond
section
variable{H:Type}{P:Program}{n:Nat}{t:TypeId}{d:DataW H}
end
variable{H:Type}
theorem NumN.mk{n:NodeM}(h:ANum n.atom)(hk:∀m∈n.kids,NumN m):NumN n:=fun d p hp=>by
 rw[za3]at hp;rcases List.mem_cons.1 hp with rfl |hp
 ·exact h
 ·obtain⟨m,h1,h2⟩:=List.mem_flatMap.1 hp;exact hk m h1 _ p h2
theorem NumN.self{n:NodeM}(h:NumN n):ANum n.atom:=h 0 (0,n) (by rw[za3];exact ya5)
theorem NumN.kid{n m:NodeM}(h:NumN n)(hm:m∈n.kids):NumN m:=fun d p hp=>by
 have:=h (d - 1) p;exact this (zmF hm (by rw[show d - 1+1=d by omega];exact hp))
end Go.Proofs.YtogdglnaagkaaaaGreatDoor
