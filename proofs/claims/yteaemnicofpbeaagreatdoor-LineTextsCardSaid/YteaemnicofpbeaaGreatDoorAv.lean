import Derived.Test.YteaemnicofpbeaaGreatDoorAu
set_option linter.unusedSimpArgs false
set_option linter.unusedVariables false
set_option maxRecDepth 100000
namespace Go.Proofs.YteaemnicofpbeaaGreatDoor
open Go Go.Cx
def zx2(c:CondM):Prop := -9223372036854775808<=c.val/\c.val<=9223372036854775807
structure ANum(a:AtomM):Prop where
 bound:0<=a.bound/\a.bound<=18446744073709551615
 cond:∀c∈a.cs,zx2 c
def NumN(n:NodeM):Prop:=∀d p,p∈zt2 d n->ANum p.2.atom
structure QNum(q:QueryM):Prop where
 p:NumN q.p
 within:0<=q.within/\q.within<=18446744073709551615
 hv:∀h∈q.hv,zx2 h.cond
section
variable{H:Type}{P:Program}{n:Nat}{t:TypeId}{d:DataW H}
theorem ztZ{A B:Type}[Inhabited B]{f:A->List SV}{g:B->List SV}{Q:B->Prop}:∀{l:List A},(∀y∈l,∃b,SameL (f y) (g b)/\Q b)->∃r:List B,r.length=l.length/\(∀(i:Nat) y,l[i]? = some y->SameL (f y) (g (r.getD i default)))/\∀b∈r,Q b
 |[],_=>⟨[],rfl,fun i y h=>by simp at h,fun b h=>by cases h⟩
 |y::l,h=>by
  obtain⟨b,hb,hq⟩:=h y ya5;obtain⟨r,h1,h2,h3⟩:=ztZ fun z hz=>h z (ya4 _ hz)
  refine⟨b::r,by simp[h1],fun i z hz=>?_,fun c hc=>?_⟩
  ·cases i with
   |zero=>simp at hz;subst hz;simpa using hb
   |succ i=>simpa using h2 i z (by simpa using hz)
  ·rcases List.mem_cons.1 hc with rfl |hc
   ·exact hq
   ·exact h3 c hc
theorem zsv{e:TypeId}{B:Type}[Inhabited B]{g:B->List SV}{Q:B->Prop}(ht:P.underlying t=some (.slice e))(h:wfD P n t d)(hg:∀m (y:DataW H),m<n->wfD P m e y->∃b,SameL (svD P m e y) (g b)/\Q b):∃(r:List B) (v:SV),r.length<=maxLen/\svD P n t d=[v]/\(∀el':Nat->List SV,(∀i,i<r.length->el' i=g (r.getD i default))->Same v (.isl (P.cellsOf e) r.length el'))/\∀b∈r,Q b:=by
 obtain⟨m,elems,hm,h1,h2,el,h3,h4⟩:=znU ht h;obtain⟨r,h5,h6,h7⟩:=ztZ (f:=fun y=>svD P m e y) (g:=g) (Q:=Q) (l:=elems) fun y hy=>hg m y (by omega) (h2 y hy)
 refine⟨r,_,by omega,h3,fun el' hel=>?_,h7⟩;rw[h5];exact .islD fun i hi=>by
  rw[h4 i _ (yb5 hi),hel i (by omega)];exact h6 i _ (yb5 hi)
end
variable{H:Type}
theorem NumN.mk{n:NodeM}(h:ANum n.atom)(hk:∀m∈n.kids,NumN m):NumN n:=fun d p hp=>by
 rw[znn]at hp;rcases List.mem_cons.1 hp with rfl |hp
 ·exact h
 ·obtain⟨m,h1,h2⟩:=List.mem_flatMap.1 hp;exact hk m h1 _ p h2
theorem NumN.self{n:NodeM}(h:NumN n):ANum n.atom:=h 0 (0,n) (by rw[znn];exact ya5)
end Go.Proofs.YteaemnicofpbeaaGreatDoor
