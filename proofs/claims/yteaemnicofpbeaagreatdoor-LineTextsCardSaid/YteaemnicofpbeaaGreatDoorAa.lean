import Derived.Test.YteaemnicofpbeaaGreatDoorGh
set_option linter.unusedSimpArgs false
set_option linter.unusedVariables false
namespace Go.Proofs.YteaemnicofpbeaaGreatDoor
open Go Go.Cx
@[reducible] def ai (x:Int):SV:=.cv (.int .i64 x)
@[reducible] def ab (x:Bool):SV:=.cv (.bool x)
def nm(x:List UInt8):List Nat:=x.map UInt8.toNat
structure CondM where
 op:Int
 val:Int
 deriving Inhabited,DecidableEq
structure AtomM where
 kind:Int
 bnd:Bool
 bound:Int
 cs:List CondM
 name:List UInt8
 deriving Inhabited,DecidableEq
inductive NodeM where
 |mk (kind mn mx:Int) (atom:AtomM) (kids:List NodeM)
instance:Inhabited NodeM:=⟨.mk 0 0 0 default []⟩
def NodeM.atom:NodeM->AtomM |.mk _ _ _ a _=>a
def NodeM.kids:NodeM->List NodeM |.mk _ _ _ _ l=>l
structure AggM where
 fn:Int
 name:List UInt8
 deriving Inhabited,DecidableEq
structure HaveM where
 agg:AggM
 cond:CondM
 deriving Inhabited,DecidableEq
structure QueryM where
 p:NodeM
 within:Int
 hv:List HaveM
 em:List AggM
 deriving Inhabited
mutual
def NodeM.dep:NodeM->Nat
 |.mk _ _ _ _ kids=>depL kids+1
def depL:List NodeM->Nat
 |[]=>0
 |n::r=>max n.dep (depL r)
end
theorem zgZ(n:NodeM):n.dep=depL n.kids+1:=by cases n;rw[NodeM.dep];rfl
theorem zmu{n:NodeM}:∀{l:List NodeM},n∈l->n.dep<=depL l
 |[],h=>by cases h
 |m::r,h=>by
  rw[depL];rcases List.mem_cons.1 h with rfl |h
  ·omega
  ·have:=zmu h;omega
theorem zu9{n m:NodeM}(h:m∈n.kids):m.dep<n.dep:=by
 have:=zmu h;rw[zgZ n];omega
def pre(f:Nat)(d:Int)(n:NodeM):List (Int×NodeM):=match f with
 |0=>[]
 |f+1=>(d,n)::n.kids.flatMap (pre f (d+1))
theorem zo2:∀{f:Nat} {d:Int} {n:NodeM} {g:Nat},n.dep<=f->n.dep<=g->pre f d n=pre g d n
 |0,d,n,_,h,_=>by rw[zgZ]at h;omega
 |_+1,d,n,0,_,h=>by rw[zgZ]at h;omega
 |f+1,d,n,g+1,h1,h2=>by
  show(d,n)::n.kids.flatMap (pre f (d+1))=(d,n)::n.kids.flatMap (pre g (d+1));congr 1;have:∀l:List NodeM,(∀m∈l,m∈n.kids)->l.flatMap (pre f (d+1))=l.flatMap (pre g (d+1)):=by
   intro l
   induction l with
   |nil=>intro _;rfl
   |cons m r ih=>
    intro h;have hm:=zu9 (h m ya5);rw[List.flatMap_cons,List.flatMap_cons,ih fun x hx=>h x (ya4 _ hx),zo2 (f:=f) (g:=g) (by omega) (by omega)]
  exact this _ fun m hm=>hm
def zt2(d:Int)(n:NodeM):List (Int×NodeM):=pre n.dep d n
theorem znn(d:Int)(n:NodeM):zt2 d n=(d,n)::n.kids.flatMap (zt2 (d+1)):=by
 unfold zt2;rw[zgZ];show(d,n)::n.kids.flatMap (pre (depL n.kids) (d+1))=_;congr 1;have:∀l:List NodeM,(∀m∈l,m.dep<=depL n.kids)->l.flatMap (pre (depL n.kids) (d+1))=l.flatMap (zt2 (d+1)):=by
  intro l
  induction l with
  |nil=>intro _;rfl
  |cons m r ih=>
   intro h;rw[List.flatMap_cons,List.flatMap_cons,ih fun x hx=>h x (ya4 _ hx)];unfold zt2;rw[zo2 (h m ya5) (Nat.le_refl _)]
 exact this _ fun m hm=>zmu hm
def Fit(n:NodeM):Prop:=∀d p,p∈zt2 d n->p.2.kids.length<=1000000/\p.2.atom.cs.length<=1000000
theorem Fit.self{n:NodeM}(h:Fit n):n.kids.length<=1000000/\n.atom.cs.length<=1000000:=h 0 (0,n) (by rw[znn];exact ya5)
structure NFit(n:NodeM):Prop where
 fit:Fit n
 dep:n.dep<=100000
 num:(zt2 1 n).length<=100000
structure QFit(q:QueryM):Prop extends NFit q.p where
 hv:q.hv.length<=1000000
 em:q.em.length<=1000000
end Go.Proofs.YteaemnicofpbeaaGreatDoor
