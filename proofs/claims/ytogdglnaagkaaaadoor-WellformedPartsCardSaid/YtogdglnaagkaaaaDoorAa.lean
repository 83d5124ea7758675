import Derived.Test.YtogdglnaagkaaaaDoorGh
set_option linter.unusedSimpArgs false
set_option linter.unusedVariables false
namespace Go.Proofs.YtogdglnaagkaaaaDoor
open Go Go.Cx
@[reducible] def ai (x:Int):SV:=.cv (.int .i64 x)
@[reducible] def au (x:Int):SV:=.cv (.int .u64 x)
@[reducible] def ab (x:Bool):SV:=.cv (.bool x)
def nm(x:List UInt8):List Nat:=x.map UInt8.toNat
@[reducible] def zgu (x:List UInt8):SV:=.cv (.str (nm x))
structure CondM where
 op:Int
 val:Int
 deriving Inhabited,DecidableEq
structure AtomM where
 kind:Int
 bnd:Bool
 bound:Int
 cs:List CondM
 name:List UInt8
 deriving Inhabited,DecidableEq
inductive NodeM where
 |mk (kind mn mx:Int) (atom:AtomM) (kids:List NodeM)
instance:Inhabited NodeM:=⟨.mk 0 0 0 default []⟩
def NodeM.kind:NodeM->Int |.mk k _ _ _ _=>k
def NodeM.mn:NodeM->Int |.mk _ x _ _ _=>x
def NodeM.mx:NodeM->Int |.mk _ _ x _ _=>x
def NodeM.atom:NodeM->AtomM |.mk _ _ _ a _=>a
def NodeM.kids:NodeM->List NodeM |.mk _ _ _ _ l=>l
structure AggM where
 fn:Int
 name:List UInt8
 deriving Inhabited,DecidableEq
structure HaveM where
 agg:AggM
 cond:CondM
 deriving Inhabited,DecidableEq
structure QueryM where
 p:NodeM
 within:Int
 hv:List HaveM
 em:List AggM
 deriving Inhabited
def zyE(c:CondM):List SV:=[ai c.op,ai c.val]
def zbo(l:List CondM):Nat->List SV:=fun i=>zyE (l.getD i default)
def zjt(a:AtomM):List SV:=[ai a.kind,ab a.bnd,au a.bound,.isl 2 a.cs.length (zbo a.cs),zgu a.name]
def znZ(a:AggM):List SV:=[ai a.fn,zgu a.name]
def zrE(l:List AggM):Nat->List SV:=fun i=>znZ (l.getD i default)
def zf2(h:HaveM):List SV:=[ai h.agg.fn,zgu h.agg.name,ai h.cond.op,ai h.cond.val]
def zkF(l:List HaveM):Nat->List SV:=fun i=>zf2 (l.getD i default)
def zhB(n:NodeM)(k:Nat->List SV):List SV:=[ai n.kind,ai n.mn,ai n.mx,ai n.atom.kind,ab n.atom.bnd,au n.atom.bound,.isl 2 n.atom.cs.length (zbo n.atom.cs),zgu n.atom.name,.isl 9 n.kids.length k]
mutual
def nodeW:NodeM->List SV
 |.mk kind mn mx a kids=>[ai kind,ai mn,ai mx,ai a.kind,ab a.bnd,au a.bound,.isl 2 a.cs.length (zbo a.cs),zgu a.name,.isl 9 kids.length fun i=>(nodesW kids).getD i ((nodesW kids).headD [])]
def nodesW:List NodeM->List (List SV)
 |[]=>[]
 |n::r=>nodeW n::nodesW r
end
def zcc(l:List NodeM):Nat->List SV:=fun i=>(nodesW l).getD i ((nodesW l).headD [])
def zah(n:NodeM):List SV:=zhB n (zcc n.kids)
theorem zu8(n:NodeM):nodeW n=zah n:=by cases n;rw[nodeW];rfl
theorem zel:∀l:List NodeM,nodesW l=l.map zah
 |[]=>by rw[nodesW];rfl
 |n::r=>by rw[nodesW,zu8,zel r];rfl
@[reducible] def atN (l:List NodeM) (i:Nat):NodeM:=l.getD i (l.headD default)
theorem zpA{l:List NodeM}(h:l≠[]):zcc l=fun i=>zah (atN l i):=by
 funext i;unfold zcc atN;rw[zel,ya8,yb9,ya8];cases l with
 |nil=>exact absurd rfl h
 |cons a r=>
  cases(a::r)[i]? with
  |some x=>rfl
  |none=>rfl
theorem zeE(n:NodeM):n.kids.length=0\/zah n=zhB n (fun i=>zah (atN n.kids i)):=by
 cases h:n.kids with
 |nil=>exact .inl rfl
 |cons a r=>
  refine .inr ?_;show zhB n (zcc n.kids)=_;rw[zpA (by rw[h];simp),h]
theorem zkD(l:List NodeM):l.length=0\/zcc l=fun i=>zah (atN l i):=by
 cases l with
 |nil=>exact .inl rfl
 |cons a r=>exact .inr (zpA (by simp))
theorem zeo{l:List NodeM}{k:Nat}(hk:k<l.length):atN l k∈l:=by
 unfold atN;rw[ya8,yb5 hk];exact List.getElem_mem hk
theorem zef{l:List NodeM}{k:Nat}(hk:k<l.length):atN l k=l[k]:=by
 unfold atN;rw[ya8,yb5 hk];rfl
theorem stA{n:Nat}{p:Prop}(h:(⟨n,true⟩:Gh).st=false):p:=Bool.noConfusion h
def zaP(q:QueryM):List SV:=[ai q.p.kind,ai q.p.mn,ai q.p.mx,ai q.p.atom.kind,ab q.p.atom.bnd,au q.p.atom.bound,.isl 2 q.p.atom.cs.length (zbo q.p.atom.cs),zgu q.p.atom.name,.isl 9 q.p.kids.length (zcc q.p.kids),au q.within,.isl 4 q.hv.length (zkF q.hv),.isl 2 q.em.length (zrE q.em)]
mutual
def NodeM.dep:NodeM->Nat
 |.mk _ _ _ _ kids=>depL kids+1
def depL:List NodeM->Nat
 |[]=>0
 |n::r=>max n.dep (depL r)
end
theorem zco(n:NodeM):n.dep=depL n.kids+1:=by cases n;rw[NodeM.dep];rfl
theorem zoB{n:NodeM}:∀{l:List NodeM},n∈l->n.dep<=depL l
 |[],h=>by cases h
 |m::r,h=>by
  rw[depL];rcases List.mem_cons.1 h with rfl |h
  ·omega
  ·have:=zoB h;omega
theorem zpl:∀{l:List NodeM},l≠[]->∃m∈l,m.dep=depL l
 |[],h=>absurd rfl h
 |[n],_=>⟨n,ya5,by rw[depL,depL];omega⟩
 |n::a::r,_=>by
  obtain⟨m,hm,he⟩:=zpl (l:=a::r) (by simp);rw[depL];by_cases h:n.dep<=depL (a::r)
  ·exact⟨m,ya4 _ hm,by omega⟩
  ·exact⟨n,ya5,by omega⟩
theorem zl1{n m:NodeM}(h:m∈n.kids):m.dep<n.dep:=by
 have:=zoB h;rw[zco n];omega
theorem zeX{p:NodeM->Prop}(h:∀n,(∀m∈n.kids,p m)->p n)(n:NodeM):p n:=by
 have key:∀d n,NodeM.dep n<=d->p n:=by
  intro d
  induction d with
  |zero=>intro n hn;rw[zco]at hn;omega
  |succ d ih=>intro n hn;exact h n fun m hm=>ih m (by have:=zl1 hm;omega)
 exact key n.dep n (Nat.le_refl _)
def pre(f:Nat)(d:Int)(n:NodeM):List (Int×NodeM):=match f with
 |0=>[]
 |f+1=>(d,n)::n.kids.flatMap (pre f (d+1))
theorem zqH:∀{f:Nat} {d:Int} {n:NodeM} {g:Nat},n.dep<=f->n.dep<=g->pre f d n=pre g d n
 |0,d,n,_,h,_=>by rw[zco]at h;omega
 |_+1,d,n,0,_,h=>by rw[zco]at h;omega
 |f+1,d,n,g+1,h1,h2=>by
  show(d,n)::n.kids.flatMap (pre f (d+1))=(d,n)::n.kids.flatMap (pre g (d+1));congr 1;have:∀l:List NodeM,(∀m∈l,m∈n.kids)->l.flatMap (pre f (d+1))=l.flatMap (pre g (d+1)):=by
   intro l
   induction l with
   |nil=>intro _;rfl
   |cons m r ih=>
    intro h;have hm:=zl1 (h m ya5);rw[List.flatMap_cons,List.flatMap_cons,ih fun x hx=>h x (ya4 _ hx),zqH (f:=f) (g:=g) (by omega) (by omega)]
  exact this _ fun m hm=>hm
def zaZ(d:Int)(n:NodeM):List (Int×NodeM):=pre n.dep d n
theorem zcy(d:Int)(n:NodeM):zaZ d n=(d,n)::n.kids.flatMap (zaZ (d+1)):=by
 unfold zaZ;rw[zco];show(d,n)::n.kids.flatMap (pre (depL n.kids) (d+1))=_;congr 1;have:∀l:List NodeM,(∀m∈l,m.dep<=depL n.kids)->l.flatMap (pre (depL n.kids) (d+1))=l.flatMap (zaZ (d+1)):=by
  intro l
  induction l with
  |nil=>intro _;rfl
  |cons m r ih=>
   intro h;rw[List.flatMap_cons,List.flatMap_cons,ih fun x hx=>h x (ya4 _ hx)];unfold zaZ;rw[zqH (h m ya5) (Nat.le_refl _)]
 exact this _ fun m hm=>zoB hm
theorem ztA{d:Int}{n m:NodeM}(h:m∈n.kids){p:Int×NodeM}(hp:p∈zaZ (d+1) m):p∈zaZ d n:=by
 rw[zcy];exact ya4 _ (List.mem_flatMap.2 ⟨m,h,hp⟩)
def Fit(n:NodeM):Prop:=∀d p,p∈zaZ d n->p.2.kids.length<=1000000/\p.2.atom.cs.length<=1000000
theorem Fit.kid{n m:NodeM}(h:Fit n)(hm:m∈n.kids):Fit m:=fun d p hp=>by
 have:=h (d - 1) p;exact this (ztA hm (by rw[show d - 1+1=d by omega];exact hp))
theorem Fit.self{n:NodeM}(h:Fit n):n.kids.length<=1000000/\n.atom.cs.length<=1000000:=h 0 (0,n) (by rw[zcy];exact ya5)
structure NFit(n:NodeM):Prop where
 fit:Fit n
 dep:n.dep<=100000
 num:(zaZ 1 n).length<=100000
structure QFit(q:QueryM):Prop extends NFit q.p where
 hv:q.hv.length<=1000000
 em:q.em.length<=1000000
end Go.Proofs.YtogdglnaagkaaaaDoor
