import Derived.Test.YtogdglnaagkaaaaGreatDoorGh
set_option linter.unusedSimpArgs false
set_option linter.unusedVariables false
namespace Go.Proofs.YtogdglnaagkaaaaGreatDoor
open Go Go.Cx
@[reducible] def ai (x:Int):SV:=.cv (.int .i64 x)
@[reducible] def au (x:Int):SV:=.cv (.int .u64 x)
@[reducible] def ab (x:Bool):SV:=.cv (.bool x)
def nm(x:List UInt8):List Nat:=x.map UInt8.toNat
@[reducible] def ziY (x:List UInt8):SV:=.cv (.str (nm x))
theorem zAc{x:List UInt8}:∀b∈nm x,b<256:=fun b hb=>by
 obtain⟨u,_,rfl⟩:=List.mem_map.1 hb;exact u.toNat_lt
structure CondM where
 op:Int
 val:Int
 deriving Inhabited,DecidableEq
structure AtomM where
 kind:Int
 bnd:Bool
 bound:Int
 cs:List CondM
 name:List UInt8
 deriving Inhabited,DecidableEq
inductive NodeM where
 |mk (kind mn mx:Int) (atom:AtomM) (kids:List NodeM)
instance:Inhabited NodeM:=⟨.mk 0 0 0 default []⟩
def NodeM.kind:NodeM->Int |.mk k _ _ _ _=>k
def NodeM.mn:NodeM->Int |.mk _ x _ _ _=>x
def NodeM.mx:NodeM->Int |.mk _ _ x _ _=>x
def NodeM.atom:NodeM->AtomM |.mk _ _ _ a _=>a
def NodeM.kids:NodeM->List NodeM |.mk _ _ _ _ l=>l
structure AggM where
 fn:Int
 name:List UInt8
 deriving Inhabited,DecidableEq
structure HaveM where
 agg:AggM
 cond:CondM
 deriving Inhabited,DecidableEq
structure QueryM where
 p:NodeM
 within:Int
 hv:List HaveM
 em:List AggM
 deriving Inhabited
def zza(c:CondM):List SV:=[ai c.op,ai c.val]
def zco(l:List CondM):Nat->List SV:=fun i=>zza (l.getD i default)
def zfQ(a:AtomM):List SV:=[ai a.kind,ab a.bnd,au a.bound,.isl 2 a.cs.length (zco a.cs),ziY a.name]
def zlZ(a:AggM):List SV:=[ai a.fn,ziY a.name]
def zkk(l:List AggM):Nat->List SV:=fun i=>zlZ (l.getD i default)
def zgr(h:HaveM):List SV:=[ai h.agg.fn,ziY h.agg.name,ai h.cond.op,ai h.cond.val]
def zkF(l:List HaveM):Nat->List SV:=fun i=>zgr (l.getD i default)
def zgw(n:NodeM)(k:Nat->List SV):List SV:=[ai n.kind,ai n.mn,ai n.mx,ai n.atom.kind,ab n.atom.bnd,au n.atom.bound,.isl 2 n.atom.cs.length (zco n.atom.cs),ziY n.atom.name,.isl 9 n.kids.length k]
mutual
def nodeW:NodeM->List SV
 |.mk kind mn mx a kids=>[ai kind,ai mn,ai mx,ai a.kind,ab a.bnd,au a.bound,.isl 2 a.cs.length (zco a.cs),ziY a.name,.isl 9 kids.length fun i=>(nodesW kids).getD i ((nodesW kids).headD [])]
def nodesW:List NodeM->List (List SV)
 |[]=>[]
 |n::r=>nodeW n::nodesW r
end
def zcW(l:List NodeM):Nat->List SV:=fun i=>(nodesW l).getD i ((nodesW l).headD [])
def zah(n:NodeM):List SV:=zgw n (zcW n.kids)
theorem zyU(n:NodeM):nodeW n=zah n:=by cases n;rw[nodeW];rfl
theorem zeU:∀l:List NodeM,nodesW l=l.map zah
 |[]=>by rw[nodesW];rfl
 |n::r=>by rw[nodesW,zyU,zeU r];rfl
@[reducible] def atN (l:List NodeM) (i:Nat):NodeM:=l.getD i (l.headD default)
theorem zrz{l:List NodeM}(h:l≠[]):zcW l=fun i=>zah (atN l i):=by
 funext i;unfold zcW atN;rw[zeU,ya8,yb9,ya8];cases l with
 |nil=>exact absurd rfl h
 |cons a r=>
  cases(a::r)[i]? with
  |some x=>rfl
  |none=>rfl
theorem zdY(n:NodeM):n.kids.length=0\/zah n=zgw n (fun i=>zah (atN n.kids i)):=by
 cases h:n.kids with
 |nil=>exact .inl rfl
 |cons a r=>
  refine .inr ?_;show zgw n (zcW n.kids)=_;rw[zrz (by rw[h];simp),h]
theorem zs0(l:List NodeM):l.length=0\/zcW l=fun i=>zah (atN l i):=by
 cases l with
 |nil=>exact .inl rfl
 |cons a r=>exact .inr (zrz (by simp))
theorem zdN{l:List NodeM}{k:Nat}(hk:k<l.length):atN l k∈l:=by
 unfold atN;rw[ya8,yb5 hk];exact List.getElem_mem hk
theorem zkV{l:List NodeM}{k:Nat}(hk:k<l.length):atN l k=l[k]:=by
 unfold atN;rw[ya8,yb5 hk];rfl
theorem stA{n:Nat}{p:Prop}(h:(⟨n,true⟩:Gh).st=false):p:=Bool.noConfusion h
def zaD(q:QueryM):List SV:=[ai q.p.kind,ai q.p.mn,ai q.p.mx,ai q.p.atom.kind,ab q.p.atom.bnd,au q.p.atom.bound,.isl 2 q.p.atom.cs.length (zco q.p.atom.cs),ziY q.p.atom.name,.isl 9 q.p.kids.length (zcW q.p.kids),au q.within,.isl 4 q.hv.length (zkF q.hv),.islx 2 q.em.length (zkk q.em)]
mutual
def NodeM.dep:NodeM->Nat
 |.mk _ _ _ _ kids=>depL kids+1
def depL:List NodeM->Nat
 |[]=>0
 |n::r=>max n.dep (depL r)
end
theorem zch(n:NodeM):n.dep=depL n.kids+1:=by cases n;rw[NodeM.dep];rfl
theorem zqC{n:NodeM}:∀{l:List NodeM},n∈l->n.dep<=depL l
 |[],h=>by cases h
 |m::r,h=>by
  rw[depL];rcases List.mem_cons.1 h with rfl |h
  ·omega
  ·have:=zqC h;omega
theorem zm2:∀{l:List NodeM},l≠[]->∃m∈l,m.dep=depL l
 |[],h=>absurd rfl h
 |[n],_=>⟨n,ya5,by rw[depL,depL];omega⟩
 |n::a::r,_=>by
  obtain⟨m,hm,he⟩:=zm2 (l:=a::r) (by simp);rw[depL];by_cases h:n.dep<=depL (a::r)
  ·exact⟨m,ya4 _ hm,by omega⟩
  ·exact⟨n,ya5,by omega⟩
theorem zlL{n m:NodeM}(h:m∈n.kids):m.dep<n.dep:=by
 have:=zqC h;rw[zch n];omega
theorem zfb{p:NodeM->Prop}(h:∀n,(∀m∈n.kids,p m)->p n)(n:NodeM):p n:=by
 have key:∀d n,NodeM.dep n<=d->p n:=by
  intro d
  induction d with
  |zero=>intro n hn;rw[zch]at hn;omega
  |succ d ih=>intro n hn;exact h n fun m hm=>ih m (by have:=zlL hm;omega)
 exact key n.dep n (Nat.le_refl _)
def pre(f:Nat)(d:Int)(n:NodeM):List (Int×NodeM):=match f with
 |0=>[]
 |f+1=>(d,n)::n.kids.flatMap (pre f (d+1))
theorem zsE:∀{f:Nat} {d:Int} {n:NodeM} {g:Nat},n.dep<=f->n.dep<=g->pre f d n=pre g d n
 |0,d,n,_,h,_=>by rw[zch]at h;omega
 |_+1,d,n,0,_,h=>by rw[zch]at h;omega
 |f+1,d,n,g+1,h1,h2=>by
  show(d,n)::n.kids.flatMap (pre f (d+1))=(d,n)::n.kids.flatMap (pre g (d+1));congr 1;have:∀l:List NodeM,(∀m∈l,m∈n.kids)->l.flatMap (pre f (d+1))=l.flatMap (pre g (d+1)):=by
   intro l
   induction l with
   |nil=>intro _;rfl
   |cons m r ih=>
    intro h;have hm:=zlL (h m ya5);rw[List.flatMap_cons,List.flatMap_cons,ih fun x hx=>h x (ya4 _ hx),zsE (f:=f) (g:=g) (by omega) (by omega)]
  exact this _ fun m hm=>hm
def zaE(d:Int)(n:NodeM):List (Int×NodeM):=pre n.dep d n
theorem za3(d:Int)(n:NodeM):zaE d n=(d,n)::n.kids.flatMap (zaE (d+1)):=by
 unfold zaE;rw[zch];show(d,n)::n.kids.flatMap (pre (depL n.kids) (d+1))=_;congr 1;have:∀l:List NodeM,(∀m∈l,m.dep<=depL n.kids)->l.flatMap (pre (depL n.kids) (d+1))=l.flatMap (zaE (d+1)):=by
  intro l
  induction l with
  |nil=>intro _;rfl
  |cons m r ih=>
   intro h;rw[List.flatMap_cons,List.flatMap_cons,ih fun x hx=>h x (ya4 _ hx)];unfold zaE;rw[zsE (h m ya5) (Nat.le_refl _)]
 exact this _ fun m hm=>zqC hm
theorem zmF{d:Int}{n m:NodeM}(h:m∈n.kids){p:Int×NodeM}(hp:p∈zaE (d+1) m):p∈zaE d n:=by
 rw[za3];exact ya4 _ (List.mem_flatMap.2 ⟨m,h,hp⟩)
def Fit(n:NodeM):Prop:=∀d p,p∈zaE d n->p.2.kids.length<=1000000/\p.2.atom.cs.length<=1000000
theorem Fit.kid{n m:NodeM}(h:Fit n)(hm:m∈n.kids):Fit m:=fun d p hp=>by
 have:=h (d - 1) p;exact this (zmF hm (by rw[show d - 1+1=d by omega];exact hp))
theorem Fit.self{n:NodeM}(h:Fit n):n.kids.length<=1000000/\n.atom.cs.length<=1000000:=h 0 (0,n) (by rw[za3];exact ya5)
structure NFit(n:NodeM):Prop where
 fit:Fit n
 dep:n.dep<=100000
 num:(zaE 1 n).length<=100000
structure QFit(q:QueryM):Prop extends NFit q.p where
 hv:q.hv.length<=1000000
 em:q.em.length<=1000000
end Go.Proofs.YtogdglnaagkaaaaGreatDoor
