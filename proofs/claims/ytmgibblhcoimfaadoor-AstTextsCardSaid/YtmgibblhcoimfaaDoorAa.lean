import Derived.Test.YtmgibblhcoimfaaDoorGh
set_option linter.unusedSimpArgs false
set_option linter.unusedVariables false
namespace Go.Proofs.YtmgibblhcoimfaaDoor
open Go Go.Cx
@[reducible] def ai (x:Int):SV:=.cv (.int .i64 x)
@[reducible] def au (x:Int):SV:=.cv (.int .u64 x)
@[reducible] def ab (x:Bool):SV:=.cv (.bool x)
def nm(x:List UInt8):List Nat:=x.map UInt8.toNat
@[reducible] def zzQ (x:List UInt8):SV:=.cv (.str (nm x))
theorem zvC{x:List UInt8}:∀b∈nm x,b<256:=fun b hb=>by
 obtain⟨u,_,rfl⟩:=List.mem_map.1 hb;exact u.toNat_lt
theorem zyJ{x y:List UInt8}(h:nm x=nm y):x=y:=by
 unfold nm at h;exact(List.map_inj_right fun a b h=>UInt8.toNat_inj.1 h).1 h
structure CondM where
 op:Int
 val:Int
 deriving Inhabited,DecidableEq
structure AtomM where
 kind:Int
 bnd:Bool
 bound:Int
 cs:List CondM
 name:List UInt8
 deriving Inhabited,DecidableEq
inductive NodeM where
 |mk (kind mn mx:Int) (atom:AtomM) (kids:List NodeM)
instance:Inhabited NodeM:=⟨.mk 0 0 0 default []⟩
def NodeM.kind:NodeM->Int |.mk k _ _ _ _=>k
def NodeM.mn:NodeM->Int |.mk _ x _ _ _=>x
def NodeM.mx:NodeM->Int |.mk _ _ x _ _=>x
def NodeM.atom:NodeM->AtomM |.mk _ _ _ a _=>a
def NodeM.kids:NodeM->List NodeM |.mk _ _ _ _ l=>l
theorem NodeM.eta(n:NodeM):n=.mk n.kind n.mn n.mx n.atom n.kids:=by cases n;rfl
structure AggM where
 fn:Int
 name:List UInt8
 deriving Inhabited,DecidableEq
structure HaveM where
 agg:AggM
 cond:CondM
 deriving Inhabited,DecidableEq
structure QueryM where
 p:NodeM
 within:Int
 hv:List HaveM
 em:List AggM
 deriving Inhabited
def zsO(c:CondM):List SV:=[ai c.op,ai c.val]
def zee(l:List CondM):Nat->List SV:=fun i=>zsO (l.getD i default)
def zfZ(a:AtomM):List SV:=[ai a.kind,ab a.bnd,au a.bound,.isl 2 a.cs.length (zee a.cs),zzQ a.name]
def zzb(a:AggM):List SV:=[ai a.fn,zzQ a.name]
def zsl(l:List AggM):Nat->List SV:=fun i=>zzb (l.getD i default)
def zxS(h:HaveM):List SV:=[ai h.agg.fn,zzQ h.agg.name,ai h.cond.op,ai h.cond.val]
def zh9(l:List HaveM):Nat->List SV:=fun i=>zxS (l.getD i default)
def zn2(n:NodeM)(k:Nat->List SV):List SV:=[ai n.kind,ai n.mn,ai n.mx,ai n.atom.kind,ab n.atom.bnd,au n.atom.bound,.isl 2 n.atom.cs.length (zee n.atom.cs),zzQ n.atom.name,.isl 9 n.kids.length k]
mutual
def nodeW:NodeM->List SV
 |.mk kind mn mx a kids=>[ai kind,ai mn,ai mx,ai a.kind,ab a.bnd,au a.bound,.isl 2 a.cs.length (zee a.cs),zzQ a.name,.isl 9 kids.length fun i=>(nodesW kids).getD i ((nodesW kids).headD [])]
def nodesW:List NodeM->List (List SV)
 |[]=>[]
 |n::r=>nodeW n::nodesW r
end
def zfR(l:List NodeM):Nat->List SV:=fun i=>(nodesW l).getD i ((nodesW l).headD [])
def zay(n:NodeM):List SV:=zn2 n (zfR n.kids)
theorem zw4(n:NodeM):nodeW n=zay n:=by cases n;rw[nodeW];rfl
theorem zjp:∀l:List NodeM,nodesW l=l.map zay
 |[]=>by rw[nodesW];rfl
 |n::r=>by rw[nodesW,zw4,zjp r];rfl
@[reducible] def atN (l:List NodeM) (i:Nat):NodeM:=l.getD i (l.headD default)
theorem zp5{l:List NodeM}(h:l≠[]):zfR l=fun i=>zay (atN l i):=by
 funext i;unfold zfR atN;rw[zjp,ya8,yb9,ya8];cases l with
 |nil=>exact absurd rfl h
 |cons a r=>
  cases(a::r)[i]? with
  |some x=>rfl
  |none=>rfl
theorem zgt(n:NodeM):n.kids.length=0\/zay n=zn2 n (fun i=>zay (atN n.kids i)):=by
 cases h:n.kids with
 |nil=>exact .inl rfl
 |cons a r=>
  refine .inr ?_;show zn2 n (zfR n.kids)=_;rw[zp5 (by rw[h];simp),h]
theorem zgT(l:List NodeM):l.length=0\/zfR l=fun i=>zay (atN l i):=by
 cases l with
 |nil=>exact .inl rfl
 |cons a r=>exact .inr (zp5 (by simp))
theorem zdO{l:List NodeM}{k:Nat}(hk:k<l.length):atN l k∈l:=by
 unfold atN;rw[ya8,yb5 hk];exact List.getElem_mem hk
theorem zja{l:List NodeM}{k:Nat}(hk:k<l.length):atN l k=l[k]:=by
 unfold atN;rw[ya8,yb5 hk];rfl
theorem stA{n:Nat}{p:Prop}(h:(⟨n,true⟩:Gh).st=false):p:=Bool.noConfusion h
def zb8(q:QueryM):List SV:=[ai q.p.kind,ai q.p.mn,ai q.p.mx,ai q.p.atom.kind,ab q.p.atom.bnd,au q.p.atom.bound,.isl 2 q.p.atom.cs.length (zee q.p.atom.cs),zzQ q.p.atom.name,.isl 9 q.p.kids.length (zfR q.p.kids),au q.within,.isl 4 q.hv.length (zh9 q.hv),.isl 2 q.em.length (zsl q.em)]
mutual
def NodeM.dep:NodeM->Nat
 |.mk _ _ _ _ kids=>depL kids+1
def depL:List NodeM->Nat
 |[]=>0
 |n::r=>max n.dep (depL r)
end
theorem zbi(n:NodeM):n.dep=depL n.kids+1:=by cases n;rw[NodeM.dep];rfl
theorem ziG{n:NodeM}:∀{l:List NodeM},n∈l->n.dep<=depL l
 |[],h=>by cases h
 |m::r,h=>by
  rw[depL];rcases List.mem_cons.1 h with rfl |h
  ·omega
  ·have:=ziG h;omega
theorem zlK:∀{l:List NodeM},l≠[]->∃m∈l,m.dep=depL l
 |[],h=>absurd rfl h
 |[n],_=>⟨n,ya5,by rw[depL,depL];omega⟩
 |n::a::r,_=>by
  obtain⟨m,hm,he⟩:=zlK (l:=a::r) (by simp);rw[depL];by_cases h:n.dep<=depL (a::r)
  ·exact⟨m,ya4 _ hm,by omega⟩
  ·exact⟨n,ya5,by omega⟩
theorem zft{n m:NodeM}(h:m∈n.kids):m.dep<n.dep:=by
 have:=ziG h;rw[zbi n];omega
theorem zmG{p:NodeM->Prop}(h:∀n,(∀m∈n.kids,p m)->p n)(n:NodeM):p n:=by
 have key:∀d n,NodeM.dep n<=d->p n:=by
  intro d
  induction d with
  |zero=>intro n hn;rw[zbi]at hn;omega
  |succ d ih=>intro n hn;exact h n fun m hm=>ih m (by have:=zft hm;omega)
 exact key n.dep n (Nat.le_refl _)
def pre(f:Nat)(d:Int)(n:NodeM):List (Int×NodeM):=match f with
 |0=>[]
 |f+1=>(d,n)::n.kids.flatMap (pre f (d+1))
theorem zqt:∀{f:Nat} {d:Int} {n:NodeM} {g:Nat},n.dep<=f->n.dep<=g->pre f d n=pre g d n
 |0,d,n,_,h,_=>by rw[zbi]at h;omega
 |_+1,d,n,0,_,h=>by rw[zbi]at h;omega
 |f+1,d,n,g+1,h1,h2=>by
  show(d,n)::n.kids.flatMap (pre f (d+1))=(d,n)::n.kids.flatMap (pre g (d+1));congr 1;have:∀l:List NodeM,(∀m∈l,m∈n.kids)->l.flatMap (pre f (d+1))=l.flatMap (pre g (d+1)):=by
   intro l
   induction l with
   |nil=>intro _;rfl
   |cons m r ih=>
    intro h;have hm:=zft (h m ya5);rw[List.flatMap_cons,List.flatMap_cons,ih fun x hx=>h x (ya4 _ hx),zqt (f:=f) (g:=g) (by omega) (by omega)]
  exact this _ fun m hm=>hm
def zbf(d:Int)(n:NodeM):List (Int×NodeM):=pre n.dep d n
theorem za7(d:Int)(n:NodeM):zbf d n=(d,n)::n.kids.flatMap (zbf (d+1)):=by
 unfold zbf;rw[zbi];show(d,n)::n.kids.flatMap (pre (depL n.kids) (d+1))=_;congr 1;have:∀l:List NodeM,(∀m∈l,m.dep<=depL n.kids)->l.flatMap (pre (depL n.kids) (d+1))=l.flatMap (zbf (d+1)):=by
  intro l
  induction l with
  |nil=>intro _;rfl
  |cons m r ih=>
   intro h;rw[List.flatMap_cons,List.flatMap_cons,ih fun x hx=>h x (ya4 _ hx)];unfold zbf;rw[zqt (h m ya5) (Nat.le_refl _)]
 exact this _ fun m hm=>ziG hm
theorem zoI{d:Int}{n m:NodeM}(h:m∈n.kids){p:Int×NodeM}(hp:p∈zbf (d+1) m):p∈zbf d n:=by
 rw[za7];exact ya4 _ (List.mem_flatMap.2 ⟨m,h,hp⟩)
def Fit(n:NodeM):Prop:=∀d p,p∈zbf d n->p.2.kids.length<=1000000/\p.2.atom.cs.length<=1000000
theorem Fit.kid{n m:NodeM}(h:Fit n)(hm:m∈n.kids):Fit m:=fun d p hp=>by
 have:=h (d - 1) p;exact this (zoI hm (by rw[show d - 1+1=d by omega];exact hp))
theorem Fit.self{n:NodeM}(h:Fit n):n.kids.length<=1000000/\n.atom.cs.length<=1000000:=h 0 (0,n) (by rw[za7];exact ya5)
structure NFit(n:NodeM):Prop where
 fit:Fit n
 dep:n.dep<=100000
 num:(zbf 1 n).length<=100000
structure QFit(q:QueryM):Prop extends NFit q.p where
 hv:q.hv.length<=1000000
 em:q.em.length<=1000000
end Go.Proofs.YtmgibblhcoimfaaDoor
