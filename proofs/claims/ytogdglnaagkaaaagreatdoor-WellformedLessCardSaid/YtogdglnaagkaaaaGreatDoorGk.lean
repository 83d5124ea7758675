import Derived.Test.YtogdglnaagkaaaaGreatDoorAf
set_option linter.unusedSimpArgs false
set_option linter.unusedVariables false
set_option maxRecDepth 100000
namespace Go.Proofs.YtogdglnaagkaaaaGreatDoor
open Go Go.Cx
def ziN(f:Int->NodeM->Int):List NodeM->Int->Int
 |[],o=>o
 |m::r,o=>bif decide (o>=0)then ziN f r (f o m)else o
def zxD(n:NodeM):Bool:=decide ((n.atom.cs.length:Int) > 20)||decide (((nm n.atom.name).length:Int) > 30)
def zE9(f:Int->NodeM->Int)(left:Int)(n:NodeM):Int:=bif decide (left - 1<0)||zxD n then -1 else ziN f n.kids (left - 1)
def ztj:Nat->Int->NodeM->Int
 |0,_,_ => -1
 |d+1,left,n=>zE9 (ztj d) left n
theorem zq8{f:Int->NodeM->Int}(hf:∀o m,0<=o -> -1<=f o m/\f o m<=o):∀{l:List NodeM} {o:Int}, -1<=o -> -1<=ziN f l o/\ziN f l o<=o
 |[],o,h=>⟨h,Int.le_refl _⟩
 |m::r,o,h=>by
  unfold ziN;cases hq:decide (o>=0) with
  |false=>exact⟨h,Int.le_refl _⟩
  |true=>
   have ho:o>=0:=by simpa using hq
   have h1:=hf o m ho;have h2:=zq8 hf (l:=r) h1.1;simp only[cond_true];omega
theorem zqI:∀(d:Nat) (o:Int) (n:NodeM),0<=o -> -1<=ztj d o n/\ztj d o n<=o - 1
 |0,o,n,h=>by unfold ztj;omega
 |d+1,o,n,h=>by
  unfold ztj zE9;cases hq:decide (o - 1<0)||zxD n with
  |true=>simp only[cond_true];omega
  |false=>
   have:=zq8 (f:=ztj d) (fun o m h=>⟨(zqI d o m h).1,by have:=(zqI d o m h).2;omega⟩) (l:=n.kids) (o:=o - 1) (by omega);simp only[cond_false];omega
def Few(n:NodeM):Prop:=∀d p,p∈zaE d n->p.2.atom.cs.length<=20/\p.2.atom.name.length<=30
theorem Few.kid{n m:NodeM}(h:Few n)(hm:m∈n.kids):Few m:=fun d p hp=>by
 have:=h (d - 1) p;exact this (zmF hm (by rw[show d - 1+1=d by omega];exact hp))
theorem Few.self{n:NodeM}(h:Few n):n.atom.cs.length<=20/\n.atom.name.length<=30:=h 0 (0,n) (by rw[za3];exact ya5)
theorem zuA{f:Int->NodeM->Int}{l:List NodeM}{o:Int}(h:0<=ziN f l o):0<=o:=by
 cases l with
 |nil=>exact h
 |cons a b=>
  unfold ziN at h;cases hq:decide (o>=0) with
  |true=>simpa using hq
  |false=>rw[hq]at h;exact h
theorem zoj{f:Int->NodeM->Int}{G:NodeM->Nat}{A:NodeM->Prop}{B:Int}(hle:∀o m,0<=o->f o m<=o)(hf:∀o m,0<=o->o<=B->0<=f o m->f o m+(G m:Int)<=o/\A m):
  ∀{l:List NodeM} {o:Int},o<=B->0<=ziN f l o->ziN f l o+(((l.map G).sum:Nat):Int)<=o/\∀m∈l,A m
 |[],o,_,h=>by simp[ziN]
 |m::r,o,hB,h=>by
  unfold ziN at h ⊢;cases hq:decide (o>=0) with
  |false=>
   rw[hq]at h;have h:0<=o:=h;simp at hq;omega
  |true=>
   rw[hq]at h;have ho:0<=o:=by simpa using hq
   simp only[cond_true]at h ⊢;have hl:=hle o m ho;obtain⟨h1,h2⟩:=zoj hle hf (l:=r) (by omega) h;obtain⟨h3,h4⟩:=hf o m ho hB (zuA h);refine⟨?_,fun x hx=>?_⟩
   ·simp only[List.map_cons,List.sum_cons];omega
   ·rcases List.mem_cons.1 hx with rfl |hx
    ·exact h4
    ·exact h2 x hx
theorem zga(l:List NodeM)(g:Int):(l.flatMap (zaE g)).length=(l.map fun m=>(zaE g m).length).sum:=by
 induction l with
 |nil=>rfl
 |cons m r ih=>rw[List.flatMap_cons,ya1,ih,List.map_cons,List.sum_cons]
theorem zBb(n:NodeM)(d:Int):1<=(zaE d n).length:=by rw[za3];simp
theorem zyT(l:List NodeM)(g:Int):l.length<=(l.flatMap (zaE g)).length:=by
 induction l with
 |nil=>simp
 |cons m r ih=>
  have:=zBb m g;rw[List.flatMap_cons,ya1,ya7];omega
theorem zuE(n:NodeM):∀(d e:Int),(zaE d n).length=(zaE e n).length:=by
 induction n using zfb with |h n ih=>?_
 intro d e;rw[za3,za3,ya7,ya7,zga,zga];congr 2;exact List.map_congr_left fun m hm=>ih m hm _ _
theorem zzT:∀(d:Nat) (n:NodeM) (o:Int),o<=1000->0<=ztj d o n->n.dep<=d/\ztj d o n+((zaE 1 n).length:Int)<=o/\Few n/\Fit n
 |0,n,o,_,h=>by unfold ztj at h;omega
 |d+1,n,o,hB,h=>by
  unfold ztj zE9 at h ⊢;cases hb:decide (o - 1<0)||zxD n with
  |true=>rw[hb]at h;simp only[cond_true]at h;omega
  |false=>
   rw[hb]at h;simp only[cond_false]at h ⊢;obtain⟨h1,h2⟩:=zoj (B:=1000) (G:=fun m=>(zaE 1 m).length) (A:=fun m=>m.dep<=d/\Few m/\Fit m) (fun o m ho=>by have:=(zqI d o m ho).2;omega) (fun o' m _ hB' hm=>by
    obtain⟨q1,q2,q3,q4⟩:=zzT d m o' hB' hm;exact⟨q2,q1,q3,q4⟩) (by omega) h
   have hw:n.atom.cs.length<=20/\n.atom.name.length<=30:=by
    unfold zxD nm at hb;simp at hb;omega
   have hs:(zaE 1 n).length=(n.kids.map fun m=>(zaE 1 m).length).sum+1:=by
    rw[za3,ya7,zga];congr 2;exact List.map_congr_left fun m _=>zuE m _ _
   have hk:n.kids.length<=(n.kids.map fun m=>(zaE 1 m).length).sum:=by
    have:=zyT n.kids 1;rw[zga]at this;exact this
   refine⟨?_,by omega,fun g p hp=>?_,fun g p hp=>?_⟩
   ·rw[zch];by_cases hq:n.kids=[]
    ·rw[hq,depL];omega
    ·obtain⟨m,hm,he⟩:=zm2 hq;have:=(h2 m hm).1;omega
   ·rw[za3]at hp;rcases List.mem_cons.1 hp with rfl |hp
    ·exact hw
    ·obtain⟨m,hm,hp⟩:=List.mem_flatMap.1 hp;exact(h2 m hm).2.1 _ p hp
   ·rw[za3]at hp;rcases List.mem_cons.1 hp with rfl |hp
    ·show n.kids.length<=_/\n.atom.cs.length<=_;omega
    ·obtain⟨m,hm,hp⟩:=List.mem_flatMap.1 hp;exact(h2 m hm).2.2 _ p hp
end Go.Proofs.YtogdglnaagkaaaaGreatDoor
set_option maxRecDepth 100000
namespace Go.Proofs.YtogdglnaagkaaaaGreatDoor
open Go Go.Cx
end Go.Proofs.YtogdglnaagkaaaaGreatDoor
set_option maxRecDepth 100000
namespace Go.Proofs.YtogdglnaagkaaaaGreatDoor
open Go Go.Cx
def zzU(h:HaveM):Bool:=decide (((nm h.agg.name).length:Int) > 30)
def zz4(a:AggM):Bool:=decide (((nm a.name).length:Int) > 30)
def zuB(q:QueryM):Bool := !decide ((q.hv.length:Int) > 20)&&(!decide ((q.em.length:Int) > 20)&&(!decide (ztj 210 250 q.p<0)&&(!q.hv.any zzU && !q.em.any zz4)))
theorem zyv{n:NodeM}{o:Int}(ho:o<=1000)(h:decide (ztj 210 o n<0)=false):NFit n/\n.dep<=210/\((zaE 1 n).length:Int)<=o/\Few n:=by
 obtain⟨h1,h2,h3,h4⟩:=zzT 210 n o ho (by(simp only[zz]at *;omega));have h5:0<=ztj 210 o n:=by(simp only[zz]at *;omega)
 exact⟨⟨h4,by omega,by omega⟩,h1,by omega,h3⟩
theorem zCI{q:QueryM}(h:zuB q=true):QFit q/\q.p.dep<=210/\(zaE 1 q.p).length<=250/\Few q.p/\q.hv.length<=20/\q.em.length<=20/\(∀x∈q.hv,x.agg.name.length<=30)/\(∀x∈q.em,x.name.length<=30):=by
 unfold zuB at h;simp only[ya2,Bool.not_eq_true']at h;obtain⟨h1,h2,h3,h4,h5⟩:=h;obtain⟨q1,q2,q3,q4⟩:=zyv (by omega) h3;refine⟨⟨q1,by(simp only[zz]at *;omega),by(simp only[zz]at *;omega)⟩,q2,by omega,q4,by(simp only[zz]at *;omega),by(simp only[zz]at *;omega),fun x hx=>?_,fun x hx=>?_⟩
 ·have:=List.any_eq_false.1 h4 x hx;unfold zzU nm at this;simp at this;omega
 ·have:=List.any_eq_false.1 h5 x hx;unfold zz4 nm at this;simp at this;omega
end Go.Proofs.YtogdglnaagkaaaaGreatDoor
