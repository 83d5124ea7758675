import Derived.Test.YtmgibblhcoimfaaDoorAf
set_option linter.unusedSimpArgs false
set_option linter.unusedVariables false
set_option maxRecDepth 100000
namespace Go.Proofs.YtmgibblhcoimfaaDoor
open Go Go.Cx
def zdp(f:Int->NodeM->Int):List NodeM->Int->Int
 |[],o=>o
 |m::r,o=>bif decide (o>=0)then zdp f r (f o m)else o
def zoz(n:NodeM):Bool:=decide ((n.atom.cs.length:Int) > 20)||decide (((nm n.atom.name).length:Int) > 30)
def zwW(f:Int->NodeM->Int)(left:Int)(n:NodeM):Int:=bif decide (left - 1<0)||zoz n then -1 else zdp f n.kids (left - 1)
def zl0:Nat->Int->NodeM->Int
 |0,_,_ => -1
 |d+1,left,n=>zwW (zl0 d) left n
theorem zpO{f:Int->NodeM->Int}(hf:∀o m,0<=o -> -1<=f o m/\f o m<=o):∀{l:List NodeM} {o:Int}, -1<=o -> -1<=zdp f l o/\zdp f l o<=o
 |[],o,h=>⟨h,Int.le_refl _⟩
 |m::r,o,h=>by
  unfold zdp;cases hq:decide (o>=0) with
  |false=>exact⟨h,Int.le_refl _⟩
  |true=>
   have ho:o>=0:=by simpa using hq
   have h1:=hf o m ho;have h2:=zpO hf (l:=r) h1.1;simp only[cond_true];omega
theorem zkG:∀(d:Nat) (o:Int) (n:NodeM),0<=o -> -1<=zl0 d o n/\zl0 d o n<=o - 1
 |0,o,n,h=>by unfold zl0;omega
 |d+1,o,n,h=>by
  unfold zl0 zwW;cases hq:decide (o - 1<0)||zoz n with
  |true=>simp only[cond_true];omega
  |false=>
   have:=zpO (f:=zl0 d) (fun o m h=>⟨(zkG d o m h).1,by have:=(zkG d o m h).2;omega⟩) (l:=n.kids) (o:=o - 1) (by omega);simp only[cond_false];omega
def Few(n:NodeM):Prop:=∀d p,p∈zc2 d n->p.2.atom.cs.length<=20/\p.2.atom.name.length<=30
theorem Few.kid{n m:NodeM}(h:Few n)(hm:m∈n.kids):Few m:=fun d p hp=>by
 have:=h (d - 1) p;exact this (zoy hm (by rw[show d - 1+1=d by omega];exact hp))
theorem Few.self{n:NodeM}(h:Few n):n.atom.cs.length<=20/\n.atom.name.length<=30:=h 0 (0,n) (by rw[zch];exact ya5)
theorem zt1{f:Int->NodeM->Int}{l:List NodeM}{o:Int}(h:0<=zdp f l o):0<=o:=by
 cases l with
 |nil=>exact h
 |cons a b=>
  unfold zdp at h;cases hq:decide (o>=0) with
  |true=>simpa using hq
  |false=>rw[hq]at h;exact h
theorem zm0{f:Int->NodeM->Int}{G:NodeM->Nat}{A:NodeM->Prop}{B:Int}(hle:∀o m,0<=o->f o m<=o)(hf:∀o m,0<=o->o<=B->0<=f o m->f o m+(G m:Int)<=o/\A m):
  ∀{l:List NodeM} {o:Int},o<=B->0<=zdp f l o->zdp f l o+(((l.map G).sum:Nat):Int)<=o/\∀m∈l,A m
 |[],o,_,h=>by simp[zdp]
 |m::r,o,hB,h=>by
  unfold zdp at h ⊢;cases hq:decide (o>=0) with
  |false=>
   rw[hq]at h;have h:0<=o:=h;simp at hq;omega
  |true=>
   rw[hq]at h;have ho:0<=o:=by simpa using hq
   simp only[cond_true]at h ⊢;have hl:=hle o m ho;obtain⟨h1,h2⟩:=zm0 hle hf (l:=r) (by omega) h;obtain⟨h3,h4⟩:=hf o m ho hB (zt1 h);refine⟨?_,fun x hx=>?_⟩
   ·simp only[List.map_cons,List.sum_cons];omega
   ·rcases List.mem_cons.1 hx with rfl |hx
    ·exact h4
    ·exact h2 x hx
theorem zfT(l:List NodeM)(g:Int):(l.flatMap (zc2 g)).length=(l.map fun m=>(zc2 g m).length).sum:=by
 induction l with
 |nil=>rfl
 |cons m r ih=>rw[List.flatMap_cons,ya1,ih,List.map_cons,List.sum_cons]
theorem zxS(n:NodeM)(d:Int):1<=(zc2 d n).length:=by rw[zch];simp
theorem zu9(l:List NodeM)(g:Int):l.length<=(l.flatMap (zc2 g)).length:=by
 induction l with
 |nil=>simp
 |cons m r ih=>
  have:=zxS m g;rw[List.flatMap_cons,ya1,ya7];omega
theorem zub(n:NodeM):∀(d e:Int),(zc2 d n).length=(zc2 e n).length:=by
 induction n using zvz with |h n ih=>?_
 intro d e;rw[zch,zch,ya7,ya7,zfT,zfT];congr 2;exact List.map_congr_left fun m hm=>ih m hm _ _
theorem zwN:∀(d:Nat) (n:NodeM) (o:Int),o<=1000->0<=zl0 d o n->n.dep<=d/\zl0 d o n+((zc2 1 n).length:Int)<=o/\Few n/\Fit n
 |0,n,o,_,h=>by unfold zl0 at h;omega
 |d+1,n,o,hB,h=>by
  unfold zl0 zwW at h ⊢;cases hb:decide (o - 1<0)||zoz n with
  |true=>rw[hb]at h;simp only[cond_true]at h;omega
  |false=>
   rw[hb]at h;simp only[cond_false]at h ⊢;obtain⟨h1,h2⟩:=zm0 (B:=1000) (G:=fun m=>(zc2 1 m).length) (A:=fun m=>m.dep<=d/\Few m/\Fit m) (fun o m ho=>by have:=(zkG d o m ho).2;omega) (fun o' m _ hB' hm=>by
    obtain⟨q1,q2,q3,q4⟩:=zwN d m o' hB' hm;exact⟨q2,q1,q3,q4⟩) (by omega) h
   have hw:n.atom.cs.length<=20/\n.atom.name.length<=30:=by
    unfold zoz nm at hb;simp at hb;omega
   have hs:(zc2 1 n).length=(n.kids.map fun m=>(zc2 1 m).length).sum+1:=by
    rw[zch,ya7,zfT];congr 2;exact List.map_congr_left fun m _=>zub m _ _
   have hk:n.kids.length<=(n.kids.map fun m=>(zc2 1 m).length).sum:=by
    have:=zu9 n.kids 1;rw[zfT]at this;exact this
   refine⟨?_,by omega,fun g p hp=>?_,fun g p hp=>?_⟩
   ·rw[zeJ];by_cases hq:n.kids=[]
    ·rw[hq,depL];omega
    ·obtain⟨m,hm,he⟩:=zpl hq;have:=(h2 m hm).1;omega
   ·rw[zch]at hp;rcases List.mem_cons.1 hp with rfl |hp
    ·exact hw
    ·obtain⟨m,hm,hp⟩:=List.mem_flatMap.1 hp;exact(h2 m hm).2.1 _ p hp
   ·rw[zch]at hp;rcases List.mem_cons.1 hp with rfl |hp
    ·show n.kids.length<=_/\n.atom.cs.length<=_;omega
    ·obtain⟨m,hm,hp⟩:=List.mem_flatMap.1 hp;exact(h2 m hm).2.2 _ p hp
theorem zq0{f:Int->NodeM->Int}{l:List NodeM}{k:Nat}{o:Int}(hk:k<l.length)(ho:o>=0):zdp f (l.drop k) o=zdp f (l.drop (k+1)) (f o (atN l k)):=by
 rw[List.drop_eq_getElem_cons hk,zw6 hk,zdp,show decide (o>=0)=true by simpa using ho];rfl
theorem zrY{f:Int->NodeM->Int}{l:List NodeM}{k:Nat}{o:Int}(h:l.length<=k\/o<0):zdp f (l.drop k) o=o:=by
 rcases h with h |h
 ·rw[List.drop_eq_nil_of_le h,zdp]
 ·cases l.drop k with
  |nil=>rfl
  |cons m r=>rw[zdp,show decide (o>=0)=false by simp;omega];rfl
theorem zxA{f:Int->NodeM->Int}{n:NodeM}{o:Int}(h:(decide (o - 1<0)||zoz n)=true):SV.cv (CV.int .i64 (-1))=ai (zwW f o n):=by unfold zwW;rw[h];rfl
theorem zso{f:Int->NodeM->Int}{n:NodeM}{k:Nat}{o x:Int}(h:(decide (o - 1<0)||zoz n)=false)(hw:zdp f n.kids (o - 1)=zdp f (n.kids.drop k) x)(he:n.kids.length<=k\/x<0):ai x=ai (zwW f o n):=by unfold zwW;rw[h,cond_false,hw,zrY he]
set_option maxHeartbeats 4000000 in
theorem zzh(f:Int->NodeM->Int)(hf:∀o m,0<=o -> -1<=f o m/\f o m<=o - 1)(D L:Int)(hD:1<=D/\D<=210)(hL:0<=L/\L<=1000)(n:NodeM)(ih:∀m∈n.kids,∀o,0<=o->o<=1000->DSpec Tryd.prog axX axG 17 [.agg (zaK m),ai o,ai (D+1)] [] (fun v O=>v=ai (f o m)/\O=[])):
  DSpec Tryd.prog axX axG 17 [.agg (zaK n),ai L,ai D] [] (fun v O=>v=ai (zwW f L n)/\O=[]):=by
 rcases zel n with he |he
 all_goals try rw[he]
 all_goals
  refine zac { glb:=axG,ann:=[(5,[7,1])] } true Tryd.func17 (by kernel_rfl) rfl ?_
  repeat' (
    (conv=>whnf)
    first
     |exact zad (by kernel_rfl)
     |refine And.intro ?_ ?_
     |refine zaa ?_ ?_
     |(refine⟨_,ih (atN n.kids k) (zd7 (by(simp only[zz]at *;omega))) x (by(simp only[zz]at *;omega)) (by(simp only[zz]at *;omega)),?_⟩;rintro v O' ⟨rfl,rfl⟩)
     |((refine⟨fun vs O _=>∃(k:Nat) (x:Int),k<=n.kids.length /\ -1<=x/\x+k<=1000/\zdp f n.kids (L - 1)=zdp f (n.kids.drop k) x/\vs=[ai k,ai x]/\O=[.cells 28 (zjn n _)],fun vs O=>match vs with |[.cv (.int _ k),_]=>n.kids.length - k.toNat |_=>0,⟨0,L - 1,Nat.zero_le _,by(simp only[zz]at *;omega),by(simp only[zz]at *;omega),rfl,rfl,rfl⟩,?_⟩;rintro vs O _ ⟨k,x,hk,hx1,hx2,hj,rfl,rfl⟩))
     |intro _)
  all_goals try have hfk:=hf x (atN n.kids k)
  all_goals try have hbig:zoz n=(decide ((n.atom.cs.length:Int) > 20)||decide (((nm n.atom.name).length:Int) > 30)):=rfl
  all_goals first
   |rfl
   |omega
   |(simp only[zz]at *;omega)
   |(exfalso;(simp only[zz]at *;omega))
   |exact zxA (by rw[hbig];(simp only[*,Bool.true_and,Bool.and_true,Bool.false_and,Bool.and_false,Bool.true_or,Bool.or_true,Bool.false_or,Bool.or_false,Bool.not_true,Bool.not_false,Bool.not_not,cond_true,cond_false];first |done |rfl))
   |exact zso (by rw[hbig];(simp only[*,Bool.true_and,Bool.and_true,Bool.false_and,Bool.and_false,Bool.true_or,Bool.or_true,Bool.false_or,Bool.or_false,Bool.not_true,Bool.not_false,Bool.not_not,cond_true,cond_false];first |done |rfl)) hj (.inl (by(simp only[zz]at *;omega)))
   |exact zso (by rw[hbig];(simp only[*,Bool.true_and,Bool.and_true,Bool.false_and,Bool.and_false,Bool.true_or,Bool.or_true,Bool.false_or,Bool.or_false,Bool.not_true,Bool.not_false,Bool.not_not,cond_true,cond_false];first |done |rfl)) hj (.inr (by(simp only[zz]at *;omega)))
   |exact⟨k+1,_,by(simp only[zz]at *;omega),by(simp only[zz]at *;omega),by(simp only[zz]at *;omega),hj.trans (zq0 (by(simp only[zz]at *;omega)) (by(simp only[zz]at *;omega))),rfl,rfl⟩
theorem zzJ(L:Int)(hL:0<=L/\L<=1000)(n:NodeM):DSpec Tryd.prog axX axG 17 [.agg (zaK n),ai L,ai 211] [] (fun v O=>v=ai (-1)/\O=[]):=by
 refine zac { glb:=axG,ann:=[(5,[7,1])] } true Tryd.func17 (by kernel_rfl) rfl ?_
 repeat' (
   (conv=>whnf)
   first
    |exact zad (by kernel_rfl)
    |refine And.intro ?_ ?_
    |refine zaa ?_ ?_
    |intro _)
 all_goals first
  |rfl
  |omega
  |(exfalso;(simp only[zz]at *;omega))
theorem zzd:∀(d:Nat) (hd:d<=210) (n:NodeM) (o:Int),0<=o->o<=1000->DSpec Tryd.prog axX axG 17 [.agg (zaK n),ai o,ai (211 - (d:Int))] [] (fun v O=>v=ai (zl0 d o n)/\O=[])
 |0,_,n,o,h0,h1=>zzJ o ⟨h0,h1⟩ n
 |d+1,hd,n,o,h0,h1=>zzh (zl0 d) (zkG d) (211 - ((d+1:Nat):Int)) o (by omega) ⟨h0,h1⟩ n fun m _ o' h2 h3=>by
  rw[show 211 - ((d+1:Nat):Int)+1=211 - (d:Int)by omega];exact zzd d (by omega) m o' h2 h3
end Go.Proofs.YtmgibblhcoimfaaDoor
