import Derived.Test.YtmgibblhcoimfaaDoorAf
set_option linter.unusedSimpArgs false
set_option linter.unusedVariables false
set_option maxRecDepth 100000
namespace Go.Proofs.YtmgibblhcoimfaaDoor
open Go Go.Cx
def zdl(f:Int->NodeM->Int):List NodeM->Int->Int
 |[],o=>o
 |m::r,o=>bif decide (o>=0)then zdl f r (f o m)else o
def zpw(n:NodeM):Bool:=decide ((n.atom.cs.length:Int) > 20)||decide (((nm n.atom.name).length:Int) > 30)
def zye(f:Int->NodeM->Int)(left:Int)(n:NodeM):Int:=bif decide (left - 1<0)||zpw n then -1 else zdl f n.kids (left - 1)
def zjI:Nat->Int->NodeM->Int
 |0,_,_ => -1
 |d+1,left,n=>zye (zjI d) left n
theorem zp6{f:Int->NodeM->Int}(hf:∀o m,0<=o -> -1<=f o m/\f o m<=o):∀{l:List NodeM} {o:Int}, -1<=o -> -1<=zdl f l o/\zdl f l o<=o
 |[],o,h=>⟨h,Int.le_refl _⟩
 |m::r,o,h=>by
  unfold zdl;cases hq:decide (o>=0) with
  |false=>exact⟨h,Int.le_refl _⟩
  |true=>
   have ho:o>=0:=by simpa using hq
   have h1:=hf o m ho;have h2:=zp6 hf (l:=r) h1.1;simp only[cond_true];omega
theorem zl6:∀(d:Nat) (o:Int) (n:NodeM),0<=o -> -1<=zjI d o n/\zjI d o n<=o - 1
 |0,o,n,h=>by unfold zjI;omega
 |d+1,o,n,h=>by
  unfold zjI zye;cases hq:decide (o - 1<0)||zpw n with
  |true=>simp only[cond_true];omega
  |false=>
   have:=zp6 (f:=zjI d) (fun o m h=>⟨(zl6 d o m h).1,by have:=(zl6 d o m h).2;omega⟩) (l:=n.kids) (o:=o - 1) (by omega);simp only[cond_false];omega
def Few(n:NodeM):Prop:=∀d p,p∈zbf d n->p.2.atom.cs.length<=20/\p.2.atom.name.length<=30
theorem Few.kid{n m:NodeM}(h:Few n)(hm:m∈n.kids):Few m:=fun d p hp=>by
 have:=h (d - 1) p;exact this (zoI hm (by rw[show d - 1+1=d by omega];exact hp))
theorem Few.self{n:NodeM}(h:Few n):n.atom.cs.length<=20/\n.atom.name.length<=30:=h 0 (0,n) (by rw[za7];exact ya5)
theorem ztb{f:Int->NodeM->Int}{l:List NodeM}{o:Int}(h:0<=zdl f l o):0<=o:=by
 cases l with
 |nil=>exact h
 |cons a b=>
  unfold zdl at h;cases hq:decide (o>=0) with
  |true=>simpa using hq
  |false=>rw[hq]at h;exact h
theorem zox{f:Int->NodeM->Int}{G:NodeM->Nat}{A:NodeM->Prop}{B:Int}(hle:∀o m,0<=o->f o m<=o)(hf:∀o m,0<=o->o<=B->0<=f o m->f o m+(G m:Int)<=o/\A m):
  ∀{l:List NodeM} {o:Int},o<=B->0<=zdl f l o->zdl f l o+(((l.map G).sum:Nat):Int)<=o/\∀m∈l,A m
 |[],o,_,h=>by simp[zdl]
 |m::r,o,hB,h=>by
  unfold zdl at h ⊢;cases hq:decide (o>=0) with
  |false=>
   rw[hq]at h;have h:0<=o:=h;simp at hq;omega
  |true=>
   rw[hq]at h;have ho:0<=o:=by simpa using hq
   simp only[cond_true]at h ⊢;have hl:=hle o m ho;obtain⟨h1,h2⟩:=zox hle hf (l:=r) (by omega) h;obtain⟨h3,h4⟩:=hf o m ho hB (ztb h);refine⟨?_,fun x hx=>?_⟩
   ·simp only[List.map_cons,List.sum_cons];omega
   ·rcases List.mem_cons.1 hx with rfl |hx
    ·exact h4
    ·exact h2 x hx
theorem zf4(l:List NodeM)(g:Int):(l.flatMap (zbf g)).length=(l.map fun m=>(zbf g m).length).sum:=by
 induction l with
 |nil=>rfl
 |cons m r ih=>rw[List.flatMap_cons,ya1,ih,List.map_cons,List.sum_cons]
theorem zzc(n:NodeM)(d:Int):1<=(zbf d n).length:=by rw[za7];simp
theorem zxF(l:List NodeM)(g:Int):l.length<=(l.flatMap (zbf g)).length:=by
 induction l with
 |nil=>simp
 |cons m r ih=>
  have:=zzc m g;rw[List.flatMap_cons,ya1,ya7];omega
theorem ztt(n:NodeM):∀(d e:Int),(zbf d n).length=(zbf e n).length:=by
 induction n using zmG with |h n ih=>?_
 intro d e;rw[za7,za7,ya7,ya7,zf4,zf4];congr 2;exact List.map_congr_left fun m hm=>ih m hm _ _
theorem zyN:∀(d:Nat) (n:NodeM) (o:Int),o<=1000->0<=zjI d o n->n.dep<=d/\zjI d o n+((zbf 1 n).length:Int)<=o/\Few n/\Fit n
 |0,n,o,_,h=>by unfold zjI at h;omega
 |d+1,n,o,hB,h=>by
  unfold zjI zye at h ⊢;cases hb:decide (o - 1<0)||zpw n with
  |true=>rw[hb]at h;simp only[cond_true]at h;omega
  |false=>
   rw[hb]at h;simp only[cond_false]at h ⊢;obtain⟨h1,h2⟩:=zox (B:=1000) (G:=fun m=>(zbf 1 m).length) (A:=fun m=>m.dep<=d/\Few m/\Fit m) (fun o m ho=>by have:=(zl6 d o m ho).2;omega) (fun o' m _ hB' hm=>by
    obtain⟨q1,q2,q3,q4⟩:=zyN d m o' hB' hm;exact⟨q2,q1,q3,q4⟩) (by omega) h
   have hw:n.atom.cs.length<=20/\n.atom.name.length<=30:=by
    unfold zpw nm at hb;simp at hb;omega
   have hs:(zbf 1 n).length=(n.kids.map fun m=>(zbf 1 m).length).sum+1:=by
    rw[za7,ya7,zf4];congr 2;exact List.map_congr_left fun m _=>ztt m _ _
   have hk:n.kids.length<=(n.kids.map fun m=>(zbf 1 m).length).sum:=by
    have:=zxF n.kids 1;rw[zf4]at this;exact this
   refine⟨?_,by omega,fun g p hp=>?_,fun g p hp=>?_⟩
   ·rw[zbi];by_cases hq:n.kids=[]
    ·rw[hq,depL];omega
    ·obtain⟨m,hm,he⟩:=zlK hq;have:=(h2 m hm).1;omega
   ·rw[za7]at hp;rcases List.mem_cons.1 hp with rfl |hp
    ·exact hw
    ·obtain⟨m,hm,hp⟩:=List.mem_flatMap.1 hp;exact(h2 m hm).2.1 _ p hp
   ·rw[za7]at hp;rcases List.mem_cons.1 hp with rfl |hp
    ·show n.kids.length<=_/\n.atom.cs.length<=_;omega
    ·obtain⟨m,hm,hp⟩:=List.mem_flatMap.1 hp;exact(h2 m hm).2.2 _ p hp
theorem zr5{f:Int->NodeM->Int}{l:List NodeM}{k:Nat}{o:Int}(hk:k<l.length)(ho:o>=0):zdl f (l.drop k) o=zdl f (l.drop (k+1)) (f o (atN l k)):=by
 rw[List.drop_eq_getElem_cons hk,zja hk,zdl,show decide (o>=0)=true by simpa using ho];rfl
theorem zu3{f:Int->NodeM->Int}{l:List NodeM}{k:Nat}{o:Int}(h:l.length<=k\/o<0):zdl f (l.drop k) o=o:=by
 rcases h with h |h
 ·rw[List.drop_eq_nil_of_le h,zdl]
 ·cases l.drop k with
  |nil=>rfl
  |cons m r=>rw[zdl,show decide (o>=0)=false by simp;omega];rfl
theorem zAh{f:Int->NodeM->Int}{n:NodeM}{o:Int}(h:(decide (o - 1<0)||zpw n)=true):SV.cv (CV.int .i64 (-1))=ai (zye f o n):=by unfold zye;rw[h];rfl
theorem zvs{f:Int->NodeM->Int}{n:NodeM}{k:Nat}{o x:Int}(h:(decide (o - 1<0)||zpw n)=false)(hw:zdl f n.kids (o - 1)=zdl f (n.kids.drop k) x)(he:n.kids.length<=k\/x<0):ai x=ai (zye f o n):=by unfold zye;rw[h,cond_false,hw,zu3 he]
set_option maxHeartbeats 4000000 in
theorem zBC(f:Int->NodeM->Int)(hf:∀o m,0<=o -> -1<=f o m/\f o m<=o - 1)(D L:Int)(hD:1<=D/\D<=210)(hL:0<=L/\L<=1000)(n:NodeM)(ih:∀m∈n.kids,∀o,0<=o->o<=1000->DSpec Tryd.prog axX axG 17 [.agg (zay m),ai o,ai (D+1)] [] (fun v O=>v=ai (f o m)/\O=[])):
  DSpec Tryd.prog axX axG 17 [.agg (zay n),ai L,ai D] [] (fun v O=>v=ai (zye f L n)/\O=[]):=by
 rcases zgt n with he |he
 all_goals try rw[he]
 all_goals
  refine zac { glb:=axG,ann:=[(5,[7,1])] } true Tryd.func17 (by kernel_rfl) rfl ?_
  repeat' (
    (conv=>whnf)
    first
     |exact zaf (by kernel_rfl)
     |refine And.intro ?_ ?_
     |refine zaa ?_ ?_
     |(refine⟨_,ih (atN n.kids k) (zdO (by(simp only[zz]at *;omega))) x (by(simp only[zz]at *;omega)) (by(simp only[zz]at *;omega)),?_⟩;rintro v O' ⟨rfl,rfl⟩)
     |((refine⟨fun vs O _=>∃(k:Nat) (x:Int),k<=n.kids.length /\ -1<=x/\x+k<=1000/\zdl f n.kids (L - 1)=zdl f (n.kids.drop k) x/\vs=[ai k,ai x]/\O=[.cells 28 (zn2 n _)],fun vs O=>match vs with |[.cv (.int _ k),_]=>n.kids.length - k.toNat |_=>0,⟨0,L - 1,Nat.zero_le _,by(simp only[zz]at *;omega),by(simp only[zz]at *;omega),rfl,rfl,rfl⟩,?_⟩;rintro vs O _ ⟨k,x,hk,hx1,hx2,hj,rfl,rfl⟩))
     |intro _)
  all_goals try have hfk:=hf x (atN n.kids k)
  all_goals try have hbig:zpw n=(decide ((n.atom.cs.length:Int) > 20)||decide (((nm n.atom.name).length:Int) > 30)):=rfl
  all_goals first
   |rfl
   |omega
   |(simp only[zz]at *;omega)
   |(exfalso;(simp only[zz]at *;omega))
   |exact zAh (by rw[hbig];(simp only[*,Bool.true_and,Bool.and_true,Bool.false_and,Bool.and_false,Bool.true_or,Bool.or_true,Bool.false_or,Bool.or_false,Bool.not_true,Bool.not_false,Bool.not_not,cond_true,cond_false];first |done |rfl))
   |exact zvs (by rw[hbig];(simp only[*,Bool.true_and,Bool.and_true,Bool.false_and,Bool.and_false,Bool.true_or,Bool.or_true,Bool.false_or,Bool.or_false,Bool.not_true,Bool.not_false,Bool.not_not,cond_true,cond_false];first |done |rfl)) hj (.inl (by(simp only[zz]at *;omega)))
   |exact zvs (by rw[hbig];(simp only[*,Bool.true_and,Bool.and_true,Bool.false_and,Bool.and_false,Bool.true_or,Bool.or_true,Bool.false_or,Bool.or_false,Bool.not_true,Bool.not_false,Bool.not_not,cond_true,cond_false];first |done |rfl)) hj (.inr (by(simp only[zz]at *;omega)))
   |exact⟨k+1,_,by(simp only[zz]at *;omega),by(simp only[zz]at *;omega),by(simp only[zz]at *;omega),hj.trans (zr5 (by(simp only[zz]at *;omega)) (by(simp only[zz]at *;omega))),rfl,rfl⟩
theorem zBM(L:Int)(hL:0<=L/\L<=1000)(n:NodeM):DSpec Tryd.prog axX axG 17 [.agg (zay n),ai L,ai 211] [] (fun v O=>v=ai (-1)/\O=[]):=by
 refine zac { glb:=axG,ann:=[(5,[7,1])] } true Tryd.func17 (by kernel_rfl) rfl ?_
 repeat' (
   (conv=>whnf)
   first
    |exact zaf (by kernel_rfl)
    |refine And.intro ?_ ?_
    |refine zaa ?_ ?_
    |intro _)
 all_goals first
  |rfl
  |omega
  |(exfalso;(simp only[zz]at *;omega))
theorem zwq:∀(d:Nat) (hd:d<=210) (n:NodeM) (o:Int),0<=o->o<=1000->DSpec Tryd.prog axX axG 17 [.agg (zay n),ai o,ai (211 - (d:Int))] [] (fun v O=>v=ai (zjI d o n)/\O=[])
 |0,_,n,o,h0,h1=>zBM o ⟨h0,h1⟩ n
 |d+1,hd,n,o,h0,h1=>zBC (zjI d) (zl6 d) (211 - ((d+1:Nat):Int)) o (by omega) ⟨h0,h1⟩ n fun m _ o' h2 h3=>by
  rw[show 211 - ((d+1:Nat):Int)+1=211 - (d:Int)by omega];exact zwq d (by omega) m o' h2 h3
end Go.Proofs.YtmgibblhcoimfaaDoor
