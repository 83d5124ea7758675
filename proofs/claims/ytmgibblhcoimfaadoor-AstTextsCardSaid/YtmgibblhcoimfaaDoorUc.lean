import Derived.Test.YtmgibblhcoimfaaDoorUb
import Derived.Test.YtmgibblhcoimfaaDoorPk
import Derived.Test.YtmgibblhcoimfaaDoorBc
import Derived.Test.YtmgibblhcoimfaaDoorAf
set_option linter.unusedSimpArgs false
set_option linter.unusedVariables false
set_option maxRecDepth 100000
namespace Go.Proofs.YtmgibblhcoimfaaDoor
open Go Go.Cx
theorem zvz{A:Type}[Inhabited A]{P:Nat->List Nat}{pre sep:List Nat}{g:A->List Nat}{l:List A}(h0:P 0=[])(hs:∀k,P (k+1)=P k++(if k=0 then pre else sep)++g (l.getD k default)):∀k,k<=l.length->P k=if k=0 then[]else pre++zaO sep ((l.take k).map g)
 |0,_=>h0
 |k+1,hk=>by
  rw[hs,zvz h0 hs k (by omega),if_neg (Nat.succ_ne_zero k)];have ht:(l.take (k+1)).map g=(l.take k).map g++[g (l.getD k default)]:=by
   rw[List.take_add_one,ya8,yb5 (by omega),List.map_append];rfl
  rw[ht];cases k with
  |zero=>simp[zaO]
  |succ k=>
   rw[if_neg (Nat.succ_ne_zero k),if_neg (Nat.succ_ne_zero k),zdv _ _ _ (by
    intro hh;have:((l.take (k+1)).map g).length=0:=by rw[hh];rfl
    rw[yb7,List.length_take]at this;omega)]
   simp only[yc1]
def zym(x:HaveM):List Nat:=zkO x.agg++([32]++zcf x.cond)
theorem zd0{l:List HaveM}(h:l≠[]):zkS l l.length=[32,104,97,118,105,110,103,32]++zaO [32,97,110,100,32] (l.map zym):=by
 have hl:0<l.length:=List.length_pos_iff.2 h;rw[zvz (P:=zkS l) (pre:=[32,104,97,118,105,110,103,32]) (sep:=[32,97,110,100,32]) (g:=zym) (l:=l) rfl (fun k=>by rw[zh0];unfold zym;simp only[yc1]) l.length (Nat.le_refl _),if_neg (by omega),List.take_length]
theorem zfE{l:List AggM}(h:l≠[]):emP l l.length=[32,101,109,105,116,32]++zaO [44,32] (l.map zkO):=by
 have hl:0<l.length:=List.length_pos_iff.2 h;rw[zvz (P:=emP l) (pre:=[32,101,109,105,116,32]) (sep:=[44,32]) (g:=zkO) (l:=l) rfl (fun k=>by rw[zls]) l.length (Nat.le_refl _),if_neg (by omega),List.take_length]
theorem zmu{n:Int}(h:1<=n/\n<=6):(n=1/\fnT n=[99,111,117,110,116])\/(n=2/\fnT n=[115,117,109])\/(n=3/\fnT n=[109,105,110])\/(n=4/\fnT n=[109,97,120])\/(n=5/\fnT n=[102,105,114,115,116])\/(n=6/\fnT n=[108,97,115,116]):=by
 have:n=1\/n=2\/n=3\/n=4\/n=5\/n=6:=by omega
 rcases this with rfl |rfl |rfl |rfl |rfl |rfl
 ·exact .inl ⟨rfl,rfl⟩
 ·exact .inr (.inl ⟨rfl,rfl⟩)
 ·exact .inr (.inr (.inl ⟨rfl,rfl⟩))
 ·exact .inr (.inr (.inr (.inl ⟨rfl,rfl⟩)))
 ·exact .inr (.inr (.inr (.inr (.inl ⟨rfl,rfl⟩))))
 ·exact .inr (.inr (.inr (.inr (.inr ⟨rfl,rfl⟩))))
theorem zoK{a:AggM}(h:zeQ a=true):∀b∈nm a.name,lwB b=true:=by
 unfold zeQ at h;simp only[ya2]at h;exact zvR h.2
theorem zAZ{n:Int}(h:1<=n/\n<=6):∀b∈fnT n,(b != 40)=true:=by
 rcases zmu h with⟨_,f⟩ |⟨_,f⟩ |⟨_,f⟩ |⟨_,f⟩ |⟨_,f⟩ |⟨_,f⟩<;>rw[f]<;>decide
theorem zqb{a b:AggM}{r r':List Nat}(h0:zeQ a=true)(h1:zeQ b=true)(h:zkO a++r=zkO b++r'):a=b/\r=r':=by
 have f0:=zmw h0;have f1:=zmw h1;have l0:=zoK h0;have l1:=zoK h1;unfold zkO at h;simp only[yc1,List.cons_append,List.nil_append]at h;have n40:∀s,Nst (fun b=>b != 40) (40::s):=fun s b t e=>by cases e;rfl
 have n41:∀s,Nst lwB (41::s):=fun s b t e=>by cases e;decide
 obtain⟨q1,q2⟩:=zj5 (p:=fun b=>b != 40) (zAZ f0) (zAZ f1) (n40 _) (n40 _) h;simp only[List.cons.injEq,true_and]at q2;obtain⟨q3,q4⟩:=zj5 (p:=lwB) l0 l1 (n41 _) (n41 _) q2;simp only[List.cons.injEq,true_and]at q4;have q5:a.fn=b.fn:=by
  rcases zmu f0 with⟨e,f⟩ |⟨e,f⟩ |⟨e,f⟩ |⟨e,f⟩ |⟨e,f⟩ |⟨e,f⟩<;>rcases zmu f1 with⟨e',f'⟩ |⟨e',f'⟩ |⟨e',f'⟩ |⟨e',f'⟩ |⟨e',f'⟩ |⟨e',f'⟩<;>rw[f,f']at q1<;>first
   |omega
   |(simp at q1;done)
 have q6:=zyJ q3;obtain⟨fn,name⟩:=a;obtain⟨fn',name'⟩:=b;simp only at q5 q6;exact⟨by rw[q5,q6],q4⟩
theorem ztx{x y:HaveM}{r r':List Nat}(h0:zeQ x.agg=true/\opB x.cond.op=true)(h1:zeQ y.agg=true/\opB y.cond.op=true)(hr:Nst dgB r)(hr':Nst dgB r')(h:zym x++r=zym y++r'):x=y/\r=r':=by
 unfold zym at h;simp only[yc1]at h;obtain⟨q1,q2⟩:=zqb h0.1 h1.1 h;obtain⟨q3,q4⟩:=znc (zt6 h0.2) (zt6 h1.2) hr hr' (List.append_cancel_left q2);obtain⟨a,c⟩:=x;obtain⟨a',c'⟩:=y;simp only at q1 q3;exact⟨by rw[q1,q3],q4⟩
def Em(r:List Nat):Prop:=r=[]\/∃t,r=32::101::t
theorem zzU(l:List AggM):Em (emP l l.length):=by
 by_cases h:l=[]
 ·subst h;exact .inl rfl
 ·rw[zfE h];exact .inr ⟨_,rfl⟩
theorem Em.nst{r:List Nat}(h:Em r):Nst dgB r:=by
 rcases h with rfl |⟨t,rfl⟩
 ·intro b s e;cases e
 ·intro b s e;cases e;decide
theorem zzj{l l':List AggM}(h0:∀x∈l,zeQ x=true)(h1:∀x∈l',zeQ x=true)(h:emP l l.length=emP l' l'.length):l=l':=by
 by_cases e:l=[]<;>by_cases e':l'=[]
 ·rw[e,e']
 ·exfalso;rw[zfE e',e]at h;cases h
 ·exfalso;rw[zfE e,e']at h;cases h
 ·rw[zfE e,zfE e']at h;have h:=List.append_cancel_left h;exact(zcY (g:=zkO) (sep:=[44,32]) (E:=fun _=>True) (F:=fun r=>r=[]) (P:=fun x=>zeQ x=true) (Q:=fun x=>zeQ x=true) (fun a b s s' p q _ _ h5=>zqb p q h5) (fun _ _=>trivial) (fun _=>trivial) (fun r r' h3 h4=>by rw[h3]at h4;cases h4) l l' [] [] e e' h0 h1 rfl rfl (by rw[yc2,yc2];exact h)).1
theorem zwQ{l l':List HaveM}{r r':List Nat}(h0:∀x∈l,zeQ x.agg=true/\opB x.cond.op=true)(h1:∀x∈l',zeQ x.agg=true/\opB x.cond.op=true)(hr:Em r)(hr':Em r')(h:zkS l l.length++r=zkS l' l'.length++r'):l=l'/\r=r':=by
 have no:∀{s s':List Nat},Em s->s≠[32,104,97,118,105,110,103,32]++s':=fun hs e=>by
  rcases hs with rfl |⟨t,rfl⟩
  ·cases e
  ·cases e
 by_cases e:l=[]<;>by_cases e':l'=[]
 ·subst e;subst e';exact⟨rfl,h⟩
 ·subst e;rw[zd0 e',yc1]at h;exact absurd h (no hr)
 ·subst e';rw[zd0 e,yc1]at h;exact absurd h.symm (no hr')
 ·rw[zd0 e,zd0 e',yc1,yc1]at h;have h:=List.append_cancel_left h;exact zcY (g:=zym) (sep:=[32,97,110,100,32]) (E:=Nst dgB) (F:=Em) (P:=fun x=>zeQ x.agg=true/\opB x.cond.op=true) (Q:=fun x=>zeQ x.agg=true/\opB x.cond.op=true) (fun a b s s' p q h3 h4 h5=>ztx p q h3 h4 h5) (fun r h=>h.nst) (fun r b s e=>by cases e;decide) (fun r r' h3 h4=>by
   rcases h3 with rfl |⟨t,rfl⟩
   ·cases h4
   ·cases h4) l l' r r' e e' h0 h1 hr hr' h
theorem zi2:∀{d:Nat} {n:NodeM},zbk d n=true->n.dep<=d
 |0,n,h=>by cases h
 |d+1,n,h=>by
  have hs:=zkE h;rw[zbi];by_cases hk:n.kids=[]
  ·rw[hk,depL];omega
  ·obtain⟨m,hm,he⟩:=zlK hk;have h3:3<=n.kind:=by
    by_cases h2:n.kind<=2
    ·exact absurd (hs.leaf h2).1 hk
    ·omega
   have:=zi2 ((hs.kids h3).2.2 m hm);omega
theorem zrQ(q:QueryM):Nst dgB (zkS q.hv q.hv.length++emP q.em q.em.length):=by
 by_cases h:q.hv=[]
 ·rw[h];exact(zzU q.em).nst
 ·rw[zd0 h];intro b s e;cases e;decide
theorem zn9(r:List Nat):zzS ([32,119,105,116,104,105,110,32]++r):=⟨⟨.cons (by decide),fun t e=>by cases e⟩,fun t e=>by cases e⟩
theorem zvw{a b:QueryM}(ha:QSnd a)(hb:QSnd b)(na:QNum a)(nb:QNum b)(h:zcs a=zcs b):a=b:=by
 have ra:Rd a.p:=⟨⟨_,ha.p⟩,na.p⟩
 have rb:Rd b.p:=⟨⟨_,hb.p⟩,nb.p⟩
 unfold zcs at h;rw[zqa (zi2 ha.p),zqa (zi2 hb.p)]at h;have h:txN a.p++([32,119,105,116,104,105,110,32]++(zb2 a.within.toNat++(zkS a.hv a.hv.length++emP a.em a.em.length)))=txN b.p++([32,119,105,116,104,105,110,32]++(zb2 b.within.toNat++(zkS b.hv b.hv.length++emP b.em b.em.length))):=by
  simpa only[yb3,yb6,yc2,yc1]using h
 obtain⟨q1,h⟩:=zn1 (zjR a.p) a.p b.p _ _ (Nat.le_refl _) ra rb (zn9 _) (zn9 _) h;have h:=List.append_cancel_left h;obtain⟨q2,h⟩:=zeM (zrQ a) (zrQ b) h;obtain⟨q3,h⟩:=zwQ ha.hv hb.hv (zzU _) (zzU _) h;have q4:=zzj ha.em hb.em h;have w1:=na.within;have w2:=nb.within;have q2:a.within=b.within:=by omega
 obtain⟨p,w,hv,em⟩:=a;obtain⟨p',w',hv',em'⟩:=b;simp only at q1 q2 q3 q4;rw[q1,q2,q3,q4]
def upB(b:Nat):Bool:=decide (65<=b%256/\b%256<=90)
def upN(l:List Nat):Nat:=l.countP upB
theorem upA(a b:List Nat):upN (a++b)=upN a+upN b:=List.countP_append
theorem upC(b:Nat)(l:List Nat):upN (b::l)=upN l+(if upB b=true then 1 else 0):=List.countP_cons
theorem up0{l:List Nat}(h:∀b∈l,upB b=false):upN l=0:=List.countP_eq_zero.2 fun b hb=>by rw[h b hb];simp
theorem zgU{A:Type}{g:A->List Nat}{sep:List Nat}(hs:upN sep=0):∀l:List A,upN (zaO sep (l.map g))=(l.map fun x=>upN (g x)).sum
 |[]=>rfl
 |[a]=>by simp[zaO]
 |a::c::t=>by
  show upN (g a++(sep++zaO sep ((c::t).map g)))=_;rw[upA,upA,hs,zgU hs (c::t)];simp
theorem zBX{A:Type}{f:A->Nat}:∀{l:List A},(∀x∈l,f x=0)->(l.map f).sum=0
 |[],_=>rfl
 |a::r,h=>by
  rw[List.map_cons,List.sum_cons,h a ya5,zBX fun x hx=>h x (ya4 _ hx)]
theorem zj1(n:Nat):upN (zb2 n)=0:=up0 fun b hb=>by
 have:=zeL n b hb;unfold upB;exact decide_eq_false (by omega)
theorem zAU(x:Int):upN (zhZ x)=0:=by
 by_cases h:x<0
 ·rw[zdV h,upC,zj1];decide
 ·rw[zc8 h,zj1]
theorem zA3(x:Nat):upN (zmR x)=0:=by
 unfold zmR;rw[upA,upA,zc1,zgU (by decide),zBX fun i _=>zj1 i];decide
theorem zCP(n:Int):upN (opT n)=0:=by
 unfold opT;cases n==1<;>cases n==2<;>cases n==3<;>cases n==4<;>cases n==5<;>rfl
theorem zC7(n:Int):upN (fnT n)=0:=by
 unfold fnT;cases n==1<;>cases n==2<;>cases n==3<;>cases n==4<;>cases n==5<;>rfl
theorem zum(c:CondM):upN (zcf c)=0:=by unfold zcf;rw[upA,zCP,zAU]
theorem zxc(l:List CondM):upN (zcC l)=0:=by
 by_cases h:l=[]
 ·subst h;rfl
 ·rw[zbV h,upC,upA,zgU (by decide),zBX fun c _=>zum c];decide
theorem zyP{s:List Nat}(h:∀b∈s,lwB b=true):upN s=0:=up0 fun b hb=>by
 have:=h b hb;unfold lwB zmO at this;rw[ya2]at this;have h1:=ya9 this.1;unfold upB;exact decide_eq_false (by omega)
theorem zz1{s:List UInt8}(h:isE (nm s)=true\/zdu (nm s)=true):upN (zhA s)=0:=by
 cases s with
 |nil=>rfl
 |cons b t=>
  show upN (58::nm (b::t))=0;rw[upC,zyP (by
   rcases h with h |h
   ·cases h
   ·exact zvR h)]
  decide
theorem zuo{a:AtomM}(h:AtomRd a):upN (za4 a)=1:=by
 unfold za4 zsZ;rw[upA,upA,upA,zxc,zz1 h.name];have hb:upN (bif a.bnd then 64::zmR a.bound.toNat else[])=0:=by
  cases a.bnd
  ·rfl
  ·show upN (64::zmR _)=0;rw[upC,zA3];decide
 have hk:=h.kind;have h1:upB (65+a.kind.toNat)=true:=by
  unfold upB;exact decide_eq_true (by omega)
 rw[hb,upC,if_pos h1];rfl
theorem zBk(n:NodeM):upN (zjf n)=0:=by
 unfold zjf;cases n.mn==1&&n.mx==1
 ·show upN ([123]++zb2 n.mn.toNat++[44]++zb2 n.mx.toNat++[125])=0;rw[upA,upA,upA,upA,zj1,zj1];decide
 ·rfl
theorem zBd(b:Bool)(t:List Nat):upN (zeA b t)=upN t:=by
 cases b
 ·rfl
 ·show upN ([40]++t++[41])=_;rw[upA,upA];show 0+upN t+0=upN t;omega
theorem ztn:∀(d:Nat) (n:NodeM) (e:Int),zbk d n=true->NumN n->upN (zaJ d n)=(zbf e n).countP zdp
 |0,n,e,h,_=>by cases h
 |d+1,n,e,h,hN=>by
  have hs:=zkE h;have hk:=hs.kind;have inner:∀(sep:List Nat) (g:Int->Bool),upN sep=0->(n.kind=3\/n.kind=4)->upN (kidsG (zaJ d) sep g n.kids n.kids.length)=(zbf e n).countP zdp:=fun sep g hsep hk=>by
   rw[zdx _ _ _ _ _ (Nat.le_refl _),List.take_length,zgU hsep,za7,List.countP_cons_of_neg (by
    have:zdp (e,n)=false:=by
     show(n.kind==1||n.kind==2)=false;rcases hk with hk |hk<;>rw[hk]<;>rfl
    rw[this];simp),List.countP_flatMap]
   congr 1;exact List.map_congr_left fun m hm=>by
    rw[zBd];exact ztn d m (e+1) ((hs.kids (by omega)).2.2 m hm) (hN.kid hm)
  have hc:n.kind=1\/n.kind=2\/n.kind=3\/n.kind=4:=by omega
  have leaf:(n.kind=1\/n.kind=2)->(zbf e n).countP zdp=1:=fun hk=>by
   rw[za7,(hs.leaf (by omega)).1];have:zdp (e,n)=true:=by
    show(n.kind==1||n.kind==2)=true;rcases hk with hk |hk<;>rw[hk]<;>rfl
   rw[List.countP_cons_of_pos this];rfl
  rcases hc with hc |hc |hc |hc
  ·rw[leaf (.inl hc),zaJ,hc];show upN (za4 n.atom++zjf n)=1;rw[upA,zuo (zhm (hs.leaf (by omega)).2 hN.self),zBk]
  ·rw[leaf (.inr hc),zaJ,hc];show upN ([110,111,116,32]++za4 n.atom)=1;rw[upA,zuo (zhm (hs.leaf (by omega)).2 hN.self)];decide
  ·rw[zaJ,hc];show upN (zef (zaJ d) n n.kids.length)=_;rw[zje hc,inner _ _ (by decide) (.inl hc)]
  ·rw[zaJ,hc];show upN (zef (zaJ d) n n.kids.length)=_;rw[ziC hc,inner _ _ (by decide) (.inr hc)]
theorem zys{a:AggM}(h:zeQ a=true):upN (zkO a)=0:=by
 unfold zkO;rw[upA,upA,upA,zC7,zyP (zoK h)];decide
theorem zBs{l:List HaveM}(h:∀x∈l,zeQ x.agg=true/\opB x.cond.op=true):upN (zkS l l.length)=0:=by
 by_cases e:l=[]
 ·subst e;rfl
 ·rw[zd0 e,upA,zgU (by decide),zBX fun x hx=>by unfold zym;rw[upA,upA,zys (h x hx).1,zum];decide];decide
theorem zDh{l:List AggM}(h:∀x∈l,zeQ x=true):upN (emP l l.length)=0:=by
 by_cases e:l=[]
 ·subst e;rfl
 ·rw[zfE e,upA,zgU (by decide),zBX fun x hx=>zys (h x hx)];decide
theorem zwm{q:QueryM}(h:QSnd q)(hN:QNum q):upN (zcs q)=(zu6 q.p).length:=by
 unfold zcs;rw[upA,upA,upA,ztn 200 q.p 1 h.p hN.p,zBs h.hv,zDh h.em];have h1:upN ([[32,119,105,116,104,105,110,32],zb2 q.within.toNat].flatten)=0:=by
  simp only[yb3,yb6,yc2];rw[upA,zj1];decide
 rw[h1];show(zbf 1 q.p).countP zdp=(zlu q.p zdp zj0).length;unfold zlu;rw[h.p];show _=(((zbf 1 q.p).filter zdp).map zj0).length;rw[yb7,List.countP_eq_length_filter]
theorem zvd{f:Nat->Bool}{n m:Nat}(h:zr1 f n m=true):n=m/\∀i,i<n->f i=true:=by
 unfold zr1 at h;simp only[ya2,beq_iff_eq,yd1,List.mem_range]at h;exact⟨by omega,h.2⟩
theorem zwK{A:Type}{x:A}{a b:List A}(hl:a.length=b.length)(h:∀i,i<a.length->a.getD i x=b.getD i x):a=b:=by
 apply List.ext_getElem hl;intro i h1 h2;have:=h i h1;rw[ya8,ya8,yb5 h1,yb5 h2]at this;exact this
theorem zlv{A:Type}[Inhabited A]{f:A->A->Bool}(hf:∀x y,f x y=true->x=y){a b:List A}(h:zlW f a b=true):a=b:=by
 obtain⟨h1,h2⟩:=zvd h;exact zwK h1 fun i hi=>hf _ _ (h2 i hi)
theorem zud{a b:List UInt8}(h:zbY (nm a) (nm b)=true):a=b:=by
 rw[zeg,beq_iff_eq]at h;unfold nm at h;rw[List.map_map,List.map_map]at h;have:∀l:List UInt8,l.map (UInt8.ofNat ∘ UInt8.toNat)=l:=fun l=>by
  rw[show(UInt8.ofNat ∘ UInt8.toNat)=id from funext fun x=>by simp,List.map_id]
 rw[this,this]at h;exact h
theorem zrC{a b:CondM}(h:zmd a b=true):a=b:=by
 unfold zmd at h;simp only[ya2,beq_iff_eq]at h;obtain⟨x,y⟩:=a;obtain⟨x',y'⟩:=b;simp only at h;rw[h.1,h.2]
theorem zu8{a b:AggM}(h:zwz a b=true):a=b:=by
 unfold zwz at h;simp only[ya2,beq_iff_eq]at h;have h2:=zud h.2;obtain⟨x,y⟩:=a;obtain⟨x',y'⟩:=b;simp only at h h2;rw[h.1,h2]
theorem zws{a b:HaveM}(h:zoz a b=true):a=b:=by
 unfold zoz at h;simp only[ya2]at h;have h1:=zu8 h.1;have h2:=zrC h.2;obtain⟨x,y⟩:=a;obtain⟨x',y'⟩:=b;simp only at h1 h2;rw[h1,h2]
theorem zxy{a b:AtomM}(h:zsA a b=true):a=b:=by
 unfold zsA at h;simp only[ya2,beq_iff_eq]at h;obtain⟨h1,h2,h3,h4,h5⟩:=h;have h4:=zud h4;have h5:=zlv (fun x y=>zrC) h5;obtain⟨k,bn,x,cs,name⟩:=a;obtain⟨k',bn',x',cs',name'⟩:=b;simp only at h1 h2 h3 h4 h5;rw[h1,h2,h3,h4,h5]
theorem zp7:∀{d:Nat} {a b:NodeM},zjW d a b=true->a=b
 |0,_,_,h=>by cases h
 |d+1,a,b,h=>by
  unfold zjW zxl at h;simp only[ya2,beq_iff_eq]at h;obtain⟨h1,h2,h3,h4,h5⟩:=h;obtain⟨q1,q2⟩:=zvd h5;refine zhX h1 h2 h3 (zxy h4) (List.ext_getElem q1 fun i i1 i2=>?_);have:=zp7 (q2 i i1);rw[zja i1,zja i2]at this;exact this
theorem zx1{d:Nat}{a b:QueryM}(h:zon d a b=true):a=b:=by
 unfold zon at h;simp only[ya2,beq_iff_eq]at h;obtain⟨h1,h2,h3,h4⟩:=h;have h1:=zp7 h1;have h3:=zlv (fun x y=>zws) h3;have h4:=zlv (fun x y=>zu8) h4;obtain⟨p,w,hv,em⟩:=a;obtain⟨p',w',hv',em'⟩:=b;simp only at h1 h2 h3 h4;rw[h1,h2,h3,h4]
def BB(l:List Nat):Prop:=∀b∈l,b<256
theorem BB.app{a b:List Nat}(h:BB a)(k:BB b):BB (a++b):=fun x hx=>(List.mem_append.1 hx).elim (h x) (k x)
theorem BB.cons{x:Nat}{l:List Nat}(h:x<256)(k:BB l):BB (x::l):=fun y hy=>by
 rcases List.mem_cons.1 hy with rfl |hy
 ·exact h
 ·exact k y hy
theorem BB.nil:BB []:=fun b h=>by cases h
theorem zit{A:Type}{g:A->List Nat}{sep:List Nat}(hs:BB sep):∀l:List A,(∀x∈l,BB (g x))->BB (zaO sep (l.map g))
 |[],_=>.nil
 |[a],h=>h a ya5
 |a::c::t,h=>by
  show BB (g a++(sep++zaO sep ((c::t).map g)));exact(h a ya5).app (hs.app (zit hs (c::t) fun x hx=>h x (ya4 _ hx)))
theorem zvp(c:CondM):BB (zcf c):=BB.app (zyu _) (zuP _)
theorem zwH(l:List CondM):BB (zcC l):=by
 by_cases h:l=[]
 ·subst h;exact .nil
 ·rw[zbV h];exact .cons (by decide) ((zit (.cons (by decide) .nil) l fun c _=>zvp c).app (.cons (by decide) .nil))
theorem zza(s:List UInt8):BB (zhA s):=by
 cases s with
 |nil=>exact .nil
 |cons b t=>exact .cons (by decide) zvC
theorem ztU{a:AtomM}(h:AtomRd a):BB (za4 a):=by
 unfold za4 zsZ;have hk:=h.kind;refine((BB.app (.cons (by omega) .nil) ?_).app (zwH _)).app (zza _);cases a.bnd
 ·exact .nil
 ·exact .cons (by decide) (zoL _)
theorem zBz(n:NodeM):BB (zjf n):=by
 unfold zjf;cases n.mn==1&&n.mx==1
 ·show BB ([123]++zb2 n.mn.toNat++[44]++zb2 n.mx.toNat++[125]);exact((((BB.cons (by decide) .nil).app (zdZ _)).app (.cons (by decide) .nil)).app (zdZ _)).app (.cons (by decide) .nil)
 ·exact .nil
theorem zBY{b:Bool}{t:List Nat}(h:BB t):BB (zeA b t):=by
 cases b
 ·exact h
 ·show BB ([40]++t++[41]);exact((BB.cons (by decide) .nil).app h).app (.cons (by decide) .nil)
theorem zuv:∀(d:Nat) (n:NodeM),zbk d n=true->NumN n->BB (zaJ d n)
 |0,n,h,_=>by cases h
 |d+1,n,h,hN=>by
  have hs:=zkE h;have hk:=hs.kind;have inner:∀(sep:List Nat) (g:Int->Bool),BB sep->(n.kind=3\/n.kind=4)->BB (kidsG (zaJ d) sep g n.kids n.kids.length):=fun sep g hsep hk=>by
   rw[zdx _ _ _ _ _ (Nat.le_refl _),List.take_length];exact zit hsep _ fun m hm=>zBY (zuv d m ((hs.kids (by omega)).2.2 m hm) (hN.kid hm))
  have hc:n.kind=1\/n.kind=2\/n.kind=3\/n.kind=4:=by omega
  have c3:∀{x y z:Nat},x<256->y<256->z<256->BB [x,y,z]:=fun h1 h2 h3=>.cons h1 (.cons h2 (.cons h3 .nil))
  rcases hc with hc |hc |hc |hc
  ·rw[zaJ,hc];exact(ztU (zhm (hs.leaf (by omega)).2 hN.self)).app (zBz n)
  ·rw[zaJ,hc];exact BB.app (.cons (by decide) (c3 (by decide) (by decide) (by decide))) (ztU (zhm (hs.leaf (by omega)).2 hN.self))
  ·rw[zaJ,hc];show BB (zef (zaJ d) n n.kids.length);rw[zje hc];exact inner _ _ (c3 (by decide) (by decide) (by decide)) (.inl hc)
  ·rw[zaJ,hc];show BB (zef (zaJ d) n n.kids.length);rw[ziC hc];exact inner _ _ (c3 (by decide) (by decide) (by decide)) (.inr hc)
theorem zx6(a:AggM):BB (zkO a):=(((BB.app (zB2 _) (.cons (by decide) .nil)).app zvC).app (.cons (by decide) .nil))
theorem zk3{l:List Nat}(h:(l.all fun b=>decide (b<256))=true):BB l:=fun b hb=>of_decide_eq_true (List.all_eq_true.1 h b hb)
theorem zAS(l:List HaveM):BB (zkS l l.length):=by
 by_cases e:l=[]
 ·subst e;exact .nil
 ·rw[zd0 e];exact(zk3 (by decide)).app (zit (zk3 (by decide)) l fun x _=>(zx6 _).app ((zk3 (by decide)).app (zvp _)))
theorem zC9(l:List AggM):BB (emP l l.length):=by
 by_cases e:l=[]
 ·subst e;exact .nil
 ·rw[zfE e];exact(zk3 (by decide)).app (zit (zk3 (by decide)) l fun x _=>zx6 _)
theorem zq2{q:QueryM}(h:QSnd q)(hN:QNum q):BB (zcs q):=by
 unfold zcs;refine(((zuv 200 q.p h.p hN.p).app ?_).app (zAS _)).app (zC9 _);simp only[yb3,yb6,yc2];exact(zk3 (by decide)).app (zdZ _)
theorem zBv{s t:List Nat}(hs:BB s)(ht:BB t)(h:zbY s t=true):s=t:=by
 rw[zeg,beq_iff_eq]at h;have back:∀l:List Nat,BB l->(l.map UInt8.ofNat).map UInt8.toNat=l:=fun l hl=>by
  rw[List.map_map];refine(List.map_congr_left fun b hb=>?_).trans (List.map_id l);have:=hl b hb;show(UInt8.ofNat b).toNat=b;have h2:(UInt8.ofNat b).toNat=b%256:=by simp
  omega
 rw[<- back s hs,h,back t ht]
theorem zAz{a b:QueryM}(ha:QSnd a)(hb:QSnd b)(na:QNum a)(nb:QNum b)(hd:a.p.dep<=210):zbY (zcs a) (zcs b)=zon 210 a b:=by
 cases h:zon 210 a b with
 |true=>
  have:=zx1 h;rw[this,zeg];simp
 |false=>
  cases h2:zbY (zcs a) (zcs b) with
  |false=>rfl
  |true=>
   have h3:=zvw ha hb na nb (zBv (zq2 ha na) (zq2 hb nb) h2);subst h3;rw[zsJ 210 a hd]at h;cases h
end Go.Proofs.YtmgibblhcoimfaaDoor
