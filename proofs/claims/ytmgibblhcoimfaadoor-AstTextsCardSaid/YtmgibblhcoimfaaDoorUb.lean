import Derived.Test.YtmgibblhcoimfaaDoorUa
import Derived.Test.YtmgibblhcoimfaaDoorPi
set_option linter.unusedSimpArgs false
set_option linter.unusedVariables false
set_option maxRecDepth 100000
namespace Go.Proofs.YtmgibblhcoimfaaDoor
open Go Go.Cx
theorem zhm{a:AtomM}(h:zmk a=true)(hn:ANum a):AtomRd a:=by
 unfold zmk at h;simp only[ya2,Bool.or_eq_true,decide_eq_true_eq,Bool.not_eq_true',beq_iff_eq]at h;obtain⟨⟨h1,h2⟩,h3,h4,h5⟩:=h;refine⟨⟨h1,h2⟩,hn.bound,fun hb=>?_,fun c hc=>?_,h4⟩
 ·rcases h3 with h3 |h3
  ·rw[hb]at h3;cases h3
  ·exact h3
 ·have:=List.any_eq_false.1 h5 c hc;unfold opB at this;simp[inB]at this;omega
theorem zhX{n m:NodeM}(h1:n.kind=m.kind)(h2:n.mn=m.mn)(h3:n.mx=m.mx)(h4:n.atom=m.atom)(h5:n.kids=m.kids):n=m:=by
 rw[n.eta,m.eta,h1,h2,h3,h4,h5]
theorem zwI{n m:NodeM}{r r':List Nat}(h0:0<=n.mn/\0<=n.mx)(h1:0<=m.mn/\0<=m.mx)(hr:Hd [32,41] r)(hr':Hd [32,41] r')(h:zjf n++r=zjf m++r'):(n.mn=m.mn/\n.mx=m.mx)/\r=r':=by
 have no:∀{s s':List Nat},Hd [32,41] s->s≠123::s':=fun hs e=>by
  have:=hs _ _ e;simp at this
 have n44:∀s,Nst dgB (44::s):=fun s b t e=>by cases e;rfl
 have n125:∀s,Nst dgB (125::s):=fun s b t e=>by cases e;rfl
 by_cases e:n.mn=1/\n.mx=1<;>by_cases e':m.mn=1/\m.mx=1
 ·rw[rep0 e.1 e.2,rep0 e'.1 e'.2]at h;exact⟨by omega,h⟩
 ·rw[rep0 e.1 e.2,zte e']at h;exact absurd h (no hr)
 ·rw[zte e,rep0 e'.1 e'.2]at h;exact absurd h.symm (no hr')
 ·rw[zte e,zte e']at h;simp only[yb3,yb6,yc2,List.cons_append,List.nil_append,yc1,List.cons.injEq,true_and]at h;obtain⟨q1,h⟩:=zeM (n44 _) (n44 _) h;simp only[List.cons.injEq,true_and]at h;obtain⟨q2,h⟩:=zeM (n125 _) (n125 _) h;simp only[List.cons.injEq,true_and]at h;exact⟨by omega,h⟩
theorem zyM(n:NodeM){r:List Nat}(h:Hd [32,41] r):Hd [32,41,123] (zjf n++r):=by
 by_cases e:n.mn=1/\n.mx=1
 ·rw[rep0 e.1 e.2];exact h.sub (by decide)
 ·rw[zte e];exact .cons (by decide)
def zlS(n:NodeM):List Nat:=bif n.kind==1 then za4 n.atom++zjf n else[110,111,116,32]++za4 n.atom
theorem zmV{n:NodeM}(hk:n.kind=1\/n.kind=2)(h:0<=n.atom.kind/\n.atom.kind<=25):∃b s,zlS n=b::s/\b≠40:=by
 rcases hk with hk |hk
 ·unfold zlS za4;rw[hk];exact⟨65+n.atom.kind.toNat,_,rfl,by omega⟩
 ·unfold zlS;rw[hk];exact⟨110,_,rfl,by omega⟩
theorem zv6{d d':Nat}{n m:NodeM}{r r':List Nat}(hn:Snd d n)(hm:Snd d' m)(kn:n.kind<=2)(km:m.kind<=2)(an:ANum n.atom)(am:ANum m.atom)(hr:Hd [32,41] r)(hr':Hd [32,41] r')(h:zlS n++r=zlS m++r'):n=m/\r=r':=by
 obtain⟨in0,bn⟩:=hn.leaf kn;obtain⟨im0,bm⟩:=hm.leaf km;have rn:=zhm bn an;have rm:=zhm bm am;have k1:=hn.kind;have k2:=hm.kind;have e1:n.kind=1\/n.kind=2:=by omega
 have e2:m.kind=1\/m.kind=2:=by omega
 have s1:=hn.rep;have s2:=hm.rep;have sub:∀{s:List Nat},Hd [32,41] s->Hd [32,41,123] s:=fun h=>h.sub (by decide)
 unfold zlS at h;rcases e1 with e1 |e1<;>rcases e2 with e2 |e2
 ·rw[e1,e2]at h;have h:(za4 n.atom++zjf n)++r=(za4 m.atom++zjf m)++r':=h;simp only[yc1]at h;obtain⟨q1,h⟩:=zm2 rn rm (zyM n hr) (zyM m hr') h;obtain⟨q2,h⟩:=zwI (by omega) (by omega) hr hr' h;exact⟨zhX (by omega) q2.1 q2.2 q1 (by rw[in0,im0]),h⟩
 ·exfalso;rw[e1,e2]at h;have h:(za4 n.atom++zjf n)++r=([110,111,116,32]++za4 m.atom)++r':=h;have:=rn.kind;unfold za4 at h;simp only[List.cons_append,List.nil_append,yc1,List.cons.injEq]at h;omega
 ·exfalso;rw[e1,e2]at h;have h:([110,111,116,32]++za4 n.atom)++r=(za4 m.atom++zjf m)++r':=h;have:=rm.kind;unfold za4 at h;simp only[List.cons_append,List.nil_append,yc1,List.cons.injEq]at h;omega
 ·rw[e1,e2]at h;have h:([110,111,116,32]++za4 n.atom)++r=([110,111,116,32]++za4 m.atom)++r':=h;simp only[List.cons_append,List.nil_append,List.cons.injEq,true_and]at h;obtain⟨q1,h⟩:=zm2 rn rm (sub hr) (sub hr') h;have z1:=hn.rep0 (by omega);have z2:=hm.rep0 (by omega);exact⟨zhX (by omega) (by omega) (by omega) q1 (by rw[in0,im0]),h⟩
structure Rd(n:NodeM):Prop where
 snd:∃d,zbk d n=true
 num:NumN n
theorem Rd.sd{n:NodeM}(h:Rd n):∃d,Snd d n:=by
 obtain⟨d,hd⟩:=h.snd;cases d with
 |zero=>cases hd
 |succ d=>exact⟨d,zkE hd⟩
theorem Rd.kid{n m:NodeM}(h:Rd n)(hm:m∈n.kids):Rd m:=by
 obtain⟨d,hd⟩:=h.sd;refine⟨⟨d,?_⟩,h.num.kid hm⟩;by_cases hk:n.kind<=2
 ·rw[(hd.leaf hk).1]at hm;cases hm
 ·exact(hd.kids (by omega)).2.2 m hm
theorem zk2{f g:NodeM->List Nat}{n:NodeM}(h:∀m∈n.kids,f m=g m):∀k,k<=n.kids.length->zef f n k=zef g n k
 |0,_=>rfl
 |k+1,hk=>by rw[zef,zef,zk2 h k (by omega),h _ (zdO (by omega))]
theorem zk0:∀{d e:Nat} {n:NodeM},n.dep<=d->n.dep<=e->zaJ d n=zaJ e n
 |0,_,n,h,_=>by rw[zbi]at h;omega
 |_+1,0,n,_,h=>by rw[zbi]at h;omega
 |d+1,e+1,n,h1,h2=>by
  rw[zaJ,zaJ,zk2 (fun m hm=>zk0 (d:=d) (e:=e) (by have:=zft hm;omega) (by have:=zft hm;omega)) _ (Nat.le_refl _)]
def txN(n:NodeM):List Nat:=zaJ n.dep n
theorem zqa{d:Nat}{n:NodeM}(h:n.dep<=d):zaJ d n=txN n:=zk0 h (Nat.le_refl _)
noncomputable def zid(u:NodeM):List Nat:=zeA (gS u.kind) (txN u)
def zct(n:NodeM):List NodeM:=bif n.kind==3 then n.kids else[n]
def zfB(n:NodeM):List NodeM:=bif n.kind==4 then n.kids else[n]
noncomputable def zsV(k:NodeM):List Nat:=zaO [32,59,32] ((zct k).map zid)
theorem zdx(f:NodeM->List Nat)(sep:List Nat)(g:Int->Bool)(l:List NodeM):∀k,k<=l.length->kidsG f sep g l k=zaO sep ((l.take k).map fun m=>zeA (g m.kind) (f m))
 |0,_=>rfl
 |k+1,hk=>by
  have ht:(l.take (k+1)).map (fun m=>zeA (g m.kind) (f m))=(l.take k).map (fun m=>zeA (g m.kind) (f m))++[zeA (g (atN l k).kind) (f (atN l k))]:=by
   rw[List.take_add_one,yb5 (by omega),zja (by omega),List.map_append];rfl
  rw[kidsG,zdx f sep g l k (by omega),ht];cases k with
  |zero=>simp[zaO]
  |succ k=>
   rw[if_neg (Nat.succ_ne_zero k),zdv _ _ _ (by
    intro hh;have:((l.take (k+1)).map fun m=>zeA (g m.kind) (f m)).length=0:=by rw[hh];rfl
    rw[yb7,List.length_take]at this;omega)]
   simp
theorem zxf{n:NodeM}(h:n.kind=1\/n.kind=2):txN n=zlS n:=by
 unfold txN zlS;rw[zbi];rcases h with h |h<;>rw[zaJ,h]<;>rfl
theorem zzR{n:NodeM}(h:n.kind=3):txN n=zaO [32,59,32] (n.kids.map zid):=by
 unfold txN;rw[zbi,zaJ,h,zje h,zdx _ _ _ _ _ (Nat.le_refl _),List.take_length];have:n.kids.map (fun m=>zeA (gS m.kind) (zaJ (depL n.kids) m))=n.kids.map zid:=List.map_congr_left fun m hm=>by
  rw[zqa (ziG hm)];rfl
 rw[this];rfl
theorem zgs{k:NodeM}(h:k.kind=1\/k.kind=2):zsV k=txN k:=by
 unfold zsV zct zid;rcases h with h |h<;>rw[h]
 ·show zeA (gS k.kind) (txN k)=_;rw[h];rfl
 ·show zeA (gS k.kind) (txN k)=_;rw[h];rfl
theorem zrr{k:NodeM}(h:k.kind=3):zsV k=txN k:=by
 rw[zzR h];unfold zsV zct;rw[h];rfl
theorem zxq{k:NodeM}(h:k.kind=4):zsV k=zeA true (txN k):=by
 unfold zsV zct;rw[h];show zeA (gS k.kind) (txN k)=_;rw[h];rfl
theorem zqA{n:NodeM}(hn:Rd n):txN n=zaO [32,124,32] ((zfB n).map zsV):=by
 obtain⟨d,hd⟩:=hn.sd;have hk:=hd.kind;have hc:n.kind=1\/n.kind=2\/n.kind=3\/n.kind=4:=by omega
 rcases hc with hc |hc |hc |hc
 ·unfold zfB;rw[hc];exact(zgs (.inl hc)).symm
 ·unfold zfB;rw[hc];exact(zgs (.inr hc)).symm
 ·unfold zfB;rw[hc];exact(zrr hc).symm
 ·unfold zfB;rw[hc];show txN n=zaO [32,124,32] (n.kids.map zsV);unfold txN;rw[zbi,zaJ,hc,ziC hc,zdx _ _ _ _ _ (Nat.le_refl _),List.take_length];have:n.kids.map (fun m=>zeA (gA m.kind) (zaJ (depL n.kids) m))=n.kids.map zsV:=List.map_congr_left fun m hm=>by
   rw[zqa (ziG hm)];obtain⟨d',hd'⟩:=(hn.kid hm).sd;have hk':=hd'.kind;have hc':m.kind=1\/m.kind=2\/m.kind=3\/m.kind=4:=by omega
   rcases hc' with hc' |hc' |hc' |hc'
   ·rw[zgs (.inl hc'),hc'];rfl
   ·rw[zgs (.inr hc'),hc'];rfl
   ·rw[zrr hc',hc'];rfl
   ·rw[zxq hc',hc'];rfl
  rw[this];rfl
theorem zyY{a b:AtomM}(h:zjX a=true)(h':zjX b=true):a=b:=by
 have one:∀{a:AtomM},zjX a=true->a=⟨0,false,0,[],[]⟩:=fun{a} h=>by
  obtain⟨k,b,x,cs,name⟩:=a;unfold zjX at h;simp only[ya2,Bool.not_eq_true',beq_iff_eq]at h;obtain⟨h1,h2,h3,h4,h5⟩:=h;have h4:cs=[]:=List.length_eq_zero_iff.1 (by omega);have h5:name=[]:=by
   cases name with
   |nil=>rfl
   |cons c t=>cases h5
  rw[h1,h2,h3,h4,h5]
 rw[one h,one h']
theorem zrL{n m:NodeM}(hn:Rd n)(hm:Rd m)(h3:3<=n.kind)(hk:n.kind=m.kind)(h:n.kids=m.kids):n=m:=by
 obtain⟨d,hd⟩:=hn.sd;obtain⟨d',hd'⟩:=hm.sd;have a1:=hd.rep0 (by omega);have a2:=hd'.rep0 (by omega);exact zhX hk (by omega) (by omega) (zyY (hd.kids h3).2.1 (hd'.kids (by omega)).2.1) h
theorem zty{n m:NodeM}(hn:Rd n)(hm:Rd m)(h:zct n=zct m):n=m:=by
 obtain⟨d,hd⟩:=hn.sd;obtain⟨d',hd'⟩:=hm.sd;unfold zct at h;by_cases e:n.kind=3<;>by_cases e':m.kind=3
 ·rw[e,e']at h;exact zrL hn hm (by omega) (by omega) h
 ·rw[e,beq_false_of_ne e']at h;have h:n.kids=[m]:=h;have:=(hd.kids (by omega)).1;rw[h]at this;simp at this
 ·rw[e',beq_false_of_ne e]at h;have h:[n]=m.kids:=h;have:=(hd'.kids (by omega)).1;rw[<- h]at this;simp at this
 ·rw[beq_false_of_ne e,beq_false_of_ne e']at h;simpa using h
theorem zxZ{n m:NodeM}(hn:Rd n)(hm:Rd m)(h:zfB n=zfB m):n=m:=by
 obtain⟨d,hd⟩:=hn.sd;obtain⟨d',hd'⟩:=hm.sd;unfold zfB at h;by_cases e:n.kind=4<;>by_cases e':m.kind=4
 ·rw[e,e']at h;exact zrL hn hm (by omega) (by omega) h
 ·rw[e,beq_false_of_ne e']at h;have h:n.kids=[m]:=h;have:=(hd.kids (by omega)).1;rw[h]at this;simp at this
 ·rw[e',beq_false_of_ne e]at h;have h:[n]=m.kids:=h;have:=(hd'.kids (by omega)).1;rw[<- h]at this;simp at this
 ·rw[beq_false_of_ne e,beq_false_of_ne e']at h;simpa using h
def zBD(r:List Nat):Prop:=Hd [32,41] r/\∀t,r≠[32,59,32]++t
def zzS(r:List Nat):Prop:=zBD r/\∀t,r≠[32,124,32]++t
theorem zrp(r:List Nat):zzS (41::r):=⟨⟨.cons (by decide),fun t e=>by cases e⟩,fun t e=>by cases e⟩
def zjR(n:NodeM):Nat:=(zbf 1 n).length
theorem zs1{s:Nat}(ih:∀n m r r',zjR n<=s->Rd n->Rd m->zzS r->zzS r'->txN n++r=txN m++r'->n=m/\r=r'):
  ∀(u v:NodeM) (r r':List Nat),(Rd u/\(3<=u.kind->zjR u<=s))->Rd v->Hd [32,41] r->Hd [32,41] r'->zid u++r=zid v++r'->u=v/\r=r':=by
 intro u v r r' ⟨hu,hz⟩ hv hr hr' h;obtain⟨d,hd⟩:=hu.sd;obtain⟨d',hd'⟩:=hv.sd;have k1:=hd.kind;have k2:=hd'.kind;have leafU:∀{w:NodeM},(w.kind=1\/w.kind=2)->zid w=zlS w:=fun{w} hw=>by
  rw[<- zxf hw];unfold zid;rcases hw with hw |hw<;>rw[hw]<;>rfl
 have parU:∀{w:NodeM},3<=w.kind/\w.kind<=4->zid w=40::(txN w++[41]):=fun{w} hw=>by
  unfold zid;have:w.kind=3\/w.kind=4:=by omega
  rcases this with hw |hw<;>rw[hw]<;>rfl
 by_cases e:u.kind<=2<;>by_cases e':v.kind<=2
 ·rw[leafU (by omega),leafU (by omega)]at h;exact zv6 hd hd' e e' hu.num.self hv.num.self hr hr' h
 ·exfalso;obtain⟨b,t,h1,h2⟩:=zmV (n:=u) (by omega) (zhm (hd.leaf e).2 hu.num.self).kind;rw[leafU (by omega),parU (by omega),h1]at h;simp only[List.cons_append,List.cons.injEq]at h;exact h2 h.1
 ·exfalso;obtain⟨b,t,h1,h2⟩:=zmV (n:=v) (by omega) (zhm (hd'.leaf e').2 hv.num.self).kind;rw[leafU (w:=v) (by omega),parU (by omega),h1]at h;simp only[List.cons_append,List.cons.injEq]at h;exact h2 h.1.symm
 ·rw[parU (by omega),parU (by omega)]at h;simp only[List.cons_append,yc1,List.nil_append,List.cons.injEq,true_and]at h;obtain⟨q1,q2⟩:=ih u v _ _ (hz (by omega)) hu hv (zrp r) (zrp r') h;exact⟨q1,by simpa using q2⟩
theorem zh8{k u:NodeM}(hk:Rd k)(hu:u∈zct k):Rd u/\(u=k\/(k.kind=3/\u∈k.kids)):=by
 unfold zct at hu;by_cases e:k.kind=3
 ·rw[e]at hu;have hu:u∈k.kids:=hu;exact⟨hk.kid hu,.inr ⟨e,hu⟩⟩
 ·rw[beq_false_of_ne e]at hu;have hu:u∈[k]:=hu;rw[yc7]at hu;subst hu;exact⟨hk,.inl rfl⟩
theorem zjr{k u:NodeM}(hk:Rd k)(hu:u∈zfB k):Rd u/\(u=k/\k.kind≠4\/(k.kind=4/\u∈k.kids)):=by
 unfold zfB at hu;by_cases e:k.kind=4
 ·rw[e]at hu;have hu:u∈k.kids:=hu;exact⟨hk.kid hu,.inr ⟨e,hu⟩⟩
 ·rw[beq_false_of_ne e]at hu;have hu:u∈[k]:=hu;rw[yc7]at hu;subst hu;exact⟨hk,.inl ⟨rfl,e⟩⟩
theorem zq5{k:NodeM}(hk:Rd k):zct k≠[]:=by
 obtain⟨d,hd⟩:=hk.sd;unfold zct;by_cases e:k.kind=3
 ·have:=(hd.kids (by omega)).1;rw[e];intro h;have h:k.kids=[]:=h;rw[h]at this;simp at this
 ·rw[beq_false_of_ne e];simp
theorem zu9{k:NodeM}(hk:Rd k):zfB k≠[]:=by
 obtain⟨d,hd⟩:=hk.sd;unfold zfB;by_cases e:k.kind=4
 ·have:=(hd.kids (by omega)).1;rw[e];intro h;have h:k.kids=[]:=h;rw[h]at this;simp at this
 ·rw[beq_false_of_ne e];simp
theorem zn1:∀(s:Nat) (n m:NodeM) (r r':List Nat),zjR n<=s->Rd n->Rd m->zzS r->zzS r'->txN n++r=txN m++r'->n=m/\r=r'
 |0,n,_,_,_,h,_,_,_,_,_=>by have:=zlp n;unfold zjR at h;omega
 |s+1,n,m,r,r',hs,hn,hm,hr,hr',h=>by
  have ih:=zn1 s;obtain⟨d,hd⟩:=hn.sd;have hkind:=hd.kind;rw[zqA hn,zqA hm]at h;have alt:∀(k k':NodeM) (r r':List Nat),(Rd k/\∀u∈zct k,3<=u.kind->zjR u<=s)->Rd k'->zBD r->zBD r'->zsV k++r=zsV k'++r'->k=k'/\r=r':=fun k k' r r' ⟨hk,hz⟩ hk' hr hr' h=>by
   obtain⟨q1,q2⟩:=zcY (g:=zid) (sep:=[32,59,32]) (E:=Hd [32,41]) (F:=zBD) (P:=fun u=>Rd u/\(3<=u.kind->zjR u<=s)) (Q:=Rd) (zs1 ih) (fun r h=>h.1) (fun r=>.cons (by decide)) (fun r t h e=>h.2 t e) (zct k) (zct k') r r' (zq5 hk) (zq5 hk') (fun u hu=>⟨(zh8 hk hu).1,hz u hu⟩) (fun u hu=>(zh8 hk' hu).1) hr hr' h;exact⟨zty hk hk' q1,q2⟩
  have hP:∀k∈zfB n,∀u∈zct k,3<=u.kind->zjR u<=s:=fun k hk u hu h3=>by
   have hb:=(zjr hn hk).2;have hu':=(zh8 (zjr hn hk).1 hu).2;unfold zjR at hs ⊢;rcases hb with⟨hb0,hb⟩ |⟨hb,hkk⟩
   ·rcases hu' with hu0 |⟨_,hu'⟩
    ·obtain⟨d2,hd2⟩:=(zh8 (zjr hn hk).1 hu).1.sd;have:=hd2.kind;have hk3:u.kind=3:=by rw[<- hb0,<- hu0]at hb;omega
     exfalso;rw[<- hu0]at hu;unfold zct at hu;rw[hk3]at hu;have hu:u∈u.kids:=hu;have:=zfP hu;omega
    ·have:=zfP hu';rw[hb0]at this;omega
   ·have h1:=zfP hkk;rcases hu' with hu0 |⟨_,hu'⟩
    ·rw[hu0];omega
    ·have:=zfP hu';omega
  obtain⟨q1,q2⟩:=zcY (g:=zsV) (sep:=[32,124,32]) (E:=zBD) (F:=zzS) (P:=fun k=>Rd k/\∀u∈zct k,3<=u.kind->zjR u<=s) (Q:=Rd) alt (fun r h=>h.1) (fun r=>⟨.cons (by decide),fun t e=>by cases e⟩) (fun r t h e=>h.2 t e) (zfB n) (zfB m) r r' (zu9 hn) (zu9 hm) (fun k hk=>⟨(zjr hn hk).1,hP k hk⟩) (fun k hk=>(zjr hm hk).1) hr hr' h;exact⟨zxZ hn hm q1,q2⟩
end Go.Proofs.YtmgibblhcoimfaaDoor
