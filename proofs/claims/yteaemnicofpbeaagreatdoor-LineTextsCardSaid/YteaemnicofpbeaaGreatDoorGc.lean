import Derived.Test.YteaemnicofpbeaaGreatDoorGb
import Derived.OrdersIn
import Derived.RecoverIn
set_option linter.unusedSimpArgs false
set_option linter.unusedVariables false
namespace Go.Cx
open Go Go.RowKit
variable{P:Program}
def Bas.withZ(B:Bas)(Z:Nat->Prop):Bas:=⟨B.w0,B.F,B.R,Z,B.hF,B.hR⟩
theorem Rel.reZ{B:Bas}{Z Z':Nat->Prop}{e:Env}{m:Mem}{w:World}(h:Rel (B.withZ Z) e m w)(hz:∀t,Z' t->Z t):Rel (B.withZ Z') e m w:=
 ⟨h.ok,h.inj0,h.own,h.rof,h.glb,h.dom,h.frm,fun t ht=>h.zlt t (hz t ht),fun t ht=>h.bar t (hz t ht)⟩
theorem Rel.sub{B:Bas}{e:Env}{m m1:Mem}{w:World}(h:Rel B e m w)(hn:m1.nxt=m.nxt)(hm:∀t o,m1.get t=some o->m.get t=some o):Rel B e m1 w:=
 ⟨fun t o ho=>h.ok t o (hm t o ho),fun t t' o o' b b' h1 h2=>h.inj0 t t' o o' b b' (hm _ _ h1) (hm _ _ h2),fun t o b h1=>h.own t o b (hm _ _ h1),fun t o b h1=>h.rof t o b (hm _ _ h1),h.glb,
  fun t ht=>h.dom t (by rw[<- hn];exact ht),h.frm,fun t ht=>by rw[hn];exact h.zlt t ht,h.bar⟩
theorem zvq{ih:Task->Res}{B:Bas}(hih:∀k,zbh P B k (ih k)){e:Env}{m m':Mem}{w:World}{t:Tmps}{a:Act}{o:Oper}{v:CV}{rr:Option Nat}{n:Nat}{K:Act->World->Prop}{Q:Exit->Act->World->Prop}
  (hr:Rel B e m w) (hT:TOk e t a.tmps) (h:znr ih m (cop P o.op m t)=some (v,m'))
  (hK:∀e1 V w1,Env.le e e1->den e1 v=some V->Rel B e1 m' w1->K (a.put o.dst V) w1):o.wpIn (FW rr) n P a w K Q:=by
 have hout:=ziJ (P:=P) (o:=o) hr hT;have hnd:(∀w,cop P o.op m t≠.no w)->(∀f args,cop P o.op m t≠.defer f args)->∀c,o.op≠.defer c:=fun h1 h2 c hc=>by
  rcases zdP (P:=P) (m:=m) (t:=t) hc with⟨w,hw⟩ |⟨f,args,hf⟩
  ·exact h1 w hw
  ·exact h2 f args hf
 generalize hq:cop P o.op m t=out at *;cases out with
 |mem u m1=>
  simp only[znr,ya0,yc4]at h;obtain⟨rfl,rfl⟩:=h;obtain⟨e1,V,w1,le1,hV,hr1,hrun⟩:=hout;rcases hrun with hrun |⟨hrun,rfl⟩
  ·exact zao (hnd (by simp) (by simp)) hrun (hK e1 V w1 le1 hV hr1)
  ·exact zao (hnd (by simp) (by simp)) hrun (hK e1 undef w1 le1 hV hr1)
 |call f args=>
  obtain⟨as,has,hrun⟩:=hout;have hcall:=hih (.call f args m);simp only[znr]at h;generalize ih (.call f args m)=res at h hcall;cases res with
  |ret u m1=>
   simp only[zwP,ya0,yc4]at h;obtain⟨rfl,rfl⟩:=h;rcases hcall with⟨henter,hc⟩ |⟨t0,off,rfl,rfl,rfl,hv⟩
   ·refine zao (hnd (by simp) (by simp)) (hrun.trans (henter _ _)) ?_;refine⟨fun hd=>by simp[FW,Fence.wide]at hd,zdb ((hc e as w has hr).mono ?_)⟩;rintro en w1 ⟨e1,V,le1,hV,rfl,hr1⟩;exact hK e1 V w1 le1 hV hr1
   ·obtain⟨V,l,hV,h5,rfl⟩:=zaj has;simp only[denL,ya0]at h5;subst h5;exact zao (hnd (by simp) (by simp)) (hrun.trans (hv V w)) (hK e V w (Env.le.refl e) hV hr)
  |no=>cases h
  |pan=>cases h
  |ex=>cases h
 |yield lo args=>
  obtain⟨as,b,has,hb,hrun⟩:=hout;have hy:=zmb hih lo args m;simp only[znr]at h;generalize zbN ih lo args m=res at h hy;cases res with
  |ret u m1=>
   simp only[zwP,ya0,yc4]at h;obtain⟨rfl,rfl⟩:=h;obtain⟨f,tmps,asg,body,k1,k2⟩:=hy e as b w rr (n - 1) hb has hr;refine zao (hnd (by simp) (by simp)) (hrun.trans k1) ?_;refine⟨fun hd=>by simp[FW,Fence.wide]at hd,k2.mono ?_⟩;rintro en w1 ⟨e1,V,le1,hV,rfl,hr1⟩;exact hK e1 V w1 le1 hV hr1
  |no=>cases h
  |pan=>cases h
  |ex=>cases h
 |no w=>cases h
 |val u=>cases h
 |recover=>cases h
 |defer f args=>cases h
 |panic u=>cases h
def Lst(listed:Array Bool)(j:Nat):Prop:=listed.getD j false=true
theorem zdQ{listed:Array Bool}{i j:Nat}(hi:i<listed.size):Lst (listed.setIfInBounds i true) j↔Lst listed j\/j=i:=by
 unfold Lst;rw[Array.getD_eq_getD_getElem?,Array.getD_eq_getD_getElem?,Array.getElem?_setIfInBounds];by_cases h:i=j
 ·subst h;simp[hi]
 ·rw[if_neg h];constructor
  ·exact .inl
  ·rintro(h' |rfl)
   ·exact h'
   ·exact absurd rfl h
section
variable(P)(ops:Array Oper)(t0:Tmps)(T0:Nat)(d:CD)(as:List (Nat×Nat×CO))(B:Bas)(e0:Env)(ds:List CDef)
def Zof(listed:Array Bool)(t:Nat):Prop:=B.Z t\/∃j,j<ops.size/\d.kn j=1/\¬Lst listed j/\t=T0+j
structure SimAt(listed:Array Bool)(a:Act)(w:World)(e:Env)(t:Tmps)(m:Mem)(c:Nat):Prop where
 size:listed.size=ops.size
 le:Env.le e0 e
 clos:zxj ops (Lst listed)
 cK:c<=d.K
 cw:∀k,k<d.K->(Lst listed (d.wi k)↔k<c)
 dok:DOk e ds a.defers
 tok:TOk e t a.tmps
 tsz:t.sz=t0.sz
 t1:∀(j:Nat) (q:Oper) (u:Nat),Lst listed j->ops[j]? = some q->q.dst=some u->t.get u=some (d.val j)
 t2:∀(u:Nat),(∀(j:Nat) (q:Oper),Lst listed j->ops[j]? = some q->q.dst≠some u)->t.get u=t0.get u
 rel:Rel (B.withZ (Zof ops T0 d B listed)) e m w
 ovr:Ovr (fun j=>Lst listed j/\zak (d.st c).2 j=false) as (d.st c).1 m
def Sim(c0:Nat)(listed:Array Bool)(a:Act)(w:World):Prop:=∃e t m c,c0<=c/\SimAt ops t0 T0 d as B e0 ds listed a w e t m c
end
structure FC(P:Program)(ih:Task->Res)(ops:Array Oper)(l:List (Oper×Nat))(t0:Tmps)(T0:Nat)(d:CD)(as:List (Nat×Nat×CO))(G:Nat->Prop)(c0:Nat):Prop where
 dsz:∀(i:Nat) (o:Oper) (u:Nat),G i->ops[i]? = some o->o.dst=some u->u<t0.sz
 k012:∀i,G i->d.kn i=0\/d.kn i=1\/d.kn i=2
 win:∀i,G i->d.kn i=2->∃k,k<d.K/\d.wi k=i
 wlt:∀k,k<d.K->d.wi k<ops.size/\d.kn (d.wi k)=2
 chain:∀k,k+1<d.K->∀o B,l[d.wi (k+1)]? = some (o,B)->zak B (d.wi k)=true
 st0:(d.st 0).2=0
 cls:∀k,k<d.K->∀o B,l[d.wi k]? = some (o,B)->(d.st (k+1)).2=B
 asok:AsOk T0 as
 asin:∀j T o,(j,T,o)∈as->j<ops.size/\d.kn j=1
 vA:∀i o B,G i->l[i]? = some (o,B)->d.kn i=1->∀t,Agr ops t0 d.val B o t->zaC ops.toList t o.guard=some true/\∃ob,(i,T0+i,ob)∈as/\∀m,za4 P (T0+i) o.op m t=.mem (d.val i) (m.newAt (T0+i) ob)
 vN:∀i o B,G i->l[i]? = some (o,B)->d.kn i=0->∀t,Agr ops t0 d.val B o t->(zaC ops.toList t o.guard=some false/\d.val i=zam) \/
  (zaC ops.toList t o.guard=some true/\∀c,c0<=c->c<=d.K->(∀k,k<d.K->zak B (d.wi k)=true->k<c)->(∀k o' B',k<c->l[d.wi k]? = some (o',B')->zak B' i=false)->cop P o.op (zas d as B c) t=.val (d.val i))
 vW:∀k o B,G (d.wi k)->c0<=k->k<d.K->l[d.wi k]? = some (o,B)->∀t,Agr ops t0 d.val B o t->zaC ops.toList t o.guard=some true/\∃m',znr ih (zas d as B k) (cop P o.op (zas d as B k) t)=some (d.val (d.wi k),m')/\m'.nxt=(d.st (k+1)).1.nxt/\∀T,m'.get T=(d.st (k+1)).1.get T
theorem Cert.fc{ih:Task->Res}{ops:Array Oper}{l:List (Oper×Nat)}{t0:Tmps}{M0:Mem}{T0:Nat}{d:CD}{s:DS}{n:Nat}(h:Cert P ih ops l t0 M0 T0 d n s)(hn:n<=ops.size):FC P ih ops l t0 T0 d s.as (fun i=>i<n/\d.kn i≠3) 0:=by
 refine⟨fun i o u hg ho hu=>(h.tv1 i o u hg.1 hg.2 ho hu).2,fun i hg=>?_,fun i hg hk=>h.win i hg.1 hk,fun k hk=>?_,h.chain,by rw[h.st0],h.cls,h.asok,fun j T o hj=>?_,fun i o B hg=>h.vA i o B hg.1,fun i o B hg hl hk t ha=>?_,fun k o B _ _ hk hl t ha=>?_⟩
 ·rcases h.k012 i hg.1 with h1 |h1 |h1 |h1
  ·exact .inl h1
  ·exact .inr (.inl h1)
  ·exact .inr (.inr h1)
  ·exact absurd h1 hg.2
 ·obtain⟨h1,h2⟩:=h.wlt k hk;exact⟨by omega,h2⟩
 ·obtain⟨h1,h2⟩:=h.asin j T o hj;exact⟨by omega,h2⟩
 ·rcases h.vN i o B hg.1 hl hk t ha with h1 |⟨h1,h2⟩
  ·exact .inl h1
  ·exact .inr ⟨h1,fun c _=>h2 c⟩
 ·obtain⟨h1,h2⟩:=h.vW k o B hk hl t ha;exact⟨h1,_,h2,rfl,fun T=>rfl⟩
theorem zxI{o:Oper}{v:CV}{t:Tmps}(hd:∀u,o.dst=some u->u<t.sz):∃t',TStep t t' o v/\∀{e:Env} {a:Act} {V:Value},TOk e t a.tmps->den e v=some V->TOk e t' (a.put o.dst V).tmps:=by
 cases h:o.dst with
 |none=>exact⟨t,⟨rfl,(fun u hu=>by rw[h]at hu;cases hu),fun u _=>rfl⟩,fun ht _=>ht⟩
 |some dd=>
  have hlt:=hd dd h;have hg:∀u,(t.set dd v).get u=if u=dd then some v else t.get u:=fun u=>by
   obtain⟨sz,tr⟩:=t;show Bool.rec (motive:=fun _=>Option CV) none ((Tr.set (Nat.succ dd) tr dd (some v)).get u) (Nat.ble (Nat.succ u) sz)=if u=dd then some v else Bool.rec (motive:=fun _=>Option CV) none (tr.get u) (Nat.ble (Nat.succ u) sz)
   rw[Tr.get_set _ _ _ _ _ (by omega)];by_cases hu:u=dd
   ·subst hu;rw[if_pos rfl,if_pos rfl,show Nat.ble (Nat.succ u) sz=true from yb1 hlt]
   ·rw[if_neg hu,if_neg hu]
  refine⟨t.set dd v,⟨Tmps.set_sz ..,fun u hu=>?_,fun u hu=>?_⟩,fun ht hv=>ht.put hv hlt⟩
  ·rw[h]at hu;cases hu;exact⟨hlt,by rw[hg,if_pos rfl]⟩
  ·rw[hg,if_neg (fun hq=>hu (by rw[h,hq]))]
section sim
variable{ih:Task->Res}{ops:Array Oper}{l:List (Oper×Nat)}{t0:Tmps}{M0:Mem}{T0:Nat}{d:CD}{s:DS}{B:Bas}{e0:Env}{ds:List CDef}
 {listed:Array Bool} {a:Act} {w:World} {e:Env} {t:Tmps} {m:Mem} {c:Nat}
theorem SimAt.next(hp:PlanOk ops l)(h:SimAt ops t0 T0 d s.as B e0 ds listed a w e t m c){i:Nat}{o:Oper}(ho:ops[i]? = some o)(hi:¬Lst listed i)
  (hed:∀e∈o.after,Region.binds .any e=true->Lst listed e.on) (hdst:∀u,o.dst=some u->u<t0.sz)
  {e1:Env} (hle:Env.le e e1) {V:Value} (hV:den e1 (d.val i)=some V) {w1:World} {m1:Mem} {c0 c1:Nat} (hc01:c0<=c1) (hc1:c1<=d.K)
  (hcw:∀k,k<d.K->(Lst listed (d.wi k)\/d.wi k=i↔k<c1))
  (hrel:Rel (B.withZ (Zof ops T0 d B (listed.setIfInBounds i true))) e1 m1 w1)
  (hovr:Ovr (fun j=>(Lst listed j\/j=i)/\zak (d.st c1).2 j=false) s.as (d.st c1).1 m1):
  Sim ops t0 T0 d s.as B e0 ds c0 (listed.setIfInBounds i true) (a.put o.dst V) w1:=by
 have hlt:i<listed.size:=by rw[h.size];exact(Array.getElem?_eq_some_iff.1 ho).1
 have hL:∀j,Lst (listed.setIfInBounds i true) j↔Lst listed j\/j=i:=fun j=>zdQ hlt
 obtain⟨t',ts,htok⟩:=zxI (o:=o) (v:=d.val i) (t:=t) (fun u hu=>by rw[h.tsz];exact hdst u hu);refine⟨e1,t',m1,c1,hc01,by simp[h.size],h.le.trans hle,fun j q hj hlj e he hb=>?_,hc1,fun k hk=>by rw[hL];exact hcw k hk,by rw[zd5];exact h.dok.mono hle,htok (h.tok.mono hle) hV,ts.sz.trans h.tsz,
  fun j q u hj hq hd=>?_,fun u hu=>?_,hrel,⟨hovr.nxt,fun j T ob hm hj=>hovr.get1 j T ob hm ⟨(hL j).1 hj.1,hj.2⟩,fun T hT=>hovr.get0 T fun j ob hm hj=>hT j ob hm ⟨(hL j).2 hj.1,hj.2⟩⟩⟩
 ·rw[hL];rcases(hL j).1 hlj with h1 |rfl
  ·exact .inl (h.clos j q hj h1 e he hb)
  ·rw[ho]at hj;cases hj;exact .inl (hed e he hb)
 ·rcases(hL j).1 hj with h1 |rfl
  ·have hne:o.dst≠some u:=fun hq2=>hi (by have:=hp.dst i j o q u ho hq hq2 hd;subst this;exact h1)
   rw[ts.old u hne];exact h.t1 j q u h1 hq hd
  ·rw[ho]at hq;cases hq;exact(ts.new u hd).2
 ·have hne:o.dst≠some u:=hu i o ((hL i).2 (.inr rfl)) ho;rw[ts.old u hne];exact h.t2 u fun j q hj hq=>hu j q ((hL j).2 (.inl hj)) hq
theorem SimAt.agr(hp:PlanOk ops l)(h:SimAt ops t0 T0 d s.as B e0 ds listed a w e t m c){i:Nat}{o:Oper}{M:Nat}(hl:l[i]? = some (o,M))(hni:¬Lst listed i)(hanc:∀j,zak M j=true->Lst listed j):Agr ops t0 d.val M o t:=fun u hu=>by
 refine⟨fun j q hj hq hb=>h.t1 j q u (hanc j hb) hj hq,fun hn=>h.t2 u fun j q hlj hj hq=>?_⟩;have hf:=hn j q hj hq;rcases hu with hu |⟨j',b,q',h1,h2,h3⟩
 ·rcases hp.uses i o M hl u hu j q hj hq with hb |⟨_,q',B',hl',hb⟩
  ·rw[hf]at hb;cases hb
  ·exact hni ((hp.mask j q' B' hl').anc _ h.clos (fun q2 hq2 e he hbd=>h.clos j q2 hq2 hlj e he hbd) i hb)
 ·have:j=j':=hp.dst j j' q q' u hj h2 hq h3;subst this;have hb:=hp.grd i o M hl j b h1;rw[hf]at hb;cases hb
def zw5(d:CD)(as:List (Nat×Nat×CO)):Prop:=∀c,c<=d.K->∀j T o,(j,T,o)∈as->zak (d.st c).2 j=false->(d.st c).1.get T=none
theorem SimAt.subMem{G:Nat->Prop}{c0:Nat}(hc:FC P ih ops l t0 T0 d s.as G c0)(hn:∀c,c<=d.K->M0.nxt<=(d.st c).1.nxt)(hM0:M0.nxt=T0+ops.size)(hfree:zw5 d s.as)(h:SimAt ops t0 T0 d s.as B e0 ds listed a w e t m c){M:Nat}(hanc:∀j,zak M j=true->Lst listed j):
  Ovr (fun j=>zaq M (d.st c).2 j=true) s.as (d.st c).1 (zas d s.as M c)/\(zas d s.as M c).nxt=m.nxt/\∀T o,(zas d s.as M c).get T=some o->m.get T=some o:=by
 have hov:=zdu (zaq M (d.st c).2) (M:=(d.st c).1) hc.asok (fun j T o hj=>by
  have h1:=(hc.asok.tag j T o hj).1;have h2:=(hc.asin j T o hj).1;have h3:=hn c h.cK;omega)
 have hpick:∀j,zaq M (d.st c).2 j=true->Lst listed j/\zak (d.st c).2 j=false:=fun j hj=>by
  simp only[zaq,ya2,Bool.not_eq_true']at hj;exact⟨hanc j hj.1,hj.2⟩
 refine⟨hov,hov.nxt.trans h.ovr.nxt.symm,fun T o hT=>?_⟩;by_cases hx:∃j o',(j,T,o')∈s.as/\zaq M (d.st c).2 j=true
 ·obtain⟨j,o',h1,h2⟩:=hx;have hT:(zaV (zaq M (d.st c).2) s.as (d.st c).1).get T=some o:=hT;rw[hov.get1 j T o' h1 h2]at hT;cases hT;exact h.ovr.get1 j T o h1 (hpick j h2)
 ·have hT:(zaV (zaq M (d.st c).2) s.as (d.st c).1).get T=some o:=hT;rw[hov.get0 T fun j o' h1 h2=>hx ⟨j,o',h1,h2⟩]at hT;rw[h.ovr.get0 T fun j o' h1 h2=>by rw[hfree c h.cK j T o' h1 h2.2]at hT;cases hT];exact hT
theorem zcc{i:Nat}{md:Region.Mode}(h:i∈Region.ready md ops listed)(hs:listed.size=ops.size):¬Lst listed i/\i<ops.size/\∃o,ops[i]? = some o/\∀e∈o.after,Region.binds md e=true->Lst listed e.on:=by
 obtain⟨h1,o,h2,h3⟩:=mem_ready.1 h;have hlt:=(Array.getElem?_eq_some_iff.1 h2).1;refine⟨fun hl=>?_,hlt,o,h2,h3⟩;unfold Lst at hl;rw[Array.getD_eq_getD_getElem?]at h1 hl;have:listed[i]? = some listed[i]:=Array.getElem?_eq_getElem (by omega);rw[this]at h1 hl;simp only[Option.getD_some]at h1 hl;rw[h1]at hl;cases hl
theorem zp9{i:Nat}(hlt:i<listed.size){t:Nat}(h:Zof ops T0 d B (listed.setIfInBounds i true) t):Zof ops T0 d B listed t:=by
 rcases h with h |⟨j,h1,h2,h3,h4⟩
 ·exact .inl h
 ·exact .inr ⟨j,h1,h2,fun hl=>h3 ((zdQ hlt).2 (.inl hl)),h4⟩
theorem FC.wi_inj{as:List (Nat×Nat×CO)}{G:Nat->Prop}{c0:Nat}(hc:FC P ih ops l t0 T0 d as G c0)(hp:PlanOk ops l):∀k' k,k'<d.K->k<d.K->d.wi k'=d.wi k->k'=k:=by
 have up:∀n k,k+(n+1)<d.K->d.wi k<d.wi (k+(n+1)):=fun n=>by
  induction n with
  |zero=>
   intro k hk;obtain⟨⟨q,B'⟩,hq⟩:∃p,l[d.wi (k+1)]? = some p:=⟨_,yb5 (by rw[hp.len];exact(hc.wlt (k+1) hk).1)⟩
   exact(hp.mask _ q B' hq).lt _ (hc.chain k hk q B' hq)
  |succ n ih=>
   intro k hk;have h1:=ih k (by omega);obtain⟨⟨q,B'⟩,hq⟩:∃p,l[d.wi (k+(n+1)+1)]? = some p:=⟨_,yb5 (by rw[hp.len];exact(hc.wlt (k+(n+1)+1) hk).1)⟩
   have h2:=(hp.mask _ q B' hq).lt _ (hc.chain (k+(n+1)) hk q B' hq);exact Nat.lt_trans h1 h2
 intro k' k h1 h2 hq;rcases Nat.lt_trichotomy k' k with h |h |h
 ·have:=up (k - k' - 1) k' (by omega);rw[show k'+(k - k' - 1+1)=k by omega]at this;omega
 ·exact h
 ·have:=up (k' - k - 1) k (by omega);rw[show k+(k' - k - 1+1)=k' by omega]at this;omega
theorem SimAt.step(hp:PlanOk ops l)(hih:∀B k,zbh P B k (ih k)){G:Nat->Prop}{c0:Nat}(hc:FC P ih ops l t0 T0 d s.as G c0)(hn:∀c,c<=d.K->M0.nxt<=(d.st c).1.nxt)(hM0:M0.nxt=T0+ops.size)(hfree:zw5 d s.as)(hBZ:∀t,B.Z t->t<T0)
  (h:SimAt ops t0 T0 d s.as B e0 ds listed a w e t m c) {rr:Option Nat} {n:Nat} {Q:Exit->Act->World->Prop} {i:Nat} (hG:G i) (hc0:c0<=c) (hi:i∈Region.ready .any ops listed) {K:Act->World->Prop}
  (hK:∀a w,Sim ops t0 T0 d s.as B e0 ds c0 (listed.setIfInBounds i true) a w->K a w):wpOpIn (FW rr) n P ops Q i K a w:=by
 obtain⟨hni,hlt,o,ho,hed⟩:=zcc hi h.size;have hsz:i<listed.size:=by rw[h.size];exact hlt
 obtain⟨⟨o',M⟩,hl⟩:∃p,l[i]? = some p:=⟨_,yb5 (by rw[hp.len];exact hlt)⟩
 have hoo:o'=o:=by have:=hp.op i o' M hl;rw[ho]at this;cases this;rfl
 subst hoo;have hanc:∀j,zak M j=true->Lst listed j:=(hp.mask i o' M hl).anc _ h.clos (fun q hq e he hb=>by rw[ho]at hq;cases hq;exact hed e he hb);have hagr:=h.agr (s:=s) hp hl hni hanc;have hdst:∀u,o'.dst=some u->u<t0.sz:=fun u hu=>hc.dsz i o' u hG ho hu
 have hwant:∀b,zaC ops.toList t o'.guard=some b->Region.wanted o' (yielded ops a.tmps)=b:=fun b hb=>zcF h.tok hb
 obtain⟨hov1,hnx1,hsub⟩:=h.subMem hc hn hM0 hfree hanc;have hrel1:Rel (B.withZ (Zof ops T0 d B listed)) e (zas d s.as M c) w:=h.rel.sub hnx1 hsub;have hZ:∀t,Zof ops T0 d B (listed.setIfInBounds i true) t->Zof ops T0 d B listed t:=fun t=>zp9 hsz
 unfold wpOpIn;rw[ho];simp only;have ovr0:d.kn i≠1->Ovr (fun j=>(Lst listed j\/j=i)/\zak (d.st c).2 j=false) s.as (d.st c).1 m:=fun hk=>
  ⟨h.ovr.nxt,fun j T ob hm hj=>h.ovr.get1 j T ob hm ⟨hj.1.resolve_right fun hq=>hk (by rw[<- hq];exact(hc.asin j T ob hm).2),hj.2⟩,fun T hT=>h.ovr.get0 T fun j ob hm hj=>hT j ob hm ⟨.inl hj.1,hj.2⟩⟩
 have cw0:d.kn i≠2->∀k,k<d.K->(Lst listed (d.wi k)\/d.wi k=i↔k<c):=fun hk k hkK=>by
  rw[<- h.cw k hkK];exact⟨fun hq=>hq.resolve_right fun hq2=>hk (by rw[<- hq2];exact(hc.wlt k hkK).2),.inl⟩
 rcases hc.k012 i hG with hk |hk |hk
 ·
  have fin:∀V,den e (d.val i)=some V->K (a.put o'.dst V) w:=fun V hV=>
   hK _ _ (h.next hp ho hni hed hdst (Env.le.refl e) hV hc0 h.cK (cw0 (by rw[hk];simp)) (h.rel.reZ hZ) (ovr0 (by rw[hk];simp)))
  rcases hc.vN i o' M hG hl hk t hagr with⟨hg,hv⟩ |⟨hg,hv⟩
  ·rw[if_neg (by rw[hwant _ hg];simp)];exact⟨fun _ _=>trivial,fin undef (by rw[hv];rfl)⟩
  ·rw[if_pos (hwant _ hg)];have hcop:=hv c hc0 h.cK (fun k hkK hb=>(h.cw k hkK).1 (hanc _ hb)) (fun k q B' hkc hq=>by
    cases hb:zak B' i with
    |false=>rfl
    |true=>
     have hkK:k<d.K:=by have:=h.cK;omega
     exact absurd ((hp.mask _ q B' hq).anc _ h.clos (fun q' hq' e he hbd=>h.clos _ q' hq' ((h.cw k hkK).2 hkc) e he hbd) i hb) hni)
   have hout:=ziJ (P:=P) (o:=o') (a:=a) hrel1 h.tok;rw[hcop]at hout;obtain⟨V,hV,hrun⟩:=hout;have hnd:∀c,o'.op≠.defer c:=fun c' hc'=>by
    rcases zdP (P:=P) (m:=zas d s.as M c) (t:=t) hc' with⟨w,hw⟩ |⟨f,args,hf⟩
    ·rw[hcop]at hw;cases hw
    ·rw[hcop]at hf;cases hf
   exact zao hnd hrun (fin V hV)
 ·
  obtain⟨hg,ob,hob,hv⟩:=hc.vA i o' M hG hl hk t hagr;rw[if_pos (hwant _ hg)];have hrel2:=h.rel.reZ hZ;have hT:e (T0+i)=none/\¬(B.withZ (Zof ops T0 d B (listed.setIfInBounds i true))).Z (T0+i):=by
   refine⟨h.rel.bar _ (.inr ⟨i,hlt,hk,hni,rfl⟩),?_⟩;rintro(hz |⟨j,h1,h2,h3,h4⟩)
   ·have:=hBZ _ hz;omega
   ·have:j=i:=by omega
    subst this;exact h3 ((zdQ hsz).2 (.inr rfl))
  have hout:=zq0 (P:=P) (o:=o') (a:=a) hT hrel2 h.tok;rw[hv m]at hout;obtain⟨e1,V,w1,le1,hV,hr1,hrun⟩:=hout;have hcl:zak (d.st c).2 i=false:=by
   cases hb:zak (d.st c).2 i with
   |false=>rfl
   |true=>
    cases c with
    |zero=>rw[hc.st0]at hb;rw[zdN]at hb;cases hb
    |succ k=>
     have hkK:k<d.K:=by have:=h.cK;omega
     obtain⟨⟨q,B'⟩,hq⟩:∃p,l[d.wi k]? = some p:=⟨_,yb5 (by rw[hp.len];exact(hc.wlt k hkK).1)⟩
     rw[hc.cls k hkK q B' hq]at hb;exact absurd ((hp.mask _ q B' hq).anc _ h.clos (fun q' hq' e he hbd=>h.clos _ q' hq' ((h.cw k hkK).2 (by omega)) e he hbd) i hb) hni
  have hovr:Ovr (fun j=>(Lst listed j\/j=i)/\zak (d.st c).2 j=false) s.as (d.st c).1 (m.newAt (T0+i) ob):=by
   refine⟨?_,fun j T o2 hm hj=>?_,fun T hTT=>?_⟩
   ·rw[Mem.nxtAt,h.ovr.nxt,if_pos];have:=hn c h.cK;omega
   ·rw[Mem.get_newAt];have htag:=(hc.asok.tag j T o2 hm).1;by_cases hq:T=T0+i
    ·have hji:j=i:=by omega
     subst hji;rw[if_pos hq,hc.asok.one j T o2 _ ob hm hob]
    ·rw[if_neg hq];exact h.ovr.get1 j T o2 hm ⟨hj.1.resolve_right fun hq2=>hq (by rw[htag,hq2]),hj.2⟩
   ·rw[Mem.get_newAt,if_neg (fun hq=>hTT i ob (by rw[hq];exact hob) ⟨.inr rfl,hcl⟩)];exact h.ovr.get0 T fun j o2 hm hj=>hTT j o2 hm ⟨.inl hj.1,hj.2⟩
  have fin:K (a.put o'.dst V) w1:=hK _ _ (h.next hp ho hni hed hdst le1 hV hc0 h.cK (cw0 (by rw[hk];simp)) hr1 hovr);have hnd:∀c,o'.op≠.defer c:=fun c' hc'=>by
   have:=hv ⟨T0+i,.nil⟩;rcases zdP (P:=P) (m:=⟨T0+i,.nil⟩) (t:=t) hc' with⟨w,hw⟩ |⟨f,args,hf⟩
   ·rw[show cop P o'.op ⟨T0+i,.nil⟩ t=za4 P (T0+i) o'.op ⟨T0+i,.nil⟩ t from rfl,this]at hw;cases hw
   ·rw[show cop P o'.op ⟨T0+i,.nil⟩ t=za4 P (T0+i) o'.op ⟨T0+i,.nil⟩ t from rfl,this]at hf;cases hf
  rcases hrun with hrun |⟨hrun,rfl⟩
  ·exact zao hnd hrun fin
  ·exact zao hnd hrun fin
 ·
  obtain⟨k,hkK,rfl⟩:=hc.win i hG hk;have hkc:k=c:=by
   have h1:¬k<c:=fun hq=>hni ((h.cw k hkK).2 hq)
   cases k with
   |zero=>omega
   |succ k=>
    have h2:=(h.cw k (by omega)).1 (hanc _ (hc.chain k hkK o' M hl));omega
  subst hkc;obtain⟨hg,mW,hv,hnW,hgW⟩:=hc.vW k o' M hG hc0 hkK hl t hagr;rw[if_pos (hwant _ hg)];have hX:∀j T o2,(j,T,o2)∈s.as->Lst listed j->zak (d.st k).2 j=false->∃bk x,e T=some bk/\w.heap[bk.blk]? = some x/\¬B.F bk.blk:=fun j T o2 hm h1 h2=>by
   have hget:=h.ovr.get1 j T o2 hm ⟨h1,h2⟩;obtain⟨bk,x,h3,h4⟩:=zc5 (h.rel.ok T o2 hget);exact⟨bk,x,h3,h4,h.rel.own T o2 bk hget (hc.asok.tag j T o2 hm).2 h3⟩
  let X:Nat->Prop:=fun j=>Lst listed j/\zak (d.st k).2 j=false/\zak M j=false
  let Xb:Nat->Prop:=fun b=>∃j T o2 bk,(j,T,o2)∈s.as/\X j/\e T=some bk/\bk.blk=b
  let B3:Bas:=⟨w,fun b=>B.F b\/Xb b,B.R,Zof ops T0 d B (listed.setIfInBounds (d.wi k) true),fun b hb=>by
    rcases hb with hb |⟨j,T,o2,bk,h1,h2,h3,rfl⟩
    ·exact h.rel.frF hb
    ·obtain⟨bk',x,h4,h5,_⟩:=hX j T o2 h1 h2.1 h2.2.1;rw[h3]at h4;cases h4;exact zcH h5,fun b hb=>.inl (B.hR b hb)⟩
  have hrel3:Rel B3 e (zas d s.as M k) w:=by
   refine⟨hrel1.ok,hrel1.inj0,fun T o2 b hT hro hb hq=>?_,fun T o2 b hT hro hb=>hrel1.rof T o2 b hT hro hb,hrel1.glb,hrel1.dom,Keep.refl _ _,fun t ht=>hrel1.zlt t (hZ t ht),fun t ht=>hrel1.bar t (hZ t ht)⟩;rcases hq with hq |⟨j,T',o3,bk,h1,h2,h3,h4⟩
   ·exact hrel1.own T o2 b hT hro hb hq
   ·have hTT:=h.rel.inj T T' o2 o3 b bk (hsub T o2 hT) (h.ovr.get1 j T' o3 h1 ⟨h2.1,h2.2.1⟩) (hc.asok.tag j T' o3 h1).2 hb h3 h4.symm;subst hTT;have hnp:∀j' o4,(j',T,o4)∈s.as->¬zaq M (d.st k).2 j'=true:=fun j' o4 hm hpk=>by
     have e1:=(hc.asok.tag j T o3 h1).1;have e2:=(hc.asok.tag j' T o4 hm).1;have:j'=j:=by omega
     subst this;simp only[zaq,h2.2.2,Bool.false_and]at hpk;cases hpk
    rw[hov1.get0 T hnp,hfree k h.cK j T o3 h1 h2.2.1]at hT;cases hT
  refine zvq (hih B3) hrel3 h.tok hv fun e1 V w1 le1 hV hr0=>?_
  have hr1:Rel B3 e1 (d.st (k+1)).1 w1:=hr0.sub hnW.symm fun T o hT=>by rw[hgW];exact hT
  have hcls:(d.st (k+1)).2=M:=hc.cls k hkK o' M hl;have hov2:=zdu (fun j=>@decide (X j) (Classical.propDecidable _)) (M:=(d.st (k+1)).1) hc.asok (fun j T o hj=>by
   have h1:=(hc.asok.tag j T o hj).1;have h2:=(hc.asin j T o hj).1;have h3:=hn (k+1) hkK;omega)
  generalize hm2:zaV (fun j=>@decide (X j) (Classical.propDecidable _)) s.as (d.st (k+1)).1=m2 at hov2;have hov3:∀j,(@decide (X j) (Classical.propDecidable _)=true)↔X j:=fun j=>@decide_eq_true_iff _ (Classical.propDecidable _)
  have anc2:∀j,zak (d.st k).2 j=true->zak M j=true:=fun j hj=>by
   cases k with
   |zero=>rw[hc.st0,zdN]at hj;cases hj
   |succ k=>
    obtain⟨⟨q,B'⟩,hq⟩:∃p,l[d.wi k]? = some p:=⟨_,yb5 (by rw[hp.len];exact(hc.wlt k (by omega)).1)⟩
    rw[hc.cls k (by omega) q B' hq]at hj;have hch:=hc.chain k hkK o' M hl;exact(hp.mask _ q B' hq).anc _ (hp.mask _ o' M hl).clo (fun q' hq' e he hbd=>(hp.mask _ o' M hl).clo _ q' hq' hch e he hbd) j hj
  have hovr:Ovr (fun j=>(Lst listed j\/j=d.wi k)/\zak (d.st (k+1)).2 j=false) s.as (d.st (k+1)).1 m2:=by
   rw[hcls];refine⟨hov2.nxt,fun j T o2 hm hj=>hov2.get1 j T o2 hm ((hov3 j).2 ⟨hj.1.resolve_right fun hq=>?_,?_,hj.2⟩),fun T hT=>hov2.get0 T fun j o2 hm hj=>?_⟩
   ·have:=(hc.asin j T o2 hm).2;rw[hq,hk]at this;cases this
   ·cases hb:zak (d.st k).2 j with
    |false=>rfl
    |true=>rw[anc2 j hb]at hj;cases hj.2
   ·have:=(hov3 j).1 hj;exact hT j o2 hm ⟨.inl this.1,this.2.2⟩
  have hcase:∀T o2,m2.get T=some o2->(∃j,(j,T,o2)∈s.as/\X j)\/(d.st (k+1)).1.get T=some o2:=fun T o2 hT=>by
   by_cases hx:∃j o3,(j,T,o3)∈s.as/\X j
   ·obtain⟨j,o3,h1,h2⟩:=hx;rw[hov2.get1 j T o3 h1 ((hov3 j).2 h2)]at hT;cases hT;exact .inl ⟨j,h1,h2⟩
   ·rw[hov2.get0 T fun j o3 h1 h2=>hx ⟨j,o3,h1,(hov3 j).1 h2⟩]at hT;exact .inr hT
  have hext:∀j T o2,(j,T,o2)∈s.as->X j->∃bk,e T=some bk/\e1 T=some bk/\¬B.F bk.blk/\Xb bk.blk:=fun j T o2 hm hx=>by
   obtain⟨bk,x,h1,h2,h3⟩:=hX j T o2 hm hx.1 hx.2.1;exact⟨bk,h1,le1 _ _ h1,h3,j,T,o2,bk,hm,hx,h1,rfl⟩
  have hoth:∀T o2 bk,(d.st (k+1)).1.get T=some o2->e1 T=some bk->¬Xb bk.blk:=fun T o2 bk hT hb hq=>by
   cases hro:zf2 o2 with
   |false=>exact hr1.own T o2 bk hT hro hb (.inr hq)
   |true=>
    have h1:=hr1.rof T o2 bk hT hro hb;obtain⟨j,T',o3,bk',h2,h3,h4,h5⟩:=hq;obtain⟨bk2,x,h6,h7,h8⟩:=hX j T' o3 h2 h3.1 h3.2.1;rw[h4]at h6;cases h6;exact h8 (h5 ▸ B.hR _ h1)
  refine hK _ _ (h.next hp ho hni hed hdst le1 hV (c1:=k+1) (by omega) hkK (fun k' hk'=>?_) (m1:=m2) ?_ hovr)
  ·constructor
   ·rintro(h1 |h1)
    ·have:=(h.cw k' hk').1 h1;omega
    ·
     by_cases hq:k'=k
     ·omega
     ·exfalso;have inj:=hc.wi_inj hp k' k hk' hkK h1;exact hq inj
   ·intro h1;by_cases hq:k'=k
    ·subst hq;exact .inr rfl
    ·exact .inl ((h.cw k' hk').2 (by omega))
  ·refine⟨fun T o2 hT=>?_,fun T T' o2 o3 b b' hT hT' hr2 hr3 hb hb' hq=>?_,fun T o2 b hT hro hb=>?_,fun T o2 b hT hro hb=>?_,hr1.glb,fun T hT=>?_,h.rel.frm.trans ⟨hr1.frm.os,hr1.frm.tape,hr1.frm.output,hr1.frm.size,fun k hk=>hr1.frm.block k (.inl hk)⟩,fun T hT=>?_,hr1.bar⟩
   ·rcases hcase T o2 hT with⟨j,h1,h2⟩ |h1
    ·refine zbZ le1 (fun b hb=>?_) (h.rel.ok T o2 (h.ovr.get1 j T o2 h1 ⟨h2.1,h2.2.1⟩));exact hr1.frm.block b.blk (.inr ⟨j,T,o2,b,h1,h2,hb,rfl⟩)
    ·exact hr1.ok T o2 h1
   ·rcases hcase T o2 hT with⟨j,h1,h2⟩ |h1<;>rcases hcase T' o3 hT' with⟨j',h3,h4⟩ |h3
    ·obtain⟨bk,g1,g2,_,_⟩:=hext j T o2 h1 h2;obtain⟨bk',g3,g4,_,_⟩:=hext j' T' o3 h3 h4;rw[g2]at hb;cases hb;rw[g4]at hb';cases hb';exact h.rel.inj T T' o2 o3 _ _ (h.ovr.get1 j T o2 h1 ⟨h2.1,h2.2.1⟩) (h.ovr.get1 j' T' o3 h3 ⟨h4.1,h4.2.1⟩) hr3 g1 g3 hq
    ·obtain⟨bk,g1,g2,_,g5⟩:=hext j T o2 h1 h2;rw[g2]at hb;cases hb;exact absurd (hq ▸ g5) (hoth T' o3 b' h3 hb')
    ·obtain⟨bk',g3,g4,_,g5⟩:=hext j' T' o3 h3 h4;rw[g4]at hb';cases hb';exact absurd (hq ▸ g5) (hoth T o2 b h1 hb)
    ·exact hr1.inj T T' o2 o3 b b' h1 h3 hr3 hb hb' hq
   ·rcases hcase T o2 hT with⟨j,h1,h2⟩ |h1
    ·obtain⟨bk,g1,g2,g3,_⟩:=hext j T o2 h1 h2;rw[g2]at hb;cases hb;exact g3
    ·exact fun hq=>hr1.own T o2 b h1 hro hb (.inl hq)
   ·rcases hcase T o2 hT with⟨j,h1,h2⟩ |h1
    ·rw[(hc.asok.tag j T o2 h1).2]at hro;cases hro
    ·exact hr1.rof T o2 b h1 hro hb
   ·exact hr1.dom T (by rw[<- hov2.nxt];exact hT)
   ·rw[hov2.nxt];exact hr1.zlt T hT
end sim
end Go.Cx
namespace Go.Cx
open Go Go.RowKit
variable{P:Program}
section sim
variable{ih:Task->Res}{ops:Array Oper}{l:List (Oper×Nat)}{t0:Tmps}{M0:Mem}{T0:Nat}{d:CD}{s:DS}{B:Bas}{e0:Env}{ds:List CDef}
 {listed:Array Bool} {a:Act} {w:World} {e:Env} {t:Tmps} {m:Mem} {c:Nat}
theorem SimAt.pan(hp:PlanOk ops l)(hih:∀B k,zbh P B k (ih k)){G:Nat->Prop}{c0:Nat}(hc:FC P ih ops l t0 T0 d s.as G c0)(hn:∀c,c<=d.K->M0.nxt<=(d.st c).1.nxt)(hM0:M0.nxt=T0+ops.size)(hfree:zw5 d s.as)
  (h:SimAt ops t0 T0 d s.as B e0 ds listed a w e t m c) {rr:Option Nat} {n:Nat} {Q:Exit->Act->World->Prop} {z:Nat} {v:CV} {mp:Mem}
  (hz:∀o M,l[z]? = some (o,M)->(∀k,k+1=d.K->zak M (d.wi k)=true)/\∀t,Agr ops t0 d.val M o t->zaC ops.toList t o.guard=some true/\∃f args,cop P o.op (zas d s.as M d.K) t=.call f args/\ih (.call f args (zas d s.as M d.K))=.pan v mp)
  (hi:z∈Region.ready .any ops listed) {K:Act->World->Prop}
  (hQ:∀e1 V w1,Env.le e e1->den e1 v=some V->Rel (B.withZ (Zof ops T0 d B listed)) e1 mp w1->Q (.panic [{ v:=V,recovered:=false }]) a w1):wpOpIn (FW rr) n P ops Q z K a w:=by
 obtain⟨hni,hlt,o,ho,hed⟩:=zcc hi h.size;obtain⟨⟨o',M⟩,hl⟩:∃p,l[z]? = some p:=⟨_,yb5 (by rw[hp.len];exact hlt)⟩
 have hoo:o'=o:=by have:=hp.op z o' M hl;rw[ho]at this;cases this;rfl
 subst hoo;have hanc:∀j,zak M j=true->Lst listed j:=(hp.mask z o' M hl).anc _ h.clos (fun q hq e he hb=>by rw[ho]at hq;cases hq;exact hed e he hb);have hagr:=h.agr (s:=s) hp hl hni hanc;obtain⟨hch,hgo⟩:=hz o' M hl;obtain⟨hg,f,args,hcop,hpan⟩:=hgo t hagr;have hcK:c=d.K:=by
  rcases Nat.lt_or_ge c d.K with h1 |h1
  ·obtain⟨k,hk⟩:∃k,d.K=k+1:=⟨d.K - 1,by omega⟩
   have:=(h.cw k (by omega)).1 (hanc _ (hch k hk.symm));omega
  ·have:=h.cK;omega
 subst hcK;obtain⟨_,hnx1,hsub⟩:=h.subMem hc hn hM0 hfree hanc;have hrel1:Rel (B.withZ (Zof ops T0 d B listed)) e (zas d s.as M d.K) w:=h.rel.sub hnx1 hsub;unfold wpOpIn;rw[ho];simp only;rw[if_pos (zcF h.tok hg)];have hout:=ziJ (P:=P) (o:=o') (a:=a) hrel1 h.tok;have hnd:∀c,o'.op≠.defer c:=fun c' hc'=>by
  rcases zdP (P:=P) (m:=zas d s.as M d.K) (t:=t) hc' with⟨w,hw⟩ |⟨f,args,hf⟩
  ·rw[hcop]at hw;cases hw
  ·rw[hcop]at hf;cases hf
 rw[hcop]at hout;obtain⟨vs,has,hrun⟩:=hout;have hcall:=hih (B.withZ (Zof ops T0 d B listed)) (.call f args (zas d s.as M d.K));rw[hpan]at hcall;obtain⟨henter,hcc⟩:=hcall;refine zao hnd (hrun.trans (henter _ _)) ?_;refine⟨fun hd=>by simp[FW,Fence.wide]at hd,zdb ((hcc e vs w has hrel1).mono ?_)⟩;rintro en w1 ⟨e1,V,le1,hV,rfl,hr1⟩;exact hQ e1 V w1 le1 hV hr1
theorem zhW{f:Mem->CV->CV->COut}{x y:Operand}{m:Mem}{t:Tmps}{v u:CV}(h:evO t x=some v)(h':evO t y=some u):zbL f x y m t=f m v u:=by unfold zbL;rw[h,h']
theorem zdc{m m2 m':Mem}{ty:TypeId}{tag off:Nat}{v u:CV}(h:zaL P m ty (.ptr tag off) v=.mem u m')(hg:m2.get tag=m.get tag):
  u=zam/\∃ob,m'=m.put tag ob/\zaL P m2 ty (.ptr tag off) v=.mem zam (m2.put tag ob):=by
 unfold zaL at h ⊢;cases hi:P.info? ty with
 |none=>rw[hi]at h;cases h
 |some inf=>
 cases hv:zeO v with
 |none=>rw[hi,hv]at h;cases h
 |some vs=>
 rw[hi,hv]at h;simp only at h ⊢;split at h
 ·unfold wr at h ⊢;rw[hg];split at h
  ·rename_i mm hmm;simp only[COut.mem.injEq]at h;obtain⟨rfl,rfl⟩:=h;refine⟨rfl,?_⟩;split at hmm
   ·cases hmm
   ·split at hmm
    ·split at hmm
     ·simp only[ya0]at hmm;exact⟨_,hmm.symm,rfl⟩
     ·cases hmm
    ·split at hmm
     ·simp only[ya0]at hmm;exact⟨_,hmm.symm,rfl⟩
     ·cases hmm
    ·cases hmm
  ·cases h
 ·cases h
theorem zf8{m:Mem}{ty:TypeId}{x v:CV}:(∃w,zaL P m ty x v=.no w)\/∃tag off m',x=.ptr tag off/\zaL P m ty x v=.mem zam m':=by
 cases h:zaL P m ty x v with
 |no w=>exact .inl ⟨w,rfl⟩
 |mem u m'=>
  have h2:=h;unfold zaL at h;split at h
  ·rename_i tag off inf vs h1 h3;exact .inr ⟨tag,off,m',rfl,by rw[(zdc (m2:=m) h2 rfl).1]⟩
  ·cases h
 |_=>
  unfold zaL at h;split at h
  ·split at h
   ·split at h<;>cases h
   ·cases h
  ·cases h
theorem zv6{m m2:Mem}{ty:TypeId}{x i:CV}{tF:Nat}(hx:zoX tF x=true)(hg:∀T,T≠tF->m2.get T=m.get T):zai P m2 ty x i=zai P m ty x i:=by
 unfold zai;split
 ·unfold zg9;split
  ·rfl
  ·rename_i tag e n;have hne:tag≠tF:=fun hq=>by
    unfold zoX at hx;simp only[Bool.not_eq_true']at hx;rw[hq,Nat.beq_refl]at hx;cases hx
   unfold zpS;rw[hg tag hne]
  ·rfl
 ·rfl
 ·rfl
theorem zhF{tF B:Nat}{t:Tmps}:∀{ns:List (Nat×Oper×Nat×CV)},zlx t B tF ns=true->∀i o B' v,(i,o,B',v)∈ns->zak B i=true\/zsE t tF o.op=true
 |[],_,i,o,B',v,h=>by cases h
 |(i0,o0,B0,v0)::r,h,i,o,B',v,hm=>by
  simp only[zlx,ya2,Bool.or_eq_true]at h;rcases List.mem_cons.1 hm with hm |hm
  ·cases hm;exact h.1
  ·exact zhF h.2 i o B' v hm
noncomputable def zp8(d:CD)(B:Nat):Nat->Nat
 |0=>0
 |k+1=>match zak B (d.wi k) with
  |true=>k+1
  |false=>zp8 d B k
theorem zo1{d:CD}{B:Nat}:∀{K:Nat},zp8 d B K=0\/∃k,k<K/\zak B (d.wi k)=true/\zp8 d B K=k+1
 |0=>.inl rfl
 |K+1=>by
  unfold zp8;split
  ·rename_i h;exact .inr ⟨K,by omega,h,rfl⟩
  ·rcases zo1 (d:=d) (B:=B) (K:=K)with h |⟨k,h1,h2,h3⟩
   ·exact .inl h
   ·exact .inr ⟨k,by omega,h2,h3⟩
theorem ziR{ops:List Oper}{t:Tmps}{B tF:Nat}{d:CD}:∀{K:Nat},zqB ops t B tF (zcB d K)=true->∀k,k<K->zp8 d B K<=k->zgT t tF (nth ops (d.wi k))=true
 |0,_,k,h,_=>by omega
 |K+1,h,k,hk,hc=>by
  unfold zcB zqB at h;unfold zp8 at hc;cases hb:zak B (d.wi K) with
  |true=>rw[hb]at hc;simp only at hc;omega
  |false=>
   rw[hb]at h hc;simp only[ya2]at h hc;by_cases hq:k=K
   ·subst hq;exact h.1
   ·exact ziR h.2 k (by omega) hc
theorem zks{t:Tmps}{tF:Nat}{o:Oper}(h:zgT t tF (some o)=true):∃ty a x t' off,o.op=.store ty a x/\evO t a=some (.ptr t' off)/\t'≠tF:=by
 unfold zgT at h;simp only at h;split at h
 ·rename_i ty a x hop;split at h
  ·rename_i t' off he;refine⟨ty,a,x,t',off,hop,he,fun hq=>?_⟩;rw[hq,Nat.beq_refl]at h;cases h
  ·cases h
 ·cases h
theorem zpA{t:Tmps}{tF:Nat}{op:Op}(h:zsE t tF op=true):∃ty x i v,op=.indexAddr ty x i/\evO t x=some v/\zoX tF v=true:=by
 unfold zsE at h;split at h
 ·rename_i ty x i;split at h
  ·rename_i v he;exact⟨ty,x,i,v,rfl,he,h⟩
  ·cases h
 ·cases h
noncomputable def CD.over(d:CD)(tF:Nat)(oF:CO):CD:={ d with st:=fun c=>((d.st c).1.put tF oF,(d.st c).2) }
structure FinOk(P:Program)(ops:Array Oper)(T0:Nat)(d:CD)(s:DS)(k:Nat)(o:Oper)(M tF:Nat)(oF:CO):Prop where
 last:k+1=ops.size
 grd:o.guard=none
 dst:o.dst=none
 low:tF<T0
 sto:∃ty ax xx off u,o.op=.store ty ax xx/\evO s.t ax=some (.ptr tF off)/\evO s.t xx=some u/\zaL P s.cur ty (.ptr tF off) u=.mem zam (s.cur.put tF oF)
 ns:zlx s.t M tF s.ns=true
 hist:zqB ops.toList s.t M tF s.hist=true
theorem zwu{k:Nat}{o:Oper}{M tF:Nat}{oF:CO}(hlast:k+1=ops.size)(hg:ztj o.guard=true)(hd:zu8 o.dst=true)(h:zhg P ops.toList T0 o M s=.fin tF oF s):FinOk P ops T0 d s k o M tF oF:=by
 unfold zhg at h;split at h
 ·rename_i ty ax xx hop;split at h
  ·rename_i t' off hax;split at h
   ·rename_i hb;simp only[ya2]at hb;have hlow:t'<T0:=ya9 hb.1;rw[hop]at h;have hcop:za4 P s.cur.nxt (.store ty ax xx) s.cur s.t=zbL (fun m a x=>zaL P m ty a x) ax xx s.cur s.t:=rfl;rw[hcop]at h;cases hxx:evO s.t xx with
    |none=>
     rw[show zbL (fun m a x=>zaL P m ty a x) ax xx s.cur s.t=.no "operand" from by unfold zbL;rw[hax,hxx]]at h;cases h
    |some u=>
     rw[zhW hax hxx]at h;rcases zf8 (P:=P) (m:=s.cur) (ty:=ty) (x:=.ptr t' off) (v:=u) with⟨w,hw⟩ |⟨tag,off2,m',h1,h2⟩
     ·rw[hw]at h;cases h
     ·cases h1;rw[h2]at h;obtain⟨_,ob,hm',_⟩:=zdc (m2:=s.cur) h2 rfl;subst hm';unfold zrK at h;simp only[Mem.get_put,if_true]at h;cases h;refine⟨hlast,?_,?_,hlow,⟨ty,ax,xx,off,u,hop,hax,hxx,h2⟩,hb.2.1,hb.2.2⟩
      ·cases hgg:o.guard with
       |none=>rfl
       |some _=>rw[hgg]at hg;cases hg
      ·cases hgg:o.dst with
       |none=>rfl
       |some _=>rw[hgg]at hd;cases hd
   ·cases h
  ·cases h
 ·cases h
section fin
variable{k:Nat}{o:Oper}{M tF:Nat}{oF:CO}
theorem FinOk.write(hf:FinOk P ops T0 d s k o M tF oF)(hp:PlanOk ops l)(hc:Cert P ih ops l t0 M0 T0 d k s){j:Nat}(hj:j<d.K)(hcut:zp8 d M d.K<=j){q:Oper}{B':Nat}(hl:l[d.wi j]? = some (q,B')):
  ∃ty a x t' off,q.op=.store ty a x/\evO s.t a=some (.ptr t' off)/\t'≠tF:=by
 have h1:=ziR (by have:=hf.hist;rwa [hc.hist]at this) j hj hcut;rw[zbG]at h1;have h2:=hp.op _ q B' hl;rw[show ops.toList[d.wi j]? = some q from by simpa using h2]at h1;exact zks h1
theorem zjw{as:List (Nat×Nat×CO)}(hA:AsOk T0 as)(hlow:tF<T0){B' c:Nat}(hlt:∀j T ob,(j,T,ob)∈as->T<(d.st c).1.nxt):
  (zas (d.over tF oF) as B' c).nxt=(zas d as B' c).nxt/\(zas (d.over tF oF) as B' c).get tF=some oF/\∀T,T≠tF->(zas (d.over tF oF) as B' c).get T=(zas d as B' c).get T:=by
 have h1:=zdu (zaq B' (d.st c).2) (M:=(d.st c).1) hA hlt;have h2:=zdu (zaq B' (d.st c).2) (M:=(d.st c).1.put tF oF) hA hlt;refine⟨h2.nxt.trans h1.nxt.symm,?_,fun T hT=>?_⟩
 ·refine(h2.get0 tF fun j ob hm=>?_).trans (by rw[Mem.get_put,if_pos rfl]);have:=(hA.tag j tF ob hm).1;omega
 ·by_cases hx:∃j ob,(j,T,ob)∈as/\zaq B' (d.st c).2 j=true
  ·obtain⟨j,ob,h3,h4⟩:=hx;exact(h2.get1 j T ob h3 h4).trans (h1.get1 j T ob h3 h4).symm
  ·refine(h2.get0 T fun j ob h3 h4=>hx ⟨j,ob,h3,h4⟩).trans (Eq.trans ?_ (h1.get0 T fun j ob h3 h4=>hx ⟨j,ob,h3,h4⟩).symm);rw[Mem.get_put,if_neg hT]
theorem FinOk.keep(hf:FinOk P ops T0 d s k o M tF oF)(hp:PlanOk ops l)(hc:Cert P ih ops l t0 M0 T0 d k s)(hn:∀c,c<=d.K->M0.nxt<=(d.st c).1.nxt)(hM0:M0.nxt=T0+ops.size):
  ∀n c,c+n=d.K->zp8 d M d.K<=c->(d.st c).1.get tF=s.cur.get tF:=by
 have hks:k<=ops.size:=by have:=hf.last;omega
 intro n
 induction n with
 |zero=>
  intro c hcn _;rw[hc.cur,show c=d.K by omega]
 |succ n ihn=>
  intro c hcn hcut;rw[<- ihn (c+1) (by omega) (by omega)];have hcK:c<d.K:=by omega
  obtain⟨⟨q,B'⟩,hq⟩:∃p,l[d.wi c]? = some p:=⟨_,yb5 (by rw[hp.len];have:=(hc.wlt c hcK).1;omega)⟩
  obtain⟨ty,a,x,t',off,hop,ha,hne⟩:=hf.write hp hc hcK hcut hq;have hagr:=hc.agr hp (by have:=hf.last;omega) (Nat.le_of_lt (hc.wlt c hcK).1) hq (hc.cl3 _ q B' (hc.wlt c hcK).1 hq (by rw[(hc.wlt c hcK).2];decide));obtain⟨_,hv⟩:=hc.vW c q B' hcK hq s.t hagr;have hlt:∀j T ob,(j,T,ob)∈s.as->T<(d.st c).1.nxt:=fun j T ob hj=>by
   have h1:=(hc.asok.tag j T ob hj).1;have h2:=(hc.asin j T ob hj).1;have h3:=hn c (by omega);omega
  have hget:(zas d s.as B' c).get tF=(d.st c).1.get tF:=(zdu (zaq B' (d.st c).2) (M:=(d.st c).1) hc.asok hlt).get0 tF fun j ob hm=>by
   have h1:=(hc.asok.tag j tF ob hm).1;have h2:=hf.low;omega
  have hcop:cop P q.op (zas d s.as B' c) s.t=zbL (fun m a x=>zaL P m ty a x) a x (zas d s.as B' c) s.t:=by rw[hop];rfl
  rw[hcop]at hv;cases hx:evO s.t x with
  |none=>
   rw[show zbL (fun m a x=>zaL P m ty a x) a x (zas d s.as B' c) s.t=.no "operand" from by unfold zbL;rw[ha,hx]]at hv;cases hv
  |some u=>
   rw[zhW ha hx]at hv;rcases zf8 (P:=P) (m:=zas d s.as B' c) (ty:=ty) (x:=.ptr t' off) (v:=u) with⟨w,hw⟩ |⟨tag,off2,m',h1,h2⟩
   ·rw[hw]at hv;cases hv
   ·cases h1;rw[h2]at hv;obtain⟨_,ob,hm',_⟩:=zdc (m2:=zas d s.as B' c) h2 rfl;simp only[znr,ya0,yc4]at hv;rw[<- hv.2,hm',Mem.get_put,if_neg (Ne.symm hne),hget]
theorem FinOk.fc(hf:FinOk P ops T0 d s k o M tF oF)(hp:PlanOk ops l)(hc:Cert P ih ops l t0 M0 T0 d k s)(hn:∀c,c<=d.K->M0.nxt<=(d.st c).1.nxt)(hM0:M0.nxt=T0+ops.size):
  FC P ih ops l t0 T0 (d.over tF oF) s.as (fun i=>(i<k/\d.kn i≠3)/\zak M i=false) (zp8 d M d.K):=by
 have hks:k<ops.size:=by have:=hf.last;omega
 have h0:=hc.fc (Nat.le_of_lt hks);have hlt:∀c,c<=d.K->∀j T ob,(j,T,ob)∈s.as->T<(d.st c).1.nxt:=fun c hcK j T ob hj=>by
  have h1:=(hc.asok.tag j T ob hj).1;have h2:=(hc.asin j T ob hj).1;have h3:=hn c hcK;omega
 refine⟨fun i q u hg=>h0.dsz i q u hg.1,fun i hg=>h0.k012 i hg.1,fun i hg=>h0.win i hg.1,h0.wlt,h0.chain,h0.st0,h0.cls,h0.asok,h0.asin,fun i q B' hg=>h0.vA i q B' hg.1,fun i q B' hg hl hk t ha=>?_,fun j q B' hg hcut hj hl t ha=>?_⟩
 ·rcases h0.vN i q B' hg.1 hl hk t ha with h1 |⟨h1,h2⟩
  ·exact .inl h1
  ·refine .inr ⟨h1,fun c hc0 hcK h3 h4=>?_⟩;have hval:=h2 c (Nat.zero_le _) hcK h3 h4;obtain⟨e1,e2,e3⟩:=zjw (d:=d) (oF:=oF) hc.asok hf.low (B':=B') (hlt c hcK);show cop P q.op (zas (d.over tF oF) s.as B' c) t=.val (d.val i);rcases hc.nall i q B' hg.1.1 hl hk with h5 |h5 |h5
   ·rw[h5 t ha]at h1;cases h1
   ·rw[<- hval];exact zda h5
   ·rcases zhF hf.ns i q B' _ h5 with h6 |h6
    ·rw[hg.2]at h6;cases h6
    ·obtain⟨ty,x,ix,v',hop,hx,hoff⟩:=zpA h6;have hagr:=hc.agr hp hks (Nat.le_of_lt hg.1.1) hl (hc.cl3 i q B' hg.1.1 hl hg.1.2);have hxt:evO t x=some v':=by rw[<- hx];exact zaO fun u hu=>ha.eq hagr u (.inl (by rw[hop];simp[zaz,hu]))
     have key:∀mm,cop P q.op mm t=zbL (fun m x i=>zai P m ty x i) x ix mm t:=fun mm=>by rw[hop];rfl
     rw[key]at hval ⊢;cases hix:evO t ix with
     |none=>
      rw[show zbL (fun m x i=>zai P m ty x i) x ix (zas d s.as B' c) t=.no "operand" from by unfold zbL;rw[hxt,hix]]at hval;cases hval
     |some iv=>
      rw[zhW hxt hix]at hval ⊢;rw[zv6 hoff e3];exact hval
 ·have hj':j<d.K:=hj;obtain⟨h1,m',h2,h3,h4⟩:=h0.vW j q B' hg.1 (Nat.zero_le _) hj' hl t ha;refine⟨h1,?_⟩;obtain⟨ty,a',x,t',off,hop,hae,hne⟩:=hf.write hp hc hj' hcut hl;have hw:=hc.wlt j hj';have hagr:=hc.agr hp hks (Nat.le_of_lt hw.1) hl (hc.cl3 _ q B' hw.1 hl (by rw[hw.2];decide));have hat:evO t a'=some (.ptr t' off):=by rw[<- hae];exact zaO fun u hu=>ha.eq hagr u (.inl (by rw[hop];simp[zaz,hu]))
  have key:∀mm,cop P q.op mm t=zbL (fun m a x=>zaL P m ty a x) a' x mm t:=fun mm=>by rw[hop];rfl
  obtain⟨e1,e2,e3⟩:=zjw (d:=d) (oF:=oF) hc.asok hf.low (B':=B') (hlt j (Nat.le_of_lt hj'));rw[key]at h2;show ∃m',znr ih (zas (d.over tF oF) s.as B' j) (cop P q.op (zas (d.over tF oF) s.as B' j) t)=some (d.val (d.wi j),m')/\m'.nxt=((d.st (j+1)).1.put tF oF).nxt/\∀T,m'.get T=((d.st (j+1)).1.put tF oF).get T;rw[key];cases hx:evO t x with
  |none=>
   rw[show zbL (fun m a x=>zaL P m ty a x) a' x (zas d s.as B' j) t=.no "operand" from by unfold zbL;rw[hat,hx]]at h2;cases h2
  |some u=>
   rw[zhW hat hx]at h2 ⊢;rcases zf8 (P:=P) (m:=zas d s.as B' j) (ty:=ty) (x:=.ptr t' off) (v:=u) with⟨w,hw⟩ |⟨tag,off2,m2,h5,h6⟩
   ·rw[hw]at h2;cases h2
   ·cases h5;rw[h6]at h2;simp only[znr,ya0,yc4]at h2;obtain⟨_,ob,hm2,h7⟩:=zdc (m2:=zas (d.over tF oF) s.as B' j) h6 (e3 t' hne);rw[h7];refine⟨_,congrArg some (Prod.ext h2.1 rfl),?_,fun T=>?_⟩
    ·show(zas (d.over tF oF) s.as B' j).nxt=(d.st (j+1)).1.nxt;rw[e1,<- h3,<- h2.2,hm2];rfl
    ·rw[Mem.get_put,Mem.get_put,<- h4,<- h2.2,hm2,Mem.get_put];by_cases hT:T=t'
     ·rw[if_pos hT,if_pos hT,if_neg (by rw[hT];exact hne)]
     ·rw[if_neg hT,if_neg hT];by_cases hT2:T=tF
      ·rw[if_pos hT2,hT2,e2]
      ·rw[if_neg hT2,e3 T hT2]
theorem SimAt.fin(hf:FinOk P ops T0 d s k o M tF oF)(hp:PlanOk ops l)(hc:Cert P ih ops l t0 M0 T0 d k s)(h0:∀j,j<k->d.kn j≠3)(hlk:l[k]? = some (o,M))(hn:∀c,c<=d.K->M0.nxt<=(d.st c).1.nxt)(hM0:M0.nxt=T0+ops.size)
  (h:SimAt ops t0 T0 d s.as B e0 ds listed a w e t m c) {rr:Option Nat} {n:Nat} {Q:Exit->Act->World->Prop} (hi:k∈Region.ready .any ops listed) {K:Act->World->Prop}
  (hK:∀a w,Sim ops t0 T0 (d.over tF oF) s.as B e0 ds (zp8 d M d.K) (listed.setIfInBounds k true) a w->K a w):wpOpIn (FW rr) n P ops Q k K a w:=by
 obtain⟨hni,hlt,o',ho,hed⟩:=zcc hi h.size;have hoo:o'=o:=by have:=hp.op k o M hlk;rw[ho]at this;cases this;rfl
 subst hoo;have hsz:k<listed.size:=by rw[h.size];exact hlt
 have hanc:∀j,zak M j=true->Lst listed j:=(hp.mask k o' M hlk).anc _ h.clos (fun q hq e he hb=>by rw[ho]at hq;cases hq;exact hed e he hb);have hagr:=h.agr (s:=s) hp hlk hni hanc;have hagr2:=hc.agr hp hlt (Nat.le_refl k) hlk (fun j hj=>h0 j ((hp.mask k o' M hlk).lt j hj));have hcut:zp8 d M d.K<=c:=by
  rcases zo1 (d:=d) (B:=M) (K:=d.K)with h1 |⟨j,h1,h2,h3⟩
  ·omega
  ·have:=(h.cw j h1).1 (hanc _ h2);omega
 obtain⟨ty,ax,xx,off,u,hop,hax,hxx,hsto⟩:=hf.sto;have hax':evO t ax=some (.ptr tF off):=by rw[<- hax];exact zaO fun u hu=>hagr.eq hagr2 u (.inl (by rw[hop];simp[zaz,hu]))
 have hxx':evO t xx=some u:=by rw[<- hxx];exact zaO fun u hu=>hagr.eq hagr2 u (.inl (by rw[hop];simp[zaz,hu]))
 have hlow:=hf.low;have hget:m.get tF=s.cur.get tF:=by
  rw[h.ovr.get0 tF fun j ob hm=>by have:=(hc.asok.tag j tF ob hm).1;omega];have:=h.cK;exact hf.keep hp hc hn hM0 (d.K - c) c (by omega) hcut
 obtain⟨_,ob,hob,hst⟩:=zdc (m2:=m) hsto hget;have hobF:ob=oF:=by
  have:=congrArg (fun mm=>mm.get tF) hob;simp only[Mem.get_put,if_true,ya0]at this;exact this.symm
 subst hobF;have hcop:cop P o'.op m t=.mem zam (m.put tF ob):=by
  have:cop P o'.op m t=zbL (fun m a x=>zaL P m ty a x) ax xx m t:=by rw[hop];rfl
  rw[this,zhW hax' hxx'];exact hst
 have hout:=ziJ (P:=P) (o:=o') (a:=a) h.rel h.tok;rw[hcop]at hout;obtain⟨e1,V,w1,le1,hV,hr1,hrun⟩:=hout;unfold wpOpIn;rw[ho];simp only;rw[if_pos (zcF h.tok (by rw[hf.grd];rfl))];have hnd:∀c,o'.op≠.defer c:=fun c' hc'=>by rw[hop]at hc';cases hc'
 have hL:∀j,Lst (listed.setIfInBounds k true) j↔Lst listed j\/j=k:=fun j=>zdQ hsz
 have fin:∀V,K (a.put o'.dst V) w1:=fun V=>by
  rw[hf.dst];refine hK a w1 ⟨e1,t,m.put tF ob,c,hcut,by simp[h.size],h.le.trans le1,fun j q hj hlj e he hb=>?_,h.cK,fun k' hk'=>?_,h.dok.mono le1,h.tok.mono le1,h.tsz,fun j q u' hj hq hd=>?_,fun u' hu=>?_,hr1.reZ fun t' ht'=>zp9 hsz ht',?_⟩
  ·rw[hL];rcases(hL j).1 hlj with h1 |rfl
   ·exact .inl (h.clos j q hj h1 e he hb)
   ·rw[ho]at hj;cases hj;exact .inl (hed e he hb)
  ·rw[hL,<- h.cw k' hk'];exact⟨fun hq=>hq.resolve_right fun hq2=>by have h9:d.wi k'<k:=(hc.wlt k' hk').1;have h8:d.wi k'=k:=hq2;omega,.inl⟩
  ·rcases(hL j).1 hj with h1 |rfl
   ·exact h.t1 j q u' h1 hq hd
   ·rw[ho]at hq;cases hq;rw[hf.dst]at hd;cases hd
  ·exact h.t2 u' fun j q hj hq=>hu j q ((hL j).2 (.inl hj)) hq
  ·refine⟨h.ovr.nxt,fun j T ob2 hm hj=>?_,fun T hT=>?_⟩
   ·have h1:=(hc.asok.tag j T ob2 hm).1;have h2:=(hc.asin j T ob2 hm).1;rw[Mem.get_put,if_neg (by omega)];refine h.ovr.get1 j T ob2 hm ⟨((hL j).1 hj.1).resolve_right (by omega),hj.2⟩
   ·show(m.put tF ob).get T=((d.st c).1.put tF ob).get T;rw[Mem.get_put,Mem.get_put];by_cases hq:T=tF
    ·rw[if_pos hq,if_pos hq]
    ·rw[if_neg hq,if_neg hq];exact h.ovr.get0 T fun j ob2 hm hj=>hT j ob2 hm ⟨(hL j).2 (.inl hj.1),hj.2⟩
 rcases hrun with hrun |⟨hrun,rfl⟩
 ·exact zao hnd hrun (fin V)
 ·exact zao hnd hrun (fin undef)
end fin
end sim
end Go.Cx
namespace Go.Cx
open Go Go.RowKit
variable{P:Program}
theorem Rel.drew{B:Bas}{e:Env}{m:Mem}{w:World}(h:Rel B e m w):Rel B e m { w with drawn:=w.drawn+1 }:=
 ⟨fun t o ho=>zbZ (Env.le.refl e) (fun b _=>rfl) (h.ok t o ho),h.inj0,h.own,h.rof,h.glb,h.dom,⟨h.frm.os,h.frm.tape,h.frm.output,h.frm.size,h.frm.block⟩,h.zlt,h.bar⟩
theorem zjp{m:Mem}{cl:Nat}:∀{as:List (Nat×Nat×CO)},zpF m cl as=true->∀j T o,(j,T,o)∈as->zak cl j=false->m.get T=none
 |[],_,j,T,o,h,_=>by cases h
 |(j0,T0,o0)::r,h,j,T,o,hm,hb=>by
  simp only[zpF,ya2,Bool.or_eq_true]at h;rcases List.mem_cons.1 hm with hm |hm
  ·cases hm;have:=h.1.resolve_left (by rw[hb];simp);split at this
   ·assumption
   ·cases this
  ·exact zjp h.2 j T o hm hb
theorem zgg{N:Nat}{as:List (Nat×Nat×CO)}{d:CD}:∀{k:Nat},zbp N as (zcB d k)=true->∀c,c<k->N<=(d.st c).1.nxt/\∀j T o,(j,T,o)∈as->zak (d.st c).2 j=false->(d.st c).1.get T=none
 |0,_,c,hc=>by omega
 |k+1,h,c,hc=>by
  simp only[zcB,zbp,ya2]at h;by_cases hck:c=k
  ·subst hck;exact⟨ya9 h.1,zjp h.2.1⟩
  ·exact zgg h.2.2 c (by omega)
section
variable{ih:Task->Res}{ops:Array Oper}{l:List (Oper×Nat)}{t0:Tmps}{M0:Mem}{T0:Nat}{d:CD}{s:DS}{B:Bas}{e0:Env}{ds:List CDef}
theorem count_set{L:Array Bool}{i:Nat}(h:L[i]? = some false):(L.setIfInBounds i true).toList.count false+1=L.toList.count false:=by
 have hlt:=(Array.getElem?_eq_some_iff.1 h).1;have hv:=(Array.getElem?_eq_some_iff.1 h).2;rw[Array.toList_setIfInBounds,List.count_set (by simpa using hlt)];have h1:L.toList[i]=false:=by simpa using hv
 have h2:0<L.toList.count false:=List.count_pos_iff.2 (by rw[<- h1];exact List.getElem_mem _);rw[h1];show(L.toList.count false - 1+0)+1=L.toList.count false;omega
theorem zd8(hp:PlanOk ops l){L:Array Bool}(hsz:L.size=ops.size)(hr:Region.ready .any ops L=[]):∀i,i<ops.size->Lst L i:=by
 intro i
 induction i using Nat.strongRecOn with
 |_ i ih2=>
  intro hi;cases hl:L.getD i false with
  |true=>exact hl
  |false=>
   exfalso;obtain⟨o,ho⟩:∃o,ops[i]? = some o:=⟨_,Array.getElem?_eq_getElem hi⟩
   obtain⟨⟨o',M⟩,hlp⟩:∃p,l[i]? = some p:=⟨_,yb5 (by rw[hp.len];exact hi)⟩
   have hmem:i∈Region.ready .any ops L:=mem_ready.2 ⟨by
    rw[Array.getD_eq_getD_getElem?]at hl ⊢;have hlt:i<L.size:=by rw[hsz];exact hi
    have:L[i]? = some L[i]:=Array.getElem?_eq_getElem hlt;rw[this]at hl ⊢;exact hl,o,ho,fun e he hb=>ih2 e.on ((hp.mask i o' M hlp).low o ho e he hb) (by have:=(hp.mask i o' M hlp).low o ho e he hb;omega)⟩
   rw[hr]at hmem;cases hmem
theorem zrd{rr:Option Nat}{n:Nat}{Q:Exit->Act->World->Prop}{Inv:Array Bool->Act->World->Prop}(hsz:∀L a w,Inv L a w->L.size=ops.size)
  (hstep:∀L a w i,Inv L a w->i∈Region.ready .any ops L->∀K:Act->World->Prop,(∀a w,Inv (L.setIfInBounds i true) a w->K a w)->wpOpIn (FW rr) n P ops Q i K a w)
  (hdone:∀L a w,Inv L a w->Region.ready .any ops L=[]->Q .normal a w):
  ∀(f:Nat) (L:Array Bool) (a:Act) (w:World),Inv L a w->L.toList.count false<=f->wpAnyIn (FW rr) n P .any ops Q f L a w:=by
 have hcnt:∀L a w i,Inv L a w->i∈Region.ready .any ops L->(L.setIfInBounds i true).toList.count false+1=L.toList.count false:=fun L a w i hs hi=>by
  obtain⟨h1,h2,_⟩:=zcc hi (hsz L a w hs);refine count_set ?_;rw[Array.getElem?_eq_getElem (by rw[hsz L a w hs];exact h2)];unfold Lst at h1;rw[Array.getD_eq_getD_getElem?,Array.getElem?_eq_getElem (by rw[hsz L a w hs];exact h2)]at h1;simpa using h1
 intro f
 induction f with
 |zero=>
  intro L a w hs hf;have hr:Region.ready .any ops L=[]:=by
   rw[List.eq_nil_iff_forall_not_mem];intro i hi;have:=hcnt L a w i hs hi;omega
  exact⟨hr,hdone L a w hs hr⟩
 |succ f ih2=>
  intro L a w hs hf;refine⟨hdone L a w hs,fun i hi=>?_⟩;have hcount:=hcnt L a w i hs hi;exact hstep L a w i hs hi _ fun a w hs2=>ih2 _ a w hs2 (by omega)
end
theorem zry(t:Tmps)(i u:Nat):(t.unset i).get u=if u=i then none else t.get u:=by
 obtain⟨sz,tr⟩:=t;show Bool.rec (motive:=fun _=>Option CV) none ((Tr.set (Nat.succ i) tr i none).get u) (Nat.ble (Nat.succ u) sz)=if u=i then none else Bool.rec (motive:=fun _=>Option CV) none (tr.get u) (Nat.ble (Nat.succ u) sz)
 rw[Tr.get_set _ _ _ _ _ (by omega)];by_cases hu:u=i
 ·rw[if_pos hu,if_pos hu];cases Nat.ble (Nat.succ u) sz<;>rfl
 ·rw[if_neg hu,if_neg hu]
theorem ztA(t:Tmps)(i:Nat):(t.unset i).sz=t.sz:=by obtain⟨sz,tr⟩:=t;rfl
theorem zeM:∀(r:List (Nat×Nat)) (t:Tmps),(ziZ r t).sz=t.sz/\∀u x,(ziZ r t).get u=some x->t.get u=some x/\∀j,(u,j)∉r
 |[],t=>⟨rfl,fun u x h=>⟨h,fun j hj=>by cases hj⟩⟩
 |(d,i)::r,t=>by
  obtain⟨h1,h2⟩:=zeM r (t.unset d);refine⟨h1.trans (ztA t d),fun u x h=>?_⟩;obtain⟨h3,h4⟩:=h2 u x h;rw[zry]at h3;split at h3
  ·cases h3
  ·rename_i hne;refine⟨h3,fun j hj=>?_⟩;rcases List.mem_cons.1 hj with hj |hj
   ·cases hj;exact hne rfl
   ·exact h4 j hj
theorem zs1{ih:Task->Res}(hih:∀B k,zbh P B k (ih k))(hm:P.follows .mixedOrders=true)(B:Bas)(id:Nat)(ops:Array Oper)(t:Tmps)(ds:List CDef)(r:Option Nat)(m:Mem):zcj P B (.region id ops true) t ds r m (ziq P ih ops.toList t ds m):=by
 unfold ziq;split
 ·rename_i l hl;have hp:=zrh hl;generalize hdr:zaN P ih ops.toList m.nxt l 0 ⟨t,⟨Nat.add m.nxt ops.toList.length,m.tr⟩,0,[],[],[]⟩=dr;have hlen:Nat.add m.nxt ops.toList.length=m.nxt+ops.size:=by simp
  rw[hlen]at hdr ⊢
  let M0:Mem:=⟨m.nxt+ops.size,m.tr⟩
  have hget:∀T,M0.get T=m.get T:=fun T=>rfl
  let d0:CD:=⟨fun _=>zam,fun _=>0,fun _=>0,fun _=>(M0,0),0⟩
  have hc0:Cert P ih ops l t M0 m.nxt d0 0 ⟨t,M0,0,[],[],[]⟩:=by
   refine⟨rfl,rfl,rfl,?_,?_,?_,rfl,?_,⟨?_,?_⟩,?_,?_,fun u _=>rfl,rfl,?_,?_,?_,?_,?_,?_⟩
   ·intro k hk;exact absurd hk (Nat.not_lt_zero _)
   ·intro i hi;exact absurd hi (Nat.not_lt_zero _)
   ·intro k hk;exact absurd hk (Nat.not_lt_zero _)
   ·intro k hk;exact absurd hk (Nat.not_lt_zero _)
   ·intro j T o h;cases h
   ·intro j T o T' o' h;cases h
   ·intro j T o h;cases h
   ·intro i o u hi;exact absurd hi (Nat.not_lt_zero _)
   ·intro i o B hi;exact absurd hi (Nat.not_lt_zero _)
   ·intro i o B hi;exact absurd hi (Nat.not_lt_zero _)
   ·intro k o B hk;exact absurd hk (Nat.not_lt_zero _)
   ·intro i o B hi;exact absurd hi (Nat.not_lt_zero _)
   ·intro i hi;exact absurd hi (Nat.not_lt_zero _)
   ·intro i o B hi;exact absurd hi (Nat.not_lt_zero _)
  by_cases hno:zxd dr
  ·cases dr<;>first |trivial |exact hno.elim
  have hout:=zbJ hp hno l 0 d0 _ (fun j=>by rw[Nat.zero_add]) hc0 (fun j hj=>absurd hj (Nat.not_lt_zero _)) hdr;rw[Nat.zero_add,hp.len]at hout;have nolst:∀j,¬Lst (Array.replicate ops.size false) j:=fun j hj=>by
   unfold Lst at hj;rw[Array.getD_eq_getD_getElem?,Array.getElem?_replicate]at hj;split at hj<;>cases hj
  have hfree:∀{d:CD} {s:DS} {n:Nat},Cert P ih ops l t M0 m.nxt d n s->zbp (m.nxt+ops.size) s.as ((0,s.cl,s.cur)::s.hist)=true->∀c,c<=d.K->(m.nxt+ops.size)<=(d.st c).1.nxt/\∀j T o,(j,T,o)∈s.as->zak (d.st c).2 j=false->(d.st c).1.get T=none:=fun{d s n} hc hfr c hcK=>by
   have hfrK:zbp (m.nxt+ops.size) s.as (zcB { d with wi:=fun k=>if k=d.K then 0 else d.wi k } (d.K+1))=true:=by
    have:zcB { d with wi:=fun k=>if k=d.K then 0 else d.wi k } (d.K+1)=(0,s.cl,s.cur)::s.hist:=by
     simp only[zcB,if_pos];rw[hc.cl,hc.cur,hc.hist];congr 1;exact zbI fun i hi=>⟨if_neg (by omega),rfl⟩
    rw[this];exact hfr
   exact zgg hfrK c (by omega)
  have hstart:∀{d:CD} {s:DS} {n:Nat},Cert P ih ops l t M0 m.nxt d n s->∀{e a w},St B e t ds m a w->Sim ops t m.nxt d s.as B e ds 0 (Array.replicate ops.size false) a { w with drawn:=w.drawn+1 }:=fun{d s n} hc {e a w} hs=>by
   have hZ0:∀tt,Zof ops m.nxt d B (Array.replicate ops.size false) tt->B.Z tt\/(m.nxt<=tt/\tt<m.nxt+ops.size):=fun tt ht=>by
    rcases ht with ht |⟨j,h1,_,_,rfl⟩
    ·exact .inl ht
    ·exact .inr ⟨by omega,by omega⟩
   have hrw:=hs.rel.drew;refine⟨e,t,M0,0,Nat.le_refl _,by simp,Env.le.refl e,fun i o _ hi=>absurd hi (nolst i),Nat.zero_le _,fun k hk=>⟨fun hq=>absurd hq (nolst _),fun hq=>absurd hq (Nat.not_lt_zero _)⟩,hs.dok,hs.tok,rfl,fun j q u hj=>absurd hj (nolst j),fun u _=>rfl,?_,?_⟩
   ·refine⟨fun tt o ho=>hrw.ok tt o ho,fun tt t' o o' b b' h1 h2=>hrw.inj0 tt t' o o' b b' h1 h2,fun tt o b h1=>hrw.own tt o b h1,fun tt o b h1=>hrw.rof tt o b h1,hrw.glb,fun tt ht=>hrw.dom tt (by have:m.nxt+ops.size<=tt:=ht;omega),hrw.frm,fun tt ht=>?_,fun tt ht=>?_⟩
    ·show tt<m.nxt+ops.size;rcases hZ0 tt ht with h |h
     ·have:=hrw.zlt tt h;omega
     ·exact h.2
    ·rcases hZ0 tt ht with h |h
     ·exact hrw.bar tt h
     ·exact hrw.dom tt h.1
   ·rw[hc.st0];exact⟨rfl,fun j T o _ hj=>absurd hj.1 (nolst j),fun T _=>rfl⟩
  have hend:∀{d d':CD} {s:DS} {n:Nat} {L:Array Bool} {a2:Act} {w2:World} {e e2:Env} {t2:Tmps} {m2:Mem} {c:Nat},Cert P ih ops l t M0 m.nxt d n s->(∀j q u,ops[j]? = some q->q.dst=some u->j<n/\d.kn j≠3)->d'.val=d.val ->
    SimAt ops t m.nxt d' s.as B e ds L a2 w2 e2 t2 m2 c->(∀j,j<ops.size->Lst L j)->TOk e2 s.t a2.tmps:=fun{d d' s n L a2 w2 e e2 t2 m2 c} hc hd hval hat hdone=>by
   refine⟨by rw[hat.tok.1,hat.tsz,hc.tsz],fun u x hx=>hat.tok.2 u x ?_⟩;rw[<- hx];by_cases hq:∃(j:Nat) (q:Oper),ops[j]? = some q/\q.dst=some u
   ·obtain⟨j,q,h1,h2⟩:=hq;have hj:=(Array.getElem?_eq_some_iff.1 h1).1;obtain⟨h3,h4⟩:=hd j q u h1 h2;rw[hat.t1 j q u (hdone j hj) h1 h2,(hc.tv1 j q u h3 h4 h1 h2).1,hval]
   ·rw[hat.t2 u fun j q _ h1 h2=>hq ⟨j,q,h1,h2⟩,hc.tv0 u fun j q _ _ h1 h2=>hq ⟨j,q,h1,h2⟩]
  have hcK:∀{d d':CD} {s:DS} {n:Nat} {L:Array Bool} {a2:Act} {w2:World} {e e2:Env} {t2:Tmps} {m2:Mem} {c:Nat},Cert P ih ops l t M0 m.nxt d n s->n<=ops.size->d'.K=d.K->d'.wi=d.wi ->
    SimAt ops t m.nxt d' s.as B e ds L a2 w2 e2 t2 m2 c->(∀j,j<ops.size->Lst L j)->c=d.K:=fun{d d' s n L a2 w2 e e2 t2 m2 c} hc hn hK hwi hat hdone=>by
   have h1:=hat.cK;rw[hK]at h1;rcases Nat.lt_or_ge c d.K with h2 |h2
   ·have:=(hat.cw c (by rw[hK];exact h2)).1 (hdone _ (by rw[hwi];have:=(hc.wlt c h2).1;omega));omega
   ·omega
  have hovE:∀{d:CD} {s:DS} {n:Nat},Cert P ih ops l t M0 m.nxt d n s->n<=ops.size->(∀c,c<=d.K->(m.nxt+ops.size)<=(d.st c).1.nxt)->Ovr (fun j=>(!zak s.cl j)=true) s.as s.cur (zaV (fun j => !zak s.cl j) s.as s.cur):=fun{d s n} hc hn hnx=>
   zdu (fun j => !zak s.cl j) (M:=s.cur) hc.asok (fun j T o hj=>by
    have h1:=(hc.asok.tag j T o hj).1;have h2:=(hc.asin j T o hj).1;have h3:=hnx d.K (Nat.le_refl _);rw[hc.cur];omega)
  cases dr with
  |no w=>exact absurd trivial hno
  |ok s=>
   obtain⟨d,hc,h3⟩:=hout;show zcj P B (.region id ops true) t ds r m (zgG (m.nxt+ops.size) s _);unfold zgG;split
   ·rename_i hfr;intro e a w rr n hR hs;have hall:=hfree hc hfr;refine wpIn_region_any hm (zrd (Inv:=fun L a w=>Sim ops t m.nxt d s.as B e ds 0 L a w) (fun L a w ⟨_,_,_,_,_,hat⟩=>hat.size) (fun L a2 w2 i ⟨_,_,_,_,hc0',hat⟩ hi K hK=>?_) (fun L a2 w2 ⟨e2,t2,m2,c,_,hat⟩ hr=>?_) ops.size _ _ _ (hstart hc hs) (by simp))
    ·have hlt:=(zcc hi hat.size).2.1;exact hat.step (M0:=M0) hp hih (hc.fc (Nat.le_refl _)) (fun c hc=>(hall c hc).1) rfl (fun c hc=>(hall c hc).2) (fun tt ht=>hs.rel.zlt tt ht) ⟨hlt,h3 i hlt⟩ hc0' hi hK
    ·have hdone:=zd8 hp hat.size hr;obtain rfl:=hcK hc (Nat.le_refl _) rfl rfl hat hdone;refine⟨e2,hat.le,rfl,?_,hend hc (fun j q u hj _=>by have:=(Array.getElem?_eq_some_iff.1 hj).1;exact⟨this,h3 j this⟩) rfl hat hdone,hat.dok⟩;have hov:=hovE hc (Nat.le_refl _) (fun c hc=>(hall c hc).1);have hm2:Ovr (fun j=>Lst L j/\zak (d.st d.K).2 j=false) s.as s.cur m2:=by rw[hc.cur];exact hat.ovr
     rw[<- hc.cl]at hm2;have hr2:Rel (B.withZ B.Z) e2 m2 w2:=hat.rel.reZ fun tt ht=>.inl ht
     have hr3:Rel B e2 m2 w2:=hr2;refine hr3.sub (hov.nxt.trans hm2.nxt.symm) fun T o hT=>?_
     by_cases hx:∃j o',(j,T,o')∈s.as/\zak s.cl j=false
     ·obtain⟨j,o',h1,h2⟩:=hx;rw[hov.get1 j T o' h1 (by rw[h2];rfl)]at hT;cases hT;exact hm2.get1 j T o h1 ⟨hdone j (hc.asin j T o h1).1,h2⟩
     ·rw[hov.get0 T fun j o' h1 h2=>hx ⟨j,o',h1,by simpa using h2⟩]at hT;rw[hm2.get0 T fun j o' h1 h2=>hx ⟨j,o',h1,h2.2⟩];exact hT
   ·trivial
  |pan v mp s=>
   obtain⟨d,z,hc,hz⟩:=hout;show zcj P B (.region id ops true) t ds r m (zgG (m.nxt+ops.size) s _);unfold zgG;split
   ·rename_i hfr;intro e a w rr n hR hs;have hall:=hfree hc hfr;refine wpIn_region_any hm (zrd (Inv:=fun L a w=>¬Lst L z/\Sim ops t m.nxt d s.as B e ds 0 L a w) (fun L a w ⟨_,_,_,_,_,_,hat⟩=>hat.size) (fun L a2 w2 i ⟨hnz,_,_,_,_,hc0',hat⟩ hi K hK=>?_) (fun L a2 w2 ⟨hnz,e2,t2,m2,c,_,hat⟩ hr=>absurd (zd8 hp hat.size hr z hz.lt) hnz) ops.size _ _ _ ⟨nolst z,hstart hc hs⟩ (by simp));obtain⟨hni,hlt,o,ho,hed⟩:=zcc hi hat.size;by_cases hiz:i=z
    ·subst hiz;refine hat.pan (M0:=M0) hp hih (hc.fc (Nat.le_refl _)) (fun c hc=>(hall c hc).1) rfl (fun c hc=>(hall c hc).2) (fun o M hl=>hz.go o M hl) hi fun e1 V w1 le1 hV hr1=>?_
     refine⟨e1,hat.le.trans le1,⟨V,hV,rfl⟩,?_,?_,hat.dok.mono le1⟩
     ·have hr2:Rel (B.withZ B.Z) e1 mp w1:=hr1.reZ fun tt ht=>.inl ht
      exact hr2
     ·obtain⟨u1,u2⟩:=zeM (zgv ops.toList 0) s.t;have ht1:=hat.tok.mono le1;refine⟨by rw[u1,hc.tsz,<- hat.tsz];exact ht1.1,fun u x hx=>ht1.2 u x ?_⟩;obtain⟨h1,h2⟩:=u2 u x hx;have hno:∀(j:Nat) (q:Oper),ops[j]? = some q->q.dst≠some u:=fun j q hj hq=>h2 j (prod_mem.2 ⟨Nat.zero_le _,q,by simpa using hj,hq⟩)
      rw[hat.t2 u fun j q _ hj=>hno j q hj,<- hc.tv0 u fun j q _ _ hj=>hno j q hj];exact h1
    ·obtain⟨⟨o',M⟩,hl⟩:∃p,l[i]? = some p:=⟨_,yb5 (by rw[hp.len];exact hlt)⟩
     have h3:d.kn i≠3:=fun h3=>by
      rcases hz.rest i o' M hlt hl h3 with hq |hq
      ·exact hiz hq
      ·exact hnz ((hp.mask i o' M hl).anc _ hat.clos (fun q hq e he hb=>hed e (by rw[ho]at hq;cases hq;exact he) hb) z hq)
     refine hat.step (M0:=M0) hp hih (hc.fc (Nat.le_refl _)) (fun c hc=>(hall c hc).1) rfl (fun c hc=>(hall c hc).2) (fun tt ht=>hs.rel.zlt tt ht) ⟨hlt,h3⟩ hc0' hi fun a w hsim=>hK a w ⟨fun hq=>?_,hsim⟩
     rcases(zdQ (by rw[hat.size];exact hlt)).1 hq with hq |hq
     ·exact hnz hq
     ·exact hiz hq.symm
   ·trivial
  |fin tF oF s=>
   obtain⟨d,k,o,M,hk,hc,h3,hlk,hgN,hdN,hfin⟩:=hout;have hf:=zwu (d:=d) hk.symm hgN hdN hfin;show zcj P B (.region id ops true) t ds r m (zgG (m.nxt+ops.size) s _);unfold zgG;split
   ·rename_i hfr;intro e a w rr n hR hs;have hall:=hfree hc hfr;have hks:k<ops.size:=by omega
    have hlow:=hf.low;have hnx:∀c,c<=d.K->M0.nxt<=(d.st c).1.nxt:=fun c hc=>(hall c hc).1
    have hfc2:=hf.fc hp hc hnx rfl;have hfree2:zw5 (d.over tF oF) s.as:=fun c hcK j T o2 hj hb=>by
     have h1:=(hc.asok.tag j T o2 hj).1;show((d.st c).1.put tF oF).get T=none;rw[Mem.get_put,if_neg (by omega)];exact(hall c hcK).2 j T o2 hj hb
    refine wpIn_region_any hm (zrd (Inv:=fun L a w=>(¬Lst L k/\Sim ops t m.nxt d s.as B e ds 0 L a w)\/(Lst L k/\Sim ops t m.nxt (d.over tF oF) s.as B e ds (zp8 d M d.K) L a w)) (fun L a w hI=>?_) (fun L a2 w2 i hI hi K hK=>?_) (fun L a2 w2 hI hr=>?_) ops.size _ _ _ (.inl ⟨nolst k,hstart hc hs⟩) (by simp))
    ·rcases hI with⟨_,_,_,_,_,_,hat⟩ |⟨_,_,_,_,_,_,hat⟩<;>exact hat.size
    ·rcases hI with⟨hnk,e2,t2,m2,c,hc0',hat⟩ |⟨hLk,e2,t2,m2,c,hc0',hat⟩
     ·obtain⟨hni,hlt,o2,ho,hed⟩:=zcc hi hat.size;have hsz:i<L.size:=by rw[hat.size];exact hlt
      by_cases hik:i=k
      ·subst hik;exact hat.fin hf hp hc h3 hlk hnx rfl hi fun a w hsim=>hK a w (.inr ⟨(zdQ hsz).2 (.inr rfl),hsim⟩)
      ·refine hat.step (M0:=M0) hp hih (hc.fc (Nat.le_of_lt hks)) hnx rfl (fun c hc=>(hall c hc).2) (fun tt ht=>hs.rel.zlt tt ht) ⟨by omega,h3 i (by omega)⟩ hc0' hi fun a w hsim=>hK a w (.inl ⟨fun hq=>?_,hsim⟩)
       rcases(zdQ hsz).1 hq with hq |hq
       ·exact hnk hq
       ·exact hik hq.symm
     ·obtain⟨hni,hlt,o2,ho,hed⟩:=zcc hi hat.size;have hsz:i<L.size:=by rw[hat.size];exact hlt
      have hik:i≠k:=fun hq=>hni (by rw[hq];exact hLk)
      have hb:zak M i=false:=by
       cases hb:zak M i with
       |false=>rfl
       |true=>exact absurd ((hp.mask k o M hlk).anc _ hat.clos (fun q' hq' e he hbd=>hat.clos k q' hq' hLk e he hbd) i hb) hni
      exact hat.step (M0:=M0) hp hih hfc2 hnx rfl hfree2 (fun tt ht=>hs.rel.zlt tt ht) ⟨⟨by omega,h3 i (by omega)⟩,hb⟩ hc0' hi fun a w hsim=>hK a w (.inr ⟨(zdQ hsz).2 (.inl hLk),hsim⟩)
    ·rcases hI with⟨hnk,e2,t2,m2,c,hc0',hat⟩ |⟨hLk,e2,t2,m2,c,hc0',hat⟩
     ·exact absurd (zd8 hp hat.size hr k hks) hnk
     ·have hdone:=zd8 hp hat.size hr;obtain rfl:=hcK (d':=d.over tF oF) hc (Nat.le_of_lt hks) rfl rfl hat hdone;refine⟨e2,hat.le,rfl,?_,hend (d':=d.over tF oF) hc (fun j q u hj hu=>?_) rfl hat hdone,hat.dok⟩
      ·have hov:=hovE hc (Nat.le_of_lt hks) (fun c hc=>(hall c hc).1);have hm2:Ovr (fun j=>Lst L j/\zak (d.st d.K).2 j=false) s.as (s.cur.put tF oF) m2:=by rw[hc.cur];exact hat.ovr
       rw[<- hc.cl]at hm2;have hr2:Rel (B.withZ B.Z) e2 m2 w2:=hat.rel.reZ fun tt ht=>.inl ht
       have hr3:Rel B e2 m2 w2:=hr2;refine hr3.sub (hov.nxt.trans hm2.nxt.symm) fun T o2 hT=>?_
       rw[Mem.get_put]at hT;split at hT
       ·rename_i hTF;rw[hm2.get0 T fun j o' h1 h2=>by have:=(hc.asok.tag j T o' h1).1;omega,Mem.get_put,if_pos hTF];exact hT
       ·rename_i hTF;by_cases hx:∃j o',(j,T,o')∈s.as/\zak s.cl j=false
        ·obtain⟨j,o',h1,h2⟩:=hx;rw[hov.get1 j T o' h1 (by rw[h2];rfl)]at hT;cases hT;exact hm2.get1 j T o2 h1 ⟨hdone j (by have:=(hc.asin j T o2 h1).1;omega),h2⟩
        ·rw[hov.get0 T fun j o' h1 h2=>hx ⟨j,o',h1,by simpa using h2⟩]at hT;rw[hm2.get0 T fun j o' h1 h2=>hx ⟨j,o',h1,h2.2⟩,Mem.get_put,if_neg hTF];exact hT
      ·have hj2:=(Array.getElem?_eq_some_iff.1 hj).1;have hjk:j≠k:=fun hq=>by
        subst hq;have:=hp.op j o M hlk;rw[hj]at this;cases this;rw[hf.dst]at hu;cases hu
       exact⟨by omega,h3 j (by omega)⟩
   ·trivial
 ·trivial
end Go.Cx
namespace Go.Cx
open Go Go.RowKit
variable{P:Program}
theorem zdo{F:Fence}{n:Nat}{Q:Exit->Act->World->Prop}{b:Code}{a:Act}{w:World}(h:b.wpIn F n P (Exit.noGoto Q) a w):(Code.scope b).wpIn F n P Q a w:=by
 intro fr k cs hro hb hr;have h0:(lone (fr.atR a (.code (.scope b)::k)) cs w).fenced P F:=fenced_calm hb hr rfl;have s0:step P (lone (fr.atR a (.code (.scope b)::k)) cs w)=.next (lone (fr.atR a (.code b::.inScope b::k)) cs w):=
  step_lone_go (by simp[stepG,stepG.exec,Frame.atR])
 have s1:∀a w,step P (lone (fr.atR a (.inScope b::k)) cs w)=.next (lone (fr.atR a k) cs w):=fun a w=>
  step_lone_go (by simp[stepG,stepG.exec,Frame.atR])
 obtain⟨e,a₁,w₁,hq,harr⟩:=h fr (.inScope b::k) cs hro hb hr;cases e with
 |normal=>exact⟨.normal,a₁,w₁,hq,.head h0 s0 (StepsIn.trans harr (.one (fenced_calm hb hr rfl) (s1 a₁ w₁)))⟩
 |exit id=>
  have hx:exitTo id (.inScope b::k)=exitTo id k:=by simp[exitTo]
  exact⟨_,a₁,w₁,hq,fun k' hk=>.head h0 s0 (harr.1 k' (by rw[hx];exact hk)),
   fun hr' hk=>let ⟨k₁,h1,h2⟩:=harr.2 hr' (by rw[hx];exact hk);⟨k₁,h1,.head h0 s0 h2⟩⟩
 |goto l=>exact hq.elim
 |ret=>exact⟨_,a₁,w₁,hq,.of_steps (.one h0 s0) harr⟩
 |panic ch=>exact⟨_,a₁,w₁,hq,.of_steps (.one h0 s0) harr⟩
 |outgrown=>exact⟨_,a₁,w₁,hq,.of_steps (.one h0 s0) harr⟩
theorem Mem.new_eq(m:Mem)(o:CO):m.new o=m.newAt m.nxt o:=by
 have h:=Mem.nxtAt m m.nxt o;rw[if_neg (Nat.lt_irrefl _)]at h;have:m.newAt m.nxt o=⟨(m.newAt m.nxt o).nxt,(m.newAt m.nxt o).tr⟩:=rfl;rw[this,h];rfl
section
variable{B:Bas}{e:Env}{m:Mem}{w:World}{t:Tmps}{ds:List CDef}{a:Act}
theorem znb{ih:Task->Res}(hih:∀k,zbh P B k (ih k)){l:Nat}{r:Option Nat}{e0 e1:Env}{b:Blk}{x:CEx}{t':Tmps}{ds':List CDef}{m':Mem}{rr:Option Nat}{n:Nat}(hle:Env.le e0 e1)(hR:Rnd e1 r rr)(hb:e1 l=some b)
  (hs:St B e1 t ds m a w) (h:zeb ih l t ds r m (m.get l)=.ex x t' ds' m'):∃jump w₄,(Instr.endLoop b.blk).run P w=.ok jump w₄ /\ (match jump with |none=>Post B e0 x t' ds' m' .normal a w₄ |some c=>c.wpIn (FW rr) n P (Post B e0 x t' ds' m') a w₄):=by
 unfold zeb at h;split at h
 ·rename_i st pe t0 ps asg body d ho;split at h
  ·cases h
  ·rename_i hbusy;obtain⟨rec,k1,k2,k3,k4⟩:=hs.rel.setLoop (st':=.exhausted) (pe':=pe) ho hb;have hst:¬(rec.state == .busy)=true:=by
    rw[k2];cases st<;>first |exact absurd rfl hbusy |(intro hq;cases hq)
   have hrun:(Instr.endLoop b.blk).run P w=.ok pe { w with heap:=w.heap.setIfInBounds b.blk (.loop { rec with state:=.exhausted,pending:=pe }) }:=by
    have hpe:({ rec with state:=.exhausted,pending:=pe }:Loop)={ rec with state:=.exhausted }:=by rw[<- k3]
    rw[hpe];simp only[Instr.endLoop,Sem.run_bind,zb1 k1,Result.andThen_ok,if_neg hst,zdt k1,Sem.run_pure];rw[k3]
   refine⟨pe,_,hrun,?_⟩;have hs2:St B e1 t ds (m.put l (.loop .exhausted pe t0 ps asg body d)) a { w with heap:=w.heap.setIfInBounds b.blk (.loop { rec with state:=.exhausted,pending:=pe }) }:=⟨k4,hs.tok,hs.dok⟩
   split at h
   ·cases h;exact⟨e1,hle,rfl,hs2⟩
   ·rename_i _ c;have hc:=hih (.code c t ds r (m.put l (.loop .exhausted (some c) t0 ps asg body d)));rw[h]at hc;exact wpIn_mono (hc e1 a _ rr n hR hs2) fun y a2 w2 hp=>Post.from hle hp
 ·cases h
theorem ziP{ih:Task->Res}(hih:∀k,zbh P B k (ih k)){l:Nat}{r:Option Nat}{e0:Env}{b:Blk}{x:CEx}{t':Tmps}{ds':List CDef}{m':Mem}{rr:Option Nat}{n:Nat}{g:Operand}(hle:Env.le e0 e)(hR:Rnd e r rr)(hb:e l=some b)
  (hs:St B e t ds m a w) (h:zdn ih l t ds r m (evO t g)=.ex x t' ds' m'):
  ∃(d:Deferred) (f:FuncId) (args:Array Value),(resolve a.eval (rangeCall g b.blk) 0).run P w=.ok d w/\(invoke d.target d.args).run P w=.ok (.enter f args) w /\
   CallsIn (FW rr) (n - 1) P f args w (rangePost (FW rr) n P b.blk (Post B e0 x t' ds' m') a):=by
 unfold zdn at h;split at h
 ·rename_i f first cap hg
  have hd:=zcw hs.rel.glb hs.tok hg;simp only[den,yc9,ya3]at hd;obtain⟨lx,hx,ly,hy,hq⟩:=hd;have hcall:=hih (.call f (first++[.yld l]++cap) m);generalize ih (.call f (first++[.yld l]++cap) m)=res at h hcall;unfold ze4 at h;split at h
  ·rename_i v m1;have hcall:(∀as w,(callFunc f as).run P w=.ok (.enter f as) w)/\∀e as w,denL e (first++[.yld l]++cap)=some as->Rel B e m w->Calls P f as.toArray w (zst B e v m1):=by
    rcases hcall with hcall |⟨t0,off,heq,_⟩
    ·exact hcall
    ·have hmem:CV.yld l∈first++[CV.yld l]++cap:=by simp
     rw[heq]at hmem;simp at hmem
   obtain⟨henter,hc⟩:=hcall;have hyl:denL e [CV.yld l]=some [.func (.yield b.blk) #[] #[]]:=by simp[denL,den,hb]
   have has:=zaR (zaR hx hyl) hy;refine⟨{ target:=.fn (.func f) ly.toArray,args:=lx.toArray ++ #[Value.func (.yield b.blk) #[] #[]] },f,(lx++[Value.func (.yield b.blk) #[] #[]]++ly).toArray,?_,?_,?_⟩
   ·have hmap:Array.map a.eval #[Operand.const (Value.func (.yield b.blk) #[] #[])] = #[Value.func (.yield b.blk) #[] #[]]:=by simp[Act.eval]
    simp only[rangeCall,resolve,<- hq,Deferred.ofValue,pure_bind,hmap];rfl
   ·show(callFunc f _).run P w=_;have he:(lx.toArray ++ #[Value.func (.yield b.blk) #[] #[]])++ly.toArray=(lx++[Value.func (.yield b.blk) #[] #[]]++ly).toArray:=by simp
    rw[he];exact henter _ _
   ·refine zdb ((hc e _ w has hs.rel).mono ?_);rintro en w1 ⟨e1,V,le1,hV,rfl,hr1⟩;exact znb hih (hle.trans le1) (hR.mono le1) (le1 _ _ hb) (hs.mono le1 hr1) h
  ·cases h
  ·cases h
 ·cases h
theorem zp2{ih:Task->Res}(hih:∀k,zbh P B k (ih k))(c:Code)(t:Tmps)(ds:List CDef)(r:Option Nat)(m:Mem):(∃w,ih (.code c t ds r m)=.no w)\/∃x t' ds' m',ih (.code c t ds r m)=.ex x t' ds' m':=by
 have hc:=hih (.code c t ds r m);generalize ih (.code c t ds r m)=res at hc;cases res with
 |no w=>exact .inl ⟨_,rfl⟩
 |ex x t' ds' m'=>exact .inr ⟨_,_,_,_,rfl⟩
 |ret=>exact hc.elim
 |pan=>exact hc.elim
theorem zrP{ih:Task->Res}(hih:∀k,zbh P B k (ih k))(g:Operand)(ps:Array Tmp)(asg body:Code)(t:Tmps)(ds:List CDef)(r:Option Nat)(m:Mem):zcj P B (.rangeFunc g ps asg body) t ds r m (ze2 ih g ps.toList asg body t ds m r):=by
 have shape:∀l t ds r m v,(∃w,zdn ih l t ds r m v=.no w)\/∃x t' ds' m',zdn ih l t ds r m v=.ex x t' ds' m':=fun l t ds r m v=>by
  unfold zdn;split
  ·unfold ze4;split
   ·unfold zeb;split
    ·split
     ·exact .inl ⟨_,rfl⟩
     ·split
      ·exact .inr ⟨_,_,_,_,rfl⟩
      ·exact zp2 hih _ _ _ _ _
    ·exact .inl ⟨_,rfl⟩
   ·exact .inl ⟨_,rfl⟩
   ·exact .inl ⟨_,rfl⟩
  ·exact .inl ⟨_,rfl⟩
 unfold ze2;cases r with
 |none=>
  simp only;rcases shape (m.nxt+1) t (.mark m.nxt::ds) none ((m.new (.dfr true)).new (.loop .ready none t ps.toList asg body m.nxt)) (evO t g) with⟨wh,hno⟩ |⟨x,t',ds',m',hex⟩
  ·rw[hno];trivial
  ·rw[hex];intro e a w rr n hR hs;obtain⟨_,rfl⟩:(none:Option Nat)=none/\rr=none:=hR.elim (fun h=>h) (fun⟨l,b,h1,_⟩=>by cases h1)
   let b1:Blk:=⟨w.heap.size,0,0,0⟩
   let w1:=w.alloc (.deferred (some []))
   obtain⟨q1,q2⟩:=hs.rel.alloc hs.rel.nxtZ (o:=.dfr true) (x:=.deferred (some [])) b1 rfl ⟨b1,Env.ext_same ..,by rw[zbg,if_pos rfl]⟩;rw[<- Mem.new_eq]at q2;have hn1:(m.new (.dfr true)).nxt=m.nxt+1:=rfl;refine wpIn_rangeFunc fun fn _=>?_
   let rec0:Loop:={ state:=.ready,pending:=none,fn,tmps:=a.tmps,params:=ps,assign:=asg,body:=body,defers:=w.heap.size }
   let b2:Blk:=⟨w1.heap.size,0,0,0⟩
   have hsz1:w1.heap.size=w.heap.size+1:=Array.size_push ..;obtain⟨q3,q4⟩:=q2.alloc q2.nxtZ (o:=.loop .ready none t ps.toList asg body m.nxt) (x:=.loop rec0) b2 rfl
    ⟨b2,rec0,b1,Env.ext_same ..,by
     unfold Env.ext;rw[hn1,if_neg (by omega),if_pos rfl],by rw[zbg,if_pos rfl],rfl,rfl,(hs.tok.mono q1).mono (Env.ext_le q2.nxtZ.1 _),by simp[rec0],rfl,rfl,rfl⟩
   rw[<- Mem.new_eq]at q4;have hmark:(e.ext m.nxt b1).ext (m.new (.dfr true)).nxt b2 m.nxt=some b1:=by
    unfold Env.ext;rw[hn1,if_neg (by omega),if_pos rfl]
   have hl:(e.ext m.nxt b1).ext (m.new (.dfr true)).nxt b2 (m.nxt+1)=some b2:=by
    rw[<- hn1];exact Env.ext_same ..
   have hle:=q1.trans q3
   let a2:Act:={ tmps:=a.tmps,defers:={ target:=.collected w.heap.size,args := #[] }::a.defers }
   have hs2:St B ((e.ext m.nxt b1).ext (m.new (.dfr true)).nxt b2) t (.mark m.nxt::ds) ((m.new (.dfr true)).new (.loop .ready none t ps.toList asg body m.nxt)) a2 (w1.alloc (.loop rec0)):=
    ⟨q4,hs.tok.mono hle,⟨b1,a.defers,hmark,rfl,hs.dok.mono hle⟩⟩
   obtain⟨d,f,args,g1,g2,g3⟩:=ziP (n:=n) (rr:=none) hih hle (.inl ⟨rfl,rfl⟩) hl hs2 hex;refine⟨w1.heap.size,[{ target:=.collected w.heap.size,args := #[] }],w1.alloc (.loop rec0),d,w1.alloc (.loop rec0),f,args,w1.alloc (.loop rec0),?_,g1,fun _ _=>trivial,g2,fun hd=>by simp[FW,Fence.wide]at hd,g3⟩;show(Instr.enterLoop fn a.tmps ps asg body none).run P w=_;simp only[Instr.enterLoop,Sem.run_bind,run_newObj,Result.andThen_ok,Sem.run_pure];rfl
 |some l0=>
  simp only;split
  ·rename_i st0 pe0 t0 ps0 asg0 body0 d ho;rcases shape m.nxt t ds (some l0) (m.new (.loop .ready none t ps.toList asg body d)) (evO t g) with⟨wh,hno⟩ |⟨x,t',ds',m',hex⟩
   ·rw[hno];trivial
   ·rw[hex];intro e a w rr n hR hs;obtain⟨b0,hb0,hrr⟩:∃b,e l0=some b/\rr=some b.blk:=by
     rcases hR with⟨h1,_⟩ |⟨l,b,h1,h2,h3⟩
     ·cases h1
     ·cases h1;exact⟨b,h2,h3⟩
    obtain⟨b',rec1,db,h1,h2,h3,h4,h5,h6,h7,h8,h9,h10⟩:=hs.rel.ok _ _ ho;obtain rfl:b0=b':=by rw[hb0]at h1;cases h1;rfl
    refine wpIn_rangeFunc fun fn _=>?_
    let rec0:Loop:={ state:=.ready,pending:=none,fn,tmps:=a.tmps,params:=ps,assign:=asg,body:=body,defers:=db.blk }
    let b2:Blk:=⟨w.heap.size,0,0,0⟩
    obtain⟨q3,q4⟩:=hs.rel.alloc hs.rel.nxtZ (o:=.loop .ready none t ps.toList asg body d) (x:=.loop rec0) b2 rfl
     ⟨b2,rec0,db,Env.ext_same ..,Env.ext_le hs.rel.nxtZ.1 _ _ _ h2,by rw[zbg,if_pos rfl],rfl,rfl,hs.tok.mono (Env.ext_le hs.rel.nxtZ.1 _),by simp[rec0],rfl,rfl,rfl⟩
    rw[<- Mem.new_eq]at q4;have hs2:St B (e.ext m.nxt b2) t ds (m.new (.loop .ready none t ps.toList asg body d)) { tmps:=a.tmps,defers:=[]++a.defers } (w.alloc (.loop rec0)):=
     ⟨q4,hs.tok.mono q3,hs.dok.mono q3⟩
    obtain⟨dd,f,args,g1,g2,g3⟩:=ziP (n:=n) (rr:=rr) hih q3 (hR.mono q3) (Env.ext_same ..) hs2 hex;refine⟨w.heap.size,[],w.alloc (.loop rec0),dd,w.alloc (.loop rec0),f,args,w.alloc (.loop rec0),?_,g1,fun _ _=>trivial,g2,fun hd=>by simp[FW,Fence.wide]at hd,g3⟩;show(Instr.enterLoop fn a.tmps ps asg body rr).run P w=_;rw[hrr];simp only[Instr.enterLoop,Sem.run_bind,zb1 h3,run_newObj,Result.andThen_ok,Sem.run_pure];rw[h10];rfl
  ·trivial
end
theorem zpd{ih:Task->Res}(hih:∀B k,zbh P B k (ih k))(B:Bas)(c1 c2:Code)(t:Tmps)(ds:List CDef)(r:Option Nat)(m:Mem):zcj P B (.seq c1 c2) t ds r m (zgx ih c2 r (ih (.code c1 t ds r m))):=by
 have h1:=hih B (.code c1 t ds r m);generalize ih (.code c1 t ds r m)=res at h1;unfold zgx;split
 ·rename_i t1 ds1 m1;have h2:=hih B (.code c2 t1 ds1 r m1);generalize ih (.code c2 t1 ds1 r m1)=res2 at h2;cases res2 with
  |no=>trivial
  |ret=>exact h2.elim
  |pan=>exact h2.elim
  |ex x t' ds' m'=>
   intro e a w rr n hR hs;refine wpIn_seq (wpIn_mono (h1 e a w rr n hR hs) ?_);rintro y a1 w1 ⟨e1,le1,rfl,hs1⟩;exact wpIn_mono (h2 e1 a1 w1 rr n (hR.mono le1) hs1) fun y a2 w2 hp=>Post.from le1 hp
 ·rename_i hn;cases res with
  |no=>trivial
  |ret=>exact h1.elim
  |pan=>exact h1.elim
  |ex x t' ds' m'=>
   intro e a w rr n hR hs;refine wpIn_seq (wpIn_mono (h1 e a w rr n hR hs) ?_);rintro y a1 w1 ⟨e1,le1,hx,hs1⟩;cases x with
   |normal=>exact absurd rfl (hn _ _ _)
   |exit i=>obtain rfl:y=.exit i:=hx;exact⟨e1,le1,rfl,hs1⟩
   |goto i=>obtain rfl:y=.goto i:=hx;exact⟨e1,le1,rfl,hs1⟩
   |ret=>obtain rfl:y=.ret:=hx;exact⟨e1,le1,rfl,hs1⟩
   |panic v=>
    obtain⟨V,hV,rfl⟩:=hx;exact⟨e1,le1,⟨V,hV,rfl⟩,hs1⟩
theorem ztG{ih:Task->Res}(hih:∀B k,zbh P B k (ih k))(hm:P.follows .mixedOrders=true)(B:Bas)(c:Code)(hc:∀b,c≠.loop b)(t:Tmps)(ds:List CDef)(r:Option Nat)(m:Mem):zcj P B c t ds r m (zvr P ih t ds r m c):=by
 cases c with
 |skip=>intro e a w rr n hR hs;exact wpIn_skip ⟨e,Env.le.refl e,rfl,hs⟩
 |label l=>intro e a w rr n hR hs;exact wpIn_label ⟨e,Env.le.refl e,rfl,hs⟩
 |ret=>intro e a w rr n hR hs;exact wpIn_ret ⟨e,Env.le.refl e,rfl,hs⟩
 |exit id=>intro e a w rr n hR hs;exact wpIn_exit ⟨e,Env.le.refl e,rfl,hs⟩
 |goto l=>intro e a w rr n hR hs;exact wpIn_goto ⟨e,Env.le.refl e,rfl,hs⟩
 |refuse w=>trivial
 |region id ops draw=>
  cases draw with
  |true=>exact zs1 hih hm B id ops t ds r m
  |false=>
   show zcj P B _ t ds r m (zdg P ih ops.toList r ops.toList t ds m);have hx:=zez (P:=P) (ih:=ih) (ops:=ops.toList) (r:=r) ops.toList t ds m;generalize hres:zdg P ih ops.toList r ops.toList t ds m=res at hx;cases res with
   |no=>trivial
   |ret=>exact hx.elim
   |pan=>exact hx.elim
   |ex x t' ds' m'=>
    intro e a w rr n hR hs;exact wpIn_region_list (zhn (hih B) ops r _ t ds m e a w (Env.le.refl e) hR hs hres)
 |seq c1 c2=>exact zpd hih B c1 c2 t ds r m
 |cond x c1 c2=>
  show zcj P B _ t ds r m (zpM ih c1 c2 t ds r m (evO t x));unfold zpM;split
  ·rename_i hx;have h1:=hih B (.code c1 t ds r m);generalize ih (.code c1 t ds r m)=res at h1;cases res with
   |no=>trivial
   |ret=>exact h1.elim
   |pan=>exact h1.elim
   |ex y t' ds' m'=>
    intro e a w rr n hR hs;exact wpIn_cond_true (zbv (zcw hs.rel.glb hs.tok hx)) (h1 e a w rr n hR hs)
  ·rename_i hx;have h1:=hih B (.code c2 t ds r m);generalize ih (.code c2 t ds r m)=res at h1;cases res with
   |no=>trivial
   |ret=>exact h1.elim
   |pan=>exact h1.elim
   |ex y t' ds' m'=>
    intro e a w rr n hR hs;exact wpIn_cond_false (zbv (zcw hs.rel.glb hs.tok hx)) (h1 e a w rr n hR hs)
  ·trivial
 |block id b=>
  show zcj P B _ t ds r m (zgt id (ih (.code b t ds r m)));have h1:=hih B (.code b t ds r m);generalize ih (.code b t ds r m)=res at h1;cases res with
  |no=>trivial
  |ret=>exact h1.elim
  |pan=>exact h1.elim
  |ex x t' ds' m'=>
   cases x with
   |exit i=>
    show zcj P B _ t ds r m (match Nat.beq i id with |true=>.ex .normal t' ds' m' |false=>.ex (.exit i) t' ds' m');split
    ·rename_i hi;have hi:=yb0 hi;subst hi;intro e a w rr n hR hs;refine wpIn_block (wpIn_mono (h1 e a w rr n hR hs) ?_);rintro y a1 w1 ⟨e1,le1,rfl,hs1⟩;show if i=i then _ else _
     rw[if_pos rfl];exact⟨e1,le1,rfl,hs1⟩
    ·rename_i hi;have hi:i≠id:=fun hq=>by rw[zlR hq]at hi;cases hi
     intro e a w rr n hR hs;refine wpIn_block (wpIn_mono (h1 e a w rr n hR hs) ?_);rintro y a1 w1 ⟨e1,le1,rfl,hs1⟩;show if i=id then _ else _
     rw[if_neg hi];exact⟨e1,le1,rfl,hs1⟩
   |normal=>
    intro e a w rr n hR hs;refine wpIn_block (wpIn_mono (h1 e a w rr n hR hs) ?_);rintro y a1 w1 ⟨e1,le1,rfl,hs1⟩;exact⟨e1,le1,rfl,hs1⟩
   |goto i=>
    intro e a w rr n hR hs;refine wpIn_block (wpIn_mono (h1 e a w rr n hR hs) ?_);rintro y a1 w1 ⟨e1,le1,rfl,hs1⟩;exact⟨e1,le1,rfl,hs1⟩
   |ret=>
    intro e a w rr n hR hs;refine wpIn_block (wpIn_mono (h1 e a w rr n hR hs) ?_);rintro y a1 w1 ⟨e1,le1,rfl,hs1⟩;exact⟨e1,le1,rfl,hs1⟩
   |panic v=>
    intro e a w rr n hR hs;refine wpIn_block (wpIn_mono (h1 e a w rr n hR hs) ?_);rintro y a1 w1 ⟨e1,le1,⟨V,hV,rfl⟩,hs1⟩;exact⟨e1,le1,⟨V,hV,rfl⟩,hs1⟩
 |scope b=>
  show zcj P B _ t ds r m (zo5 (ih (.code b t ds r m)));have h1:=hih B (.code b t ds r m);generalize ih (.code b t ds r m)=res at h1;cases res with
  |no=>trivial
  |ret=>exact h1.elim
  |pan=>exact h1.elim
  |ex x t' ds' m'=>
   cases x with
   |goto i=>trivial
   |exit i=>
    intro e a w rr n hR hs;refine zdo (wpIn_mono (h1 e a w rr n hR hs) ?_);rintro y a1 w1 ⟨e1,le1,rfl,hs1⟩;exact⟨e1,le1,rfl,hs1⟩
   |normal=>
    intro e a w rr n hR hs;refine zdo (wpIn_mono (h1 e a w rr n hR hs) ?_);rintro y a1 w1 ⟨e1,le1,rfl,hs1⟩;exact⟨e1,le1,rfl,hs1⟩
   |ret=>
    intro e a w rr n hR hs;refine zdo (wpIn_mono (h1 e a w rr n hR hs) ?_);rintro y a1 w1 ⟨e1,le1,rfl,hs1⟩;exact⟨e1,le1,rfl,hs1⟩
   |panic v=>
    intro e a w rr n hR hs;refine zdo (wpIn_mono (h1 e a w rr n hR hs) ?_);rintro y a1 w1 ⟨e1,le1,⟨V,hV,rfl⟩,hs1⟩;exact⟨e1,le1,⟨V,hV,rfl⟩,hs1⟩
 |loop b=>exact absurd rfl (hc b)
 |rangeFunc g ps asg body=>exact zrP (hih B) g ps asg body t ds r m
theorem zgj{p:Nat->Prop}(h:∃k,p k):∃k,p k/\∀j,p j->k<=j:=by
 obtain⟨k,hk⟩:=h
 induction k using Nat.strongRecOn with
 |_ k ih=>
  by_cases hx:∃j,j<k/\p j
  ·obtain⟨j,hj,hp⟩:=hx;exact ih j hj hp
  ·exact⟨k,hk,fun j hj=>Nat.le_of_not_lt fun hlt=>hx ⟨j,hlt,hj⟩⟩
open Classical in
noncomputable def zru(p:Nat->Prop):Nat:=if h:∃k,p k then Classical.choose (zgj h)else 0
theorem zji{p:Nat->Prop}(h:∃k,p k):p (zru p)/\∀j,p j->zru p<=j:=by
 unfold zru;rw[dif_pos h];exact Classical.choose_spec (zgj h)
theorem zqv(X:Ext)(k:Task):zkP P X 0 k=.no "fuel" := rfl
theorem zvc{X:Ext}{N:Nat}(hall:∀j,j<=N->∀B k,zbh P B k (zkP P X j k))(B:Bas)(b:Code)(t:Tmps)(ds:List CDef)(r:Option Nat)(m:Mem):zcj P B (.loop b) t ds r m (zkP P X (N+1) (.code (.loop b) t ds r m)):=by
 have hthen:=zpd (hall N (Nat.le_refl N)) B b (.loop b) t ds r m;have heq:zkP P X (N+1) (.code (.loop b) t ds r m)=zgx (zkP P X N) (.loop b) r (zkP P X N (.code b t ds r m)):=rfl;rw[<- heq]at hthen;generalize hres:zkP P X (N+1) (.code (.loop b) t ds r m)=res at hthen;cases res with
 |no=>trivial
 |ret=>exact hthen.elim
 |pan=>exact hthen.elim
 |ex x t' ds' m'=>
  intro e0 a0 w0 rr n hR0 hs0
  let zwa:Nat->Act->World->Prop:=fun k a w=>k<=N+1/\∃e t ds m,Env.le e0 e/\Rnd e r rr/\St B e t ds m a w/\zkP P X k (.code (.loop b) t ds r m)=.ex x t' ds' m'
  refine wpIn_loop (fun a w=>∃k,zwa k a w) (fun a w=>zru (fun k=>zwa k a w)) ⟨N+1,Nat.le_refl _,e0,t,ds,m,Env.le.refl _,hR0,hs0,hres⟩ fun a w hI=>?_
  obtain⟨hg,hmin⟩:=zji hI;generalize zru (fun k=>zwa k a w)=k at hg hmin;obtain⟨hkN,e,t1,ds1,m1,hle,hR,hs,hrun⟩:=hg;cases k with
  |zero=>rw[zqv]at hrun;cases hrun
  |succ j=>
   have hj:j<=N:=by omega
   have hrun':zgx (zkP P X j) (.loop b) r (zkP P X j (.code b t1 ds1 r m1))=.ex x t' ds' m':=hrun;have hb:=hall j hj B (.code b t1 ds1 r m1);generalize zkP P X j (.code b t1 ds1 r m1)=res at hrun' hb;cases res with
   |no=>cases hrun'
   |ret=>exact hb.elim
   |pan=>exact hb.elim
   |ex y t2 ds2 m2=>
    refine wpIn_mono (hb e a w rr n hR hs) ?_;rintro z a2 w2 ⟨e2,le2,hy,hs2⟩;cases y with
    |normal=>
     obtain rfl:z=.normal:=hy;have hgood:zwa j a2 w2:=⟨by omega,e2,t2,ds2,m2,hle.trans le2,hR.mono le2,hs2,hrun'⟩
     exact⟨⟨j,hgood⟩,Nat.lt_succ_of_le ((zji ⟨j,hgood⟩).2 j hgood)⟩
    |exit i=>cases hrun';obtain rfl:z=.exit i:=hy;exact⟨e2,hle.trans le2,rfl,hs2⟩
    |goto i=>cases hrun';obtain rfl:z=.goto i:=hy;exact⟨e2,hle.trans le2,rfl,hs2⟩
    |ret=>cases hrun';obtain rfl:z=.ret:=hy;exact⟨e2,hle.trans le2,rfl,hs2⟩
    |panic v=>
     cases hrun';obtain⟨V,hV,rfl⟩:=hy;exact⟨e2,hle.trans le2,⟨V,hV,rfl⟩,hs2⟩
theorem zgi{B:Bas}{ih:Task->Res}(hih:∀k,zbh P B k (ih k))(f:FuncId)(args:List CV)(m:Mem){fn:Func}(hfn:P.funcs[f]? = some fn):zif P B f args m (zb4 P ih fn args m (zha P fn.results.toList) fn.body):=by
  generalize hb:fn.body=bd;cases bd with
  |none=>trivial
  |some c=>
   unfold zb4;simp only;split
   ·rename_i hc;simp only[ya2]at hc;have hl:=ya9 hc.1;have henter:=zaF hfn hb hc.2;have hcode:=hih (.code c ⟨fn.ntmps,zb6 0 args .nil⟩ [] none m);generalize ih (.code c ⟨fn.ntmps,zb6 0 args .nil⟩ [] none m)=res at hcode;have body:∀{x:CEx} {t:Tmps} {m1:Mem},(x=.normal\/x=.ret)->zcj P B c ⟨fn.ntmps,zb6 0 args .nil⟩ [] none m (.ex x t [] m1)->zif P B f args m (leave P (fun _=>.no "deferred") fn.results.toList t [] m1):=fun{x t m1} hx hco=>by
     show zif P B f args m (match zmq P t m1 fn.results.toList with |some vs=>.ret (zic vs) m1 |none=>.no _);split
     ·rename_i vs hvs;refine⟨henter,fun e as w n has hr=>?_⟩;refine callsDIn_of_wp hfn hb trivial ?_;refine wpIn_mono (hco e { tmps:=_,defers:=[] } w none n (.inl ⟨rfl,rfl⟩) ⟨hr,zkD has hl,rfl⟩) ?_;rintro y a w' ⟨e1,le1,hy,hs⟩;have hd:a.defers=[]:=hs.dok;obtain⟨V,k1,k2⟩:=zfX hs.tok hs.rel hvs;rcases hx with rfl |rfl
      ·obtain rfl:y=.normal:=hy;exact⟨hd,V,k2,e1,V,le1,k1,rfl,hs.rel⟩
      ·obtain rfl:y=.ret:=hy;exact⟨hd,V,k2,e1,V,le1,k1,rfl,hs.rel⟩
     ·trivial
    unfold zha;split
    ·exact body (.inl rfl) hcode
    ·exact body (.inr rfl) hcode
    ·trivial
    ·trivial
   ·trivial
def WpL(n:Nat)(P:Program):List Code->(Exit->Act->World->Prop)->Act->World->Prop
 |[],Q,a,w=>Q .normal a w
 |b::r,Q,a,w=>b.wpIn (FW none) n P (fun y a w=>match y with
  |.normal=>WpL n P r Q a w
  |y=>Q y a w) a w
theorem zoV{n:Nat}{y:Code}{Q:Exit->Act->World->Prop}:∀{r:List Code} {a:Act} {w:World},WpL n P (r++[y]) Q a w->WpL n P r (fun e a w=>match e with
  |.normal=>y.wpIn (FW none) n P Q a w
  |e=>Q e a w) a w
 |[],a,w,h=>by
  refine wpIn_mono h ?_;rintro e a w he;cases e<;>exact he
 |b::r,a,w,h=>by
  refine wpIn_mono h ?_;rintro e a w he;cases e<;>first |exact zoV he |exact he
theorem zka{n:Nat}{Q Q':Exit->Act->World->Prop}(hq:∀e a w,Q e a w->Q' e a w):∀{r:List Code} {a:Act} {w:World},WpL n P r Q a w->WpL n P r Q' a w
 |[],a,w,h=>hq _ _ _ h
 |b::r,a,w,h=>by
  refine wpIn_mono h ?_;rintro e a w he;cases e<;>first |exact zka hq he |exact hq _ _ _ he
theorem zqP{B:Bas}{ih:Task->Res}(hih:∀k,zbh P B k (ih k)){n:Nat}{x:CEx}{t':Tmps}{ds':List CDef}{m':Mem}:∀{r:List Code} {t:Tmps} {ds:List CDef} {m:Mem} {e0 e:Env} {a:Act} {w:World},zuJ ih r t ds m=.ex x t' ds' m'->Env.le e0 e->St B e t ds m a w->WpL n P r (Post B e0 x t' ds' m') a w
 |[],t,ds,m,e0,e,a,w,h,hle,hs=>by
  simp only[zuJ,Res.ex.injEq]at h;obtain⟨rfl,rfl,rfl,rfl⟩:=h;exact⟨e,hle,rfl,hs⟩
 |b::r,t,ds,m,e0,e,a,w,h,hle,hs=>by
  have hb:=hih (.code b t ds none m);simp only[zuJ]at h;generalize ih (.code b t ds none m)=res at h hb;cases res with
  |no=>cases h
  |ret=>cases h
  |pan=>cases h
  |ex x1 t1 ds1 m1=>
   refine wpIn_mono (hb e a w none n (.inl ⟨rfl,rfl⟩) hs) ?_;rintro y a1 w1 ⟨e1,le1,hy,hs1⟩;cases x1 with
   |normal=>
    obtain rfl:y=.normal:=hy;exact zqP hih h (hle.trans le1) hs1
   |exit i=>cases h;obtain rfl:y=.exit i:=hy;exact⟨e1,hle.trans le1,rfl,hs1⟩
   |goto i=>cases h;obtain rfl:y=.goto i:=hy;exact⟨e1,hle.trans le1,rfl,hs1⟩
   |ret=>cases h;obtain rfl:y=.ret:=hy;exact⟨e1,hle.trans le1,rfl,hs1⟩
   |panic v=>
    cases h;obtain⟨V,hV,rfl⟩:=hy;exact⟨e1,hle.trans le1,⟨V,hV,rfl⟩,hs1⟩
theorem zn2{n:Nat}{cs cs':List Frame}{w w':World}{a:Act}{G:Act->Prop}:∀{c:Code} {ops:Array Oper} {rs:List Code} {Q:Exit->Act->List Frame->World->Prop},zaJ c=some (ops,rs) ->
  (∀Q':Exit->Act->List Frame->World->Prop,(∀a',G a'->Q' .normal a' cs' w')->wpOpsSIn (FW none) n P ops Q' (List.range ops.size) a cs w)->(∀a',G a'->WpL n P rs (fun e a w=>Q e a cs' w) a' w')->c.wpSIn (FW none) n P Q a cs w
 |.region _ ops false,_,_,Q,h,hr,hl=>by
  simp only[zaJ,ya0,yc4]at h;obtain⟨rfl,rfl⟩:=h;exact wpSIn_region (hr Q hl)
 |.seq x y,ops,rs,Q,h,hr,hl=>by
  simp only[zaJ]at h;split at h
  ·rename_i ops' r hx;simp only[ya0,yc4]at h;obtain⟨rfl,rfl⟩:=h;refine wpSIn_seq (zn2 hx hr (fun a' ha=>zka (fun e a w he=>?_) (zoV (hl a' ha))));cases e<;>first |exact wpSIn_of_wpIn rfl he |exact he
  ·cases h
 |.region _ _ true,_,_,_,h,_,_=>by simp[zaJ]at h
 |.skip,_,_,_,h,_,_=>by simp[zaJ]at h
 |.cond _ _ _,_,_,_,h,_,_=>by simp[zaJ]at h
 |.block _ _,_,_,_,h,_,_=>by simp[zaJ]at h
 |.loop _,_,_,_,h,_,_=>by simp[zaJ]at h
 |.rangeFunc _ _ _ _,_,_,_,h,_,_=>by simp[zaJ]at h
 |.exit _,_,_,_,h,_,_=>by simp[zaJ]at h
 |.scope _,_,_,_,h,_,_=>by simp[zaJ]at h
 |.label _,_,_,_,h,_,_=>by simp[zaJ]at h
 |.goto _,_,_,_,h,_,_=>by simp[zaJ]at h
 |.ret,_,_,_,h,_,_=>by simp[zaJ]at h
 |.refuse _,_,_,_,h,_,_=>by simp[zaJ]at h
theorem zkH{o:Oper}(h:zfB o.op=true)(ρ : Operand->Value)(w:World):(execOp ρ o).run P w=.ok .recover w/\∀f,o.about P w ρ ≠ some f:=by
 obtain⟨dst,op,ty,pos,aft,g⟩:=o;unfold zfB at h;split at h
 ·rename_i hq;simp only at hq;subst hq;exact⟨rfl,fun f hf=>by simp[Oper.about,resolve,Target.leads]at hf⟩
 ·cases h
theorem zl3{B:Bas}{n:Nat}{ops:Array Oper}{m:Mem}{cs:List Frame}{e:Env}{w:World}(hr:Rel B e m w){t':Tmps}{Q:Exit->Act->List Frame->World->Prop}{ds:List Deferred}:∀(l:List Nat) (os:List Oper) (t:Tmps) (a:Act),(∀(i:Nat),os[i]? = (l[i]?).bind fun(k:Nat)=>ops[k]?)->l.length=os.length->zkU P m os t=some t'->TOk e t a.tmps->a.defers=ds ->
  (∀a',TOk e t' a'.tmps->a'.defers=ds->Q .normal a' cs w)->wpOpsSIn (FW none) n P ops Q l a cs w
 |[],os,t,a,ho,hlen,h,hT,hd,hQ=>by
  obtain rfl:os=[]:=List.eq_nil_of_length_eq_zero (by simpa using hlen.symm);simp only[zkU,ya0]at h;subst h;exact hQ a hT hd
 |k::l,[],t,a,ho,hlen,_,_,_,_=>by simp at hlen
 |k::l,o::os,t,a,ho,hlen,h,hT,hd,hQ=>by
  have hk:ops[k]? = some o:=by have:=ho 0;simpa using this.symm
  simp only[zkU]at h;split at h
  ·rename_i d v hg hdst hv;split at h
   ·rename_i hb;have hout:=ziJ (P:=P) (o:=o) (a:=a) hr hT;rw[hv]at hout;obtain⟨V,hV,hrun⟩:=hout;simp only[wpOpsSIn,hk];refine⟨fun _ _=>trivial,?_⟩;rw[if_pos (zcF (ops:=ops) (o:=o) (b:=true) hT (by rw[hg];rfl)),hrun];simp only[hdst];refine zl3 hr l os (t.set d v) (a.put (some d) V) (fun i=>by have:=ho (i+1);simpa using this) (by simpa using hlen) h (hT.put hV (ya9 hb)) (by rw[zd5];exact hd) hQ
   ·cases h
  ·cases h
theorem zjj{B:Bas}{ih:Task->Res}(hih:∀k,zbh P B k (ih k)){f:FuncId}{args:List CV}{m m':Mem}{fn:Func}{c:Code}{ops:Array Oper}{rest:List Code}{rv v:CV}(hfn:P.funcs[f]? = some fn)(hb:fn.body=some c)(hs:zaJ c=some (ops,rest))(h:zew P ih fn args m rv ops.toList rest=.ret v m'):
  (∀as w,(callFunc f as).run P w=.ok (.enter f as) w)/\∀e as w V n u u1,denL e args=some as->den e rv=some V->Rel B e m w->(∀(c₀ : Frame) (cs:List Frame),c₀.mode=u->(match recoverD (c₀ :: cs)with |some (x,cs')=>x=V/\cs'={ c₀ with mode:=u1 }::cs |none=>V=.nilIface/\u1=u)) ->
   CallsDIn Fence.wide n P f as.toArray u w fun en u' w'=>u'=u1/\zst B e v m' en w':=by
 unfold zew at h;split at h
 ·rename_i hc;simp only[ya2]at hc;have hl:=ya9 hc.1;have henter:=zaF hfn hb hc.2;split at h
  ·rename_i t hgo;refine⟨henter,fun e as w V n u u1 has hV hr hrec=>?_⟩;have hleave:∃x t2 m2,(x=CEx.normal\/x=CEx.ret)/\zuJ ih rest t [] m=.ex x t2 [] m2/\leave P (fun _=>.no "deferred") fn.results.toList t2 [] m2=.ret v m':=by
    generalize zuJ ih rest t [] m=res at h;unfold zha at h;split at h
    ·exact⟨_,_,_,.inl rfl,rfl,h⟩
    ·exact⟨_,_,_,.inr rfl,rfl,h⟩
    ·cases h
    ·cases h
   obtain⟨x,t2,m2,hx,hrun,hlv⟩:=hleave;have hlv':(match zmq P t2 m2 fn.results.toList with |some vs=>Res.ret (zic vs) m2 |none=>.no _)=.ret v m':=hlv;split at hlv'
   ·rename_i vs hvs;injection hlv' with h1 h2
    subst h1;subst h2;refine callsDIn_of_wpSIn hfn hb trivial fun c₀ cs hu=>?_
    cases hops:ops.toList with
    |nil=>rw[hops]at hgo;simp[zvM]at hgo
    |cons o os=>
     rw[hops]at hgo;simp only[zvM]at hgo;split at hgo
     ·rename_i d hg hdst hisr;split at hgo
      ·rename_i hdb;have hT0:=zkD has hl;have hT1:=hT0.put hV (ya9 hdb);have hrg:List.range ops.size=0::(List.range os.length).map (· + 1):=by
        have:ops.size=os.length+1:=by rw[<- Array.length_toList,hops];rfl
        rw[this,List.range_succ_eq_map]
       have ho0:ops[0]? = some o:=by rw[<- Array.getElem?_toList,hops];rfl
       have hoj:∀i,os[i]? = (((List.range os.length).map (· + 1))[i]?).bind fun k=>ops[k]? := fun i=>by
        rw[yb9];by_cases hi:i<os.length
        ·rw[List.getElem?_range hi];simp only[yc5,Option.bind_some];rw[<- Array.getElem?_toList,hops,yc6]
        ·rw[List.getElem?_eq_none (by omega),List.getElem?_eq_none (by simp;omega)];rfl
       obtain⟨hex,hab⟩:=zkH (P:=P) hisr (ρ := Act.eval { tmps:=as.toArray++Array.replicate (fn.ntmps - as.toArray.size) undef,defers:=[] }) (w:=w);have hreg:∀(cs':List Frame),(match recoverD (c₀ :: cs)with |some (x,cs2)=>(x=V/\cs2=cs') |none=>V=.nilIface/\cs'=c₀ :: cs)->∀Q':Exit->Act->List Frame->World->Prop,(∀a',TOk e t a'.tmps/\a'.defers=[]->Q' .normal a' cs' w)->wpOpsSIn (FW none) n P ops Q' (List.range ops.size) { tmps:=as.toArray++Array.replicate (fn.ntmps - as.toArray.size) undef,defers:=[] } (c₀ :: cs) w:=by
        intro cs' hm Q' hQ';rw[hrg];simp only[wpOpsSIn,ho0];refine⟨fun f hf=>absurd hf (hab f),?_⟩;rw[if_pos (zcF (a:={ tmps:=as.toArray++Array.replicate (fn.ntmps - as.toArray.size) undef,defers:=[] }) (ops:=ops) (o:=o) (b:=true) hT0 (by rw[hg];rfl)),hex];simp only[hdst];have hfin:∀cs',(∀a',TOk e t a'.tmps/\a'.defers=[]->Q' .normal a' cs' w)->wpOpsSIn (FW none) n P ops Q' ((List.range os.length).map (· + 1)) (Act.put { tmps:=as.toArray++Array.replicate (fn.ntmps - as.toArray.size) undef,defers:=[] } (some d) V) cs' w:=fun cs' hQ'=>
         zl3 hr _ os _ _ hoj (by simp) hgo hT1 (by rw[zd5]) fun a' h1 h2=>hQ' a' ⟨h1,h2⟩
        split
        ·rename_i x cs2 hq;rw[hq]at hm;obtain⟨rfl,rfl⟩:=hm;exact hfin _ hQ'
        ·rename_i hq;rw[hq]at hm;obtain⟨rfl,rfl⟩:=hm;exact hfin _ hQ'
       have hmm:=hrec c₀ cs hu;refine zn2 (G:=fun a'=>TOk e t a'.tmps/\a'.defers=[]) (cs':={ c₀ with mode:=u1 }::cs) (w':=w) hs (hreg _ ?_) (fun a' ha=>?_)
       ·cases hq:recoverD (c₀ :: cs) with
        |none=>
         rw[hq]at hmm;obtain⟨h1,rfl⟩:=hmm;exact⟨h1,by subst hu;rfl⟩
        |some xc=>
         obtain⟨x,cs2⟩:=xc;rw[hq]at hmm;exact hmm
       ·refine zka (fun y a2 w2 hy=>?_) (zqP hih hrun (Env.le.refl e) ⟨hr,ha.1,ha.2⟩);obtain⟨e1,le1,hy,hs1⟩:=hy;have hd:a2.defers=[]:=hs1.dok;obtain⟨V2,k1,k2⟩:=zfX hs1.tok hs1.rel hvs;rcases hx with rfl |rfl
        ·obtain rfl:y=.normal:=hy;exact⟨hd,u1,rfl,V2,k2,rfl,e1,V2,le1,k1,rfl,hs1.rel⟩
        ·obtain rfl:y=.ret:=hy;exact⟨hd,u1,rfl,V2,k2,rfl,e1,V2,le1,k1,rfl,hs1.rel⟩
      ·cases hgo
     ·cases hgo
   ·cases hlv'
  ·cases h
 ·cases h
theorem zeX{ih:Task->Res}{fn:Func}{args:List CV}{m:Mem}{rv:CV}{ops:List Oper}{rest:List Code}:(∃w,zew P ih fn args m rv ops rest=.no w)\/∃v m',zew P ih fn args m rv ops rest=.ret v m':=by
 unfold zew;split
 ·split
  ·unfold zha;split
   ·exact zb2 _ _
   ·exact zb2 _ _
   ·exact .inl ⟨_,rfl⟩
   ·exact .inl ⟨_,rfl⟩
  ·exact .inl ⟨_,rfl⟩
 ·exact .inl ⟨_,rfl⟩
theorem zq8{B:Bas}{ih:Task->Res}(hih:∀k,zbh P B k (ih k))(f:FuncId)(args:List CV)(m:Mem):zif P B f args m (zoY P ih args m P.funcs[f]?):=by
 generalize hfn:P.funcs[f]? = q;cases q with
 |none=>trivial
 |some fn=>
  unfold zoY;simp only;split
  ·rename_i ops rest hs;split
   ·rcases zeX (P:=P) (ih:=ih) (fn:=fn) (args:=args) (m:=m) (rv:=.nili) (ops:=ops.toList) (rest:=rest) with⟨w,hw⟩ |⟨v,m',hw⟩
    ·rw[hw];trivial
    ·cases hb:fn.body with
     |none=>rw[hb]at hs;cases hs
     |some c=>
      rw[hb]at hs;rw[hw];obtain⟨h1,h2⟩:=zjj hih hfn hb hs hw;exact⟨h1,fun e as w n has hr=>h2 e as w .nilIface n .returning .returning has rfl hr fun c₀ cs hu=>by simp[recoverD,hu]⟩
   ·exact zgi hih f args m hfn
  ·exact zgi hih f args m hfn
theorem zqR{B:Bas}{ih:Task->Res}(hih:∀k,zbh P B k (ih k))(f:FuncId)(args:List CV)(v:CV)(m:Mem):zsp P B f args v m (zoW P ih args m v P.funcs[f]?):=by
 generalize hfn:P.funcs[f]? = q;cases q with
 |none=>trivial
 |some fn=>
  unfold zoW;simp only;split
  ·rename_i c hb;split
   ·rename_i ops rest hs;rcases zeX (P:=P) (ih:=ih) (fn:=fn) (args:=args) (m:=m) (rv:=v) (ops:=ops.toList) (rest:=rest) with⟨w,hw⟩ |⟨u,m',hw⟩
    ·rw[hw];trivial
    ·rw[hw];obtain⟨h1,h2⟩:=zjj hih hfn hb hs hw;exact⟨h1,fun e as w V n has hV hr=>h2 e as w V n _ _ has hV hr fun c₀ cs hu=>by simp[recoverD,hu]⟩
   ·trivial
  ·trivial
def zkz(P:Program)(X:Ext):Prop:=∀f g,X f=some g->∀m args v,g m args=some v->(∀as w,(callFunc f as).run P w=.ok (.enter f as) w) /\
 ∀e as w,denL e args=some as->Mok e m w->(∀g,g<64->e g=some ⟨g,0,0,0⟩)->Calls P f as.toArray w fun en w'=>(∃e' V,(∀t,t≠m.nxt->e' t=e t)/\den e' v=some V/\en=.returned V)/\Below w.heap.size w w'
def ExtOk0(P:Program)(X:Ext):Prop:=∀f g,X f=some g->∀m args v,g m args=some v->(∀as w,(callFunc f as).run P w=.ok (.enter f as) w) /\
 ∀e as w,denL e args=some as->Mok e m w->(∀g,g<64->e g=some ⟨g,0,0,0⟩)->∃V,den e v=some V/\Calls P f as.toArray w fun en w'=>en=.returned V/\Below w.heap.size w w'
theorem ExtOk0.to{X:Ext}(h:ExtOk0 P X):zkz P X:=fun f g hx m args v hg=>by
 obtain⟨h1,h2⟩:=h f g hx m args v hg;refine⟨h1,fun e as w h3 h4 h5=>?_⟩;obtain⟨V,h6,h7⟩:=h2 e as w h3 h4 h5;exact h7.mono fun en w' ⟨h8,h9⟩=>⟨⟨e,V,fun _ _=>rfl,h6,h8⟩,h9⟩
theorem Rel.below{B:Bas}{e:Env}{m:Mem}{w w':World}(h:Rel B e m w)(hb:Below w.heap.size w w'):Rel B e m w':=by
 refine⟨fun t o ho=>?_,h.inj0,h.own,h.rof,h.glb,h.dom,h.frm.trans ⟨hb.os,hb.tape,hb.output,hb.size,fun k hk=>hb.block k (h.frF hk)⟩,h.zlt,h.bar⟩;have hok:=h.ok t o ho;refine zbZ (Env.le.refl e) (fun b hb'=>?_) hok;obtain⟨b2,x,h1,h2⟩:=zc5 hok;rw[h1]at hb';cases hb';exact hb.block _ (zcH h2)
theorem Rel.up{B:Bas}{e e':Env}{m:Mem}{w w':World}(h:Rel B e m w)(hb:Below w.heap.size w w')(he:∀t,t≠m.nxt->e' t=e t):Rel B e' m.up w':=by
 have hle:Env.le e e':=fun t b hb'=>by
  by_cases ht:t=m.nxt
  ·rw[h.dom t (by omega)]at hb';cases hb'
  ·rw[he t ht];exact hb'
 have hne:∀t o b,m.get t=some o->e' t=some b->e t=some b:=fun t o b ho hb'=>by
  by_cases ht:t=m.nxt
  ·obtain⟨b2,x,h1,h2⟩:=zc5 (h.ok t o ho);rw[h.dom t (by omega)]at h1;cases h1
  ·rw[<- he t ht];exact hb'
 have h0:=h.below hb;refine⟨fun t o ho=>zbZ hle (fun b hb'=>rfl) (h0.ok t o ho),fun t t' o o' b b' h1 h2 h3 h4 h5 h6=>h.inj0 t t' o o' b b' h1 h2 h3 h4 (hne t o b h1 h5) (hne t' o' b' h2 h6),fun t o b h1 h2 h3=>h.own t o b h1 h2 (hne t o b h1 h3),fun t o b h1 h2 h3=>h.rof t o b h1 h2 (hne t o b h1 h3),fun g hg=>hle _ _ (h.glb g hg),fun t ht=>?_,h0.frm,fun t ht=>Nat.lt_succ_of_lt (h.zlt t ht),fun t ht=>?_⟩
 ·have ht:m.nxt+1<=t:=ht;rw[he t (by omega)];exact h.dom t (by omega)
 ·have:=h.zlt t ht;rw[he t (by omega)];exact h.bar t ht
theorem zu4{X:Ext}(hX:zkz P X)(hm:P.follows .mixedOrders=true):∀(n:Nat) (B:Bas) (k:Task),zbh P B k (zkP P X n k):=by
 intro n
 induction n using Nat.strongRecOn with
 |_ n ih=>
  intro B k;cases n with
  |zero=>cases k<;>trivial
  |succ N=>
   have hall:∀j,j<=N->∀B k,zbh P B k (zkP P X j k):=fun j hj=>ih j (by omega)
   have hN:=hall N (Nat.le_refl N);cases k with
   |call f args m=>
    show zju P B f args m (zr9 P (zkP P X N) f args m (X f));cases hx:X f with
    |none=>exact zsM (hN B) f args m
    |some g=>
     show zju P B f args m (zxP m (g m args));cases hg:g m args with
     |none=>trivial
     |some v=>
      obtain⟨h1,h2⟩:=hX f g hx m args v hg;refine .inl ⟨h1,fun e as w has hr=>?_⟩;have hc:=h2 e as w has hr.ok hr.glb;exact hc.mono fun en w' ⟨⟨e',V,he',hV,he⟩,hb⟩=>⟨e',V,fun t b hb'=>by
       by_cases ht:t=m.nxt
       ·rw[hr.dom t (by omega)]at hb';cases hb'
       ·rw[he' t ht];exact hb',hV,he,hr.up hb he'⟩
   |dcall f args m=>exact zq8 (hN B) f args m
   |rcall f args v m=>exact zqR (hN B) f args v m
   |code c t ds r m=>
    by_cases hc:∃b,c=.loop b
    ·obtain⟨b,rfl⟩:=hc;exact zvc hall B b t ds r m
    ·exact ztG hN hm B c (fun b hb=>hc ⟨b,hb⟩) t ds r m
theorem zkW{X:Ext}(hX:zkz P X)(hm:P.follows .mixedOrders=true){n:Nat}{f:FuncId}{args:List CV}{m m':Mem}{v:CV}(h:zkP P X n (.call f args m)=.ret v m'){B:Bas}{e:Env}{as:List Value}{w:World}(hv:∀t off,v≠.ptr t off)(has:denL e args=some as)(hr:Rel B e m w):
  Calls P f as.toArray w (zst B e v m'):=by
 have:=zu4 hX hm n B (.call f args m);rw[h]at this;rcases this with this |⟨t,off,_,hq,_⟩
 ·exact this.2 e as w has hr
 ·exact absurd hq (hv t off)
end Go.Cx
