import Derived.Test.YtogdglnaagkaaaaDoorRc
set_option linter.unusedSimpArgs false
set_option linter.unusedVariables false
set_option maxRecDepth 100000
namespace Go.Proofs.YtogdglnaagkaaaaDoor
open Go Go.Cx
theorem zs3{k a b:Int}(hk:0<=k)(ha:0<=a)(hb:0<b):0<=dm k a b/\dm k a b<b:=by
 unfold dm;have h:0<=k.tdiv a:=Int.tdiv_nonneg hk ha;exact zxJ hb h
def zdo(p:Int):List UInt8:=[UInt8.ofNat (112+p).toNat]
theorem zvv:(([0,1,2,3,4,5,6,7,8,9,10]:List Int).all fun p=>zeg (nm (zdo p)))=true:=by kernel_rfl
theorem zyO{p:Int}(hp:0<=p/\p<=10):zeg (nm (zdo p))=true:=
 List.all_eq_true.1 zvv p (by
  have:p=0\/p=1\/p=2\/p=3\/p=4\/p=5\/p=6\/p=7\/p=8\/p=9\/p=10:=by omega
  simpa using this)
theorem zsp{kd bd:Int}{b:Bool}{cs:List CondM}{s:List UInt8}(hk:0<=kd/\kd<=25)(hb:(b||bd==0)=true)(hn:(isE (nm s)||zeg (nm s))=true)(hc:(cs.any fun c => !opB c.op)=false):zrs ⟨kd,b,bd,cs,s⟩=true:=by
 show((decide (kd>=0)&&decide (kd<=25))&&((b||bd==0)&&((isE (nm s)||zeg (nm s)) && !(cs.any fun c => !opB c.op))))=true;rw[hb,hn,hc];simp;omega
theorem zAq{k:Int}(hk:0<=k):0<=k.tmod 3/\k.tmod 3<=25:=by
 have:=zxJ (a:=3) (by decide) hk;omega
theorem zzv(k:Int):((dm k 3 3==1)||(bif dm k 3 3==1 then dm k 9 4 else 0)==0)=true:=by
 cases dm k 3 3==1<;>rfl
theorem zza{k:Int}(hk:0<=k):((bif dm k 36 3==1 then[zi5 k] else[]).any fun c => !opB c.op)=false:=by
 cases dm k 36 3==1 with
 |false=>rfl
 |true=>
  have h:=zs3 (a:=108) (b:=6) hk (by decide) (by decide);show(!opB (1+dm k 108 6)||false)=false;unfold opB;rw[show inB (1+dm k 108 6) 1 6=true by unfold inB;simp;omega];rfl
theorem zzd(k:Int):(bif dm k 36 3==1 then[zi5 k] else[]).length<=4:=by
 cases dm k 36 3==1<;>simp
theorem zA3{k p:Int}(hp:0<=p/\p<=10):(isE (nm (bif dm k 3240 2==1 then zdo p else[]))||zeg (nm (bif dm k 3240 2==1 then zdo p else[])))=true:=by
 cases dm k 3240 2==1 with
 |false=>kernel_rfl
 |true=>rw[cond_true,zyO hp,Bool.or_true]
theorem zzW{k:Int}{kd:Int}{b:Bool}{s:List UInt8}(hk:0<=k):NuA ⟨kd,b,bif dm k 3 3==1 then dm k 9 4 else 0,bif dm k 36 3==1 then[zi5 k] else[],s⟩:=by
 have h1:=zs3 (a:=9) (b:=4) hk (by decide) (by decide);have h2:=zs3 (a:=648) (b:=5) hk (by decide) (by decide);refine⟨?_,?_⟩
 ·show 0<=(bif dm k 3 3==1 then dm k 9 4 else 0)/\(bif dm k 3 3==1 then dm k 9 4 else 0)<=3;cases dm k 3 3==1<;>simp<;>omega
 ·show ∀c∈(bif dm k 36 3==1 then[zi5 k] else[]), -3<=c.val/\c.val<=3;cases dm k 36 3==1 with
  |false=>intro c hc;cases hc
  |true=>
   intro c hc;obtain rfl:=List.mem_singleton.1 hc;show -3<=dm k 648 5 - 2/\dm k 648 5 - 2<=3;omega
theorem zpX{k p:Int}(hk:0<=k)(hp:0<=p/\p<=10):LfM (lfN k p):=by
 refine⟨rfl,zsp (zAq hk) (zzv k) (zA3 hp) (zza hk),zzd k,.inl ⟨rfl,?_⟩,zzW hk⟩;show 1<=(bif dm k 6480 5==1 then 1+dm k 32400 2 else 1)/\(bif dm k 6480 5==1 then 1+dm k 32400 2 else 1)<=(bif dm k 6480 5==1 then 2+dm k 64800 2 else 1)/\(bif dm k 6480 5==1 then 2+dm k 64800 2 else 1)<=6;have h1:=zs3 (a:=32400) (b:=2) hk (by decide) (by decide);have h2:=zs3 (a:=64800) (b:=2) hk (by decide) (by decide);cases dm k 6480 5==1<;>simp<;>omega
theorem ztb{k:Int}(hk:0<=k):LfM (zhj k):=
 ⟨rfl,zsp (zAq hk) (zzv k) (by kernel_rfl) (zza hk),zzd k,.inr ⟨rfl,rfl,rfl,by kernel_rfl⟩,zzW hk⟩
theorem zzJ(k p:Int):nmL (lfN k p)=bif dm k 3240 2==1 then[zdo p] else[]:=by
 show(bif isE (nm (bif dm k 3240 2==1 then zdo p else[])) then[] else[bif dm k 3240 2==1 then zdo p else[]])=_;cases dm k 3240 2==1<;>rfl
theorem zzy(k:Int):nmL (zhj k)=[]:=rfl
def Asc(ps:List Int)(a b:Int):Prop:=ps.Pairwise (· < ·)/\∀p∈ps,a<=p/\p<b
theorem Asc.app{ps qs:List Int}{a b c:Int}(h:Asc ps a b)(g:Asc qs b c)(hab:a<=b)(hbc:b<=c):Asc (ps++qs) a c:=by
 refine⟨List.pairwise_append.2 ⟨h.1,g.1,fun p hp q hq=>?_⟩,fun p hp=>?_⟩
 ·have:=(h.2 p hp).2;have:=(g.2 q hq).1;omega
 ·rcases List.mem_append.1 hp with hp |hp
  ·have:=h.2 p hp;omega
  ·have:=g.2 p hp;omega
theorem ztT(k p:Int):∃ps,nmL (lfN k p)=ps.map zdo/\Asc ps p (p+1):=by
 rw[zzJ];cases dm k 3240 2==1 with
 |false=>exact⟨[],rfl,List.Pairwise.nil,fun q hq=>by cases hq⟩
 |true=>exact⟨[p],rfl,List.pairwise_singleton _ _,fun q hq=>by obtain rfl:=List.mem_singleton.1 hq;omega⟩
theorem zye(k p:Int):∃ps,nmQ k p=ps.map zdo/\Asc ps p (atQ k p):=by
 obtain⟨ps,h1,h2⟩:=ztT k p;cases h:k.tmod 7==1 with
 |false=>exact⟨ps,by rw[zvN h h1],by rw[<- zzb h];exact h2⟩
 |true=>
  obtain⟨qs,g1,g2⟩:=ztT (k.tdiv 5) (p+1);refine⟨ps++qs,by rw[zrX h h1 g1,List.map_append],?_⟩;rw[<- zzk h];exact h2.app g2 (by omega) (by omega)
theorem zvd{p q:Int}(hp:0<=p/\p<100)(hq:0<=q/\q<100)(h:zdo p=zdo q):p=q:=by
 unfold zdo at h;have h1:UInt8.ofNat (112+p).toNat=UInt8.ofNat (112+q).toNat:=by injection h
 have h2:=congrArg UInt8.toNat h1;have e:∀p:Int,(UInt8.ofNat (112+p).toNat).toNat=(112+p).toNat%256:=fun p=>by simp
 rw[e,e]at h2;omega
theorem zu2{ps:List Int}{b:Int}(h:Asc ps 0 b)(hb:b<=100):(ps.map zdo).Nodup:=by
 unfold List.Nodup;rw[List.pairwise_map];refine List.Pairwise.imp_of_mem ?_ h.1;intro p q hp hq hlt he;have h1:=h.2 p hp;have h2:=h.2 q hq;have:=zvd (by omega) (by omega) he;omega
theorem zxD{k p:Int}(hk:0<=k)(hp:0<=p/\p<=9):(ItM (zp4 k p)/\zak (zp4 k p)=true)/\(zp4 k p).kind≠2/\(lvs (zp4 k p)).length<=2/\zcF (lvs (zp4 k p))=nmQ k p:=by
 cases h:k.tmod 7==1 with
 |false=>
  rw[zpv h];have hl:=zpX hk (p:=p) (by omega);refine⟨⟨.inl hl,hl.stands⟩,by show(1:Int)≠2;decide,by rw[hl.lvs];simp,?_⟩;rw[hl.lvs,zvN h rfl];unfold zcF;rw[List.flatMap_cons,List.flatMap_nil,yc2]
 |true=>
  rw[zqd h];have h5:0<=k.tdiv 5:=Int.tdiv_nonneg hk (by decide);have hP:PrM (zvZ (lfN k p) (lfN (k.tdiv 5) (p+1))) (lfN k p) (lfN (k.tdiv 5) (p+1)):=⟨rfl,zpX hk (by omega),zpX h5 (by omega)⟩
  refine⟨⟨.inr ⟨_,_,hP⟩,zog (zcx (by show(1:Int)≠2;decide) (by show(1:Int)≠2;decide))⟩,by show(4:Int)≠2;decide,by rw[hP.lvs];simp,?_⟩;rw[hP.lvs,zrX h rfl rfl];unfold zcF;rw[List.flatMap_cons,List.flatMap_cons,List.flatMap_nil,yc2]
theorem zy8{i:Nat}{k:Int}(hk:0<=k):(∀m∈gdQ i k,ItM m/\zak m=true)/\(gdQ i k).length<=1/\((gdQ i k).flatMap lvs).length<=1/\zcF ((gdQ i k).flatMap lvs)=[]/\(i=0->gdQ i k=[]):=by
 unfold gdQ;cases h:decide ((i:Int) > 0)&&dm k 7 4==1 with
 |false=>exact⟨fun m hm=>(by cases hm),Nat.zero_le _,Nat.zero_le _,rfl,fun _=>rfl⟩
 |true=>
  have hl:LfM (zhj (k.tdiv 28)):=ztb (Int.tdiv_nonneg hk (by decide));have hv:[zhj (k.tdiv 28)].flatMap lvs=[zhj (k.tdiv 28)]:=by rw[List.flatMap_cons,List.flatMap_nil,yc2,hl.lvs]
  rw[cond_true,hv];refine⟨fun m hm=>by obtain rfl:=List.mem_singleton.1 hm;exact⟨.inl hl,hl.stands⟩,by simp,by simp,?_,fun h0=>?_⟩
  ·unfold zcF;rw[List.flatMap_cons,List.flatMap_nil,yc2,zzy]
  ·subst h0;cases h
theorem zmF(a b:List NodeM):zcF (a++b)=zcF a++zcF b:=by unfold zcF;rw[List.flatMap_append]
structure RunI(l:List Int)(i:Nat):Prop where
 it:∀m∈(za0 l i).1,ItM m/\zak m=true
 wt:((za0 l i).1.flatMap lvs).length<=3*i
 nms:zcF ((za0 l i).1.flatMap lvs)=(za0 l i).2.1
 asc:∃ps,(za0 l i).2.1=ps.map zdo/\Asc ps 0 (za0 l i).2.2
 ln:i<=(za0 l i).1.length/\(za0 l i).1.length<=2*i
 hd:i=0\/∃m r,(za0 l i).1=m::r/\m.kind≠2
 ls:i=0\/∃r m,(za0 l i).1=r++[m]/\m.kind≠2
theorem zzO(l:List Int):∀i:Nat,i<=4->RunI l i
 |0,_=>⟨fun m hm=>(by cases hm),Nat.le_refl _,rfl,⟨[],rfl,List.Pairwise.nil,fun q hq=>(by cases hq)⟩,⟨Nat.le_refl _,Nat.le_refl _⟩,.inl rfl,.inl rfl⟩
 |i+1,hi=>by
  have ih:=zzO l i (by omega);have hpl:=zki l i;have hk:=(zg1 (n:=l.getD i 0) (m:=qM) (by decide)).1;have e1:(za0 l (i+1)).1=(za0 l i).1++(gdQ i (zb1 (l.getD i 0) qM)++[zp4 (zb1 (l.getD i 0) qM) (za0 l i).2.2]):=rfl;have e2:(za0 l (i+1)).2.1=(za0 l i).2.1++nmQ (zb1 (l.getD i 0) qM) (za0 l i).2.2:=rfl;have e3:(za0 l (i+1)).2.2=atQ (zb1 (l.getD i 0) qM) (za0 l i).2.2:=rfl;generalize zb1 (l.getD i 0) qM=k at hk e1 e2 e3;have ho:=zxD (p:=(za0 l i).2.2) hk (by omega);have hg:=zy8 (i:=i) hk;have hfl:(za0 l (i+1)).1.flatMap lvs=(za0 l i).1.flatMap lvs++((gdQ i k).flatMap lvs++lvs (zp4 k (za0 l i).2.2)):=by
   rw[e1,List.flatMap_append,List.flatMap_append,List.flatMap_cons,List.flatMap_nil,yc2]
  refine⟨fun m hm=>?_,?_,?_,?_,?_,.inr ?_,.inr ?_⟩
  ·rw[e1]at hm;rcases List.mem_append.1 hm with hm |hm
   ·exact ih.it m hm
   ·rcases List.mem_append.1 hm with hm |hm
    ·exact hg.1 m hm
    ·obtain rfl:=List.mem_singleton.1 hm;exact ho.1
  ·rw[hfl,ya1,ya1];have:=ih.wt;omega
  ·rw[hfl,zmF,zmF,ih.nms,hg.2.2.2.1,List.nil_append,ho.2.2.2,e2]
  ·obtain⟨ps,h1,h2⟩:=ih.asc;obtain⟨qs,g1,g2⟩:=zye k (za0 l i).2.2;refine⟨ps++qs,by rw[e2,h1,g1,List.map_append],?_⟩;rw[e3];refine h2.app g2 hpl.1 ?_;unfold atQ;cases k.tmod 7==1<;>simp<;>omega
  ·rw[e1,ya1,ya1,List.length_singleton];have:=ih.ln;omega
  ·by_cases h0:i=0
   ·subst h0;rw[e1,hg.2.2.2.2 rfl];exact⟨_,[],rfl,ho.2.1⟩
   ·obtain⟨m,r,h1,h2⟩:=ih.hd.resolve_left h0;rw[e1,h1];exact⟨m,_,rfl,h2⟩
  ·rw[e1];exact⟨(za0 l i).1++gdQ i k,_,by rw[yc1],ho.2.1⟩
theorem zy6{m:NodeM}(h:ItM m/\zak m=true)(hk:m.kind≠2)(hn:(zcF (lvs m)).Nodup):PatOk m:=by
 rcases h.1 with hl |⟨x,y,hp⟩
 ·exact .inl ⟨hl,hl.kinds hk⟩
 ·refine .inr ⟨4,[x,y],hp.eq,?_⟩;rw[hp.lvs]at hn;have hs:=h.2;have:=hp.eq;subst this;have hw:[x,y].flatMap lvs=[x,y]:=by rw[List.flatMap_cons,List.flatMap_cons,hp.fst.lvs,hp.snd.lvs];rfl
  exact⟨⟨.inr rfl,by simp,by simp,zcx (.inl hp.fst) (.inl hp.snd),by rw[hw];simp⟩,hs,zcx hp.fst.stands hp.snd.stands,by rw[hw];exact hn⟩
theorem zwA(l:List Int):PatOk (zgn l).p:=by
 have h4:iQ l<=4:=by unfold iQ;omega
 have h:=zzO l (iQ l) h4;have hpl:=zki l (iQ l);have hnd:(zcF ((za0 l (iQ l)).1.flatMap lvs)).Nodup:=by
  rw[h.nms];obtain⟨ps,h1,h2⟩:=h.asc;rw[h1];exact zu2 h2 (by omega)
 show PatOk (zz8 (za0 l (iQ l)).1);have hln:=h.ln;have hhd:=h.hd;have hls:=h.ls;have hit:=h.it;have hwt:=h.wt;generalize (za0 l (iQ l)).1=ks at *
 match ks with
 |[]=>exact .inl ⟨zpX (by decide) (by decide),rfl⟩
 |[m]=>
  have h0:iQ l≠0:=by simp at hln;omega
  obtain⟨x,r,e,hx⟩:=hhd.resolve_left h0;cases e;refine zy6 (hit m ya5) hx ?_;rw[List.flatMap_cons,List.flatMap_nil,yc2]at hnd;exact hnd
 |a::b::r=>
  have h0:iQ l≠0:=by simp at hln;omega
  obtain⟨x,r',e,hx⟩:=hhd.resolve_left h0;obtain⟨r2,y,e2,hy⟩:=hls.resolve_left h0;refine .inr ⟨3,a::b::r,rfl,⟨⟨.inl rfl,by simp,by omega,fun m hm=>(hit m hm).1,by omega⟩,zn4 ?_ ?_,fun m hm=>(hit m hm).2,hnd⟩⟩
  ·cases e;exact hx
  ·rw[zef (by simp)];simp only[e2];rw[List.getElem_append_right (by simp)];simpa using hy
mutual
def onceN:NodeM->NodeM
 |.mk k mn mx a kids=>.mk k (bif k==1 then 1 else mn) (bif k==1 then 1 else mx) a (onceL kids)
def onceL:List NodeM->List NodeM
 |[]=>[]
 |n::r=>onceN n::onceL r
end
theorem zm2:∀l:List NodeM,onceL l=l.map onceN
 |[]=>by rw[onceL];rfl
 |n::r=>by rw[onceL,zm2 r];rfl
theorem zdR(n:NodeM):onceN n=.mk n.kind (bif n.kind==1 then 1 else n.mn) (bif n.kind==1 then 1 else n.mx) n.atom (n.kids.map onceN):=by
 cases n;rw[onceN,zm2];rfl
theorem zfU(n:NodeM):(onceN n).kind=n.kind:=by rw[zdR];rfl
theorem zev(n:NodeM):(onceN n).atom=n.atom:=by rw[zdR];rfl
theorem zuS(n:NodeM):(onceN n).kids=n.kids.map onceN:=by rw[zdR];rfl
theorem zxZ(n:NodeM):(onceN n).mn=bif n.kind==1 then 1 else n.mn:=by rw[zdR];rfl
theorem zyg(n:NodeM):(onceN n).mx=bif n.kind==1 then 1 else n.mx:=by rw[zdR];rfl
theorem zew{m:NodeM}(h:LfM m):LfM (onceN m):=by
 refine⟨by rw[zuS,h.nok];rfl,by rw[zev];exact h.at1,by rw[zev];exact h.cs4,?_,by rw[zev];exact h.nu⟩;rw[zfU,zev,zxZ,zyg];rcases h.rep with⟨h1,_⟩ |⟨h1,h2,h3,h4⟩
 ·rw[h1];exact .inl ⟨rfl,by show(1:Int)<=1/\(1:Int)<=1/\(1:Int)<=6;decide⟩
 ·rw[h1];exact .inr ⟨rfl,h2,h3,h4⟩
theorem zkP{k:Int}(hk:k=3\/k=4)(ks:List NodeM):onceN (zbi k ks)=zbi k (ks.map onceN):=by
 rw[zdR];rcases hk with rfl |rfl<;>rfl
theorem ztW{m x y:NodeM}(h:PrM m x y):PrM (onceN m) (onceN x) (onceN y):=
 ⟨by rw[h.eq,zkP (.inr rfl)];rfl,zew h.fst,zew h.snd⟩
theorem zx6{m:NodeM}(h:ItM m):ItM (onceN m):=by
 rcases h with h |⟨x,y,h⟩
 ·exact .inl (zew h)
 ·exact .inr ⟨_,_,ztW h⟩
theorem zvt{m:NodeM}(h:ItM m):lvs (onceN m)=(lvs m).map onceN:=by
 rcases h with h |⟨x,y,h⟩
 ·rw[(zew h).lvs,h.lvs];rfl
 ·rw[(ztW h).lvs,h.lvs];rfl
theorem zuM{ks:List NodeM}(h:∀m∈ks,ItM m):(ks.map onceN).flatMap lvs=(ks.flatMap lvs).map onceN:=by
 induction ks with
 |nil=>rfl
 |cons a r ih=>rw[List.map_cons,List.flatMap_cons,List.flatMap_cons,List.map_append,zvt (h a ya5),ih fun m hm=>h m (ya4 _ hm)]
theorem zwh(L:List NodeM):zcF (L.map onceN)=zcF L:=by
 unfold zcF
 induction L with
 |nil=>rfl
 |cons a r ih=>
  rw[List.map_cons,List.flatMap_cons,List.flatMap_cons,ih];congr 1;unfold nmL;rw[zev]
theorem ziM{k:Int}{ks:List NodeM}(h:zak (zbi k ks)=true):zak (zbi k (ks.map onceN))=true:=by
 unfold zak at h ⊢;rw[Bool.not_eq_true']at h ⊢;refine ze2 (Nat.le_refl _) fun j hj=>?_
 have hj:j<(ks.map onceN).length:=hj;have hj2:j<ks.length:=by rw[yb7]at hj;exact hj
 have:=Bool.eq_false_iff.1 h;rw[Ne,List.any_eq_true]at this;have hw:zhl (zbi k ks) j=false:=by
  cases hq:zhl (zbi k ks) j with
  |false=>rfl
  |true=>exact absurd ⟨j,List.mem_range.2 hj2,hq⟩ this
 rw[zeH]at hw ⊢;rw[zef hj,List.getElem_map,zfU,<- zef hj2];simp only[yb7];exact hw
theorem zxi{m:NodeM}(h:ItM m)(hs:zak m=true):zak (onceN m)=true:=by
 rcases h with h |⟨x,y,h⟩
 ·exact(zew h).stands
 ·have:=h.eq;subst this;rw[zkP (.inr rfl)];exact ziM hs
theorem PatOk.once{n:NodeM}(h:PatOk n):PatOk (onceN n):=by
 rcases h with⟨h,hk⟩ |⟨k,ks,rfl,h⟩
 ·exact .inl ⟨zew h,by rw[zfU];exact hk⟩
 ·refine .inr ⟨k,ks.map onceN,zkP h.kd ks,⟨⟨h.kd,by rw[yb7];exact h.l2,by rw[yb7];exact h.l8,fun m hm=>?_,?_⟩,ziM h.st,fun m hm=>?_,?_⟩⟩
  ·obtain⟨x,hx,rfl⟩:=List.mem_map.1 hm;exact zx6 (h.it x hx)
  ·rw[zuM h.it,yb7];exact h.wt
  ·obtain⟨x,hx,rfl⟩:=List.mem_map.1 hm;exact zxi (h.it x hx) (h.ss x hx)
  ·rw[zuM h.it,zwh];exact h.nd
theorem zsd{n:NodeM}(h:∀d,∀x∈zaZ d n,znf x.2=false):Fit n:=fun d p hp=>by
 have:=h d p hp;unfold znf at this;simp at this;omega
theorem zwR{m:NodeM}(h:ItM m)(d:Int):(zaZ d m).length<=3:=by
 rcases h with h |⟨x,y,h⟩
 ·rw[h.pre];simp
 ·rw[h.eq,zgH,List.flatMap_cons,List.flatMap_cons,h.fst.pre,h.snd.pre];simp
theorem zqO:∀ks:List NodeM,(∀m∈ks,ItM m)->(ks.flatMap (zaZ (1+1))).length<=3*ks.length:=by
 intro ks
 induction ks with
 |nil=>intro _;exact Nat.le_refl _
 |cons a r ih=>
  intro h;rw[List.flatMap_cons,ya1,ya7];have:=zwR (h a ya5) (1+1);have:=ih fun m hm=>h m (ya4 _ hm)
  omega
theorem zmN{m:NodeM}(h:ItM m):NFit m:=⟨zsd fun d=>zqn h d,Nat.le_trans (zpL h) (by decide),Nat.le_trans (zwR h 1) (by decide)⟩
theorem KidsOk.fit{k:Int}{ks:List NodeM}(h:KidsOk k ks):NFit (zbi k ks):=by
 refine⟨zsd fun d=>zdm (zma h.l8) fun m hm=>zqn (h.it m hm) _,Nat.le_trans (zlJ (d:=2) fun m hm=>zpL (h.it m hm)) (by decide),?_⟩;rw[zgH,ya7];have:=zqO ks h.it;have:=h.l8;omega
theorem PatOk.fit{n:NodeM}(h:PatOk n):NFit n:=by
 rcases h with⟨h,hk⟩ |⟨k,ks,rfl,h⟩
 ·exact zmN (.inl h)
 ·exact h.toKidsOk.fit
end Go.Proofs.YtogdglnaagkaaaaDoor
