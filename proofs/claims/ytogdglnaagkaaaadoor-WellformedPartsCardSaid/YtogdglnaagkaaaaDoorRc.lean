import Derived.Test.YtogdglnaagkaaaaDoorRb
import Derived.Test.YtogdglnaagkaaaaDoorAj
set_option linter.unusedSimpArgs false
set_option linter.unusedVariables false
set_option maxRecDepth 100000
namespace Go.Proofs.YtogdglnaagkaaaaDoor
open Go Go.Cx
theorem zlL(a:List UInt8):(nm a).map UInt8.ofNat=a:=by
 unfold nm;rw[List.map_map];have:(UInt8.ofNat ∘ UInt8.toNat)=id:=by funext x;simp
 rw[this,List.map_id]
theorem zyx(a b:List UInt8):zbE (nm a) (nm b)=(a==b):=by
 rw[zej,zlL,zlL]
theorem ztt{n:NodeM}(hs:zaS 200 n=true)(ha:(za9 n).length<=12)(hb:ze6 n znf=false)(hd:n.dep<=6)(hr:ze6 n zc7=false):zet (zcL n)=bif za7 (zcL n)then 9 else zec (zcL n):=by
 have e0:zfH (zcL n) 0=0:=by
  show zjZ (zcL n)=0;unfold zjZ za6;rw[show(zcL n).p=n from rfl,hs];rfl
 have e1:zfH (zcL n) 1=0:=by
  show(bif zqW (zcL n)then 6 else 0)=(0:Int)
  have:zqW (zcL n)=false:=by
   unfold zqW;rw[show(zcL n).p=n from rfl,hb,show decide (((za9 n).length:Int) > 12)=false by simp;omega];rfl
  rw[this];rfl
 have e2:zfH (zcL n) 2=0:=by
  show(bif decide (zvE n > 6)then 22 else 0)=(0:Int)
  have:decide (zvE n > 6)=false:=by
   unfold zvE;rw[hs];simp;omega
  rw[this];rfl
 have e3:zfH (zcL n) 3=0:=by
  show(bif zgQ (zcL n)then 2 else 0)=(0:Int)
  have:zgQ (zcL n)=false:=by
   unfold zgQ;rw[show(zcL n).p=n from rfl,hr];rfl
  rw[this];rfl
 have e4:zfH (zcL n) 4=bif za7 (zcL n)then 9 else 0:=rfl;have e5:zfH (zcL n) 5=zec (zcL n):=rfl;unfold zet;rw[e0,e1,e2,e3,e4,e5];cases za7 (zcL n)<;>rfl
def NuA(a:AtomM):Prop:=(0<=a.bound/\a.bound<=3)/\∀c∈a.cs, -3<=c.val/\c.val<=3
structure LfM(m:NodeM):Prop where
 nok:m.kids=[]
 at1:zrs m.atom=true
 cs4:m.atom.cs.length<=4
 rep:(m.kind=1/\1<=m.mn/\m.mn<=m.mx/\m.mx<=6)\/(m.kind=2/\m.mn=0/\m.mx=0/\isE (nm m.atom.name)=true)
 nu:NuA m.atom
def zeroA:AtomM:=⟨0,false,0,[],[]⟩
def zbi(k:Int)(ks:List NodeM):NodeM:=.mk k 0 0 zeroA ks
structure PrM(m:NodeM)(x y:NodeM):Prop where
 eq:m=zbi 4 [x,y]
 fst:LfM x
 snd:LfM y
def ItM(m:NodeM):Prop:=LfM m\/∃x y,PrM m x y
def lvs(m:NodeM):List NodeM:=bif zjv m then[m]else m.kids
theorem LfM.pre{m:NodeM}(h:LfM m)(d:Int):zaZ d m=[(d,m)]:=by
 rw[zcy,h.nok];rfl
theorem LfM.leaf{m:NodeM}(h:LfM m):zjv m=true:=by
 unfold zjv;rcases h.rep with h |h
 ·rw[h.1];rfl
 ·rw[h.1];rfl
theorem LfM.lvs{m:NodeM}(h:LfM m):lvs m=[m]:=by
 unfold Go.Proofs.YtogdglnaagkaaaaDoor.lvs;rw[h.leaf];rfl
theorem LfM.sound{m:NodeM}(h:LfM m)(d:Nat):zaS (d+1) m=true:=by
 unfold zaS;have hk:((m.kids.length:Int)==0)=true:=by rw[h.nok];rfl
 rw[h.at1,hk];rcases h.rep with⟨h1,h2,h3,h4⟩ |⟨h1,h2,h3,_⟩
 ·rw[h1];simp;omega
 ·rw[h1,h2,h3];rfl
theorem LfM.big{m:NodeM}(h:LfM m):znf m=false:=by
 unfold znf;have:=h.cs4;rw[h.nok];simp;omega
theorem LfM.range{m:NodeM}(h:LfM m):zc7 m=false:=by
 unfold zc7;rcases h.rep with⟨h1,h2,h3,h4⟩ |⟨h1,h2,h3,_⟩
 ·rw[h1];simp;omega
 ·rw[h1];rfl
theorem LfM.stands{m:NodeM}(h:LfM m):zak m=true:=by
 unfold zak;rw[h.nok];rfl
theorem LfM.dep{m:NodeM}(h:LfM m):m.dep=1:=by
 rw[zco,h.nok,depL]
section
variable{k:Int}{ks:List NodeM}
theorem zmY(hk:k=3\/k=4)(h2:2<=ks.length){d:Nat}(h:∀m∈ks,zaS d m=true):zaS (d+1) (zbi k ks)=true:=by
 have ha:ks.any (fun m => !zaS d m)=false:=by
  rw[Bool.eq_false_iff,Ne,List.any_eq_true];rintro⟨x,hx,hp⟩;rw[h x hx]at hp;cases hp
 have hz:zuP zeroA=true:=by kernel_rfl
 have hl:decide ((ks.length:Int)>=2)=true:=by simp;omega
 unfold zaS;show(bif k==1 then _ else bif k==2 then _ else bif k==3||k==4 then decide ((ks.length:Int)>=2)&&((0:Int)==0&&((0:Int)==0&&(zuP zeroA && !(ks.any fun m => !zaS d m))))else false)=true;rw[ha,hz,hl];rcases hk with rfl |rfl<;>rfl
theorem zma(h8:ks.length<=8):znf (zbi k ks)=false:=by
 unfold znf;show(decide ((ks.length:Int) > 8)||decide (((zeroA.cs.length:Nat):Int) > 4))=false;simp[zeroA];omega
theorem zmI(hk:k=3\/k=4):zc7 (zbi k ks)=false:=by
 unfold zc7;rcases hk with rfl |rfl<;>rfl
theorem zgH(d:Int):zaZ d (zbi k ks)=(d,zbi k ks)::ks.flatMap (zaZ (d+1)):=zcy d _
theorem zqF(hk:k=3\/k=4):zjv (zbi k ks)=false:=by
 rcases hk with rfl |rfl<;>rfl
theorem zlJ{d:Nat}(h:∀m∈ks,m.dep<=d):(zbi k ks).dep<=d+1:=by
 rw[zco];show depL ks+1<=d+1;have:∀ks:List NodeM,(∀m∈ks,m.dep<=d)->depL ks<=d:=by
  intro ks
  induction ks with
  |nil=>intro _;rw[depL];omega
  |cons a r ih=>
   intro h;rw[depL];have:=h a ya5;have:=ih fun m hm=>h m (ya4 _ hm)
   omega
 have:=this ks h;omega
theorem zdm{d:Int}{p:NodeM->Bool}(h0:p (zbi k ks)=false)(h:∀m∈ks,∀x∈zaZ (d+1) m,p x.2=false):∀x∈zaZ d (zbi k ks),p x.2=false:=fun x hx=>by
 rw[zgH]at hx;rcases List.mem_cons.1 hx with rfl |hx
 ·exact h0
 ·obtain⟨m,hm,hx⟩:=List.mem_flatMap.1 hx;exact h m hm x hx
theorem zkn(hk:k=3\/k=4){d:Int}(h:∀m∈ks,((zaZ (d+1) m).filter za5).map Prod.snd=lvs m):((zaZ d (zbi k ks)).filter za5).map Prod.snd=ks.flatMap lvs:=by
 rw[zgH,List.filter_cons_of_neg (by show ¬zjv (zbi k ks)=true;rw[zqF hk];simp)];clear hk
 induction ks with
 |nil=>rfl
 |cons a r ih=>
  rw[List.flatMap_cons,List.flatMap_cons,List.filter_append,List.map_append,h a ya5,ih fun m hm=>h m (ya4 _ hm)]
end
theorem LfM.leaves{m:NodeM}(h:LfM m)(d:Int):((zaZ d m).filter za5).map Prod.snd=[m]:=by
 rw[h.pre,List.filter_cons_of_pos (by exact h.leaf)];rfl
theorem zcx{x y:NodeM}{p:NodeM->Prop}(hx:p x)(hy:p y):∀m∈[x,y],p m:=fun m hm=>by
 rcases List.mem_cons.1 hm with rfl |hm
 ·exact hx
 ·rcases List.mem_cons.1 hm with rfl |hm
  ·exact hy
  ·cases hm
theorem PrM.lvs{m x y:NodeM}(h:PrM m x y):lvs m=[x,y]:=by
 have:=h.eq;subst this;unfold Go.Proofs.YtogdglnaagkaaaaDoor.lvs;rw[zqF (.inr rfl)];rfl
theorem ztN{m:NodeM}(h:ItM m)(d:Int):((zaZ d m).filter za5).map Prod.snd=lvs m:=by
 rcases h with h |⟨x,y,h⟩
 ·rw[h.leaves,h.lvs]
 ·rw[h.lvs];have:=h.eq;subst this;rw[zkn (.inr rfl) (zcx (by rw[h.fst.leaves,h.fst.lvs]) (by rw[h.snd.leaves,h.snd.lvs]))];rw[List.flatMap_cons,List.flatMap_cons,h.fst.lvs,h.snd.lvs];rfl
theorem zwu{m:NodeM}(h:ItM m)(d:Nat):zaS (d+2) m=true:=by
 rcases h with h |⟨x,y,h⟩
 ·exact h.sound _
 ·have:=h.eq;subst this;exact zmY (.inr rfl) (by simp) (zcx (h.fst.sound _) (h.snd.sound _))
theorem zpL{m:NodeM}(h:ItM m):m.dep<=2:=by
 rcases h with h |⟨x,y,h⟩
 ·rw[h.dep];omega
 ·have:=h.eq;subst this;exact zlJ (zcx (by rw[h.fst.dep];omega) (by rw[h.snd.dep];omega))
theorem zqn{m:NodeM}(h:ItM m)(d:Int):∀x∈zaZ d m,znf x.2=false:=by
 rcases h with h |⟨x,y,h⟩
 ·rw[h.pre];intro x hx;obtain rfl:=List.mem_singleton.1 hx;exact h.big
 ·have:=h.eq;subst this;refine zdm (zma (by simp)) (zcx ?_ ?_)
  ·rw[h.fst.pre];intro x hx;obtain rfl:=List.mem_singleton.1 hx;exact h.fst.big
  ·rw[h.snd.pre];intro x hx;obtain rfl:=List.mem_singleton.1 hx;exact h.snd.big
theorem zv3{m:NodeM}(h:ItM m)(d:Int):∀x∈zaZ d m,zc7 x.2=false:=by
 rcases h with h |⟨x,y,h⟩
 ·rw[h.pre];intro x hx;obtain rfl:=List.mem_singleton.1 hx;exact h.range
 ·have:=h.eq;subst this;refine zdm (zmI (.inr rfl)) (zcx ?_ ?_)
  ·rw[h.fst.pre];intro x hx;obtain rfl:=List.mem_singleton.1 hx;exact h.fst.range
  ·rw[h.snd.pre];intro x hx;obtain rfl:=List.mem_singleton.1 hx;exact h.snd.range
theorem zt9{m:NodeM}(h:ItM m)(hs:zak m=true)(d:Int):∀x∈zaZ d m,(!zak x.2)=false:=by
 rcases h with h |⟨x,y,h⟩
 ·rw[h.pre];intro x hx;obtain rfl:=List.mem_singleton.1 hx;rw[h.stands];rfl
 ·have:=h.eq;subst this;refine zdm (p:=fun m => !zak m) (by show(!zak _)=false;rw[hs];rfl) (zcx ?_ ?_)
  ·rw[h.fst.pre];intro x hx;obtain rfl:=List.mem_singleton.1 hx;rw[h.fst.stands];rfl
  ·rw[h.snd.pre];intro x hx;obtain rfl:=List.mem_singleton.1 hx;rw[h.snd.stands];rfl
theorem zdH{n:NodeM}{p:NodeM->Bool}(h:∀x∈zaZ 0 n,p x.2=false):ze6 n p=false:=by
 unfold ze6;rw[Bool.eq_false_iff,Ne,List.any_eq_true];rintro⟨x,hx,hp⟩;rw[h x hx]at hp;cases hp
theorem zwP{A:Type}{n:NodeM}{L:List NodeM}{f:Int×NodeM->A}{g:NodeM->A}(hs:zaS 200 n=true)(hL:((zaZ 1 n).filter za5).map Prod.snd=L)(hf:∀p,f p=g p.2):zee n za5 f=L.map g:=by
 unfold zee;rw[hs];show((zaZ 1 n).filter za5).map f=_;rw[<- hL,List.map_map];exact List.map_congr_left fun p _=>hf p
theorem zl9{n:NodeM}{L:List NodeM}(hs:zaS 200 n=true)(hL:((zaZ 1 n).filter za5).map Prod.snd=L):za9 n=L.map NodeM.atom:=zwP hs hL fun _=>rfl
theorem zxS{n:NodeM}{L:List NodeM}(hs:zaS 200 n=true)(hL:((zaZ 1 n).filter za5).map Prod.snd=L):zoq n=L.map fun m=>m.kind==2:=zwP hs hL fun _=>rfl
noncomputable def zcF(L:List NodeM):List (List UInt8):=L.flatMap nmL
theorem zps:∀(L:List NodeM),zbb ((L.map NodeM.atom).zip (L.map fun m=>m.kind==2))=(zcF L).map nm
 |[]=>rfl
 |m::r=>by
  have ih:=zps r;unfold zbb zcF at ih ⊢;rw[List.map_cons,List.map_cons,List.zip_cons_cons,List.flatMap_cons,List.map_append,<- ih];cases h:isE (nm m.atom.name) with
  |true=>rw[List.filter_cons_of_neg (by show ¬(!isE (nm m.atom.name))=true;rw[h];simp),show nmL m=[]from zrv (by rw[h];rfl)];rfl
  |false=>rw[List.filter_cons_of_pos (by show(!isE (nm m.atom.name))=true;rw[h];rfl),show nmL m=[m.atom.name]from zrk (by rw[h];rfl)];rfl
theorem zqf{n:NodeM}{L:List NodeM}(hs:zaS 200 n=true)(hL:((zaZ 1 n).filter za5).map Prod.snd=L)(hg:∀m∈L,m.kind=2->isE (nm m.atom.name)=true)(hd:(zcF L).Nodup):zec (zcL n)=0:=by
 have hp:zaG n=(L.map NodeM.atom).zip (L.map fun m=>m.kind==2):=by
  unfold zaG;rw[zl9 hs hL,zxS hs hL]
 have hN:zbb (zaG n)=(zcF L).map nm:=by rw[hp,zps]
 have hnd:(zbb (zaG n)).Nodup:=by
  rw[hN];unfold List.Nodup;rw[List.pairwise_map];refine List.Pairwise.imp ?_ hd;intro a b hab h;exact hab (by rw[<- zlL a,<- zlL b,h])
 have h1:zyy n=false:=by
  unfold zyy;rw[Bool.eq_false_iff,Ne,List.any_eq_true];rintro⟨k,hk,h⟩;have hk:=List.mem_range.1 hk;unfold zgO at h;rw[ya2,Bool.not_eq_true']at h;have e:=zgW hk;have hs':(zbb ((zaG n).take (k+1))).Sublist (zbb (zaG n)):=((List.take_sublist _ _).filter _).map _;rw[e,zpf h.1]at hs';have hq:=hnd.sublist hs';rw[List.nodup_append]at hq;have hi:=h.2;unfold inU at hi;rw[List.any_eq_true]at hi;obtain⟨y,hy,hb⟩:=hi;have hyx:nmP (zcB n k)=y:=by
   unfold zbb at hy;obtain⟨r,_,rfl⟩:=List.mem_map.1 hy;have:(((zcB n k).1.name)==r.1.name)=true:=by rw[<- zyx];exact hb
   unfold nmP;rw[eq_of_beq this]
  exact hq.2.2 y hy (nmP (zcB n k)) ya5 hyx.symm
 have h2:zdF (zaG n)=false:=by
  rw[hp];unfold zdF;rw[Bool.eq_false_iff,Ne,List.any_eq_true];rintro⟨p,hm,h⟩;have key:∀(L:List NodeM) (p:AtomM×Bool),p∈(L.map NodeM.atom).zip (L.map fun m=>m.kind==2)->∃m∈L,p=(m.atom,m.kind==2):=by
   intro L
   induction L with
   |nil=>intro p hp;cases hp
   |cons a r ih=>
    intro p hp;rw[List.map_cons,List.map_cons,List.zip_cons_cons]at hp;rcases List.mem_cons.1 hp with rfl |hp
    ·exact⟨a,ya5,rfl⟩
    ·obtain⟨m,hm,e⟩:=ih p hp;exact⟨m,ya4 _ hm,e⟩
  obtain⟨m,hmL,rfl⟩:=key L p hm;rw[ya2]at h;have hk:m.kind=2:=by simpa using h.2
  have:=hg m hmL hk;have h1:(!isE (nm m.atom.name))=true:=h.1;rw[this]at h1;cases h1
 unfold zec;rw[show(zcL n).p=n from rfl,h1,h2];rfl
theorem zeH{k:Int}{ks:List NodeM}{i:Nat}:zhl (zbi k ks) i=((atN ks i).kind==2&&((k != 3||(i:Int)==0)||(i:Int)==(ks.length:Int) - 1)):=rfl
theorem zn4{ks:List NodeM}(h0:(atN ks 0).kind≠2)(h1:(atN ks (ks.length - 1)).kind≠2):zak (zbi 3 ks)=true:=by
 unfold zak;rw[Bool.not_eq_true'];refine ze2 (Nat.le_refl _) fun j hj=>?_
 have hj:j<ks.length:=hj;rw[zeH];by_cases hz:j=0
 ·subst hz;rw[show((atN ks 0).kind==2)=false by simpa using h0];rfl
 ·by_cases hl:j=ks.length - 1
  ·subst hl;rw[show((atN ks (ks.length - 1)).kind==2)=false by simpa using h1];rfl
  ·have a:((j:Int)==0)=false:=by simp;omega
   have b:((j:Int)==(ks.length:Int) - 1)=false:=by simp;omega
   rw[a,b];cases(atN ks j).kind==2<;>rfl
theorem zog{ks:List NodeM}(h:∀m∈ks,m.kind≠2):zak (zbi 4 ks)=true:=by
 unfold zak;rw[Bool.not_eq_true'];refine ze2 (Nat.le_refl _) fun j hj=>?_
 have hj:j<ks.length:=hj;rw[zeH,show((atN ks j).kind==2)=false by simpa using h _ (zeo hj)];rfl
theorem zvz{ks:List NodeM}(h:zak (zbi 4 ks)=true):∀m∈ks,m.kind≠2:=fun m hm hk=>by
 obtain⟨i,hi,rfl⟩:=List.mem_iff_getElem.1 hm;unfold zak at h;rw[Bool.not_eq_true', ]at h;rw[zeh (n:=(zbi 4 ks).kids.length) (k:=i) (by exact hi) (by rw[zeH,zef hi,hk];rfl)]at h;cases h
theorem zyb{k:Int}{ks:List NodeM}{i:Nat}(hi:i<ks.length)(hk:(atN ks i).kind=2)(he:i=0\/i=ks.length - 1):za7 (zcL (zbi k ks))=true:=by
 have h:zak (zbi k ks)=false:=by
  unfold zak;rw[zeh (n:=(zbi k ks).kids.length) (k:=i) (by exact hi) (by
   rw[zeH,hk];rcases he with rfl |rfl
   ·simp
   ·rw[show(((ks.length - 1:Nat):Int)==(ks.length:Int) - 1)=true by simp;omega];simp)]
  rfl
 have h2:ze6 (zbi k ks) (fun m => !zak m)=true:=by
  unfold ze6;rw[List.any_eq_true];exact⟨(0,zbi k ks),by rw[zgH];exact ya5,by show(!zak (zbi k ks))=true;rw[h];rfl⟩
 unfold za7;rw[show(zcL (zbi k ks)).p=zbi k ks from rfl,h2];simp
structure KidsOk(k:Int)(ks:List NodeM):Prop where
 kd:k=3\/k=4
 l2:2<=ks.length
 l8:ks.length<=8
 it:∀m∈ks,ItM m
 wt:(ks.flatMap lvs).length<=12
theorem KidsOk.sound{k:Int}{ks:List NodeM}(h:KidsOk k ks):zaS 200 (zbi k ks)=true:=zmY h.kd h.l2 fun m hm=>zwu (h.it m hm) 197
theorem KidsOk.leaves{k:Int}{ks:List NodeM}(h:KidsOk k ks):((zaZ 1 (zbi k ks)).filter za5).map Prod.snd=ks.flatMap lvs:=zkn h.kd fun m hm=>ztN (h.it m hm) _
theorem KidsOk.well{k:Int}{ks:List NodeM}(h:KidsOk k ks):zet (zcL (zbi k ks))=bif za7 (zcL (zbi k ks))then 9 else zec (zcL (zbi k ks)):=by
 refine ztt h.sound ?_ ?_ ?_ ?_
 ·rw[zl9 h.sound h.leaves,yb7];exact h.wt
 ·exact zdH (zdm (zma h.l8) fun m hm=>zqn (h.it m hm) _)
 ·exact Nat.le_trans (zlJ (d:=2) fun m hm=>zpL (h.it m hm)) (by decide)
 ·exact zdH (zdm (zmI h.kd) fun m hm=>zv3 (h.it m hm) _)
theorem LfM.well{m:NodeM}(h:LfM m):zet (zcL m)=bif za7 (zcL m)then 9 else zec (zcL m):=by
 refine ztt (h.sound 199) ?_ ?_ ?_ ?_
 ·rw[zl9 (h.sound 199) (h.leaves 1)];exact ya9 rfl
 ·exact zdH fun x hx=>by rw[h.pre]at hx;obtain rfl:=List.mem_singleton.1 hx;exact h.big
 ·rw[h.dep];decide
 ·exact zdH fun x hx=>by rw[h.pre]at hx;obtain rfl:=List.mem_singleton.1 hx;exact h.range
theorem LfM.well1{m:NodeM}(h:LfM m)(hk:m.kind=1):zet (zcL m)=0:=by
 rw[h.well];have ho:za7 (zcL m)=false:=by
  unfold za7;rw[show(zcL m).p=m from rfl,hk,zdH (p:=fun m => !zak m) fun x hx=>by rw[h.pre]at hx;obtain rfl:=List.mem_singleton.1 hx;show(!zak _)=false;rw[h.stands];rfl];rfl
 rw[ho];refine zqf (h.sound 199) (h.leaves 1) (fun x hx h2=>?_) ?_
 ·obtain rfl:=List.mem_singleton.1 hx;omega
 ·have:=zoY m;unfold zcF;rw[List.flatMap_cons,List.flatMap_nil,yc2]
  match h:nmL m with
  |[]=>simp
  |[a]=>simp
  |a::b::r=>rw[h]at this;simp at this
theorem LfM.well2{m:NodeM}(h:LfM m)(hk:m.kind=2):zet (zcL m)=9:=by
 rw[h.well];have ho:za7 (zcL m)=true:=by
  unfold za7;rw[show(zcL m).p=m from rfl,hk];rfl
 rw[ho];rfl
structure TopOk(k:Int)(ks:List NodeM):Prop extends KidsOk k ks where
 st:zak (zbi k ks)=true
 ss:∀m∈ks,zak m=true
 nd:(zcF (ks.flatMap lvs)).Nodup
theorem zwy{m x:NodeM}(h:ItM m)(hx:x∈lvs m)(hk:x.kind=2):isE (nm x.atom.name)=true:=by
 have key:∀{x:NodeM},LfM x->x.kind=2->isE (nm x.atom.name)=true:=fun h hk=>by
  rcases h.rep with h |h
  ·omega
  ·exact h.2.2.2
 rcases h with h |⟨a,b,h⟩
 ·rw[h.lvs]at hx;obtain rfl:=List.mem_singleton.1 hx;exact key h hk
 ·rw[h.lvs]at hx;exact zcx (p:=fun x=>x.kind=2->isE (nm x.atom.name)=true) (key h.fst) (key h.snd) x hx hk
theorem TopOk.well0{k:Int}{ks:List NodeM}(h:TopOk k ks):zet (zcL (zbi k ks))=0:=by
 rw[h.toKidsOk.well];have ho:za7 (zcL (zbi k ks))=false:=by
  unfold za7;rw[show(zcL (zbi k ks)).p=zbi k ks from rfl,zdH (p:=fun m => !zak m) (zdm (p:=fun m => !zak m) (by show(!zak _)=false;rw[h.st];rfl) fun m hm=>zt9 (h.it m hm) (h.ss m hm) _)];rcases h.kd with rfl |rfl<;>rfl
 rw[ho];exact zqf h.sound h.leaves (fun x hx h2=>by
  obtain⟨m,hm,hx⟩:=List.mem_flatMap.1 hx;exact zwy (h.it m hm) hx h2) h.nd
theorem LfM.kinds{m:NodeM}(h:LfM m)(hk:m.kind≠2):m.kind=1:=by
 rcases h.rep with h |h
 ·exact h.1
 ·exact absurd h.1 hk
def PatOk(n:NodeM):Prop:=(LfM n/\n.kind=1)\/∃k ks,n=zbi k ks/\TopOk k ks
theorem PatOk.well{n:NodeM}(h:PatOk n):zet (zcL n)=0:=by
 rcases h with⟨h,hk⟩ |⟨k,ks,rfl,h⟩
 ·exact h.well1 hk
 ·exact h.well0
theorem zpx{A B:Type}{f:A->List B}{m:A}:∀{l:List A},m∈l->(f m).Sublist (l.flatMap f)
 |[],h=>by cases h
 |a::r,h=>by
  rw[List.flatMap_cons];rcases List.mem_cons.1 h with rfl |h
  ·exact List.sublist_append_left _ _
  ·exact(zpx h).trans (List.sublist_append_right _ _)
theorem zxs{a b:List NodeM}(h:a.Sublist b):(zcF a).Sublist (zcF b):=by
 unfold zcF
 induction h with
 |slnil=>exact List.Sublist.refl _
 |cons x _ ih=>rw[List.flatMap_cons];exact ih.trans (List.sublist_append_right _ _)
 |cons_cons x _ ih=>rw[List.flatMap_cons,List.flatMap_cons];exact List.Sublist.append (List.Sublist.refl _) ih
theorem TopOk.kid{k:Int}{ks:List NodeM}(h:TopOk k ks){m:NodeM}(hm:m∈ks):(m.kind=2/\zet (zcL m)=9)\/(m.kind≠2/\zet (zcL m)=0):=by
 rcases h.it m hm with hl |⟨x,y,hp⟩
 ·by_cases hk:m.kind=2
  ·exact .inl ⟨hk,hl.well2 hk⟩
  ·exact .inr ⟨hk,hl.well1 (hl.kinds hk)⟩
 ·have hs:=h.ss m hm;have hlv:(lvs m).Sublist (ks.flatMap lvs):=zpx hm;rw[hp.lvs]at hlv;have:=hp.eq;subst this;have hn:=zvz hs;refine .inr ⟨by show(4:Int)≠2;decide,?_⟩;have hw:[x,y].flatMap lvs=[x,y]:=by rw[List.flatMap_cons,List.flatMap_cons,hp.fst.lvs,hp.snd.lvs];rfl
  refine TopOk.well0 ⟨⟨.inr rfl,by simp,by simp,zcx (.inl hp.fst) (.inl hp.snd),by rw[hw];simp⟩,hs,zcx hp.fst.stands hp.snd.stands,?_⟩;rw[hw];exact h.nd.sublist (zxs hlv)
def zr3:NodeM:=.mk 2 0 0 zeroA []
theorem zvf:NuA zeroA:=⟨⟨Int.le_refl _,by show(0:Int)<=3;decide⟩,fun c hc=>by cases hc⟩
theorem not0_lf:LfM zr3:=⟨rfl,by kernel_rfl,by decide,.inr ⟨rfl,rfl,rfl,by kernel_rfl⟩,zvf⟩
theorem TopOk.set9{k:Int}{ks:List NodeM}(h:TopOk k ks){i:Nat}(he:i=0\/i=ks.length - 1):zet (zcL (zbi k (ks.set i zr3)))=9:=by
 have h2:=h.l2;have hi:i<ks.length:=by omega
 have hset:∀m∈ks.set i zr3,m∈ks\/m=zr3:=fun m hm=>List.mem_or_eq_of_mem_set hm
 have hwt:∀(ks:List NodeM) (i:Nat),(∀m∈ks,1<=(lvs m).length)->((ks.set i zr3).flatMap lvs).length<=(ks.flatMap lvs).length:=by
  intro ks
  induction ks with
  |nil=>intro i _;exact Nat.le_refl _
  |cons a r ih=>
   intro i hl;cases i with
   |zero=>
    rw[List.set_cons_zero,List.flatMap_cons,List.flatMap_cons,ya1,ya1,not0_lf.lvs];have:=hl a ya5;simp;omega
   |succ i=>
    rw[List.set_cons_succ,List.flatMap_cons,List.flatMap_cons,ya1,ya1];have:=ih i fun m hm=>hl m (ya4 _ hm)
    omega
 have hK:KidsOk k (ks.set i zr3):=by
  refine⟨h.kd,by rw[List.length_set];exact h.l2,by rw[List.length_set];exact h.l8,fun m hm=>?_,Nat.le_trans (hwt ks i fun m hm=>?_) h.wt⟩
  ·rcases hset m hm with hm |rfl
   ·exact h.it m hm
   ·exact .inl not0_lf
  ·rcases h.it m hm with hl |⟨x,y,hp⟩
   ·rw[hl.lvs];simp
   ·rw[hp.lvs];simp
 rw[hK.well,zyb (i:=i) (by rw[List.length_set];exact hi) (by rw[zef (by rw[List.length_set];exact hi),List.getElem_set_self];rfl) (by rw[List.length_set];exact he)];rfl
end Go.Proofs.YtogdglnaagkaaaaDoor
