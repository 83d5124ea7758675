import Derived.Test.YtogdglnaagkaaaaGreatDoorRb
import Derived.Test.YtogdglnaagkaaaaGreatDoorAj
set_option linter.unusedSimpArgs false
set_option linter.unusedVariables false
set_option maxRecDepth 100000
namespace Go.Proofs.YtogdglnaagkaaaaGreatDoor
open Go Go.Cx
theorem zmk(a:List UInt8):(nm a).map UInt8.ofNat=a:=by
 unfold nm;rw[List.map_map];have:(UInt8.ofNat ∘ UInt8.toNat)=id:=by funext x;simp
 rw[this,List.map_id]
theorem zuF(a b:List UInt8):zbu (nm a) (nm b)=(a==b):=by
 rw[zeI,zmk,zmk]
theorem ztV{n:NodeM}(hs:zaK 200 n=true)(ha:(zap n).length<=12)(hb:zgW n zoW=false)(hd:n.dep<=6)(hr:zgW n zdl=false):za1 (zcN n)=bif zbs (zcN n)then 9 else zcB (zcN n):=by
 have e0:zd7 (zcN n) 0=0:=by
  show zdk (zcN n)=0;unfold zdk za7;rw[show(zcN n).p=n from rfl,hs];rfl
 have e1:zd7 (zcN n) 1=0:=by
  show(bif zh7 (zcN n)then 6 else 0)=(0:Int)
  have:zh7 (zcN n)=false:=by
   unfold zh7;rw[show(zcN n).p=n from rfl,hb,show decide (((zap n).length:Int) > 12)=false by simp;omega];rfl
  rw[this];rfl
 have e2:zd7 (zcN n) 2=0:=by
  show(bif decide (zze n > 6)then 22 else 0)=(0:Int)
  have:decide (zze n > 6)=false:=by
   unfold zze;rw[hs];simp;omega
  rw[this];rfl
 have e3:zd7 (zcN n) 3=0:=by
  show(bif zcK (zcN n)then 2 else 0)=(0:Int)
  have:zcK (zcN n)=false:=by
   unfold zcK;rw[show(zcN n).p=n from rfl,hr];rfl
  rw[this];rfl
 have e4:zd7 (zcN n) 4=bif zbs (zcN n)then 9 else 0:=rfl;have e5:zd7 (zcN n) 5=zcB (zcN n):=rfl;unfold za1;rw[e0,e1,e2,e3,e4,e5];cases zbs (zcN n)<;>rfl
def NuA(a:AtomM):Prop:=(0<=a.bound/\a.bound<=3)/\∀c∈a.cs, -3<=c.val/\c.val<=3
structure LfM(m:NodeM):Prop where
 nok:m.kids=[]
 at1:zjw m.atom=true
 cs4:m.atom.cs.length<=4
 rep:(m.kind=1/\1<=m.mn/\m.mn<=m.mx/\m.mx<=6)\/(m.kind=2/\m.mn=0/\m.mx=0/\isE (nm m.atom.name)=true)
 nu:NuA m.atom
def zeroA:AtomM:=⟨0,false,0,[],[]⟩
def zcR(k:Int)(ks:List NodeM):NodeM:=.mk k 0 0 zeroA ks
structure PrM(m:NodeM)(x y:NodeM):Prop where
 eq:m=zcR 4 [x,y]
 fst:LfM x
 snd:LfM y
def ItM(m:NodeM):Prop:=LfM m\/∃x y,PrM m x y
def lvs(m:NodeM):List NodeM:=bif zkz m then[m]else m.kids
theorem LfM.pre{m:NodeM}(h:LfM m)(d:Int):zaE d m=[(d,m)]:=by
 rw[za3,h.nok];rfl
theorem LfM.leaf{m:NodeM}(h:LfM m):zkz m=true:=by
 unfold zkz;rcases h.rep with h |h
 ·rw[h.1];rfl
 ·rw[h.1];rfl
theorem LfM.lvs{m:NodeM}(h:LfM m):lvs m=[m]:=by
 unfold Go.Proofs.YtogdglnaagkaaaaGreatDoor.lvs;rw[h.leaf];rfl
theorem LfM.sound{m:NodeM}(h:LfM m)(d:Nat):zaK (d+1) m=true:=by
 unfold zaK;have hk:((m.kids.length:Int)==0)=true:=by rw[h.nok];rfl
 rw[h.at1,hk];rcases h.rep with⟨h1,h2,h3,h4⟩ |⟨h1,h2,h3,_⟩
 ·rw[h1];simp;omega
 ·rw[h1,h2,h3];rfl
theorem LfM.big{m:NodeM}(h:LfM m):zoW m=false:=by
 unfold zoW;have:=h.cs4;rw[h.nok];simp;omega
theorem LfM.range{m:NodeM}(h:LfM m):zdl m=false:=by
 unfold zdl;rcases h.rep with⟨h1,h2,h3,h4⟩ |⟨h1,h2,h3,_⟩
 ·rw[h1];simp;omega
 ·rw[h1];rfl
theorem LfM.stands{m:NodeM}(h:LfM m):zax m=true:=by
 unfold zax;rw[h.nok];rfl
theorem LfM.dep{m:NodeM}(h:LfM m):m.dep=1:=by
 rw[zch,h.nok,depL]
section
variable{k:Int}{ks:List NodeM}
theorem zj4(hk:k=3\/k=4)(h2:2<=ks.length){d:Nat}(h:∀m∈ks,zaK d m=true):zaK (d+1) (zcR k ks)=true:=by
 have ha:ks.any (fun m => !zaK d m)=false:=by
  rw[Bool.eq_false_iff,Ne,List.any_eq_true];rintro⟨x,hx,hp⟩;rw[h x hx]at hp;cases hp
 have hz:zom zeroA=true:=by kernel_rfl
 have hl:decide ((ks.length:Int)>=2)=true:=by simp;omega
 unfold zaK;show(bif k==1 then _ else bif k==2 then _ else bif k==3||k==4 then decide ((ks.length:Int)>=2)&&((0:Int)==0&&((0:Int)==0&&(zom zeroA && !(ks.any fun m => !zaK d m))))else false)=true;rw[ha,hz,hl];rcases hk with rfl |rfl<;>rfl
theorem zpk(h8:ks.length<=8):zoW (zcR k ks)=false:=by
 unfold zoW;show(decide ((ks.length:Int) > 8)||decide (((zeroA.cs.length:Nat):Int) > 4))=false;simp[zeroA];omega
theorem zn0(hk:k=3\/k=4):zdl (zcR k ks)=false:=by
 unfold zdl;rcases hk with rfl |rfl<;>rfl
theorem zg3(d:Int):zaE d (zcR k ks)=(d,zcR k ks)::ks.flatMap (zaE (d+1)):=za3 d _
theorem zr5(hk:k=3\/k=4):zkz (zcR k ks)=false:=by
 rcases hk with rfl |rfl<;>rfl
theorem zpz{d:Nat}(h:∀m∈ks,m.dep<=d):(zcR k ks).dep<=d+1:=by
 rw[zch];show depL ks+1<=d+1;have:∀ks:List NodeM,(∀m∈ks,m.dep<=d)->depL ks<=d:=by
  intro ks
  induction ks with
  |nil=>intro _;rw[depL];omega
  |cons a r ih=>
   intro h;rw[depL];have:=h a ya5;have:=ih fun m hm=>h m (ya4 _ hm)
   omega
 have:=this ks h;omega
theorem zem{d:Int}{p:NodeM->Bool}(h0:p (zcR k ks)=false)(h:∀m∈ks,∀x∈zaE (d+1) m,p x.2=false):∀x∈zaE d (zcR k ks),p x.2=false:=fun x hx=>by
 rw[zg3]at hx;rcases List.mem_cons.1 hx with rfl |hx
 ·exact h0
 ·obtain⟨m,hm,hx⟩:=List.mem_flatMap.1 hx;exact h m hm x hx
theorem zhI(hk:k=3\/k=4){d:Int}(h:∀m∈ks,((zaE (d+1) m).filter zbd).map Prod.snd=lvs m):((zaE d (zcR k ks)).filter zbd).map Prod.snd=ks.flatMap lvs:=by
 rw[zg3,List.filter_cons_of_neg (by show ¬zkz (zcR k ks)=true;rw[zr5 hk];simp)];clear hk
 induction ks with
 |nil=>rfl
 |cons a r ih=>
  rw[List.flatMap_cons,List.flatMap_cons,List.filter_append,List.map_append,h a ya5,ih fun m hm=>h m (ya4 _ hm)]
end
theorem LfM.leaves{m:NodeM}(h:LfM m)(d:Int):((zaE d m).filter zbd).map Prod.snd=[m]:=by
 rw[h.pre,List.filter_cons_of_pos (by exact h.leaf)];rfl
theorem zcq{x y:NodeM}{p:NodeM->Prop}(hx:p x)(hy:p y):∀m∈[x,y],p m:=fun m hm=>by
 rcases List.mem_cons.1 hm with rfl |hm
 ·exact hx
 ·rcases List.mem_cons.1 hm with rfl |hm
  ·exact hy
  ·cases hm
theorem PrM.lvs{m x y:NodeM}(h:PrM m x y):lvs m=[x,y]:=by
 have:=h.eq;subst this;unfold Go.Proofs.YtogdglnaagkaaaaGreatDoor.lvs;rw[zr5 (.inr rfl)];rfl
theorem ziL{m:NodeM}(h:ItM m)(d:Int):((zaE d m).filter zbd).map Prod.snd=lvs m:=by
 rcases h with h |⟨x,y,h⟩
 ·rw[h.leaves,h.lvs]
 ·rw[h.lvs];have:=h.eq;subst this;rw[zhI (.inr rfl) (zcq (by rw[h.fst.leaves,h.fst.lvs]) (by rw[h.snd.leaves,h.snd.lvs]))];rw[List.flatMap_cons,List.flatMap_cons,h.fst.lvs,h.snd.lvs];rfl
theorem zml{m:NodeM}(h:ItM m)(d:Nat):zaK (d+2) m=true:=by
 rcases h with h |⟨x,y,h⟩
 ·exact h.sound _
 ·have:=h.eq;subst this;exact zj4 (.inr rfl) (by simp) (zcq (h.fst.sound _) (h.snd.sound _))
theorem zvZ{m:NodeM}(h:ItM m):m.dep<=2:=by
 rcases h with h |⟨x,y,h⟩
 ·rw[h.dep];omega
 ·have:=h.eq;subst this;exact zpz (zcq (by rw[h.fst.dep];omega) (by rw[h.snd.dep];omega))
theorem zt5{m:NodeM}(h:ItM m)(d:Int):∀x∈zaE d m,zoW x.2=false:=by
 rcases h with h |⟨x,y,h⟩
 ·rw[h.pre];intro x hx;obtain rfl:=List.mem_singleton.1 hx;exact h.big
 ·have:=h.eq;subst this;refine zem (zpk (by simp)) (zcq ?_ ?_)
  ·rw[h.fst.pre];intro x hx;obtain rfl:=List.mem_singleton.1 hx;exact h.fst.big
  ·rw[h.snd.pre];intro x hx;obtain rfl:=List.mem_singleton.1 hx;exact h.snd.big
theorem zzk{m:NodeM}(h:ItM m)(d:Int):∀x∈zaE d m,zdl x.2=false:=by
 rcases h with h |⟨x,y,h⟩
 ·rw[h.pre];intro x hx;obtain rfl:=List.mem_singleton.1 hx;exact h.range
 ·have:=h.eq;subst this;refine zem (zn0 (.inr rfl)) (zcq ?_ ?_)
  ·rw[h.fst.pre];intro x hx;obtain rfl:=List.mem_singleton.1 hx;exact h.fst.range
  ·rw[h.snd.pre];intro x hx;obtain rfl:=List.mem_singleton.1 hx;exact h.snd.range
theorem zvi{m:NodeM}(h:ItM m)(hs:zax m=true)(d:Int):∀x∈zaE d m,(!zax x.2)=false:=by
 rcases h with h |⟨x,y,h⟩
 ·rw[h.pre];intro x hx;obtain rfl:=List.mem_singleton.1 hx;rw[h.stands];rfl
 ·have:=h.eq;subst this;refine zem (p:=fun m => !zax m) (by show(!zax _)=false;rw[hs];rfl) (zcq ?_ ?_)
  ·rw[h.fst.pre];intro x hx;obtain rfl:=List.mem_singleton.1 hx;rw[h.fst.stands];rfl
  ·rw[h.snd.pre];intro x hx;obtain rfl:=List.mem_singleton.1 hx;rw[h.snd.stands];rfl
theorem zdS{n:NodeM}{p:NodeM->Bool}(h:∀x∈zaE 0 n,p x.2=false):zgW n p=false:=by
 unfold zgW;rw[Bool.eq_false_iff,Ne,List.any_eq_true];rintro⟨x,hx,hp⟩;rw[h x hx]at hp;cases hp
theorem zzq{A:Type}{n:NodeM}{L:List NodeM}{f:Int×NodeM->A}{g:NodeM->A}(hs:zaK 200 n=true)(hL:((zaE 1 n).filter zbd).map Prod.snd=L)(hf:∀p,f p=g p.2):zeC n zbd f=L.map g:=by
 unfold zeC;rw[hs];show((zaE 1 n).filter zbd).map f=_;rw[<- hL,List.map_map];exact List.map_congr_left fun p _=>hf p
theorem ziA{n:NodeM}{L:List NodeM}(hs:zaK 200 n=true)(hL:((zaE 1 n).filter zbd).map Prod.snd=L):zap n=L.map NodeM.atom:=zzq hs hL fun _=>rfl
theorem zt6{n:NodeM}{L:List NodeM}(hs:zaK 200 n=true)(hL:((zaE 1 n).filter zbd).map Prod.snd=L):zod n=L.map fun m=>m.kind==2:=zzq hs hL fun _=>rfl
noncomputable def zdd(L:List NodeM):List (List UInt8):=L.flatMap nmL
theorem zm5:∀(L:List NodeM),zaJ ((L.map NodeM.atom).zip (L.map fun m=>m.kind==2))=(zdd L).map nm
 |[]=>rfl
 |m::r=>by
  have ih:=zm5 r;unfold zaJ zdd at ih ⊢;rw[List.map_cons,List.map_cons,List.zip_cons_cons,List.flatMap_cons,List.map_append,<- ih];cases h:isE (nm m.atom.name) with
  |true=>rw[List.filter_cons_of_neg (by show ¬(!isE (nm m.atom.name))=true;rw[h];simp),show nmL m=[]from ztg (by rw[h];rfl)];rfl
  |false=>rw[List.filter_cons_of_pos (by show(!isE (nm m.atom.name))=true;rw[h];rfl),show nmL m=[m.atom.name]from zs9 (by rw[h];rfl)];rfl
theorem zrt{n:NodeM}{L:List NodeM}(hs:zaK 200 n=true)(hL:((zaE 1 n).filter zbd).map Prod.snd=L)(hg:∀m∈L,m.kind=2->isE (nm m.atom.name)=true)(hd:(zdd L).Nodup):zcB (zcN n)=0:=by
 have hp:zaq n=(L.map NodeM.atom).zip (L.map fun m=>m.kind==2):=by
  unfold zaq;rw[ziA hs hL,zt6 hs hL]
 have hN:zaJ (zaq n)=(zdd L).map nm:=by rw[hp,zm5]
 have hnd:(zaJ (zaq n)).Nodup:=by
  rw[hN];unfold List.Nodup;rw[List.pairwise_map];refine List.Pairwise.imp ?_ hd;intro a b hab h;exact hab (by rw[<- zmk a,<- zmk b,h])
 have h1:zxl n=false:=by
  unfold zxl;rw[Bool.eq_false_iff,Ne,List.any_eq_true];rintro⟨k,hk,h⟩;have hk:=List.mem_range.1 hk;unfold zhf at h;rw[ya2,Bool.not_eq_true']at h;have e:=zg5 hk;have hs':(zaJ ((zaq n).take (k+1))).Sublist (zaJ (zaq n)):=((List.take_sublist _ _).filter _).map _;rw[e,zp4 h.1]at hs';have hq:=hnd.sublist hs';rw[List.nodup_append]at hq;have hi:=h.2;unfold inU at hi;rw[List.any_eq_true]at hi;obtain⟨y,hy,hb⟩:=hi;have hyx:nmP (zcS n k)=y:=by
   unfold zaJ at hy;obtain⟨r,_,rfl⟩:=List.mem_map.1 hy;have:(((zcS n k).1.name)==r.1.name)=true:=by rw[<- zuF];exact hb
   unfold nmP;rw[eq_of_beq this]
  exact hq.2.2 y hy (nmP (zcS n k)) ya5 hyx.symm
 have h2:zca (zaq n)=false:=by
  rw[hp];unfold zca;rw[Bool.eq_false_iff,Ne,List.any_eq_true];rintro⟨p,hm,h⟩;have key:∀(L:List NodeM) (p:AtomM×Bool),p∈(L.map NodeM.atom).zip (L.map fun m=>m.kind==2)->∃m∈L,p=(m.atom,m.kind==2):=by
   intro L
   induction L with
   |nil=>intro p hp;cases hp
   |cons a r ih=>
    intro p hp;rw[List.map_cons,List.map_cons,List.zip_cons_cons]at hp;rcases List.mem_cons.1 hp with rfl |hp
    ·exact⟨a,ya5,rfl⟩
    ·obtain⟨m,hm,e⟩:=ih p hp;exact⟨m,ya4 _ hm,e⟩
  obtain⟨m,hmL,rfl⟩:=key L p hm;rw[ya2]at h;have hk:m.kind=2:=by simpa using h.2
  have:=hg m hmL hk;have h1:(!isE (nm m.atom.name))=true:=h.1;rw[this]at h1;cases h1
 unfold zcB;rw[show(zcN n).p=n from rfl,h1,h2];rfl
theorem zjp{k:Int}{ks:List NodeM}{i:Nat}:zk8 (zcR k ks) i=((atN ks i).kind==2&&((k != 3||(i:Int)==0)||(i:Int)==(ks.length:Int) - 1)):=rfl
theorem zpA{ks:List NodeM}(h0:(atN ks 0).kind≠2)(h1:(atN ks (ks.length - 1)).kind≠2):zax (zcR 3 ks)=true:=by
 unfold zax;rw[Bool.not_eq_true'];refine zge (Nat.le_refl _) fun j hj=>?_
 have hj:j<ks.length:=hj;rw[zjp];by_cases hz:j=0
 ·subst hz;rw[show((atN ks 0).kind==2)=false by simpa using h0];rfl
 ·by_cases hl:j=ks.length - 1
  ·subst hl;rw[show((atN ks (ks.length - 1)).kind==2)=false by simpa using h1];rfl
  ·have a:((j:Int)==0)=false:=by simp;omega
   have b:((j:Int)==(ks.length:Int) - 1)=false:=by simp;omega
   rw[a,b];cases(atN ks j).kind==2<;>rfl
theorem zpl{ks:List NodeM}(h:∀m∈ks,m.kind≠2):zax (zcR 4 ks)=true:=by
 unfold zax;rw[Bool.not_eq_true'];refine zge (Nat.le_refl _) fun j hj=>?_
 have hj:j<ks.length:=hj;rw[zjp,show((atN ks j).kind==2)=false by simpa using h _ (zdN hj)];rfl
theorem zxE{ks:List NodeM}(h:zax (zcR 4 ks)=true):∀m∈ks,m.kind≠2:=fun m hm hk=>by
 obtain⟨i,hi,rfl⟩:=List.mem_iff_getElem.1 hm;unfold zax at h;rw[Bool.not_eq_true', ]at h;rw[zf7 (n:=(zcR 4 ks).kids.length) (k:=i) (by exact hi) (by rw[zjp,zkV hi,hk];rfl)]at h;cases h
structure KidsOk(k:Int)(ks:List NodeM):Prop where
 kd:k=3\/k=4
 l2:2<=ks.length
 l8:ks.length<=8
 it:∀m∈ks,ItM m
 wt:(ks.flatMap lvs).length<=12
theorem KidsOk.sound{k:Int}{ks:List NodeM}(h:KidsOk k ks):zaK 200 (zcR k ks)=true:=zj4 h.kd h.l2 fun m hm=>zml (h.it m hm) 197
theorem KidsOk.leaves{k:Int}{ks:List NodeM}(h:KidsOk k ks):((zaE 1 (zcR k ks)).filter zbd).map Prod.snd=ks.flatMap lvs:=zhI h.kd fun m hm=>ziL (h.it m hm) _
theorem KidsOk.well{k:Int}{ks:List NodeM}(h:KidsOk k ks):za1 (zcN (zcR k ks))=bif zbs (zcN (zcR k ks))then 9 else zcB (zcN (zcR k ks)):=by
 refine ztV h.sound ?_ ?_ ?_ ?_
 ·rw[ziA h.sound h.leaves,yb7];exact h.wt
 ·exact zdS (zem (zpk h.l8) fun m hm=>zt5 (h.it m hm) _)
 ·exact Nat.le_trans (zpz (d:=2) fun m hm=>zvZ (h.it m hm)) (by decide)
 ·exact zdS (zem (zn0 h.kd) fun m hm=>zzk (h.it m hm) _)
theorem LfM.well{m:NodeM}(h:LfM m):za1 (zcN m)=bif zbs (zcN m)then 9 else zcB (zcN m):=by
 refine ztV (h.sound 199) ?_ ?_ ?_ ?_
 ·rw[ziA (h.sound 199) (h.leaves 1)];exact ya9 rfl
 ·exact zdS fun x hx=>by rw[h.pre]at hx;obtain rfl:=List.mem_singleton.1 hx;exact h.big
 ·rw[h.dep];decide
 ·exact zdS fun x hx=>by rw[h.pre]at hx;obtain rfl:=List.mem_singleton.1 hx;exact h.range
theorem LfM.well1{m:NodeM}(h:LfM m)(hk:m.kind=1):za1 (zcN m)=0:=by
 rw[h.well];have ho:zbs (zcN m)=false:=by
  unfold zbs;rw[show(zcN m).p=m from rfl,hk,zdS (p:=fun m => !zax m) fun x hx=>by rw[h.pre]at hx;obtain rfl:=List.mem_singleton.1 hx;show(!zax _)=false;rw[h.stands];rfl];rfl
 rw[ho];refine zrt (h.sound 199) (h.leaves 1) (fun x hx h2=>?_) ?_
 ·obtain rfl:=List.mem_singleton.1 hx;omega
 ·have:=zpx m;unfold zdd;rw[List.flatMap_cons,List.flatMap_nil,yc2]
  match h:nmL m with
  |[]=>simp
  |[a]=>simp
  |a::b::r=>rw[h]at this;simp at this
theorem LfM.well2{m:NodeM}(h:LfM m)(hk:m.kind=2):za1 (zcN m)=9:=by
 rw[h.well];have ho:zbs (zcN m)=true:=by
  unfold zbs;rw[show(zcN m).p=m from rfl,hk];rfl
 rw[ho];rfl
structure TopOk(k:Int)(ks:List NodeM):Prop extends KidsOk k ks where
 st:zax (zcR k ks)=true
 ss:∀m∈ks,zax m=true
 nd:(zdd (ks.flatMap lvs)).Nodup
theorem zyx{m x:NodeM}(h:ItM m)(hx:x∈lvs m)(hk:x.kind=2):isE (nm x.atom.name)=true:=by
 have key:∀{x:NodeM},LfM x->x.kind=2->isE (nm x.atom.name)=true:=fun h hk=>by
  rcases h.rep with h |h
  ·omega
  ·exact h.2.2.2
 rcases h with h |⟨a,b,h⟩
 ·rw[h.lvs]at hx;obtain rfl:=List.mem_singleton.1 hx;exact key h hk
 ·rw[h.lvs]at hx;exact zcq (p:=fun x=>x.kind=2->isE (nm x.atom.name)=true) (key h.fst) (key h.snd) x hx hk
theorem TopOk.well0{k:Int}{ks:List NodeM}(h:TopOk k ks):za1 (zcN (zcR k ks))=0:=by
 rw[h.toKidsOk.well];have ho:zbs (zcN (zcR k ks))=false:=by
  unfold zbs;rw[show(zcN (zcR k ks)).p=zcR k ks from rfl,zdS (p:=fun m => !zax m) (zem (p:=fun m => !zax m) (by show(!zax _)=false;rw[h.st];rfl) fun m hm=>zvi (h.it m hm) (h.ss m hm) _)];rcases h.kd with rfl |rfl<;>rfl
 rw[ho];exact zrt h.sound h.leaves (fun x hx h2=>by
  obtain⟨m,hm,hx⟩:=List.mem_flatMap.1 hx;exact zyx (h.it m hm) hx h2) h.nd
theorem LfM.kinds{m:NodeM}(h:LfM m)(hk:m.kind≠2):m.kind=1:=by
 rcases h.rep with h |h
 ·exact h.1
 ·exact absurd h.1 hk
def PatOk(n:NodeM):Prop:=(LfM n/\n.kind=1)\/∃k ks,n=zcR k ks/\TopOk k ks
theorem PatOk.well{n:NodeM}(h:PatOk n):za1 (zcN n)=0:=by
 rcases h with⟨h,hk⟩ |⟨k,ks,rfl,h⟩
 ·exact h.well1 hk
 ·exact h.well0
theorem zqU{A B:Type}{f:A->List B}{m:A}:∀{l:List A},m∈l->(f m).Sublist (l.flatMap f)
 |[],h=>by cases h
 |a::r,h=>by
  rw[List.flatMap_cons];rcases List.mem_cons.1 h with rfl |h
  ·exact List.sublist_append_left _ _
  ·exact(zqU h).trans (List.sublist_append_right _ _)
theorem zBr{a b:List NodeM}(h:a.Sublist b):(zdd a).Sublist (zdd b):=by
 unfold zdd
 induction h with
 |slnil=>exact List.Sublist.refl _
 |cons x _ ih=>rw[List.flatMap_cons];exact ih.trans (List.sublist_append_right _ _)
 |cons_cons x _ ih=>rw[List.flatMap_cons,List.flatMap_cons];exact List.Sublist.append (List.Sublist.refl _) ih
theorem TopOk.kid{k:Int}{ks:List NodeM}(h:TopOk k ks){m:NodeM}(hm:m∈ks):(m.kind=2/\za1 (zcN m)=9)\/(m.kind≠2/\za1 (zcN m)=0):=by
 rcases h.it m hm with hl |⟨x,y,hp⟩
 ·by_cases hk:m.kind=2
  ·exact .inl ⟨hk,hl.well2 hk⟩
  ·exact .inr ⟨hk,hl.well1 (hl.kinds hk)⟩
 ·have hs:=h.ss m hm;have hlv:(lvs m).Sublist (ks.flatMap lvs):=zqU hm;rw[hp.lvs]at hlv;have:=hp.eq;subst this;have hn:=zxE hs;refine .inr ⟨by show(4:Int)≠2;decide,?_⟩;have hw:[x,y].flatMap lvs=[x,y]:=by rw[List.flatMap_cons,List.flatMap_cons,hp.fst.lvs,hp.snd.lvs];rfl
  refine TopOk.well0 ⟨⟨.inr rfl,by simp,by simp,zcq (.inl hp.fst) (.inl hp.snd),by rw[hw];simp⟩,hs,zcq hp.fst.stands hp.snd.stands,?_⟩;rw[hw];exact h.nd.sublist (zBr hlv)
theorem zyP:NuA zeroA:=⟨⟨Int.le_refl _,by show(0:Int)<=3;decide⟩,fun c hc=>by cases hc⟩
end Go.Proofs.YtogdglnaagkaaaaGreatDoor
set_option maxRecDepth 100000
namespace Go.Proofs.YtogdglnaagkaaaaGreatDoor
open Go Go.Cx
theorem zpn{k a b:Int}(hk:0<=k)(ha:0<=a)(hb:0<b):0<=dm k a b/\dm k a b<b:=by
 unfold dm;have h:0<=k.tdiv a:=Int.tdiv_nonneg hk ha;exact zxz hb h
def zdy(p:Int):List UInt8:=[UInt8.ofNat (112+p).toNat]
theorem zyt:(([0,1,2,3,4,5,6,7,8,9,10]:List Int).all fun p=>zcY (nm (zdy p)))=true:=by kernel_rfl
theorem zwT{p:Int}(hp:0<=p/\p<=10):zcY (nm (zdy p))=true:=
 List.all_eq_true.1 zyt p (by
  have:p=0\/p=1\/p=2\/p=3\/p=4\/p=5\/p=6\/p=7\/p=8\/p=9\/p=10:=by omega
  simpa using this)
theorem zwh{kd bd:Int}{b:Bool}{cs:List CondM}{s:List UInt8}(hk:0<=kd/\kd<=25)(hb:(b||bd==0)=true)(hn:(isE (nm s)||zcY (nm s))=true)(hc:(cs.any fun c => !opB c.op)=false):zjw ⟨kd,b,bd,cs,s⟩=true:=by
 show((decide (kd>=0)&&decide (kd<=25))&&((b||bd==0)&&((isE (nm s)||zcY (nm s)) && !(cs.any fun c => !opB c.op))))=true;rw[hb,hn,hc];simp;omega
theorem zCC{k:Int}(hk:0<=k):0<=k.tmod 3/\k.tmod 3<=25:=by
 have:=zxz (a:=3) (by decide) hk;omega
theorem zCv(k:Int):((dm k 3 3==1)||(bif dm k 3 3==1 then dm k 9 4 else 0)==0)=true:=by
 cases dm k 3 3==1<;>rfl
theorem zDs{k:Int}(hk:0<=k):((bif dm k 36 3==1 then[zja k] else[]).any fun c => !opB c.op)=false:=by
 cases dm k 36 3==1 with
 |false=>rfl
 |true=>
  have h:=zpn (a:=108) (b:=6) hk (by decide) (by decide);show(!opB (1+dm k 108 6)||false)=false;unfold opB;rw[show inB (1+dm k 108 6) 1 6=true by unfold inB;simp;omega];rfl
theorem zDz(k:Int):(bif dm k 36 3==1 then[zja k] else[]).length<=4:=by
 cases dm k 36 3==1<;>simp
theorem zEn{k p:Int}(hp:0<=p/\p<=10):(isE (nm (bif dm k 3240 2==1 then zdy p else[]))||zcY (nm (bif dm k 3240 2==1 then zdy p else[])))=true:=by
 cases dm k 3240 2==1 with
 |false=>kernel_rfl
 |true=>rw[cond_true,zwT hp,Bool.or_true]
theorem zDJ{k:Int}{kd:Int}{b:Bool}{s:List UInt8}(hk:0<=k):NuA ⟨kd,b,bif dm k 3 3==1 then dm k 9 4 else 0,bif dm k 36 3==1 then[zja k] else[],s⟩:=by
 have h1:=zpn (a:=9) (b:=4) hk (by decide) (by decide);have h2:=zpn (a:=648) (b:=5) hk (by decide) (by decide);refine⟨?_,?_⟩
 ·show 0<=(bif dm k 3 3==1 then dm k 9 4 else 0)/\(bif dm k 3 3==1 then dm k 9 4 else 0)<=3;cases dm k 3 3==1<;>simp<;>omega
 ·show ∀c∈(bif dm k 36 3==1 then[zja k] else[]), -3<=c.val/\c.val<=3;cases dm k 36 3==1 with
  |false=>intro c hc;cases hc
  |true=>
   intro c hc;obtain rfl:=List.mem_singleton.1 hc;show -3<=dm k 648 5 - 2/\dm k 648 5 - 2<=3;omega
theorem zoC{k p:Int}(hk:0<=k)(hp:0<=p/\p<=10):LfM (lfN k p):=by
 refine⟨rfl,zwh (zCC hk) (zCv k) (zEn hp) (zDs hk),zDz k,.inl ⟨rfl,?_⟩,zDJ hk⟩;show 1<=(bif dm k 6480 5==1 then 1+dm k 32400 2 else 1)/\(bif dm k 6480 5==1 then 1+dm k 32400 2 else 1)<=(bif dm k 6480 5==1 then 2+dm k 64800 2 else 1)/\(bif dm k 6480 5==1 then 2+dm k 64800 2 else 1)<=6;have h1:=zpn (a:=32400) (b:=2) hk (by decide) (by decide);have h2:=zpn (a:=64800) (b:=2) hk (by decide) (by decide);cases dm k 6480 5==1<;>simp<;>omega
theorem zwu{k:Int}(hk:0<=k):LfM (zhO k):=
 ⟨rfl,zwh (zCC hk) (zCv k) (by kernel_rfl) (zDs hk),zDz k,.inr ⟨rfl,rfl,rfl,by kernel_rfl⟩,zDJ hk⟩
theorem zzo(k p:Int):nmL (lfN k p)=bif dm k 3240 2==1 then[zdy p] else[]:=by
 show(bif isE (nm (bif dm k 3240 2==1 then zdy p else[])) then[] else[bif dm k 3240 2==1 then zdy p else[]])=_;cases dm k 3240 2==1<;>rfl
theorem zDN(k:Int):nmL (zhO k)=[]:=rfl
def Asc(ps:List Int)(a b:Int):Prop:=ps.Pairwise (· < ·)/\∀p∈ps,a<=p/\p<b
theorem Asc.app{ps qs:List Int}{a b c:Int}(h:Asc ps a b)(g:Asc qs b c)(hab:a<=b)(hbc:b<=c):Asc (ps++qs) a c:=by
 refine⟨List.pairwise_append.2 ⟨h.1,g.1,fun p hp q hq=>?_⟩,fun p hp=>?_⟩
 ·have:=(h.2 p hp).2;have:=(g.2 q hq).1;omega
 ·rcases List.mem_append.1 hp with hp |hp
  ·have:=h.2 p hp;omega
  ·have:=g.2 p hp;omega
theorem zv1(k p:Int):∃ps,nmL (lfN k p)=ps.map zdy/\Asc ps p (p+1):=by
 rw[zzo];cases dm k 3240 2==1 with
 |false=>exact⟨[],rfl,List.Pairwise.nil,fun q hq=>by cases hq⟩
 |true=>exact⟨[p],rfl,List.pairwise_singleton _ _,fun q hq=>by obtain rfl:=List.mem_singleton.1 hq;omega⟩
theorem zBH(k p:Int):∃ps,nmQ k p=ps.map zdy/\Asc ps p (atQ k p):=by
 obtain⟨ps,h1,h2⟩:=zv1 k p;cases h:k.tmod 7==1 with
 |false=>exact⟨ps,by rw[zxW h h1],by rw[<- zC2 h];exact h2⟩
 |true=>
  obtain⟨qs,g1,g2⟩:=zv1 (k.tdiv 5) (p+1);refine⟨ps++qs,by rw[ztA h h1 g1,List.map_append],?_⟩;rw[<- zDD h];exact h2.app g2 (by omega) (by omega)
theorem zx5{p q:Int}(hp:0<=p/\p<100)(hq:0<=q/\q<100)(h:zdy p=zdy q):p=q:=by
 unfold zdy at h;have h1:UInt8.ofNat (112+p).toNat=UInt8.ofNat (112+q).toNat:=by injection h
 have h2:=congrArg UInt8.toNat h1;have e:∀p:Int,(UInt8.ofNat (112+p).toNat).toNat=(112+p).toNat%256:=fun p=>by simp
 rw[e,e]at h2;omega
theorem zwr{ps:List Int}{b:Int}(h:Asc ps 0 b)(hb:b<=100):(ps.map zdy).Nodup:=by
 unfold List.Nodup;rw[List.pairwise_map];refine List.Pairwise.imp_of_mem ?_ h.1;intro p q hp hq hlt he;have h1:=h.2 p hp;have h2:=h.2 q hq;have:=zx5 (by omega) (by omega) he;omega
theorem zA2{k p:Int}(hk:0<=k)(hp:0<=p/\p<=9):(ItM (zrp k p)/\zax (zrp k p)=true)/\(zrp k p).kind≠2/\(lvs (zrp k p)).length<=2/\zdd (lvs (zrp k p))=nmQ k p:=by
 cases h:k.tmod 7==1 with
 |false=>
  rw[zrn h];have hl:=zoC hk (p:=p) (by omega);refine⟨⟨.inl hl,hl.stands⟩,by show(1:Int)≠2;decide,by rw[hl.lvs];simp,?_⟩;rw[hl.lvs,zxW h rfl];unfold zdd;rw[List.flatMap_cons,List.flatMap_nil,yc2]
 |true=>
  rw[zrB h];have h5:0<=k.tdiv 5:=Int.tdiv_nonneg hk (by decide);have hP:PrM (zy1 (lfN k p) (lfN (k.tdiv 5) (p+1))) (lfN k p) (lfN (k.tdiv 5) (p+1)):=⟨rfl,zoC hk (by omega),zoC h5 (by omega)⟩
  refine⟨⟨.inr ⟨_,_,hP⟩,zpl (zcq (by show(1:Int)≠2;decide) (by show(1:Int)≠2;decide))⟩,by show(4:Int)≠2;decide,by rw[hP.lvs];simp,?_⟩;rw[hP.lvs,ztA h rfl rfl];unfold zdd;rw[List.flatMap_cons,List.flatMap_cons,List.flatMap_nil,yc2]
theorem zDF{i:Nat}{k:Int}(hk:0<=k):(∀m∈gdQ i k,ItM m/\zax m=true)/\(gdQ i k).length<=1/\((gdQ i k).flatMap lvs).length<=1/\zdd ((gdQ i k).flatMap lvs)=[]/\(i=0->gdQ i k=[]):=by
 unfold gdQ;cases h:decide ((i:Int) > 0)&&dm k 7 4==1 with
 |false=>exact⟨fun m hm=>(by cases hm),Nat.zero_le _,Nat.zero_le _,rfl,fun _=>rfl⟩
 |true=>
  have hl:LfM (zhO (k.tdiv 28)):=zwu (Int.tdiv_nonneg hk (by decide));have hv:[zhO (k.tdiv 28)].flatMap lvs=[zhO (k.tdiv 28)]:=by rw[List.flatMap_cons,List.flatMap_nil,yc2,hl.lvs]
  rw[cond_true,hv];refine⟨fun m hm=>by obtain rfl:=List.mem_singleton.1 hm;exact⟨.inl hl,hl.stands⟩,by simp,by simp,?_,fun h0=>?_⟩
  ·unfold zdd;rw[List.flatMap_cons,List.flatMap_nil,yc2,zDN]
  ·subst h0;cases h
theorem zoe(a b:List NodeM):zdd (a++b)=zdd a++zdd b:=by unfold zdd;rw[List.flatMap_append]
structure RunI(l:List Int)(i:Nat):Prop where
 it:∀m∈(zaR l i).1,ItM m/\zax m=true
 wt:((zaR l i).1.flatMap lvs).length<=3*i
 nms:zdd ((zaR l i).1.flatMap lvs)=(zaR l i).2.1
 asc:∃ps,(zaR l i).2.1=ps.map zdy/\Asc ps 0 (zaR l i).2.2
 ln:i<=(zaR l i).1.length/\(zaR l i).1.length<=2*i
 hd:i=0\/∃m r,(zaR l i).1=m::r/\m.kind≠2
 ls:i=0\/∃r m,(zaR l i).1=r++[m]/\m.kind≠2
theorem zxM(l:List Int):∀i:Nat,i<=4->RunI l i
 |0,_=>⟨fun m hm=>(by cases hm),Nat.le_refl _,rfl,⟨[],rfl,List.Pairwise.nil,fun q hq=>(by cases hq)⟩,⟨Nat.le_refl _,Nat.le_refl _⟩,.inl rfl,.inl rfl⟩
 |i+1,hi=>by
  have ih:=zxM l i (by omega);have hpl:=ziT l i;have hk:=(zej (n:=l.getD i 0) (m:=qM) (by decide)).1;have e1:(zaR l (i+1)).1=(zaR l i).1++(gdQ i (zbt (l.getD i 0) qM)++[zrp (zbt (l.getD i 0) qM) (zaR l i).2.2]):=rfl;have e2:(zaR l (i+1)).2.1=(zaR l i).2.1++nmQ (zbt (l.getD i 0) qM) (zaR l i).2.2:=rfl;have e3:(zaR l (i+1)).2.2=atQ (zbt (l.getD i 0) qM) (zaR l i).2.2:=rfl;generalize zbt (l.getD i 0) qM=k at hk e1 e2 e3;have ho:=zA2 (p:=(zaR l i).2.2) hk (by omega);have hg:=zDF (i:=i) hk;have hfl:(zaR l (i+1)).1.flatMap lvs=(zaR l i).1.flatMap lvs++((gdQ i k).flatMap lvs++lvs (zrp k (zaR l i).2.2)):=by
   rw[e1,List.flatMap_append,List.flatMap_append,List.flatMap_cons,List.flatMap_nil,yc2]
  refine⟨fun m hm=>?_,?_,?_,?_,?_,.inr ?_,.inr ?_⟩
  ·rw[e1]at hm;rcases List.mem_append.1 hm with hm |hm
   ·exact ih.it m hm
   ·rcases List.mem_append.1 hm with hm |hm
    ·exact hg.1 m hm
    ·obtain rfl:=List.mem_singleton.1 hm;exact ho.1
  ·rw[hfl,ya1,ya1];have:=ih.wt;omega
  ·rw[hfl,zoe,zoe,ih.nms,hg.2.2.2.1,List.nil_append,ho.2.2.2,e2]
  ·obtain⟨ps,h1,h2⟩:=ih.asc;obtain⟨qs,g1,g2⟩:=zBH k (zaR l i).2.2;refine⟨ps++qs,by rw[e2,h1,g1,List.map_append],?_⟩;rw[e3];refine h2.app g2 hpl.1 ?_;unfold atQ;cases k.tmod 7==1<;>simp<;>omega
  ·rw[e1,ya1,ya1,List.length_singleton];have:=ih.ln;omega
  ·by_cases h0:i=0
   ·subst h0;rw[e1,hg.2.2.2.2 rfl];exact⟨_,[],rfl,ho.2.1⟩
   ·obtain⟨m,r,h1,h2⟩:=ih.hd.resolve_left h0;rw[e1,h1];exact⟨m,_,rfl,h2⟩
  ·rw[e1];exact⟨(zaR l i).1++gdQ i k,_,by rw[yc1],ho.2.1⟩
theorem zDk{m:NodeM}(h:ItM m/\zax m=true)(hk:m.kind≠2)(hn:(zdd (lvs m)).Nodup):PatOk m:=by
 rcases h.1 with hl |⟨x,y,hp⟩
 ·exact .inl ⟨hl,hl.kinds hk⟩
 ·refine .inr ⟨4,[x,y],hp.eq,?_⟩;rw[hp.lvs]at hn;have hs:=h.2;have:=hp.eq;subst this;have hw:[x,y].flatMap lvs=[x,y]:=by rw[List.flatMap_cons,List.flatMap_cons,hp.fst.lvs,hp.snd.lvs];rfl
  exact⟨⟨.inr rfl,by simp,by simp,zcq (.inl hp.fst) (.inl hp.snd),by rw[hw];simp⟩,hs,zcq hp.fst.stands hp.snd.stands,by rw[hw];exact hn⟩
theorem zzf(l:List Int):PatOk (zd8 l).p:=by
 have h4:iQ l<=4:=by unfold iQ;omega
 have h:=zxM l (iQ l) h4;have hpl:=ziT l (iQ l);have hnd:(zdd ((zaR l (iQ l)).1.flatMap lvs)).Nodup:=by
  rw[h.nms];obtain⟨ps,h1,h2⟩:=h.asc;rw[h1];exact zwr h2 (by omega)
 show PatOk (zyH (zaR l (iQ l)).1);have hln:=h.ln;have hhd:=h.hd;have hls:=h.ls;have hit:=h.it;have hwt:=h.wt;generalize (zaR l (iQ l)).1=ks at *
 match ks with
 |[]=>exact .inl ⟨zoC (by decide) (by decide),rfl⟩
 |[m]=>
  have h0:iQ l≠0:=by simp at hln;omega
  obtain⟨x,r,e,hx⟩:=hhd.resolve_left h0;cases e;refine zDk (hit m ya5) hx ?_;rw[List.flatMap_cons,List.flatMap_nil,yc2]at hnd;exact hnd
 |a::b::r=>
  have h0:iQ l≠0:=by simp at hln;omega
  obtain⟨x,r',e,hx⟩:=hhd.resolve_left h0;obtain⟨r2,y,e2,hy⟩:=hls.resolve_left h0;refine .inr ⟨3,a::b::r,rfl,⟨⟨.inl rfl,by simp,by omega,fun m hm=>(hit m hm).1,by omega⟩,zpA ?_ ?_,fun m hm=>(hit m hm).2,hnd⟩⟩
  ·cases e;exact hx
  ·rw[zkV (by simp)];simp only[e2];rw[List.getElem_append_right (by simp)];simpa using hy
theorem zzQ{n:NodeM}(h:∀d,∀x∈zaE d n,zoW x.2=false):Fit n:=fun d p hp=>by
 have:=h d p hp;unfold zoW at this;simp at this;omega
theorem zz0{m:NodeM}(h:ItM m)(d:Int):(zaE d m).length<=3:=by
 rcases h with h |⟨x,y,h⟩
 ·rw[h.pre];simp
 ·rw[h.eq,zg3,List.flatMap_cons,List.flatMap_cons,h.fst.pre,h.snd.pre];simp
theorem zr2:∀ks:List NodeM,(∀m∈ks,ItM m)->(ks.flatMap (zaE (1+1))).length<=3*ks.length:=by
 intro ks
 induction ks with
 |nil=>intro _;exact Nat.le_refl _
 |cons a r ih=>
  intro h;rw[List.flatMap_cons,ya1,ya7];have:=zz0 (h a ya5) (1+1);have:=ih fun m hm=>h m (ya4 _ hm)
  omega
theorem zCJ{m:NodeM}(h:ItM m):NFit m:=⟨zzQ fun d=>zt5 h d,Nat.le_trans (zvZ h) (by decide),Nat.le_trans (zz0 h 1) (by decide)⟩
theorem KidsOk.fit{k:Int}{ks:List NodeM}(h:KidsOk k ks):NFit (zcR k ks):=by
 refine⟨zzQ fun d=>zem (zpk h.l8) fun m hm=>zt5 (h.it m hm) _,Nat.le_trans (zpz (d:=2) fun m hm=>zvZ (h.it m hm)) (by decide),?_⟩;rw[zg3,ya7];have:=zr2 ks h.it;have:=h.l8;omega
theorem PatOk.fit{n:NodeM}(h:PatOk n):NFit n:=by
 rcases h with⟨h,hk⟩ |⟨k,ks,rfl,h⟩
 ·exact zCJ (.inl h)
 ·exact h.toKidsOk.fit
end Go.Proofs.YtogdglnaagkaaaaGreatDoor
