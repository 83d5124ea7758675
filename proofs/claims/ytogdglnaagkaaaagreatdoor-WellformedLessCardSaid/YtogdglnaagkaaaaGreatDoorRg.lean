import Derived.Test.YtogdglnaagkaaaaGreatDoorGn
import Derived.Test.YtogdglnaagkaaaaGreatDoorPk
set_option linter.unusedSimpArgs false
set_option linter.unusedVariables false
set_option maxRecDepth 100000
namespace Go.Proofs.YtogdglnaagkaaaaGreatDoor
open Go Go.Cx
theorem zi3{q:QueryM}(h:za1 q=0):∀k,k<6->zd7 q k=0:=by
 unfold za1 at h;have e0:zd7 q 0=0:=by
  cases h0:zd7 q 0 != 0 with
  |true=>rw[h0]at h;exact h
  |false=>simpa using h0
 rw[nzE e0,cond_false]at h;have e1:zd7 q 1=0:=by
  cases h0:zd7 q 1 != 0 with
  |true=>rw[h0]at h;exact h
  |false=>simpa using h0
 rw[nzE e1,cond_false]at h;have e2:zd7 q 2=0:=by
  cases h0:zd7 q 2 != 0 with
  |true=>rw[h0]at h;exact h
  |false=>simpa using h0
 rw[nzE e2,cond_false]at h;have e3:zd7 q 3=0:=by
  cases h0:zd7 q 3 != 0 with
  |true=>rw[h0]at h;exact h
  |false=>simpa using h0
 rw[nzE e3,cond_false]at h;have e4:zd7 q 4=0:=by
  cases h0:zd7 q 4 != 0 with
  |true=>rw[h0]at h;exact h
  |false=>simpa using h0
 rw[nzE e4,cond_false]at h;intro k hk;obtain rfl |rfl |rfl |rfl |rfl |rfl:k=0\/k=1\/k=2\/k=3\/k=4\/k=5:=by omega
 ·exact e0
 ·exact e1
 ·exact e2
 ·exact e3
 ·exact e4
 ·exact h
theorem zlq{q:QueryM}(h:zcB q=0):zxl q.p=false/\zca (zaq q.p)=false:=by
 unfold zcB at h;cases h1:zxl q.p with
 |true=>rw[h1]at h;simp at h
 |false=>
  rw[h1]at h;cases h2:zca (zaq q.p) with
  |true=>rw[h2]at h;simp at h
  |false=>exact⟨rfl,rfl⟩
theorem zwc{q:QueryM}(h:za1 (zcN q.p)=0)(hf:zo6 q=false)(hv4:q.hv.length<=4)(em4:q.em.length<=4)(hw:q.within<=10000)(hu:(zbc q).any (zCq q)=false):za1 q=0:=by
 have z:=zi3 h;refine zr6 fun j hj=>?_
 obtain rfl |rfl |rfl |rfl |rfl |rfl:j=0\/j=1\/j=2\/j=3\/j=4\/j=5:=by omega
 ·have z0:zdk (zcN q.p)=0:=z 0 (by decide);show zdk q=0;unfold zdk at z0 ⊢;rw[show(zcN q.p).p=q.p from rfl]at z0;cases hs:za7 q.p != 0 with
  |true=>rw[hs]at z0;exact z0
  |false=>rw[hf];rfl
 ·have z1:(bif zh7 (zcN q.p) then(6:Int)else 0)=0:=z 1 (by decide);show(bif zh7 q then(6:Int)else 0)=0;cases hb:zh7 (zcN q.p) with
  |true=>rw[hb]at z1;simp at z1
  |false=>
   unfold zh7 at hb;rw[show(zcN q.p).p=q.p from rfl]at hb;simp only[Bool.or_eq_false_iff]at hb;have:zh7 q=false:=by
    unfold zh7;rw[hb.1.1.1,hb.2,show decide ((q.hv.length:Int) > 4)=false by simp;omega,show decide ((q.em.length:Int) > 4)=false by simp;omega];rfl
   rw[this];rfl
 ·exact z 2 (by decide)
 ·have z3:(bif zcK (zcN q.p) then(2:Int)else 0)=0:=z 3 (by decide);show(bif zcK q then(2:Int)else 0)=0;cases hb:zcK (zcN q.p) with
  |true=>rw[hb]at z3;simp at z3
  |false=>
   unfold zcK at hb;rw[show(zcN q.p).p=q.p from rfl]at hb;simp only[Bool.or_eq_false_iff]at hb;have:zcK q=false:=by
    unfold zcK;rw[hb.2,show decide (q.within > 10000)=false by simp;omega];rfl
   rw[this];rfl
 ·exact z 4 (by decide)
 ·have z5:zcB (zcN q.p)=0:=z 5 (by decide);have ⟨h1,h2⟩:=zlq z5;show zcB q=0;unfold zcB;rw[show zxl q.p=false from h1,show zca (zaq q.p)=false from h2,hu];rfl
theorem zgB:∀s:List Nat,zbu s s=true
 |[]=>rfl
 |a::r=>by
  unfold zbu;rw[Nat.beq_refl];exact zgB r
theorem zBs{l:List (List Nat)}{x:List Nat}(h:x∈l):inU l x=true:=by
 unfold inU;rw[List.any_eq_true];exact⟨x,h,zgB x⟩
theorem zwU{l:ziP}(h:zca l=false):zcF l=zaJ l:=by
 unfold zcF zaJ;congr 1;refine List.filter_congr fun p hp=>?_
 unfold zca at h;have:=List.any_eq_false.1 h p hp;cases h1:isE (nmP p) with
 |true=>rfl
 |false=>
  rw[h1]at this;cases h2:p.2 with
  |false=>rfl
  |true=>rw[h2]at this;simp at this
theorem zqY{s:List Nat}:∀{l acc:List (List Nat)},s∈l.foldl zns acc->s∈acc\/s∈l
 |[],acc,h=>.inl h
 |x::r,acc,h=>by
  rcases zqY (l:=r) h with h |h
  ·unfold zns at h;cases hq:inU acc x with
   |true=>rw[hq]at h;exact .inl h
   |false=>
    rw[hq]at h;rcases List.mem_append.1 h with h |h
    ·exact .inl h
    ·obtain rfl:=List.mem_singleton.1 h;exact .inr ya5
  ·exact .inr (ya4 _ h)
theorem zle{q:QueryM}(hw:zca (zaq q.p)=false)(hv:∀x∈q.hv,nmH x∈zaJ (zaq q.p))(em:∀x∈q.em,nmA x∈zaJ (zaq q.p)):(∀s∈zbc q,s∈zaJ (zaq q.p))/\(zbc q).any (zCq q)=false:=by
 have key:∀s∈zbc q,s∈zaJ (zaq q.p):=fun s hs=>by
  unfold zbc zdZ at hs;rcases zqY hs with h |h
  ·cases h
  ·rcases List.mem_append.1 h with h |h
   ·obtain⟨x,hx,rfl⟩:=List.mem_map.1 h;exact hv x hx
   ·obtain⟨x,hx,rfl⟩:=List.mem_map.1 h;exact em x hx
 refine⟨key,?_⟩;rw[Bool.eq_false_iff,Ne,List.any_eq_true];rintro⟨s,hs,hb⟩;unfold zCq at hb;rw[zwU hw,zBs (key s hs)]at hb;cases hb
theorem zje{n:NodeM}{L:List NodeM}(hs:zaK 200 n=true)(hL:((zaE 1 n).filter zbd).map Prod.snd=L):zaJ (zaq n)=(zdd L).map nm:=by
 have hp:zaq n=(L.map NodeM.atom).zip (L.map fun m=>m.kind==2):=by
  unfold zaq;rw[ziA hs hL,zt6 hs hL]
 rw[hp,zm5]
theorem zqH(l:List Int):zaJ (zaq (zd8 l).p)=(zaR l (iQ l)).2.1.map nm:=by
 have h4:iQ l<=4:=by unfold iQ;omega
 have h:=zxM l (iQ l) h4;show zaJ (zaq (zyH (zaR l (iQ l)).1))=_;rw[<- h.nms];have hit:=h.it;have hln:=h.ln;generalize (zaR l (iQ l)).1=ks at *
 match ks with
 |[]=>
  have hl:LfM (lfN 0 0):=zoC (by decide) (by decide);rw[show zyH []=lfN 0 0 from rfl,zje (hl.sound 199) (hl.leaves 1)];unfold zdd;rw[List.flatMap_cons,List.flatMap_nil,yc2,zzo];rfl
 |[m]=>
  have hi:=(hit m ya5).1;rw[show zyH [m]=m from rfl,zje (zml hi 198) (ziL hi 1),List.flatMap_cons,List.flatMap_nil,yc2]
 |a::b::r=>
  rw[show zyH (a::b::r)=zcR 3 (a::b::r)from rfl];exact zje (zj4 (.inl rfl) (by simp) fun m hm=>zml (hit m hm).1 197) (zhI (.inl rfl) fun m hm=>ziL (hit m hm).1 _)
theorem zBx{ns:List (List UInt8)}(h:0<ns.length){k:Int}(hk:0<=k):ns.getD (k.tmod ns.length).toNat default∈ns:=zak (zz8 h hk)
structure HvOk(ns:List (List UInt8))(x:HaveM):Prop where
 agg:zhw x.agg=true
 op:opB x.cond.op=true
 name:x.agg.name∈ns
 num : -3<=x.cond.val/\x.cond.val<=3
structure EmOk(ns:List (List UInt8))(x:AggM):Prop where
 agg:zhw x=true
 name:x.name∈ns
theorem zz5{ns:List (List UInt8)}(h:0<ns.length)(hN:∀s∈ns,zcY (nm s)=true){k:Int}(hk:0<=k):EmOk ns (zDA ns k):=by
 have h6:0<=k.tdiv 6:=Int.tdiv_nonneg hk (by decide);have hm:=zBx h h6;refine⟨?_,hm⟩;unfold zhw;have:=zxz (a:=6) (by decide) hk;rw[show zcY (nm (zDA ns k).name)=true from hN _ hm];show(decide (1+k.tmod 6>=1)&&decide (1+k.tmod 6<=6))&&true=true;simp;omega
theorem zAM{ns:List (List UInt8)}(h:0<ns.length)(hN:∀s∈ns,zcY (nm s)=true){k:Int}(hk:0<=k):HvOk ns (zAq ns k):=by
 have ha:=zz5 h hN hk;have h1:=zpn (a:=180) (b:=6) hk (by decide) (by decide);have h2:=zpn (a:=1080) (b:=7) hk (by decide) (by decide);refine⟨ha.agg,?_,ha.name,?_⟩
 ·show opB (1+dm k 180 6)=true;unfold opB inB;simp;omega
 ·show -3<=dm k 1080 7 - 3/\dm k 1080 7 - 3<=3;omega
theorem zws(l:List Int){ns:List (List UInt8)}(h:0<ns.length)(hN:∀s∈ns,zcY (nm s)=true):∀j:Nat,(∀x∈(zdq l ns j).1,HvOk ns x)/\∀x∈(zdq l ns j).2,EmOk ns x
 |0=>⟨fun x hx=>(by cases hx),fun x hx=>(by cases hx)⟩
 |j+1=>by
  have ih:=zws l h hN j;have hk:=(zej (n:=l.getD (5+j) 0) (m:=qM) (by decide)).1;unfold zdq;cases dm (zbt (l.getD (5+j) 0) qM) 60 3==0 with
  |true=>
   refine⟨fun x hx=>?_,ih.2⟩;rcases List.mem_append.1 hx with hx |hx
   ·exact ih.1 x hx
   ·obtain rfl:=List.mem_singleton.1 hx;exact zAM h hN hk
  |false=>
   refine⟨ih.1,fun x hx=>?_⟩;rcases List.mem_append.1 hx with hx |hx
   ·exact ih.2 x hx
   ·obtain rfl:=List.mem_singleton.1 hx;exact zz5 h hN hk
structure QueryOk(q:QueryM):Prop where
 pat:PatOk q.p
 within:0<=q.within/\q.within<=7
 hv3:q.hv.length<=3
 em3:q.em.length<=3
 hv:∀x∈q.hv,(zhw x.agg=true/\opB x.cond.op=true)/\nmH x∈zaJ (zaq q.p) /\ -3<=x.cond.val/\x.cond.val<=3
 em:∀x∈q.em,zhw x=true/\nmA x∈zaJ (zaq q.p)
theorem znI(l:List Int):QueryOk (zd8 l):=by
 have h4:iQ l<=4:=by unfold iQ;omega
 have h:=zxM l (iQ l) h4;have hpl:=ziT l (iQ l);have hn:=zqH l;have hw:=zej (n:=l.getD 4 0) (m:=8) (by decide);have hlen:=zEM l (zaR l (iQ l)).2.1 (jQ l);have hj:jQ l<=3:=by unfold jQ;split<;>omega
 have hall:(∀x∈(zd8 l).hv,HvOk (zaR l (iQ l)).2.1 x)/\∀x∈(zd8 l).em,EmOk (zaR l (iQ l)).2.1 x:=by
  show(∀x∈(zdq l (zaR l (iQ l)).2.1 (jQ l)).1,HvOk (zaR l (iQ l)).2.1 x)/\∀x∈(zdq l (zaR l (iQ l)).2.1 (jQ l)).2,EmOk (zaR l (iQ l)).2.1 x;by_cases h0:(zaR l (iQ l)).2.1.length=0
  ·have:jQ l=0:=by unfold jQ;rw[if_pos h0]
   rw[this];exact⟨fun x hx=>(by cases hx),fun x hx=>(by cases hx)⟩
  ·refine zws l (by omega) (fun s hs=>?_) _;obtain⟨ps,h1,h2⟩:=h.asc;rw[h1]at hs;obtain⟨p,hp,rfl⟩:=List.mem_map.1 hs;have:=h2.2 p hp;exact zwT (by omega)
 refine⟨zzf l,⟨hw.1,by show zbt (l.getD 4 0) 8<=7;omega⟩,?_,?_,fun x hx=>?_,fun x hx=>?_⟩
 ·show(zdq l (zaR l (iQ l)).2.1 (jQ l)).1.length<=3;omega
 ·show(zdq l (zaR l (iQ l)).2.1 (jQ l)).2.length<=3;omega
 ·have:=hall.1 x hx;refine⟨⟨this.agg,this.op⟩,?_,this.num⟩;rw[hn];exact List.mem_map.2 ⟨_,this.name,rfl⟩
 ·have:=hall.2 x hx;refine⟨this.agg,?_⟩;rw[hn];exact List.mem_map.2 ⟨_,this.name,rfl⟩
theorem zBZ{q:QueryM}(hw:q.within<=99999)(hv:∀x∈q.hv,zhw x.agg=true/\opB x.cond.op=true)(em:∀x∈q.em,zhw x=true):zo6 q=false:=by
 unfold zo6;rw[show decide (q.within > 99999)=false by simp;omega];rw[show q.hv.any zhs=false by
  rw[Bool.eq_false_iff,Ne,List.any_eq_true];rintro⟨x,hx,hb⟩;unfold zhs at hb;rw[(hv x hx).1,(hv x hx).2]at hb;cases hb]
 rw[show q.em.any (fun a => !zhw a)=false by
  rw[Bool.eq_false_iff,Ne,List.any_eq_true];rintro⟨x,hx,hb⟩;rw[em x hx]at hb;cases hb]
 rfl
def zpI(q:QueryM)(w:Int)(m:Nat):QueryM:=⟨q.p,w,[],q.em.take m⟩
section
variable{q:QueryM}
theorem QueryOk.wrong(h:QueryOk q):zca (zaq q.p)=false:=(zlq (q:=zcN q.p) (zi3 h.pat.well 5 (by decide))).2
theorem QueryOk.well(h:QueryOk q):za1 q=0:=
 zwc h.pat.well (zBZ (by have:=h.within;omega) (fun x hx=>(h.hv x hx).1) (fun x hx=>(h.em x hx).1)) (by have:=h.hv3;omega) (by have:=h.em3;omega) (by have:=h.within;omega) (zle h.wrong (fun x hx=>(h.hv x hx).2.1) (fun x hx=>(h.em x hx).2)).2
theorem QueryOk.uses(h:QueryOk q):∀s∈zbc q,s∈zaJ (zaq q.p):=(zle h.wrong (fun x hx=>(h.hv x hx).2.1) (fun x hx=>(h.em x hx).2)).1
theorem QueryOk.less(h:QueryOk q){w:Int}(hw:0<=w/\w<=7)(m:Nat):QueryOk (zpI q w m):=
 ⟨h.pat,hw,Nat.zero_le _,by show(q.em.take m).length<=3;rw[List.length_take];have:=h.em3;omega,fun x hx=>(by cases hx),fun x hx=>h.em x (List.mem_of_mem_take hx)⟩
theorem zi0(h:za1 q=0):zcO q=zs3 (zap q.p) (zap q.p).length:=by unfold zcO;rw[h];rfl
theorem zyZ(h:za1 q=0):zgk q=zbc q:=by unfold zgk;rw[h];rfl
noncomputable def zfA(n:NodeM)(s:List Nat):Int×Int:=match(List.range (zap n).length).find? (fun k => !isE s&&zbu (nm ((zap n).getD k default).name) s) with
 |some k=>((k:Int),0)
 |none=>(0,12)
theorem znH(h:za1 q=0)(s:List Nat):zeJ q s=zfA q.p s:=by
 unfold zeJ;rw[h];rfl
theorem zoR{n:NodeM}{s:List Nat}(h:s∈zaJ (zaq n)):(zfA n s).2=0:=by
 unfold zfA;split
 ·rfl
 ·rename_i hf;exfalso;rw[List.find?_eq_none]at hf;unfold zaJ at h;obtain⟨r,hr,rfl⟩:=List.mem_map.1 h;rw[List.mem_filter]at hr;obtain⟨hr,hne⟩:=hr;have hm:r.1∈zap n:=(List.of_mem_zip (show(r.1,r.2)∈(zap n).zip (zod n)from hr)).1;obtain⟨k,hk,he⟩:=List.mem_iff_getElem.1 hm;have:=hf k (List.mem_range.2 hk);rw[ya8,yb5 hk]at this;simp only[Option.getD_some]at this;rw[he,hne]at this;rw[show zbu (nm r.1.name) (nmP r)=true from zgB _]at this;exact this rfl
end
theorem zyL{a:AtomM}(h:zjw a=true):a.name.length<=30:=by
 unfold zjw at h;simp only[ya2,Bool.or_eq_true]at h;rcases h.2.2.1 with h |h
 ·have:(a.name==[])=true:=by rw[<- zuF];exact h
  have:=eq_of_beq this;rw[this];simp
 ·unfold zcY at h;simp only[ya2,Bool.not_eq_true',Bool.or_eq_false_iff,decide_eq_false_iff_not]at h;have:(nm a.name).length=a.name.length:=by unfold nm;rw[yb7]
  have:=h.1.2;omega
theorem zzW{a:AtomM}(h:NuA a):ANum a:=⟨by have:=h.1;omega,fun c hc=>by have:=h.2 c hc;unfold zEl;omega⟩
theorem LfM.both{m:NodeM}(h:LfM m)(d:Int):∀x∈zaE d m,ANum x.2.atom/\x.2.atom.cs.length<=20/\x.2.atom.name.length<=30:=fun x hx=>by
 rw[h.pre]at hx;obtain rfl:=List.mem_singleton.1 hx;exact⟨zzW h.nu,Nat.le_trans h.cs4 (by decide),zyL h.at1⟩
theorem zrU{k:Int}{ks:List NodeM}{d:Int}(h:∀m∈ks,∀x∈zaE (d+1) m,ANum x.2.atom/\x.2.atom.cs.length<=20/\x.2.atom.name.length<=30):∀x∈zaE d (zcR k ks),ANum x.2.atom/\x.2.atom.cs.length<=20/\x.2.atom.name.length<=30:=fun x hx=>by
 rw[zg3]at hx;rcases List.mem_cons.1 hx with rfl |hx
 ·exact⟨zzW zyP,by show 0<=20;decide,by show 0<=30;decide⟩
 ·obtain⟨m,hm,hx⟩:=List.mem_flatMap.1 hx;exact h m hm x hx
theorem zAR{m:NodeM}(h:ItM m)(d:Int):∀x∈zaE d m,ANum x.2.atom/\x.2.atom.cs.length<=20/\x.2.atom.name.length<=30:=by
 rcases h with h |⟨x,y,h⟩
 ·exact h.both d
 ·have:=h.eq;subst this;exact zrU (zcq (h.fst.both _) (h.snd.both _))
theorem PatOk.both{n:NodeM}(h:PatOk n)(d:Int):∀x∈zaE d n,ANum x.2.atom/\x.2.atom.cs.length<=20/\x.2.atom.name.length<=30:=by
 rcases h with⟨h,_⟩ |⟨k,ks,rfl,h⟩
 ·exact h.both d
 ·exact zrU fun m hm=>zAR (h.it m hm) _
theorem PatOk.size{n:NodeM}(h:PatOk n):(zaE 1 n).length<=250:=by
 rcases h with⟨h,_⟩ |⟨k,ks,rfl,h⟩
 ·rw[h.pre];simp
 ·rw[zg3,ya7];have:=zr2 ks h.it;have:=h.l8;omega
theorem QueryOk.fit{q:QueryM}(h:QueryOk q):QFit q:=⟨h.pat.fit,by have:=h.hv3;omega,by have:=h.em3;omega⟩
theorem zul{a:AggM}(h:zhw a=true):a.name.length<=30:=by
 unfold zhw at h;rw[ya2]at h;have h:=h.2;unfold zcY at h;simp only[ya2,Bool.not_eq_true',Bool.or_eq_false_iff,decide_eq_false_iff_not]at h;have:(nm a.name).length=a.name.length:=by unfold nm;rw[yb7]
 have:=h.1.2;omega
theorem QueryOk.ok{q:QueryM}(h:QueryOk q):QOk q:=
 ⟨h.fit,⟨fun d x hx=>(h.pat.both d x hx).1,by have:=h.within;omega,fun x hx=>by have:=(h.hv x hx).2.2;unfold zEl;omega⟩,fun d x hx=>(h.pat.both d x hx).2,h.pat.size,by have:=h.hv3;omega,by have:=h.em3;omega,fun x hx=>zul (h.hv x hx).1.1,fun x hx=>zul (h.em x hx).1⟩
end Go.Proofs.YtogdglnaagkaaaaGreatDoor
