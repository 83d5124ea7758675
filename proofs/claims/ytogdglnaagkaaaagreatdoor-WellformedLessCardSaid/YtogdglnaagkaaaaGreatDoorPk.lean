import Derived.Test.YtogdglnaagkaaaaGreatDoorPj
set_option linter.unusedSimpArgs false
set_option linter.unusedVariables false
set_option maxRecDepth 100000
namespace Go.Proofs.YtogdglnaagkaaaaGreatDoor
open Go Go.Cx
structure QOk(q:QueryM):Prop where
 fit:QFit q
 num:QNum q
 few:Few q.p
 size:(zaE 1 q.p).length<=250
 hv:q.hv.length<=20
 em:q.em.length<=20
 hvn:∀x∈q.hv,x.agg.name.length<=30
 emn:∀x∈q.em,x.name.length<=30
theorem QOk.of{q:QueryM}(h:zuB q=true)(hn:QNum q):QOk q:=by
 obtain⟨h1,h2,h3,h4,h5,h6,h7,h8⟩:=zCI h;exact⟨h1,hn,h4,h3,h5,h6,h7,h8⟩
structure QSnd(q:QueryM):Prop where
 p:zaK 200 q.p=true
 within:q.within<=99999
 hv:∀x∈q.hv,zhw x.agg=true/\opB x.cond.op=true
 em:∀x∈q.em,zhw x=true
theorem zAG{q:QueryM}(h:zdk q=0):QSnd q:=by
 unfold zdk za7 at h;cases hs:zaK 200 q.p with
 |false=>rw[hs]at h;simp at h
 |true=>
  rw[hs]at h;have h:(bif zo6 q then(3:Int)else 0)=0:=h;cases hf:zo6 q with
  |true=>rw[hf]at h;simp at h
  |false=>
   unfold zo6 at hf;simp only[Bool.or_eq_false_iff,decide_eq_false_iff_not]at hf;obtain⟨h1,h2,h3⟩:=hf;refine⟨hs,by omega,fun x hx=>?_,fun x hx=>?_⟩
   ·have:=List.any_eq_false.1 h2 x hx;unfold zhs at this;cases h4:zhw x.agg<;>cases h5:opB x.cond.op<;>rw[h4,h5]at this<;>first |exact⟨rfl,rfl⟩ |exact absurd rfl this
   ·have:=List.any_eq_false.1 h3 x hx;cases h4:zhw x with
    |true=>rfl
    |false=>rw[h4]at this;exact absurd rfl this
theorem zvC{a:AggM}(h:zhw a=true):1<=a.fn/\a.fn<=6:=by
 unfold zhw at h;simp only[ya2,decide_eq_true_eq]at h;omega
theorem zDi{n:Int}(h:opB n=true):1<=n/\n<=6:=by
 unfold opB inB at h;simp only[ya2,decide_eq_true_eq]at h;exact h
theorem zmb(l:List HaveM)(k:Nat):zvt l (k+1)=zvt l k++(if k=0 then[32,104,97,118,105,110,103,32] else[32,97,110,100,32])++zxk (l.getD k default).agg++[32]++zgP (l.getD k default).cond:=by
 rw[zvt];cases k<;>rfl
theorem zp1(l:List AggM)(k:Nat):emP l (k+1)=emP l k++(if k=0 then[32,101,109,105,116,32] else[44,32])++zxk (l.getD k default):=by
 rw[emP];cases k<;>rfl
theorem zmS{l:List HaveM}(hc:∀x∈l,(zgP x.cond).length<=22)(hn:∀x∈l,x.agg.name.length<=30):∀k,k<=l.length->(zvt l k).length<=70*k
 |0,_=>by simp[zvt]
 |k+1,hk=>by
  have ih:=zmS hc hn k (by omega);have h1:=hc _ (zak (l:=l) (k:=k) (by omega));have h2:=hn _ (zak (l:=l) (k:=k) (by omega));have h3:=ze4 (l.getD k default).agg;rw[zmb];split<;>simp only[ya1,ya7,yb2]<;>omega
theorem zqh{l:List AggM}(hn:∀x∈l,x.name.length<=30):∀k,k<=l.length->(emP l k).length<=50*k
 |0,_=>by simp[emP]
 |k+1,hk=>by
  have ih:=zqh hn k (by omega);have h2:=hn _ (zak (l:=l) (k:=k) (by omega));have h3:=ze4 (l.getD k default);rw[zp1];split<;>simp only[ya1,ya7,yb2]<;>omega
def zjh(q:QueryM):List Nat:=zcZ 200 q.p++[[32,119,105,116,104,105,110,32],zd4 q.within.toNat].flatten++zvt q.hv q.hv.length++emP q.em q.em.length
set_option maxHeartbeats 8000000 in
theorem zBW(q:QueryM)(hq:QOk q)(hs:QSnd q):DSpec Tryz.prog axX axG 31 [.agg [.ptr 0 0],.agg (zaD q)] B0 (fun v O=>v=.tup []/\∃n el,Byt (zjh q) n el/\∃j,0<j/\O[0]? = some (.cells 76 [.ptr 0 0,.lst j])/\O[j]? = some (.list 5 1 n el)):=by
 have hN:=hq.num;have hp:=(zvm 200 q.p hs.p hN.p hq.few hq.size).2;have htl:=zgN 200 q.p hs.p hN.p hq.few;have hsz:=hq.size;have hvl0:=hq.hv;have hel0:=hq.em;have hvl:=hq.hvn;have hel:=hq.emn;have hva:∀x∈q.hv,(1<=x.agg.fn/\x.agg.fn<=6)/\(1<=x.cond.op/\x.cond.op<=6):=fun x hx=>⟨zvC (hs.hv x hx).1,zDi (hs.hv x hx).2⟩
 have hea:∀x∈q.em,1<=x.fn/\x.fn<=6:=fun x hx=>zvC (hs.em x hx)
 have hvc:∀x∈q.hv,(zgP x.cond).length<=22:=fun x hx=>zeH _ (hN.hv x hx).1 (hN.hv x hx).2
 have hvp:=zmS hvc hvl;have hep:=zqh hel;have hpkA:=hvp _ (Nat.le_refl _);have hag:∀k,k<q.hv.length->(zxk (q.hv.getD k default).agg).length<=37:=fun k hk=>by
  have:=ze4 (q.hv.getD k default).agg;have:=hvl _ (zak hk);omega
 have hw20:=zbU 19 q.within.toNat (by have:=hN.within.2;omega);refine zac { glb:=axG,ann:=[(4,[23]),(12,[54])] } true Tryz.func31 (by kernel_rfl) rfl ?_
 repeat' (
   (conv=>whnf)
   first
    |exact zad (by kernel_rfl)
    |refine And.intro ?_ ?_
    |refine zaa ?_ ?_
    |(refine⟨_,hp,?_⟩;rintro v O' ⟨rfl,n',el',hb,rfl⟩)
    |(refine⟨_,zC1 q.within hN.within.1 hN.within.2,?_⟩;rintro v O' ⟨rfl,rfl⟩)
    |(refine⟨_,zal hb [[32,119,105,116,104,105,110,32],zd4 q.within.toNat] (.cons (by decide) (.cons (zhi _) .nil)) (show 2<=1000 by decide) (zdt hb (by have:=hw20;simp only[ya1,ya7,yb2,yb3,yb6,nm,yb7]at *;omega)),?_⟩;rintro v O' ⟨rfl,n',el',hb,rfl⟩)
    |(refine⟨_,zal hb [[32,104,97,118,105,110,103,32]] (.cons (by decide) .nil) (show 1<=1000 by decide) (zdt hb (by have:=hw20;simp only[ya1,ya7,yb2,yb3,yb6,nm,yb7]at *;omega)),?_⟩;rintro v O' ⟨rfl,n',el',hb,rfl⟩)
    |(refine⟨_,zal hb [[32,97,110,100,32]] (.cons (by decide) .nil) (show 1<=1000 by decide) (zdt hb (by have:=hw20;simp only[ya1,ya7,yb2,yb3,yb6,nm,yb7]at *;omega)),?_⟩;rintro v O' ⟨rfl,n',el',hb,rfl⟩)
    |(refine⟨_,zal hb [[32,101,109,105,116,32]] (.cons (by decide) .nil) (show 1<=1000 by decide) (zdt hb (by have:=hw20;simp only[ya1,ya7,yb2,yb3,yb6,nm,yb7]at *;omega)),?_⟩;rintro v O' ⟨rfl,n',el',hb,rfl⟩)
    |(refine⟨_,zal hb [[44,32]] (.cons (by decide) .nil) (show 1<=1000 by decide) (zdt hb (by have:=hw20;simp only[ya1,ya7,yb2,yb3,yb6,nm,yb7]at *;omega)),?_⟩;rintro v O' ⟨rfl,n',el',hb,rfl⟩)
    |(refine⟨_,zal hb [[32]] (.cons (by decide) .nil) (show 1<=1000 by decide) (zdt hb (by have:=hw20;have:=hag (k+1) (by(simp only[zz]at *;omega));simp only[ya1,ya7,yb2,yb3,yb6,nm,yb7]at *;omega)),?_⟩;rintro v O' ⟨rfl,n',el',hb,rfl⟩)
    |(refine⟨_,zal hb [[32]] (.cons (by decide) .nil) (show 1<=1000 by decide) (zdt hb (by have:=hw20;have:=hag (0) (by(simp only[zz]at *;omega));simp only[ya1,ya7,yb2,yb3,yb6,nm,yb7]at *;omega)),?_⟩;rintro v O' ⟨rfl,n',el',hb,rfl⟩)
    |(refine⟨_,zso hb (q.hv.getD (k+1) default).agg (hva _ (zak (show k+1<q.hv.length by(simp only[zz]at *;omega)))).1 (by have:=hvl _ (zak (show k+1<q.hv.length by(simp only[zz]at *;omega)));have:=hb.1;simp only[ya1,ya7,yb2,yb3,yb6]at *;omega),?_⟩;rintro v O' ⟨rfl,n',el',hb,rfl⟩)
    |(refine⟨_,zlE hb (q.hv.getD (k+1) default).cond (hva _ (zak (show k+1<q.hv.length by(simp only[zz]at *;omega)))).2 (hN.hv _ (zak (show k+1<q.hv.length by(simp only[zz]at *;omega)))).1 (hN.hv _ (zak (show k+1<q.hv.length by(simp only[zz]at *;omega)))).2 (zdt hb (by have:=hvl _ (zak (show k+1<q.hv.length by(simp only[zz]at *;omega)));have:=hvc _ (zak (show k+1<q.hv.length by(simp only[zz]at *;omega)));have:=ze4 (q.hv.getD (k+1) default).agg;simp only[ya1,ya7,yb2,yb3,yb6]at *;omega)),?_⟩;rintro v O' ⟨rfl,n',el',hb,rfl⟩)
    |(refine⟨_,zso hb (q.hv.getD (0) default).agg (hva _ (zak (show 0<q.hv.length by(simp only[zz]at *;omega)))).1 (by have:=hvl _ (zak (show 0<q.hv.length by(simp only[zz]at *;omega)));have:=hb.1;simp only[ya1,ya7,yb2,yb3,yb6]at *;omega),?_⟩;rintro v O' ⟨rfl,n',el',hb,rfl⟩)
    |(refine⟨_,zlE hb (q.hv.getD (0) default).cond (hva _ (zak (show 0<q.hv.length by(simp only[zz]at *;omega)))).2 (hN.hv _ (zak (show 0<q.hv.length by(simp only[zz]at *;omega)))).1 (hN.hv _ (zak (show 0<q.hv.length by(simp only[zz]at *;omega)))).2 (zdt hb (by have:=hvl _ (zak (show 0<q.hv.length by(simp only[zz]at *;omega)));have:=hvc _ (zak (show 0<q.hv.length by(simp only[zz]at *;omega)));have:=ze4 (q.hv.getD (0) default).agg;simp only[ya1,ya7,yb2,yb3,yb6]at *;omega)),?_⟩;rintro v O' ⟨rfl,n',el',hb,rfl⟩)
    |(refine⟨_,zso hb (q.em.getD (k2+1) default) (hea _ (zak (show k2+1<q.em.length by(simp only[zz]at *;omega)))) (by have:=hel _ (zak (show k2+1<q.em.length by(simp only[zz]at *;omega)));have:=hb.1;simp only[ya1,ya7,yb2,yb3,yb6]at *;omega),?_⟩;rintro v O' ⟨rfl,n',el',hb,rfl⟩)
    |(refine⟨_,zso hb (q.em.getD (0) default) (hea _ (zak (show 0<q.em.length by(simp only[zz]at *;omega)))) (by have:=hel _ (zak (show 0<q.em.length by(simp only[zz]at *;omega)));have:=hb.1;simp only[ya1,ya7,yb2,yb3,yb6]at *;omega),?_⟩;rintro v O' ⟨rfl,n',el',hb,rfl⟩)
    |((have:=hpk1;refine⟨fun vs O _=>∃(k:Nat) (n':Nat) (el':Nat->List SV),k<=q.em.length/\Byt (zcZ 200 q.p++[[32,119,105,116,104,105,110,32],zd4 q.within.toNat].flatten++zvt q.hv q.hv.length++emP q.em k) n' el'/\vs=[ai k]/\O=[.cells 76 [.ptr 0 0,.lst 3],.cells 78 [.ptr 0 0],.cells 34 (zaD q),.list 5 1 n' el'],fun vs O=>match vs with |[.cv (.int _ k)]=>q.em.length - k.toNat |_=>0,⟨0,_,_,Nat.zero_le _,?_,rfl,rfl⟩,?_⟩;rotate_left;rintro vs O _ ⟨k2,n',el',hk2,hb,rfl,rfl⟩;have hpk2:=hep _ hk2;rcases k2 with _ |k2;rotate_left))
    |((refine⟨fun vs O _=>∃(k:Nat) (n':Nat) (el':Nat->List SV),k<=q.hv.length/\Byt (zcZ 200 q.p++[[32,119,105,116,104,105,110,32],zd4 q.within.toNat].flatten++zvt q.hv k) n' el'/\vs=[ai k]/\O=[.cells 76 [.ptr 0 0,.lst 3],.cells 78 [.ptr 0 0],.cells 34 (zaD q),.list 5 1 n' el'],fun vs O=>match vs with |[.cv (.int _ k)]=>q.hv.length - k.toNat |_=>0,⟨0,_,_,Nat.zero_le _,?_,rfl,rfl⟩,?_⟩;rotate_left;rintro vs O _ ⟨k,n',el',hk,hb,rfl,rfl⟩;have hpk1:=hvp _ hk;rcases k with _ |k;rotate_left))
    |((rw[zpv]))
    |intro _)
 all_goals first
  |rfl
  |omega
  |(simp only[zz]at *;omega)
  |(exfalso;(simp only[zz]at *;omega))
  |decide
  |exact Int.NonNeg.mk 1
  |exact Int.NonNeg.mk 0
  |(refine hb.to ?_;rw[zvt,yc2];done)
  |(refine hb.to ?_;rw[show q.hv.length=k+1 by(simp only[zz]at *;omega),emP,yc2];done)
  |(refine hb.to ?_;rw[show q.hv.length=0 by(simp only[zz]at *;omega),emP,yc2];done)
  |(refine⟨k2+1+1,_,_,by(simp only[zz]at *;omega),hb.to ?_,rfl,rfl⟩;rw[zp1 q.em (k2+1),if_neg (Nat.succ_ne_zero k2)];simp;done)
  |(refine⟨1,_,_,by(simp only[zz]at *;omega),hb.to ?_,rfl,rfl⟩;rw[zp1 q.em 0,if_pos rfl];simp[emP];done)
  |(refine⟨k+1+1,_,_,by(simp only[zz]at *;omega),hb.to ?_,rfl,rfl⟩;rw[zmb q.hv (k+1),if_neg (Nat.succ_ne_zero k)];simp;done)
  |(refine⟨1,_,_,by(simp only[zz]at *;omega),hb.to ?_,rfl,rfl⟩;rw[zmb q.hv 0,if_pos rfl];simp[zvt];done)
  |(refine⟨_,_,hb.to ?_,3,by decide,rfl,rfl⟩;unfold zjh;rw[show q.em.length=k2+1 by(simp only[zz]at *;omega)];done)
  |(refine⟨_,_,hb.to ?_,3,by decide,rfl,rfl⟩;unfold zjh;rw[show q.em.length=0 by(simp only[zz]at *;omega)];done)
theorem zx6(q:QueryM)(hq:QOk q)(hs:QSnd q):DSpec Tryz.prog axX axG 31 [.agg [.ptr 0 0],.agg (zaD q)] B0 (fun v O=>v=.tup []/\∃n el,Byt (zjh q) n el/\O=B1 n el):=zrZ (zBW q hq hs)
theorem zxd{q:QueryM}(hq:QOk q)(hs:QSnd q):0<(zjh q).length/\(zjh q).length<=200000:=by
 have hN:=hq.num;have htl:=zgN 200 q.p hs.p hN.p hq.few;have hsz:=hq.size;have hvl0:=hq.hv;have hel0:=hq.em;have hw20:=zbU 19 q.within.toNat (by have:=hN.within.2;omega);have h1:=zmS (fun x hx=>zeH _ (hN.hv x hx).1 (hN.hv x hx).2) hq.hvn _ (Nat.le_refl q.hv.length);have h2:=zqh hq.emn _ (Nat.le_refl q.em.length);unfold zjh;simp only[ya1,ya7,yb2,yb3,yb6];omega
noncomputable def zCi(q:QueryM):SV:=bif zdk q==0 then zjS (zjh q)else .tup [.cv (.str []),ai (zdk q)]
set_option maxHeartbeats 2000000 in
theorem zB4(q:QueryM)(hq:QOk q):DSpec Tryz.prog axX axG 13 [.agg (zaD q)] [] (fun v O=>v=zCi q/\O=[]):=by
 have hS:=zwJ q hq.fit;by_cases he:zdk q=0
 ·have hs:=zAG he;have hp:=zx6 q hq hs;have hl:=zxd hq hs;unfold zCi;rw[he]at hS;rw[he];refine zac { glb:=axG } true Tryz.func13 (by kernel_rfl) rfl ?_;cases hz4:decide (((zjh q).length:Int) > 400)
  all_goals
   repeat' (
     (conv=>whnf)
     first
      |exact zad (by kernel_rfl)
      |refine And.intro ?_ ?_
      |refine zaa ?_ ?_
      |(refine⟨_,hS,?_⟩;rintro v O' ⟨rfl,rfl⟩)
      |(refine⟨_,hp,?_⟩;rintro v O' ⟨rfl,n',el',hb,rfl⟩)
      |(refine⟨_,zxU hb (by have:=hb.1;omega) (by have:=hb.1;omega) hz4,?_⟩;rintro v O' ⟨rfl,rfl⟩)
      |(refine⟨_,zxP hb (by have:=hb.1;omega) (by have:=hb.1;omega) hz4,?_⟩;rintro v O' ⟨rfl,rfl⟩)
      |intro _)
  all_goals first
   |rfl
   |exact⟨rfl,rfl⟩
   |exact zuX hz4
   |exact zzh hz4
   |(exfalso;(simp only[zz]at *;omega))
 ·unfold zCi;rw[beq_false_of_ne he];refine zac { glb:=axG } true Tryz.func13 (by kernel_rfl) rfl ?_
  repeat' (
    (conv=>whnf)
    first
     |exact zad (by kernel_rfl)
     |refine And.intro ?_ ?_
     |refine zaa ?_ ?_
     |(refine⟨_,hS,?_⟩;rintro v O' ⟨rfl,rfl⟩)
     |intro _)
  all_goals first
   |rfl
   |exact⟨rfl,rfl⟩
   |(exfalso;(simp only[zz]at *;omega))
end Go.Proofs.YtogdglnaagkaaaaGreatDoor
