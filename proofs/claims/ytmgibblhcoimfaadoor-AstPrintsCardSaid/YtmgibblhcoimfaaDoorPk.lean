import Derived.Test.YtmgibblhcoimfaaDoorPj
set_option linter.unusedSimpArgs false
set_option linter.unusedVariables false
set_option maxRecDepth 100000
namespace Go.Proofs.YtmgibblhcoimfaaDoor
open Go Go.Cx
structure QOk(q:QueryM):Prop where
 fit:QFit q
 num:QNum q
 few:Few q.p
 size:(zc2 1 q.p).length<=250
 hv:q.hv.length<=20
 em:q.em.length<=20
 hvn:∀x∈q.hv,x.agg.name.length<=30
 emn:∀x∈q.em,x.name.length<=30
theorem QOk.of{q:QueryM}(h:zcu q=true)(hn:QNum q):QOk q:=by
 obtain⟨h1,h2,h3,h4,h5,h6,h7,h8⟩:=zzc h;exact⟨h1,hn,h4,h3,h5,h6,h7,h8⟩
structure QSnd(q:QueryM):Prop where
 p:zaz 200 q.p=true
 within:q.within<=99999
 hv:∀x∈q.hv,zgm x.agg=true/\opB x.cond.op=true
 em:∀x∈q.em,zgm x=true
theorem zsB{q:QueryM}(h:zck q=0):QSnd q:=by
 unfold zck zbo at h;cases hs:zaz 200 q.p with
 |false=>rw[hs]at h;simp at h
 |true=>
  rw[hs]at h;have h:(bif zfb q then(3:Int)else 0)=0:=h;cases hf:zfb q with
  |true=>rw[hf]at h;simp at h
  |false=>
   unfold zfb at hf;simp only[Bool.or_eq_false_iff,decide_eq_false_iff_not]at hf;obtain⟨h1,h2,h3⟩:=hf;refine⟨hs,by omega,fun x hx=>?_,fun x hx=>?_⟩
   ·have:=List.any_eq_false.1 h2 x hx;unfold zdE at this;cases h4:zgm x.agg<;>cases h5:opB x.cond.op<;>rw[h4,h5]at this<;>first |exact⟨rfl,rfl⟩ |exact absurd rfl this
   ·have:=List.any_eq_false.1 h3 x hx;cases h4:zgm x with
    |true=>rfl
    |false=>rw[h4]at this;exact absurd rfl this
theorem zlj{a:AggM}(h:zgm a=true):1<=a.fn/\a.fn<=6:=by
 unfold zgm at h;simp only[ya2,decide_eq_true_eq]at h;omega
theorem zwI{n:Int}(h:opB n=true):1<=n/\n<=6:=by
 unfold opB inB at h;simp only[ya2,decide_eq_true_eq]at h;exact h
theorem zge(l:List HaveM)(k:Nat):zmI l (k+1)=zmI l k++(if k=0 then[32,104,97,118,105,110,103,32] else[32,97,110,100,32])++zoQ (l.getD k default).agg++[32]++zdz (l.getD k default).cond:=by
 rw[zmI];cases k<;>rfl
theorem ziC(l:List AggM)(k:Nat):emP l (k+1)=emP l k++(if k=0 then[32,101,109,105,116,32] else[44,32])++zoQ (l.getD k default):=by
 rw[emP];cases k<;>rfl
theorem zhF{l:List HaveM}(hc:∀x∈l,(zdz x.cond).length<=22)(hn:∀x∈l,x.agg.name.length<=30):∀k,k<=l.length->(zmI l k).length<=70*k
 |0,_=>by simp[zmI]
 |k+1,hk=>by
  have ih:=zhF hc hn k (by omega);have h1:=hc _ (zah (l:=l) (k:=k) (by omega));have h2:=hn _ (zah (l:=l) (k:=k) (by omega));have h3:=zdj (l.getD k default).agg;rw[zge];split<;>simp only[ya1,ya7,yb2]<;>omega
theorem zlV{l:List AggM}(hn:∀x∈l,x.name.length<=30):∀k,k<=l.length->(emP l k).length<=50*k
 |0,_=>by simp[emP]
 |k+1,hk=>by
  have ih:=zlV hn k (by omega);have h2:=hn _ (zah (l:=l) (k:=k) (by omega));have h3:=zdj (l.getD k default);rw[ziC];split<;>simp only[ya1,ya7,yb2]<;>omega
def zgR(q:QueryM):List Nat:=za3 200 q.p++[[32,119,105,116,104,105,110,32],zbX q.within.toNat].flatten++zmI q.hv q.hv.length++emP q.em q.em.length
set_option maxHeartbeats 8000000 in
theorem zyE(q:QueryM)(hq:QOk q)(hs:QSnd q):DSpec Tryd.prog axX axG 21 [.agg [.ptr 0 0],.agg (zb8 q)] B0 (fun v O=>v=.tup []/\∃n el,Byt (zgR q) n el/\∃j,0<j/\O[0]? = some (.cells 61 [.ptr 0 0,.lst j])/\O[j]? = some (.list 5 1 n el)):=by
 have hN:=hq.num;have hp:=(zoI 200 q.p hs.p hN.p hq.few hq.size).2;have htl:=zcO 200 q.p hs.p hN.p hq.few;have hsz:=hq.size;have hvl0:=hq.hv;have hel0:=hq.em;have hvl:=hq.hvn;have hel:=hq.emn;have hva:∀x∈q.hv,(1<=x.agg.fn/\x.agg.fn<=6)/\(1<=x.cond.op/\x.cond.op<=6):=fun x hx=>⟨zlj (hs.hv x hx).1,zwI (hs.hv x hx).2⟩
 have hea:∀x∈q.em,1<=x.fn/\x.fn<=6:=fun x hx=>zlj (hs.em x hx)
 have hvc:∀x∈q.hv,(zdz x.cond).length<=22:=fun x hx=>zct _ (hN.hv x hx).1 (hN.hv x hx).2
 have hvp:=zhF hvc hvl;have hep:=zlV hel;have hpkA:=hvp _ (Nat.le_refl _);have hag:∀k,k<q.hv.length->(zoQ (q.hv.getD k default).agg).length<=37:=fun k hk=>by
  have:=zdj (q.hv.getD k default).agg;have:=hvl _ (zah hk);omega
 have hw20:=za0 19 q.within.toNat (by have:=hN.within.2;omega);refine zac { glb:=axG,ann:=[(4,[23]),(12,[54])] } true Tryd.func21 (by kernel_rfl) rfl ?_
 repeat' (
   (conv=>whnf)
   first
    |exact zad (by kernel_rfl)
    |refine And.intro ?_ ?_
    |refine zaa ?_ ?_
    |(refine⟨_,hp,?_⟩;rintro v O' ⟨rfl,n',el',hb,rfl⟩)
    |(refine⟨_,zzC q.within hN.within.1 hN.within.2,?_⟩;rintro v O' ⟨rfl,rfl⟩)
    |(refine⟨_,zak hb [[32,119,105,116,104,105,110,32],zbX q.within.toNat] (.cons (by decide) (.cons (zgL _) .nil)) (show 2<=1000 by decide) (zc4 hb (by have:=hw20;simp only[ya1,ya7,yb2,yb3,yb6,nm,yb7]at *;omega)),?_⟩;rintro v O' ⟨rfl,n',el',hb,rfl⟩)
    |(refine⟨_,zak hb [[32,104,97,118,105,110,103,32]] (.cons (by decide) .nil) (show 1<=1000 by decide) (zc4 hb (by have:=hw20;simp only[ya1,ya7,yb2,yb3,yb6,nm,yb7]at *;omega)),?_⟩;rintro v O' ⟨rfl,n',el',hb,rfl⟩)
    |(refine⟨_,zak hb [[32,97,110,100,32]] (.cons (by decide) .nil) (show 1<=1000 by decide) (zc4 hb (by have:=hw20;simp only[ya1,ya7,yb2,yb3,yb6,nm,yb7]at *;omega)),?_⟩;rintro v O' ⟨rfl,n',el',hb,rfl⟩)
    |(refine⟨_,zak hb [[32,101,109,105,116,32]] (.cons (by decide) .nil) (show 1<=1000 by decide) (zc4 hb (by have:=hw20;simp only[ya1,ya7,yb2,yb3,yb6,nm,yb7]at *;omega)),?_⟩;rintro v O' ⟨rfl,n',el',hb,rfl⟩)
    |(refine⟨_,zak hb [[44,32]] (.cons (by decide) .nil) (show 1<=1000 by decide) (zc4 hb (by have:=hw20;simp only[ya1,ya7,yb2,yb3,yb6,nm,yb7]at *;omega)),?_⟩;rintro v O' ⟨rfl,n',el',hb,rfl⟩)
    |(refine⟨_,zak hb [[32]] (.cons (by decide) .nil) (show 1<=1000 by decide) (zc4 hb (by have:=hw20;have:=hag (k+1) (by(simp only[zz]at *;omega));simp only[ya1,ya7,yb2,yb3,yb6,nm,yb7]at *;omega)),?_⟩;rintro v O' ⟨rfl,n',el',hb,rfl⟩)
    |(refine⟨_,zak hb [[32]] (.cons (by decide) .nil) (show 1<=1000 by decide) (zc4 hb (by have:=hw20;have:=hag (0) (by(simp only[zz]at *;omega));simp only[ya1,ya7,yb2,yb3,yb6,nm,yb7]at *;omega)),?_⟩;rintro v O' ⟨rfl,n',el',hb,rfl⟩)
    |(refine⟨_,zpb hb (q.hv.getD (k+1) default).agg (hva _ (zah (show k+1<q.hv.length by(simp only[zz]at *;omega)))).1 (by have:=hvl _ (zah (show k+1<q.hv.length by(simp only[zz]at *;omega)));have:=hb.1;simp only[ya1,ya7,yb2,yb3,yb6]at *;omega),?_⟩;rintro v O' ⟨rfl,n',el',hb,rfl⟩)
    |(refine⟨_,zkp hb (q.hv.getD (k+1) default).cond (hva _ (zah (show k+1<q.hv.length by(simp only[zz]at *;omega)))).2 (hN.hv _ (zah (show k+1<q.hv.length by(simp only[zz]at *;omega)))).1 (hN.hv _ (zah (show k+1<q.hv.length by(simp only[zz]at *;omega)))).2 (zc4 hb (by have:=hvl _ (zah (show k+1<q.hv.length by(simp only[zz]at *;omega)));have:=hvc _ (zah (show k+1<q.hv.length by(simp only[zz]at *;omega)));have:=zdj (q.hv.getD (k+1) default).agg;simp only[ya1,ya7,yb2,yb3,yb6]at *;omega)),?_⟩;rintro v O' ⟨rfl,n',el',hb,rfl⟩)
    |(refine⟨_,zpb hb (q.hv.getD (0) default).agg (hva _ (zah (show 0<q.hv.length by(simp only[zz]at *;omega)))).1 (by have:=hvl _ (zah (show 0<q.hv.length by(simp only[zz]at *;omega)));have:=hb.1;simp only[ya1,ya7,yb2,yb3,yb6]at *;omega),?_⟩;rintro v O' ⟨rfl,n',el',hb,rfl⟩)
    |(refine⟨_,zkp hb (q.hv.getD (0) default).cond (hva _ (zah (show 0<q.hv.length by(simp only[zz]at *;omega)))).2 (hN.hv _ (zah (show 0<q.hv.length by(simp only[zz]at *;omega)))).1 (hN.hv _ (zah (show 0<q.hv.length by(simp only[zz]at *;omega)))).2 (zc4 hb (by have:=hvl _ (zah (show 0<q.hv.length by(simp only[zz]at *;omega)));have:=hvc _ (zah (show 0<q.hv.length by(simp only[zz]at *;omega)));have:=zdj (q.hv.getD (0) default).agg;simp only[ya1,ya7,yb2,yb3,yb6]at *;omega)),?_⟩;rintro v O' ⟨rfl,n',el',hb,rfl⟩)
    |(refine⟨_,zpb hb (q.em.getD (k2+1) default) (hea _ (zah (show k2+1<q.em.length by(simp only[zz]at *;omega)))) (by have:=hel _ (zah (show k2+1<q.em.length by(simp only[zz]at *;omega)));have:=hb.1;simp only[ya1,ya7,yb2,yb3,yb6]at *;omega),?_⟩;rintro v O' ⟨rfl,n',el',hb,rfl⟩)
    |(refine⟨_,zpb hb (q.em.getD (0) default) (hea _ (zah (show 0<q.em.length by(simp only[zz]at *;omega)))) (by have:=hel _ (zah (show 0<q.em.length by(simp only[zz]at *;omega)));have:=hb.1;simp only[ya1,ya7,yb2,yb3,yb6]at *;omega),?_⟩;rintro v O' ⟨rfl,n',el',hb,rfl⟩)
    |((have:=hpk1;refine⟨fun vs O _=>∃(k:Nat) (n':Nat) (el':Nat->List SV),k<=q.em.length/\Byt (za3 200 q.p++[[32,119,105,116,104,105,110,32],zbX q.within.toNat].flatten++zmI q.hv q.hv.length++emP q.em k) n' el'/\vs=[ai k]/\O=[.cells 61 [.ptr 0 0,.lst 3],.cells 63 [.ptr 0 0],.cells 32 (zb8 q),.list 5 1 n' el'],fun vs O=>match vs with |[.cv (.int _ k)]=>q.em.length - k.toNat |_=>0,⟨0,_,_,Nat.zero_le _,?_,rfl,rfl⟩,?_⟩;rotate_left;rintro vs O _ ⟨k2,n',el',hk2,hb,rfl,rfl⟩;have hpk2:=hep _ hk2;rcases k2 with _ |k2;rotate_left))
    |((refine⟨fun vs O _=>∃(k:Nat) (n':Nat) (el':Nat->List SV),k<=q.hv.length/\Byt (za3 200 q.p++[[32,119,105,116,104,105,110,32],zbX q.within.toNat].flatten++zmI q.hv k) n' el'/\vs=[ai k]/\O=[.cells 61 [.ptr 0 0,.lst 3],.cells 63 [.ptr 0 0],.cells 32 (zb8 q),.list 5 1 n' el'],fun vs O=>match vs with |[.cv (.int _ k)]=>q.hv.length - k.toNat |_=>0,⟨0,_,_,Nat.zero_le _,?_,rfl,rfl⟩,?_⟩;rotate_left;rintro vs O _ ⟨k,n',el',hk,hb,rfl,rfl⟩;have hpk1:=hvp _ hk;rcases k with _ |k;rotate_left))
    |((rw[zn9]))
    |intro _)
 all_goals first
  |rfl
  |omega
  |(simp only[zz]at *;omega)
  |(exfalso;(simp only[zz]at *;omega))
  |decide
  |exact Int.NonNeg.mk 1
  |exact Int.NonNeg.mk 0
  |(refine hb.to ?_;rw[zmI,yc2];done)
  |(refine hb.to ?_;rw[show q.hv.length=k+1 by(simp only[zz]at *;omega),emP,yc2];done)
  |(refine hb.to ?_;rw[show q.hv.length=0 by(simp only[zz]at *;omega),emP,yc2];done)
  |(refine⟨k2+1+1,_,_,by(simp only[zz]at *;omega),hb.to ?_,rfl,rfl⟩;rw[ziC q.em (k2+1),if_neg (Nat.succ_ne_zero k2)];simp;done)
  |(refine⟨1,_,_,by(simp only[zz]at *;omega),hb.to ?_,rfl,rfl⟩;rw[ziC q.em 0,if_pos rfl];simp[emP];done)
  |(refine⟨k+1+1,_,_,by(simp only[zz]at *;omega),hb.to ?_,rfl,rfl⟩;rw[zge q.hv (k+1),if_neg (Nat.succ_ne_zero k)];simp;done)
  |(refine⟨1,_,_,by(simp only[zz]at *;omega),hb.to ?_,rfl,rfl⟩;rw[zge q.hv 0,if_pos rfl];simp[zmI];done)
  |(refine⟨_,_,hb.to ?_,3,by decide,rfl,rfl⟩;unfold zgR;rw[show q.em.length=k2+1 by(simp only[zz]at *;omega)];done)
  |(refine⟨_,_,hb.to ?_,3,by decide,rfl,rfl⟩;unfold zgR;rw[show q.em.length=0 by(simp only[zz]at *;omega)];done)
theorem zvj(q:QueryM)(hq:QOk q)(hs:QSnd q):DSpec Tryd.prog axX axG 21 [.agg [.ptr 0 0],.agg (zb8 q)] B0 (fun v O=>v=.tup []/\∃n el,Byt (zgR q) n el/\O=B1 n el):=zqi (zyE q hq hs)
theorem zuh{q:QueryM}(hq:QOk q)(hs:QSnd q):0<(zgR q).length/\(zgR q).length<=200000:=by
 have hN:=hq.num;have htl:=zcO 200 q.p hs.p hN.p hq.few;have hsz:=hq.size;have hvl0:=hq.hv;have hel0:=hq.em;have hw20:=za0 19 q.within.toNat (by have:=hN.within.2;omega);have h1:=zhF (fun x hx=>zct _ (hN.hv x hx).1 (hN.hv x hx).2) hq.hvn _ (Nat.le_refl q.hv.length);have h2:=zlV hq.emn _ (Nat.le_refl q.em.length);unfold zgR;simp only[ya1,ya7,yb2,yb3,yb6];omega
noncomputable def zw2(q:QueryM):SV:=bif zck q==0 then zf6 (zgR q)else .tup [.cv (.str []),ai (zck q)]
set_option maxHeartbeats 2000000 in
theorem zyl(q:QueryM)(hq:QOk q):DSpec Tryd.prog axX axG 7 [.agg (zb8 q)] [] (fun v O=>v=zw2 q/\O=[]):=by
 have hS:=zsb q hq.fit;by_cases he:zck q=0
 ·have hs:=zsB he;have hp:=zvj q hq hs;have hl:=zuh hq hs;unfold zw2;rw[he]at hS;rw[he];refine zac { glb:=axG } true Tryd.func7 (by kernel_rfl) rfl ?_;cases hz4:decide (((zgR q).length:Int) > 400)
  all_goals
   repeat' (
     (conv=>whnf)
     first
      |exact zad (by kernel_rfl)
      |refine And.intro ?_ ?_
      |refine zaa ?_ ?_
      |(refine⟨_,hS,?_⟩;rintro v O' ⟨rfl,rfl⟩)
      |(refine⟨_,hp,?_⟩;rintro v O' ⟨rfl,n',el',hb,rfl⟩)
      |(refine⟨_,zpk hb (by have:=hb.1;omega) (by have:=hb.1;omega) hz4,?_⟩;rintro v O' ⟨rfl,rfl⟩)
      |(refine⟨_,zpc hb (by have:=hb.1;omega) (by have:=hb.1;omega) hz4,?_⟩;rintro v O' ⟨rfl,rfl⟩)
      |intro _)
  all_goals first
   |rfl
   |exact⟨rfl,rfl⟩
   |exact zc1 hz4
   |exact zdk hz4
   |(exfalso;(simp only[zz]at *;omega))
 ·unfold zw2;rw[beq_false_of_ne he];refine zac { glb:=axG } true Tryd.func7 (by kernel_rfl) rfl ?_
  repeat' (
    (conv=>whnf)
    first
     |exact zad (by kernel_rfl)
     |refine And.intro ?_ ?_
     |refine zaa ?_ ?_
     |(refine⟨_,hS,?_⟩;rintro v O' ⟨rfl,rfl⟩)
     |intro _)
  all_goals first
   |rfl
   |exact⟨rfl,rfl⟩
   |(exfalso;(simp only[zz]at *;omega))
end Go.Proofs.YtmgibblhcoimfaaDoor
