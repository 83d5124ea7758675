import Derived.Test.YtogdglnaagkaaaaGreatDoorPc
set_option linter.unusedSimpArgs false
set_option linter.unusedVariables false
set_option maxRecDepth 100000
namespace Go.Proofs.YtogdglnaagkaaaaGreatDoor
open Go Go.Cx
def zot(c:CondM):Prop:=(1<=c.op/\c.op<=6) /\ -9223372036854775808<=c.val/\c.val<=9223372036854775807
theorem zfi(l:List CondM)(h:∀c∈l,zot c):∀k,k<=l.length->(zdg l k).length<=23*k
 |0,_=>by simp[zdg]
 |k+1,hk=>by
  have ih:=zfi l h k (by omega);have hc:=h _ (zak (l:=l) (k:=k) (by omega));have:=zeH _ hc.2.1 hc.2.2;unfold zdg;cases k==0<;>simp only[ya1,ya7,yb2,cond_true,cond_false]at * <;> omega
theorem zbf(a:AtomM):(zxL a).length<=195:=by
 have:=zbS a.bound.toNat;unfold zxL;cases a.bnd<;>simp only[cond_true,cond_false,ya7,yb2]<;>omega
theorem zpv(k:Nat):min ((k+1:Nat):Int) 1=1:=by omega
theorem zlv{a:AtomM}(h:decide ((a.cs.length:Int) > 0)=false):zjR a.cs=[]:=by
 have h:¬(a.cs.length:Int) > 0:=by simpa using h
 unfold zjR;rw[show decide (a.cs.length > 0)=false from decide_eq_false (by omega)];rfl
theorem zkJ{a:AtomM}(h:decide ((a.cs.length:Int) > 0)=true):zjR a.cs=zdg a.cs a.cs.length++[93]:=by
 have h:(a.cs.length:Int) > 0:=by simpa using h
 unfold zjR;rw[show decide (a.cs.length > 0)=true from decide_eq_true (by omega)];rfl
theorem zoG{s:List UInt8}(h:(!isE (nm s))=false):zvF s=[]:=by
 cases s with
 |nil=>rfl
 |cons b r=>cases h
theorem zol{s:List UInt8}(h:(!isE (nm s))=true):zvF s=58::nm s:=by
 cases s with
 |nil=>cases h
 |cons b r=>rfl
theorem zr9{a:AtomM}(h:a.bnd=false):zxL a=[]:=by unfold zxL;rw[h];rfl
theorem zrr{a:AtomM}(h:a.bnd=true):zxL a=64::zwQ a.bound.toNat:=by unfold zxL;rw[h];rfl
theorem ze1(l:List CondM)(k:Nat):zdg l (k+1)=zdg l k++(if k=0 then[91] else[44])++zgP (l.getD k default):=by
 rw[zdg];cases k<;>rfl
theorem zdt{bs:List Nat}{n L:Nat}{el:Nat->List SV}(hb:Byt bs n el)(h:bs.length+L<=1000000):n+L<=1000000:=by
 rw[hb.1];exact h
set_option maxHeartbeats 4000000 in
theorem zsp{bs:List Nat}{n:Nat}{el:Nat->List SV}(hb:Byt bs n el)(hbl:bs.length<=900000)(a:AtomM)(hk0:0<=a.kind/\a.kind<=25)(hu:0<=a.bound/\a.bound<=18446744073709551615)(hcl:a.cs.length<=1000)(hnl:a.name.length<=1000)(hcs:∀c∈a.cs,zot c):DSpec Tryz.prog axX axG 73 [.ptr 0 0,.agg (zfQ a)] (B1 n el) (fun v O=>v=.tup []/\∃n el,Byt (bs++zex a) n el/\O=B1 n el):=by
 have hcp:=zfi a.cs hcs;have hcc:∀k,k<a.cs.length->(zgP (a.cs.getD k default)).length<=22:=fun k h=>zeH _ (hcs _ (zak h)).2.1 (hcs _ (zak h)).2.2
 have hk1:∀b∈[(65+a.kind).toNat],b<256:=by simp;omega
 refine zac { glb:=axG,ann:=[(5,[25])] } true Tryz.func73 (by kernel_rfl) rfl ?_
 repeat' (
   (conv=>whnf)
   first
    |exact zad (by kernel_rfl)
    |refine And.intro ?_ ?_
    |refine zaa ?_ ?_
    |(refine⟨_,zlG a.bound hu.1 hu.2,?_⟩;rintro v O' ⟨rfl,rfl⟩)
    |(refine⟨_,zal hb [[64],zwQ a.bound.toNat] (.cons (by decide) (.cons (zux _) .nil)) (show 2<=1000 by decide) (zdt hb (by have:=zbS a.bound.toNat;have:=zbf a;simp only[ya1,ya7,yb2,yb3,yb6,nm,yb7]at *;omega)),?_⟩;rintro v O' ⟨rfl,n',el',hb,rfl⟩)
    |(refine⟨_,zal hb [[91]] (.cons (by decide) .nil) (show 1<=1000 by decide) (zdt hb (by have:=zbS a.bound.toNat;have:=zbf a;simp only[ya1,ya7,yb2,yb3,yb6,nm,yb7]at *;omega)),?_⟩;rintro v O' ⟨rfl,n',el',hb,rfl⟩)
    |(refine⟨_,zal hb [[44]] (.cons (by decide) .nil) (show 1<=1000 by decide) (zdt hb (by have:=zbS a.bound.toNat;have:=zbf a;simp only[ya1,ya7,yb2,yb3,yb6,nm,yb7]at *;omega)),?_⟩;rintro v O' ⟨rfl,n',el',hb,rfl⟩)
    |(refine⟨_,zal hb [[93]] (.cons (by decide) .nil) (show 1<=1000 by decide) (zdt hb (by have:=zbS a.bound.toNat;have:=zbf a;simp only[ya1,ya7,yb2,yb3,yb6,nm,yb7]at *;omega)),?_⟩;rintro v O' ⟨rfl,n',el',hb,rfl⟩)
    |(refine⟨_,zal hb [[58],nm a.name] (.cons (by decide) (.cons zAc .nil)) (show 2<=1000 by decide) (zdt hb (by have:=zbS a.bound.toNat;have:=zbf a;simp only[ya1,ya7,yb2,yb3,yb6,nm,yb7]at *;omega)),?_⟩;rintro v O' ⟨rfl,n',el',hb,rfl⟩)
    |(refine⟨_,zlE hb (a.cs.getD (k+1) default) (hcs _ (zak (show k+1<a.cs.length by(simp only[zz]at *;omega)))).1 (hcs _ (zak (show k+1<a.cs.length by(simp only[zz]at *;omega)))).2.1 (hcs _ (zak (show k+1<a.cs.length by(simp only[zz]at *;omega)))).2.2 (zdt hb (by have:=hcc (k+1) (by(simp only[zz]at *;omega));have:=zbf a;simp only[ya1,ya7,yb2,yb3,yb6,nm,yb7]at *;omega)),?_⟩;rintro v O' ⟨rfl,n',el',hb,rfl⟩)
    |(refine⟨_,zlE hb (a.cs.getD (0) default) (hcs _ (zak (show 0<a.cs.length by(simp only[zz]at *;omega)))).1 (hcs _ (zak (show 0<a.cs.length by(simp only[zz]at *;omega)))).2.1 (hcs _ (zak (show 0<a.cs.length by(simp only[zz]at *;omega)))).2.2 (zdt hb (by have:=hcc (0) (by(simp only[zz]at *;omega));have:=zbf a;simp only[ya1,ya7,yb2,yb3,yb6,nm,yb7]at *;omega)),?_⟩;rintro v O' ⟨rfl,n',el',hb,rfl⟩)
    |(refine⟨_,zal hb [[(65+a.kind).toNat]] (.cons hk1 .nil) (show 1<=1000 by decide) (zdt hb (by have:=zbS a.bound.toNat;have:=zbf a;simp only[ya1,ya7,yb2,yb3,yb6,nm,yb7]at *;omega)),?_⟩;rintro v O' ⟨rfl,n',el',hb,rfl⟩)
    |((refine⟨fun vs O _=>∃(k:Nat) (n':Nat) (el':Nat->List SV),k<=a.cs.length/\Byt (bs++[(65+a.kind).toNat]++zxL a++zdg a.cs k) n' el'/\vs=[ai k]/\O=[.cells 76 [.ptr 0 0,.lst 1],.list 5 1 n' el',.cells 27 (zfQ a)],fun vs O=>match vs with |[.cv (.int _ k)]=>a.cs.length - k.toNat |_=>0,⟨0,_,_,Nat.zero_le _,?_,rfl,rfl⟩,?_⟩;rotate_left;rintro vs O _ ⟨k,n',el',hk,hb,rfl,rfl⟩;have hpk:=hcp _ hk;rcases k with _ |k;rotate_left))
    |((rw[zpv]))
    |intro _)
 all_goals try have hkk:(65+a.kind).toNat=65+a.kind.toNat:=by omega
 all_goals try have hC:=zlv (a:=a) (by assumption)
 all_goals try have hC:=zkJ (a:=a) (by assumption)
 all_goals try have hN:=zoG (s:=a.name) (by assumption)
 all_goals try have hN:=zol (s:=a.name) (by assumption)
 all_goals try have hB:=zr9 (a:=a) (by assumption)
 all_goals try have hB:=zrr (a:=a) (by assumption)
 all_goals first
  |rfl
  |omega
  |(simp only[zz]at *;omega)
  |(exfalso;(simp only[zz]at *;omega))
  |decide
  |exact Int.NonNeg.mk 1
  |exact Int.NonNeg.mk 0
  |exact hb.to (by rw[hB];simp[zdg])
  |exact⟨k+1+1,_,_,by(simp only[zz]at *;omega),hb.to (by rw[ze1 a.cs (k+1),if_neg (Nat.succ_ne_zero k)];simp),rfl,rfl⟩
  |exact⟨1,_,_,by(simp only[zz]at *;omega),hb.to (by rw[ze1 a.cs 0,if_pos rfl];simp),rfl,rfl⟩
  |exact⟨_,_,hb.to (by rw[zex,hC,hN,show a.cs.length=k+1 by(simp only[zz]at *;omega),<- hkk];simp),rfl⟩
  |exact⟨_,_,hb.to (by rw[zex,hC,hN,<- hkk];simp[zdg]),rfl⟩
set_option maxHeartbeats 4000000 in
theorem zt8(a:AtomM)(hk0:0<=a.kind/\a.kind<=25)(hu:0<=a.bound/\a.bound<=18446744073709551615)(hcl:a.cs.length<=1000)(hnl:a.name.length<=1000)(hcs:∀c∈a.cs,zot c):DSpec Tryz.prog axX axG 73 [.ptr 0 0,.agg (zfQ a)] B0 (fun v O=>v=.tup []/\∃n el,Byt (zex a) n el/\∃j,0<j/\O[0]? = some (.cells 76 [.ptr 0 0,.lst j])/\O[j]? = some (.list 5 1 n el)):=by
 have hcp:=zfi a.cs hcs;have hcc:∀k,k<a.cs.length->(zgP (a.cs.getD k default)).length<=22:=fun k h=>zeH _ (hcs _ (zak h)).2.1 (hcs _ (zak h)).2.2
 have hk1:∀b∈[(65+a.kind).toNat],b<256:=by simp;omega
 refine zac { glb:=axG,ann:=[(5,[25])] } true Tryz.func73 (by kernel_rfl) rfl ?_
 repeat' (
   (conv=>whnf)
   first
    |exact zad (by kernel_rfl)
    |refine And.intro ?_ ?_
    |refine zaa ?_ ?_
    |(refine⟨_,zlG a.bound hu.1 hu.2,?_⟩;rintro v O' ⟨rfl,rfl⟩)
    |(refine⟨_,zal hb [[64],zwQ a.bound.toNat] (.cons (by decide) (.cons (zux _) .nil)) (show 2<=1000 by decide) (zdt hb (by have:=zbS a.bound.toNat;have:=zbf a;simp only[ya1,ya7,yb2,yb3,yb6,nm,yb7]at *;omega)),?_⟩;rintro v O' ⟨rfl,n',el',hb,rfl⟩)
    |(refine⟨_,zal hb [[91]] (.cons (by decide) .nil) (show 1<=1000 by decide) (zdt hb (by have:=zbS a.bound.toNat;have:=zbf a;simp only[ya1,ya7,yb2,yb3,yb6,nm,yb7]at *;omega)),?_⟩;rintro v O' ⟨rfl,n',el',hb,rfl⟩)
    |(refine⟨_,zal hb [[44]] (.cons (by decide) .nil) (show 1<=1000 by decide) (zdt hb (by have:=zbS a.bound.toNat;have:=zbf a;simp only[ya1,ya7,yb2,yb3,yb6,nm,yb7]at *;omega)),?_⟩;rintro v O' ⟨rfl,n',el',hb,rfl⟩)
    |(refine⟨_,zal hb [[93]] (.cons (by decide) .nil) (show 1<=1000 by decide) (zdt hb (by have:=zbS a.bound.toNat;have:=zbf a;simp only[ya1,ya7,yb2,yb3,yb6,nm,yb7]at *;omega)),?_⟩;rintro v O' ⟨rfl,n',el',hb,rfl⟩)
    |(refine⟨_,zal hb [[58],nm a.name] (.cons (by decide) (.cons zAc .nil)) (show 2<=1000 by decide) (zdt hb (by have:=zbS a.bound.toNat;have:=zbf a;simp only[ya1,ya7,yb2,yb3,yb6,nm,yb7]at *;omega)),?_⟩;rintro v O' ⟨rfl,n',el',hb,rfl⟩)
    |(refine⟨_,zlE hb (a.cs.getD (k+1) default) (hcs _ (zak (show k+1<a.cs.length by(simp only[zz]at *;omega)))).1 (hcs _ (zak (show k+1<a.cs.length by(simp only[zz]at *;omega)))).2.1 (hcs _ (zak (show k+1<a.cs.length by(simp only[zz]at *;omega)))).2.2 (zdt hb (by have:=hcc (k+1) (by(simp only[zz]at *;omega));have:=zbf a;simp only[ya1,ya7,yb2,yb3,yb6,nm,yb7]at *;omega)),?_⟩;rintro v O' ⟨rfl,n',el',hb,rfl⟩)
    |(refine⟨_,zlE hb (a.cs.getD (0) default) (hcs _ (zak (show 0<a.cs.length by(simp only[zz]at *;omega)))).1 (hcs _ (zak (show 0<a.cs.length by(simp only[zz]at *;omega)))).2.1 (hcs _ (zak (show 0<a.cs.length by(simp only[zz]at *;omega)))).2.2 (zdt hb (by have:=hcc (0) (by(simp only[zz]at *;omega));have:=zbf a;simp only[ya1,ya7,yb2,yb3,yb6,nm,yb7]at *;omega)),?_⟩;rintro v O' ⟨rfl,n',el',hb,rfl⟩)
    |(refine⟨_,zpX [[(65+a.kind).toNat]] (.cons hk1 .nil) (show 0<1 by decide) (show 1<=1000 by decide) (show 1<=1000000 by decide),?_⟩;rintro v O' ⟨rfl,n',el',hb,rfl⟩)
    |((refine⟨fun vs O _=>∃(k:Nat) (n':Nat) (el':Nat->List SV),k<=a.cs.length/\Byt ([(65+a.kind).toNat]++zxL a++zdg a.cs k) n' el'/\vs=[ai k]/\O=[.cells 76 [.ptr 0 0,.lst 3],.cells 27 (zfQ a),.dead,.list 5 1 n' el'],fun vs O=>match vs with |[.cv (.int _ k)]=>a.cs.length - k.toNat |_=>0,⟨0,_,_,Nat.zero_le _,?_,rfl,rfl⟩,?_⟩;rotate_left;rintro vs O _ ⟨k,n',el',hk,hb,rfl,rfl⟩;have hpk:=hcp _ hk;rcases k with _ |k;rotate_left))
    |((rw[zpv]))
    |intro _)
 all_goals try have hkk:(65+a.kind).toNat=65+a.kind.toNat:=by omega
 all_goals try have hC:=zlv (a:=a) (by assumption)
 all_goals try have hC:=zkJ (a:=a) (by assumption)
 all_goals try have hN:=zoG (s:=a.name) (by assumption)
 all_goals try have hN:=zol (s:=a.name) (by assumption)
 all_goals try have hB:=zr9 (a:=a) (by assumption)
 all_goals try have hB:=zrr (a:=a) (by assumption)
 all_goals first
  |rfl
  |omega
  |(simp only[zz]at *;omega)
  |(exfalso;(simp only[zz]at *;omega))
  |decide
  |exact Int.NonNeg.mk 1
  |exact Int.NonNeg.mk 0
  |exact hb.to (by rw[hB];simp[zdg])
  |exact⟨k+1+1,_,_,by(simp only[zz]at *;omega),hb.to (by rw[ze1 a.cs (k+1),if_neg (Nat.succ_ne_zero k)];simp),rfl,rfl⟩
  |exact⟨1,_,_,by(simp only[zz]at *;omega),hb.to (by rw[ze1 a.cs 0,if_pos rfl];simp),rfl,rfl⟩
  |exact⟨_,_,hb.to (by rw[zex,hC,hN,show a.cs.length=k+1 by(simp only[zz]at *;omega),<- hkk];simp),3,by decide,rfl,rfl⟩
  |exact⟨_,_,hb.to (by rw[zex,hC,hN,<- hkk];simp[zdg]),3,by decide,rfl,rfl⟩
theorem zy4(a:AtomM)(hk0:0<=a.kind/\a.kind<=25)(hu:0<=a.bound/\a.bound<=18446744073709551615)(hcl:a.cs.length<=1000)(hnl:a.name.length<=1000)(hcs:∀c∈a.cs,zot c):DSpec Tryz.prog axX axG 73 [.ptr 0 0,.agg (zfQ a)] B0 (fun v O=>v=.tup []/\∃n el,Byt (zex a) n el/\O=B1 n el):=zrZ (zt8 a hk0 hu hcl hnl hcs)
end Go.Proofs.YtogdglnaagkaaaaGreatDoor
