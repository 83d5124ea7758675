import Derived.Test.YtmgibblhcoimfaaDoorPc
set_option linter.unusedSimpArgs false
set_option linter.unusedVariables false
set_option maxRecDepth 100000
namespace Go.Proofs.YtmgibblhcoimfaaDoor
open Go Go.Cx
def zoy(c:CondM):Prop:=(1<=c.op/\c.op<=6) /\ -9223372036854775808<=c.val/\c.val<=9223372036854775807
theorem ze2(l:List CondM)(h:∀c∈l,zoy c):∀k,k<=l.length->(zcw l k).length<=23*k
 |0,_=>by simp[zcw]
 |k+1,hk=>by
  have ih:=ze2 l h k (by omega);have hc:=h _ (zal (l:=l) (k:=k) (by omega));have:=zex _ hc.2.1 hc.2.2;unfold zcw;cases k==0<;>simp only[ya1,ya7,yb2,cond_true,cond_false]at * <;> omega
theorem za2(a:AtomM):(zsZ a).length<=195:=by
 have:=zbH a.bound.toNat;unfold zsZ;cases a.bnd<;>simp only[cond_true,cond_false,ya7,yb2]<;>omega
theorem zpd(k:Nat):min ((k+1:Nat):Int) 1=1:=by omega
theorem zk1{a:AtomM}(h:decide ((a.cs.length:Int) > 0)=false):zcC a.cs=[]:=by
 have h:¬(a.cs.length:Int) > 0:=by simpa using h
 unfold zcC;rw[show decide (a.cs.length > 0)=false from decide_eq_false (by omega)];rfl
theorem zj4{a:AtomM}(h:decide ((a.cs.length:Int) > 0)=true):zcC a.cs=zcw a.cs a.cs.length++[93]:=by
 have h:(a.cs.length:Int) > 0:=by simpa using h
 unfold zcC;rw[show decide (a.cs.length > 0)=true from decide_eq_true (by omega)];rfl
theorem znV{s:List UInt8}(h:(!isE (nm s))=false):zhA s=[]:=by
 cases s with
 |nil=>rfl
 |cons b r=>cases h
theorem znJ{s:List UInt8}(h:(!isE (nm s))=true):zhA s=58::nm s:=by
 cases s with
 |nil=>cases h
 |cons b r=>rfl
theorem zrG{a:AtomM}(h:a.bnd=false):zsZ a=[]:=by unfold zsZ;rw[h];rfl
theorem zqJ{a:AtomM}(h:a.bnd=true):zsZ a=64::zmR a.bound.toNat:=by unfold zsZ;rw[h];rfl
theorem zeT(l:List CondM)(k:Nat):zcw l (k+1)=zcw l k++(if k=0 then[91] else[44])++zcf (l.getD k default):=by
 rw[zcw];cases k<;>rfl
theorem zc5{bs:List Nat}{n L:Nat}{el:Nat->List SV}(hb:Byt bs n el)(h:bs.length+L<=1000000):n+L<=1000000:=by
 rw[hb.1];exact h
set_option maxHeartbeats 4000000 in
theorem zqH{bs:List Nat}{n:Nat}{el:Nat->List SV}(hb:Byt bs n el)(hbl:bs.length<=900000)(a:AtomM)(hk0:0<=a.kind/\a.kind<=25)(hu:0<=a.bound/\a.bound<=18446744073709551615)(hcl:a.cs.length<=1000)(hnl:a.name.length<=1000)(hcs:∀c∈a.cs,zoy c):DSpec Tryd.prog axX axG 58 [.ptr 0 0,.agg (zfZ a)] (B1 n el) (fun v O=>v=.tup []/\∃n el,Byt (bs++za4 a) n el/\O=B1 n el):=by
 have hcp:=ze2 a.cs hcs;have hcc:∀k,k<a.cs.length->(zcf (a.cs.getD k default)).length<=22:=fun k h=>zex _ (hcs _ (zal h)).2.1 (hcs _ (zal h)).2.2
 have hk1:∀b∈[(65+a.kind).toNat],b<256:=by simp;omega
 refine zac { glb:=axG,ann:=[(5,[25])] } true Tryd.func58 (by kernel_rfl) rfl ?_
 repeat' (
   (conv=>whnf)
   first
    |exact zaf (by kernel_rfl)
    |refine And.intro ?_ ?_
    |refine zaa ?_ ?_
    |(refine⟨_,zko a.bound hu.1 hu.2,?_⟩;rintro v O' ⟨rfl,rfl⟩)
    |(refine⟨_,zaj hb [[64],zmR a.bound.toNat] (.cons (by decide) (.cons (zoL _) .nil)) (show 2<=1000 by decide) (zc5 hb (by have:=zbH a.bound.toNat;have:=za2 a;simp only[ya1,ya7,yb2,yb3,yb6,nm,yb7]at *;omega)),?_⟩;rintro v O' ⟨rfl,n',el',hb,rfl⟩)
    |(refine⟨_,zaj hb [[91]] (.cons (by decide) .nil) (show 1<=1000 by decide) (zc5 hb (by have:=zbH a.bound.toNat;have:=za2 a;simp only[ya1,ya7,yb2,yb3,yb6,nm,yb7]at *;omega)),?_⟩;rintro v O' ⟨rfl,n',el',hb,rfl⟩)
    |(refine⟨_,zaj hb [[44]] (.cons (by decide) .nil) (show 1<=1000 by decide) (zc5 hb (by have:=zbH a.bound.toNat;have:=za2 a;simp only[ya1,ya7,yb2,yb3,yb6,nm,yb7]at *;omega)),?_⟩;rintro v O' ⟨rfl,n',el',hb,rfl⟩)
    |(refine⟨_,zaj hb [[93]] (.cons (by decide) .nil) (show 1<=1000 by decide) (zc5 hb (by have:=zbH a.bound.toNat;have:=za2 a;simp only[ya1,ya7,yb2,yb3,yb6,nm,yb7]at *;omega)),?_⟩;rintro v O' ⟨rfl,n',el',hb,rfl⟩)
    |(refine⟨_,zaj hb [[58],nm a.name] (.cons (by decide) (.cons zvC .nil)) (show 2<=1000 by decide) (zc5 hb (by have:=zbH a.bound.toNat;have:=za2 a;simp only[ya1,ya7,yb2,yb3,yb6,nm,yb7]at *;omega)),?_⟩;rintro v O' ⟨rfl,n',el',hb,rfl⟩)
    |(refine⟨_,zkQ hb (a.cs.getD (k+1) default) (hcs _ (zal (show k+1<a.cs.length by(simp only[zz]at *;omega)))).1 (hcs _ (zal (show k+1<a.cs.length by(simp only[zz]at *;omega)))).2.1 (hcs _ (zal (show k+1<a.cs.length by(simp only[zz]at *;omega)))).2.2 (zc5 hb (by have:=hcc (k+1) (by(simp only[zz]at *;omega));have:=za2 a;simp only[ya1,ya7,yb2,yb3,yb6,nm,yb7]at *;omega)),?_⟩;rintro v O' ⟨rfl,n',el',hb,rfl⟩)
    |(refine⟨_,zkQ hb (a.cs.getD (0) default) (hcs _ (zal (show 0<a.cs.length by(simp only[zz]at *;omega)))).1 (hcs _ (zal (show 0<a.cs.length by(simp only[zz]at *;omega)))).2.1 (hcs _ (zal (show 0<a.cs.length by(simp only[zz]at *;omega)))).2.2 (zc5 hb (by have:=hcc (0) (by(simp only[zz]at *;omega));have:=za2 a;simp only[ya1,ya7,yb2,yb3,yb6,nm,yb7]at *;omega)),?_⟩;rintro v O' ⟨rfl,n',el',hb,rfl⟩)
    |(refine⟨_,zaj hb [[(65+a.kind).toNat]] (.cons hk1 .nil) (show 1<=1000 by decide) (zc5 hb (by have:=zbH a.bound.toNat;have:=za2 a;simp only[ya1,ya7,yb2,yb3,yb6,nm,yb7]at *;omega)),?_⟩;rintro v O' ⟨rfl,n',el',hb,rfl⟩)
    |((refine⟨fun vs O _=>∃(k:Nat) (n':Nat) (el':Nat->List SV),k<=a.cs.length/\Byt (bs++[(65+a.kind).toNat]++zsZ a++zcw a.cs k) n' el'/\vs=[ai k]/\O=[.cells 61 [.ptr 0 0,.lst 1],.list 5 1 n' el',.cells 25 (zfZ a)],fun vs O=>match vs with |[.cv (.int _ k)]=>a.cs.length - k.toNat |_=>0,⟨0,_,_,Nat.zero_le _,?_,rfl,rfl⟩,?_⟩;rotate_left;rintro vs O _ ⟨k,n',el',hk,hb,rfl,rfl⟩;have hpk:=hcp _ hk;rcases k with _ |k;rotate_left))
    |((rw[zpd]))
    |intro _)
 all_goals try have hkk:(65+a.kind).toNat=65+a.kind.toNat:=by omega
 all_goals try have hC:=zk1 (a:=a) (by assumption)
 all_goals try have hC:=zj4 (a:=a) (by assumption)
 all_goals try have hN:=znV (s:=a.name) (by assumption)
 all_goals try have hN:=znJ (s:=a.name) (by assumption)
 all_goals try have hB:=zrG (a:=a) (by assumption)
 all_goals try have hB:=zqJ (a:=a) (by assumption)
 all_goals first
  |rfl
  |omega
  |(simp only[zz]at *;omega)
  |(exfalso;(simp only[zz]at *;omega))
  |decide
  |exact Int.NonNeg.mk 1
  |exact Int.NonNeg.mk 0
  |exact hb.to (by rw[hB];simp[zcw])
  |exact⟨k+1+1,_,_,by(simp only[zz]at *;omega),hb.to (by rw[zeT a.cs (k+1),if_neg (Nat.succ_ne_zero k)];simp),rfl,rfl⟩
  |exact⟨1,_,_,by(simp only[zz]at *;omega),hb.to (by rw[zeT a.cs 0,if_pos rfl];simp),rfl,rfl⟩
  |exact⟨_,_,hb.to (by rw[za4,hC,hN,show a.cs.length=k+1 by(simp only[zz]at *;omega),<- hkk];simp),rfl⟩
  |exact⟨_,_,hb.to (by rw[za4,hC,hN,<- hkk];simp[zcw]),rfl⟩
set_option maxHeartbeats 4000000 in
theorem zvM(a:AtomM)(hk0:0<=a.kind/\a.kind<=25)(hu:0<=a.bound/\a.bound<=18446744073709551615)(hcl:a.cs.length<=1000)(hnl:a.name.length<=1000)(hcs:∀c∈a.cs,zoy c):DSpec Tryd.prog axX axG 58 [.ptr 0 0,.agg (zfZ a)] B0 (fun v O=>v=.tup []/\∃n el,Byt (za4 a) n el/\∃j,0<j/\O[0]? = some (.cells 61 [.ptr 0 0,.lst j])/\O[j]? = some (.list 5 1 n el)):=by
 have hcp:=ze2 a.cs hcs;have hcc:∀k,k<a.cs.length->(zcf (a.cs.getD k default)).length<=22:=fun k h=>zex _ (hcs _ (zal h)).2.1 (hcs _ (zal h)).2.2
 have hk1:∀b∈[(65+a.kind).toNat],b<256:=by simp;omega
 refine zac { glb:=axG,ann:=[(5,[25])] } true Tryd.func58 (by kernel_rfl) rfl ?_
 repeat' (
   (conv=>whnf)
   first
    |exact zaf (by kernel_rfl)
    |refine And.intro ?_ ?_
    |refine zaa ?_ ?_
    |(refine⟨_,zko a.bound hu.1 hu.2,?_⟩;rintro v O' ⟨rfl,rfl⟩)
    |(refine⟨_,zaj hb [[64],zmR a.bound.toNat] (.cons (by decide) (.cons (zoL _) .nil)) (show 2<=1000 by decide) (zc5 hb (by have:=zbH a.bound.toNat;have:=za2 a;simp only[ya1,ya7,yb2,yb3,yb6,nm,yb7]at *;omega)),?_⟩;rintro v O' ⟨rfl,n',el',hb,rfl⟩)
    |(refine⟨_,zaj hb [[91]] (.cons (by decide) .nil) (show 1<=1000 by decide) (zc5 hb (by have:=zbH a.bound.toNat;have:=za2 a;simp only[ya1,ya7,yb2,yb3,yb6,nm,yb7]at *;omega)),?_⟩;rintro v O' ⟨rfl,n',el',hb,rfl⟩)
    |(refine⟨_,zaj hb [[44]] (.cons (by decide) .nil) (show 1<=1000 by decide) (zc5 hb (by have:=zbH a.bound.toNat;have:=za2 a;simp only[ya1,ya7,yb2,yb3,yb6,nm,yb7]at *;omega)),?_⟩;rintro v O' ⟨rfl,n',el',hb,rfl⟩)
    |(refine⟨_,zaj hb [[93]] (.cons (by decide) .nil) (show 1<=1000 by decide) (zc5 hb (by have:=zbH a.bound.toNat;have:=za2 a;simp only[ya1,ya7,yb2,yb3,yb6,nm,yb7]at *;omega)),?_⟩;rintro v O' ⟨rfl,n',el',hb,rfl⟩)
    |(refine⟨_,zaj hb [[58],nm a.name] (.cons (by decide) (.cons zvC .nil)) (show 2<=1000 by decide) (zc5 hb (by have:=zbH a.bound.toNat;have:=za2 a;simp only[ya1,ya7,yb2,yb3,yb6,nm,yb7]at *;omega)),?_⟩;rintro v O' ⟨rfl,n',el',hb,rfl⟩)
    |(refine⟨_,zkQ hb (a.cs.getD (k+1) default) (hcs _ (zal (show k+1<a.cs.length by(simp only[zz]at *;omega)))).1 (hcs _ (zal (show k+1<a.cs.length by(simp only[zz]at *;omega)))).2.1 (hcs _ (zal (show k+1<a.cs.length by(simp only[zz]at *;omega)))).2.2 (zc5 hb (by have:=hcc (k+1) (by(simp only[zz]at *;omega));have:=za2 a;simp only[ya1,ya7,yb2,yb3,yb6,nm,yb7]at *;omega)),?_⟩;rintro v O' ⟨rfl,n',el',hb,rfl⟩)
    |(refine⟨_,zkQ hb (a.cs.getD (0) default) (hcs _ (zal (show 0<a.cs.length by(simp only[zz]at *;omega)))).1 (hcs _ (zal (show 0<a.cs.length by(simp only[zz]at *;omega)))).2.1 (hcs _ (zal (show 0<a.cs.length by(simp only[zz]at *;omega)))).2.2 (zc5 hb (by have:=hcc (0) (by(simp only[zz]at *;omega));have:=za2 a;simp only[ya1,ya7,yb2,yb3,yb6,nm,yb7]at *;omega)),?_⟩;rintro v O' ⟨rfl,n',el',hb,rfl⟩)
    |(refine⟨_,zpo [[(65+a.kind).toNat]] (.cons hk1 .nil) (show 0<1 by decide) (show 1<=1000 by decide) (show 1<=1000000 by decide),?_⟩;rintro v O' ⟨rfl,n',el',hb,rfl⟩)
    |((refine⟨fun vs O _=>∃(k:Nat) (n':Nat) (el':Nat->List SV),k<=a.cs.length/\Byt ([(65+a.kind).toNat]++zsZ a++zcw a.cs k) n' el'/\vs=[ai k]/\O=[.cells 61 [.ptr 0 0,.lst 3],.cells 25 (zfZ a),.dead,.list 5 1 n' el'],fun vs O=>match vs with |[.cv (.int _ k)]=>a.cs.length - k.toNat |_=>0,⟨0,_,_,Nat.zero_le _,?_,rfl,rfl⟩,?_⟩;rotate_left;rintro vs O _ ⟨k,n',el',hk,hb,rfl,rfl⟩;have hpk:=hcp _ hk;rcases k with _ |k;rotate_left))
    |((rw[zpd]))
    |intro _)
 all_goals try have hkk:(65+a.kind).toNat=65+a.kind.toNat:=by omega
 all_goals try have hC:=zk1 (a:=a) (by assumption)
 all_goals try have hC:=zj4 (a:=a) (by assumption)
 all_goals try have hN:=znV (s:=a.name) (by assumption)
 all_goals try have hN:=znJ (s:=a.name) (by assumption)
 all_goals try have hB:=zrG (a:=a) (by assumption)
 all_goals try have hB:=zqJ (a:=a) (by assumption)
 all_goals first
  |rfl
  |omega
  |(simp only[zz]at *;omega)
  |(exfalso;(simp only[zz]at *;omega))
  |decide
  |exact Int.NonNeg.mk 1
  |exact Int.NonNeg.mk 0
  |exact hb.to (by rw[hB];simp[zcw])
  |exact⟨k+1+1,_,_,by(simp only[zz]at *;omega),hb.to (by rw[zeT a.cs (k+1),if_neg (Nat.succ_ne_zero k)];simp),rfl,rfl⟩
  |exact⟨1,_,_,by(simp only[zz]at *;omega),hb.to (by rw[zeT a.cs 0,if_pos rfl];simp),rfl,rfl⟩
  |exact⟨_,_,hb.to (by rw[za4,hC,hN,show a.cs.length=k+1 by(simp only[zz]at *;omega),<- hkk];simp),3,by decide,rfl,rfl⟩
  |exact⟨_,_,hb.to (by rw[za4,hC,hN,<- hkk];simp[zcw]),3,by decide,rfl,rfl⟩
theorem zwE(a:AtomM)(hk0:0<=a.kind/\a.kind<=25)(hu:0<=a.bound/\a.bound<=18446744073709551615)(hcl:a.cs.length<=1000)(hnl:a.name.length<=1000)(hcs:∀c∈a.cs,zoy c):DSpec Tryd.prog axX axG 58 [.ptr 0 0,.agg (zfZ a)] B0 (fun v O=>v=.tup []/\∃n el,Byt (za4 a) n el/\O=B1 n el):=zro (zvM a hk0 hu hcl hnl hcs)
end Go.Proofs.YtmgibblhcoimfaaDoor
