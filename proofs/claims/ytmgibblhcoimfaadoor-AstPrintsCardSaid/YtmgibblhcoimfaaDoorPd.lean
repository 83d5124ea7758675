import Derived.Test.YtmgibblhcoimfaaDoorPc
set_option linter.unusedSimpArgs false
set_option linter.unusedVariables false
set_option maxRecDepth 100000
namespace Go.Proofs.YtmgibblhcoimfaaDoor
open Go Go.Cx
def zmB(c:CondM):Prop:=(1<=c.op/\c.op<=6) /\ -9223372036854775808<=c.val/\c.val<=9223372036854775807
theorem zdy(l:List CondM)(h:∀c∈l,zmB c):∀k,k<=l.length->(zbm l k).length<=23*k
 |0,_=>by simp[zbm]
 |k+1,hk=>by
  have ih:=zdy l h k (by omega);have hc:=h _ (zah (l:=l) (k:=k) (by omega));have:=zct _ hc.2.1 hc.2.2;unfold zbm;cases k==0<;>simp only[ya1,ya7,yb2,cond_true,cond_false]at * <;> omega
theorem za2(a:AtomM):(zo0 a).length<=195:=by
 have:=zbv a.bound.toNat;unfold zo0;cases a.bnd<;>simp only[cond_true,cond_false,ya7,yb2]<;>omega
theorem zn9(k:Nat):min ((k+1:Nat):Int) 1=1:=by omega
theorem zgZ{a:AtomM}(h:decide ((a.cs.length:Int) > 0)=false):zh1 a.cs=[]:=by
 have h:¬(a.cs.length:Int) > 0:=by simpa using h
 unfold zh1;rw[show decide (a.cs.length > 0)=false from decide_eq_false (by omega)];rfl
theorem zgJ{a:AtomM}(h:decide ((a.cs.length:Int) > 0)=true):zh1 a.cs=zbm a.cs a.cs.length++[93]:=by
 have h:(a.cs.length:Int) > 0:=by simpa using h
 unfold zh1;rw[show decide (a.cs.length > 0)=true from decide_eq_true (by omega)];rfl
theorem zh8{s:List UInt8}(h:(!isE (nm s))=false):ztS s=[]:=by
 cases s with
 |nil=>rfl
 |cons b r=>cases h
theorem zhV{s:List UInt8}(h:(!isE (nm s))=true):ztS s=58::nm s:=by
 cases s with
 |nil=>cases h
 |cons b r=>rfl
theorem zlf{a:AtomM}(h:a.bnd=false):zo0 a=[]:=by unfold zo0;rw[h];rfl
theorem zlo{a:AtomM}(h:a.bnd=true):zo0 a=64::zpg a.bound.toNat:=by unfold zo0;rw[h];rfl
theorem zcE(l:List CondM)(k:Nat):zbm l (k+1)=zbm l k++(if k=0 then[91] else[44])++zdz (l.getD k default):=by
 rw[zbm];cases k<;>rfl
theorem zc4{bs:List Nat}{n L:Nat}{el:Nat->List SV}(hb:Byt bs n el)(h:bs.length+L<=1000000):n+L<=1000000:=by
 rw[hb.1];exact h
set_option maxHeartbeats 4000000 in
theorem zpL{bs:List Nat}{n:Nat}{el:Nat->List SV}(hb:Byt bs n el)(hbl:bs.length<=900000)(a:AtomM)(hk0:0<=a.kind/\a.kind<=25)(hu:0<=a.bound/\a.bound<=18446744073709551615)(hcl:a.cs.length<=1000)(hnl:a.name.length<=1000)(hcs:∀c∈a.cs,zmB c):DSpec Tryd.prog axX axG 58 [.ptr 0 0,.agg (zfR a)] (B1 n el) (fun v O=>v=.tup []/\∃n el,Byt (bs++zcq a) n el/\O=B1 n el):=by
 have hcp:=zdy a.cs hcs;have hcc:∀k,k<a.cs.length->(zdz (a.cs.getD k default)).length<=22:=fun k h=>zct _ (hcs _ (zah h)).2.1 (hcs _ (zah h)).2.2
 have hk1:∀b∈[(65+a.kind).toNat],b<256:=by simp;omega
 refine zac { glb:=axG,ann:=[(5,[25])] } true Tryd.func58 (by kernel_rfl) rfl ?_
 repeat' (
   (conv=>whnf)
   first
    |exact zad (by kernel_rfl)
    |refine And.intro ?_ ?_
    |refine zaa ?_ ?_
    |(refine⟨_,zjV a.bound hu.1 hu.2,?_⟩;rintro v O' ⟨rfl,rfl⟩)
    |(refine⟨_,zak hb [[64],zpg a.bound.toNat] (.cons (by decide) (.cons (zuy _) .nil)) (show 2<=1000 by decide) (zc4 hb (by have:=zbv a.bound.toNat;have:=za2 a;simp only[ya1,ya7,yb2,yb3,yb6,nm,yb7]at *;omega)),?_⟩;rintro v O' ⟨rfl,n',el',hb,rfl⟩)
    |(refine⟨_,zak hb [[91]] (.cons (by decide) .nil) (show 1<=1000 by decide) (zc4 hb (by have:=zbv a.bound.toNat;have:=za2 a;simp only[ya1,ya7,yb2,yb3,yb6,nm,yb7]at *;omega)),?_⟩;rintro v O' ⟨rfl,n',el',hb,rfl⟩)
    |(refine⟨_,zak hb [[44]] (.cons (by decide) .nil) (show 1<=1000 by decide) (zc4 hb (by have:=zbv a.bound.toNat;have:=za2 a;simp only[ya1,ya7,yb2,yb3,yb6,nm,yb7]at *;omega)),?_⟩;rintro v O' ⟨rfl,n',el',hb,rfl⟩)
    |(refine⟨_,zak hb [[93]] (.cons (by decide) .nil) (show 1<=1000 by decide) (zc4 hb (by have:=zbv a.bound.toNat;have:=za2 a;simp only[ya1,ya7,yb2,yb3,yb6,nm,yb7]at *;omega)),?_⟩;rintro v O' ⟨rfl,n',el',hb,rfl⟩)
    |(refine⟨_,zak hb [[58],nm a.name] (.cons (by decide) (.cons zxY .nil)) (show 2<=1000 by decide) (zc4 hb (by have:=zbv a.bound.toNat;have:=za2 a;simp only[ya1,ya7,yb2,yb3,yb6,nm,yb7]at *;omega)),?_⟩;rintro v O' ⟨rfl,n',el',hb,rfl⟩)
    |(refine⟨_,zkp hb (a.cs.getD (k+1) default) (hcs _ (zah (show k+1<a.cs.length by(simp only[zz]at *;omega)))).1 (hcs _ (zah (show k+1<a.cs.length by(simp only[zz]at *;omega)))).2.1 (hcs _ (zah (show k+1<a.cs.length by(simp only[zz]at *;omega)))).2.2 (zc4 hb (by have:=hcc (k+1) (by(simp only[zz]at *;omega));have:=za2 a;simp only[ya1,ya7,yb2,yb3,yb6,nm,yb7]at *;omega)),?_⟩;rintro v O' ⟨rfl,n',el',hb,rfl⟩)
    |(refine⟨_,zkp hb (a.cs.getD (0) default) (hcs _ (zah (show 0<a.cs.length by(simp only[zz]at *;omega)))).1 (hcs _ (zah (show 0<a.cs.length by(simp only[zz]at *;omega)))).2.1 (hcs _ (zah (show 0<a.cs.length by(simp only[zz]at *;omega)))).2.2 (zc4 hb (by have:=hcc (0) (by(simp only[zz]at *;omega));have:=za2 a;simp only[ya1,ya7,yb2,yb3,yb6,nm,yb7]at *;omega)),?_⟩;rintro v O' ⟨rfl,n',el',hb,rfl⟩)
    |(refine⟨_,zak hb [[(65+a.kind).toNat]] (.cons hk1 .nil) (show 1<=1000 by decide) (zc4 hb (by have:=zbv a.bound.toNat;have:=za2 a;simp only[ya1,ya7,yb2,yb3,yb6,nm,yb7]at *;omega)),?_⟩;rintro v O' ⟨rfl,n',el',hb,rfl⟩)
    |((refine⟨fun vs O _=>∃(k:Nat) (n':Nat) (el':Nat->List SV),k<=a.cs.length/\Byt (bs++[(65+a.kind).toNat]++zo0 a++zbm a.cs k) n' el'/\vs=[ai k]/\O=[.cells 61 [.ptr 0 0,.lst 1],.list 5 1 n' el',.cells 25 (zfR a)],fun vs O=>match vs with |[.cv (.int _ k)]=>a.cs.length - k.toNat |_=>0,⟨0,_,_,Nat.zero_le _,?_,rfl,rfl⟩,?_⟩;rotate_left;rintro vs O _ ⟨k,n',el',hk,hb,rfl,rfl⟩;have hpk:=hcp _ hk;rcases k with _ |k;rotate_left))
    |((rw[zn9]))
    |intro _)
 all_goals try have hkk:(65+a.kind).toNat=65+a.kind.toNat:=by omega
 all_goals try have hC:=zgZ (a:=a) (by assumption)
 all_goals try have hC:=zgJ (a:=a) (by assumption)
 all_goals try have hN:=zh8 (s:=a.name) (by assumption)
 all_goals try have hN:=zhV (s:=a.name) (by assumption)
 all_goals try have hB:=zlf (a:=a) (by assumption)
 all_goals try have hB:=zlo (a:=a) (by assumption)
 all_goals first
  |rfl
  |omega
  |(simp only[zz]at *;omega)
  |(exfalso;(simp only[zz]at *;omega))
  |decide
  |exact Int.NonNeg.mk 1
  |exact Int.NonNeg.mk 0
  |exact hb.to (by rw[hB];simp[zbm])
  |exact⟨k+1+1,_,_,by(simp only[zz]at *;omega),hb.to (by rw[zcE a.cs (k+1),if_neg (Nat.succ_ne_zero k)];simp),rfl,rfl⟩
  |exact⟨1,_,_,by(simp only[zz]at *;omega),hb.to (by rw[zcE a.cs 0,if_pos rfl];simp),rfl,rfl⟩
  |exact⟨_,_,hb.to (by rw[zcq,hC,hN,show a.cs.length=k+1 by(simp only[zz]at *;omega),<- hkk];simp),rfl⟩
  |exact⟨_,_,hb.to (by rw[zcq,hC,hN,<- hkk];simp[zbm]),rfl⟩
set_option maxHeartbeats 4000000 in
theorem zuf(a:AtomM)(hk0:0<=a.kind/\a.kind<=25)(hu:0<=a.bound/\a.bound<=18446744073709551615)(hcl:a.cs.length<=1000)(hnl:a.name.length<=1000)(hcs:∀c∈a.cs,zmB c):DSpec Tryd.prog axX axG 58 [.ptr 0 0,.agg (zfR a)] B0 (fun v O=>v=.tup []/\∃n el,Byt (zcq a) n el/\∃j,0<j/\O[0]? = some (.cells 61 [.ptr 0 0,.lst j])/\O[j]? = some (.list 5 1 n el)):=by
 have hcp:=zdy a.cs hcs;have hcc:∀k,k<a.cs.length->(zdz (a.cs.getD k default)).length<=22:=fun k h=>zct _ (hcs _ (zah h)).2.1 (hcs _ (zah h)).2.2
 have hk1:∀b∈[(65+a.kind).toNat],b<256:=by simp;omega
 refine zac { glb:=axG,ann:=[(5,[25])] } true Tryd.func58 (by kernel_rfl) rfl ?_
 repeat' (
   (conv=>whnf)
   first
    |exact zad (by kernel_rfl)
    |refine And.intro ?_ ?_
    |refine zaa ?_ ?_
    |(refine⟨_,zjV a.bound hu.1 hu.2,?_⟩;rintro v O' ⟨rfl,rfl⟩)
    |(refine⟨_,zak hb [[64],zpg a.bound.toNat] (.cons (by decide) (.cons (zuy _) .nil)) (show 2<=1000 by decide) (zc4 hb (by have:=zbv a.bound.toNat;have:=za2 a;simp only[ya1,ya7,yb2,yb3,yb6,nm,yb7]at *;omega)),?_⟩;rintro v O' ⟨rfl,n',el',hb,rfl⟩)
    |(refine⟨_,zak hb [[91]] (.cons (by decide) .nil) (show 1<=1000 by decide) (zc4 hb (by have:=zbv a.bound.toNat;have:=za2 a;simp only[ya1,ya7,yb2,yb3,yb6,nm,yb7]at *;omega)),?_⟩;rintro v O' ⟨rfl,n',el',hb,rfl⟩)
    |(refine⟨_,zak hb [[44]] (.cons (by decide) .nil) (show 1<=1000 by decide) (zc4 hb (by have:=zbv a.bound.toNat;have:=za2 a;simp only[ya1,ya7,yb2,yb3,yb6,nm,yb7]at *;omega)),?_⟩;rintro v O' ⟨rfl,n',el',hb,rfl⟩)
    |(refine⟨_,zak hb [[93]] (.cons (by decide) .nil) (show 1<=1000 by decide) (zc4 hb (by have:=zbv a.bound.toNat;have:=za2 a;simp only[ya1,ya7,yb2,yb3,yb6,nm,yb7]at *;omega)),?_⟩;rintro v O' ⟨rfl,n',el',hb,rfl⟩)
    |(refine⟨_,zak hb [[58],nm a.name] (.cons (by decide) (.cons zxY .nil)) (show 2<=1000 by decide) (zc4 hb (by have:=zbv a.bound.toNat;have:=za2 a;simp only[ya1,ya7,yb2,yb3,yb6,nm,yb7]at *;omega)),?_⟩;rintro v O' ⟨rfl,n',el',hb,rfl⟩)
    |(refine⟨_,zkp hb (a.cs.getD (k+1) default) (hcs _ (zah (show k+1<a.cs.length by(simp only[zz]at *;omega)))).1 (hcs _ (zah (show k+1<a.cs.length by(simp only[zz]at *;omega)))).2.1 (hcs _ (zah (show k+1<a.cs.length by(simp only[zz]at *;omega)))).2.2 (zc4 hb (by have:=hcc (k+1) (by(simp only[zz]at *;omega));have:=za2 a;simp only[ya1,ya7,yb2,yb3,yb6,nm,yb7]at *;omega)),?_⟩;rintro v O' ⟨rfl,n',el',hb,rfl⟩)
    |(refine⟨_,zkp hb (a.cs.getD (0) default) (hcs _ (zah (show 0<a.cs.length by(simp only[zz]at *;omega)))).1 (hcs _ (zah (show 0<a.cs.length by(simp only[zz]at *;omega)))).2.1 (hcs _ (zah (show 0<a.cs.length by(simp only[zz]at *;omega)))).2.2 (zc4 hb (by have:=hcc (0) (by(simp only[zz]at *;omega));have:=za2 a;simp only[ya1,ya7,yb2,yb3,yb6,nm,yb7]at *;omega)),?_⟩;rintro v O' ⟨rfl,n',el',hb,rfl⟩)
    |(refine⟨_,zn5 [[(65+a.kind).toNat]] (.cons hk1 .nil) (show 0<1 by decide) (show 1<=1000 by decide) (show 1<=1000000 by decide),?_⟩;rintro v O' ⟨rfl,n',el',hb,rfl⟩)
    |((refine⟨fun vs O _=>∃(k:Nat) (n':Nat) (el':Nat->List SV),k<=a.cs.length/\Byt ([(65+a.kind).toNat]++zo0 a++zbm a.cs k) n' el'/\vs=[ai k]/\O=[.cells 61 [.ptr 0 0,.lst 3],.cells 25 (zfR a),.dead,.list 5 1 n' el'],fun vs O=>match vs with |[.cv (.int _ k)]=>a.cs.length - k.toNat |_=>0,⟨0,_,_,Nat.zero_le _,?_,rfl,rfl⟩,?_⟩;rotate_left;rintro vs O _ ⟨k,n',el',hk,hb,rfl,rfl⟩;have hpk:=hcp _ hk;rcases k with _ |k;rotate_left))
    |((rw[zn9]))
    |intro _)
 all_goals try have hkk:(65+a.kind).toNat=65+a.kind.toNat:=by omega
 all_goals try have hC:=zgZ (a:=a) (by assumption)
 all_goals try have hC:=zgJ (a:=a) (by assumption)
 all_goals try have hN:=zh8 (s:=a.name) (by assumption)
 all_goals try have hN:=zhV (s:=a.name) (by assumption)
 all_goals try have hB:=zlf (a:=a) (by assumption)
 all_goals try have hB:=zlo (a:=a) (by assumption)
 all_goals first
  |rfl
  |omega
  |(simp only[zz]at *;omega)
  |(exfalso;(simp only[zz]at *;omega))
  |decide
  |exact Int.NonNeg.mk 1
  |exact Int.NonNeg.mk 0
  |exact hb.to (by rw[hB];simp[zbm])
  |exact⟨k+1+1,_,_,by(simp only[zz]at *;omega),hb.to (by rw[zcE a.cs (k+1),if_neg (Nat.succ_ne_zero k)];simp),rfl,rfl⟩
  |exact⟨1,_,_,by(simp only[zz]at *;omega),hb.to (by rw[zcE a.cs 0,if_pos rfl];simp),rfl,rfl⟩
  |exact⟨_,_,hb.to (by rw[zcq,hC,hN,show a.cs.length=k+1 by(simp only[zz]at *;omega),<- hkk];simp),3,by decide,rfl,rfl⟩
  |exact⟨_,_,hb.to (by rw[zcq,hC,hN,<- hkk];simp[zbm]),3,by decide,rfl,rfl⟩
theorem zvn(a:AtomM)(hk0:0<=a.kind/\a.kind<=25)(hu:0<=a.bound/\a.bound<=18446744073709551615)(hcl:a.cs.length<=1000)(hnl:a.name.length<=1000)(hcs:∀c∈a.cs,zmB c):DSpec Tryd.prog axX axG 58 [.ptr 0 0,.agg (zfR a)] B0 (fun v O=>v=.tup []/\∃n el,Byt (zcq a) n el/\O=B1 n el):=zqi (zuf a hk0 hu hcl hnl hcs)
end Go.Proofs.YtmgibblhcoimfaaDoor
