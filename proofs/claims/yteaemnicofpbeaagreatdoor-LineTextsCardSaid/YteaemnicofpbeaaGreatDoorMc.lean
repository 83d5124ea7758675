import Derived.Test.YteaemnicofpbeaaGreatDoorMb
set_option linter.unusedSimpArgs false
set_option linter.unusedVariables false
set_option maxRecDepth 100000
namespace Go.Proofs.YteaemnicofpbeaaGreatDoor
open Go Go.Cx
section
variable{l:List SlotM}{n:Int}
theorem zn9(h:((l.length:Int)==0)=true):ai 3=ai (zbW l n):=by unfold zbW;rw[h];rfl
theorem zok(h:((l.length:Int)==0)=false)(h2:decide (((l.getD 0 default).gs.length:Int) > 0)=true):ai 3=ai (zbW l n):=by unfold zbW;rw[h,h2];rfl
theorem zoJ(h:((l.length:Int)==0)=false)(h2:decide (((l.getD 0 default).gs.length:Int) > 0)=false)(h3:decide (n<0)=true):ai 2=ai (zbW l n):=by unfold zbW;rw[h,h2,h3];rfl
theorem znL(h:((l.length:Int)==0)=false)(h2:decide (((l.getD 0 default).gs.length:Int) > 0)=false)(h3:decide (n<0)=false)(h4:decide (n > 12)=true):ai 2=ai (zbW l n):=by unfold zbW;rw[h,h2,h3,h4];rfl
theorem zgM{A:Type}[Inhabited A]{l:List A}{p:A->Bool}{k:Nat}(hk:l.length<=k)(hj:∀j,j<k->p (l.getD j default)=false):l.any p=false:=by
 rw[Bool.eq_false_iff,Ne,List.any_eq_true];rintro⟨x,hx,hp⟩;obtain⟨i,hi,rfl⟩:=List.mem_iff_getElem.1 hx;have:=hj i (by omega);rw[ya8,yb5 hi]at this;simp only[Option.getD_some]at this;rw[this]at hp;cases hp
theorem zjD{A:Type}[Inhabited A]{l:List A}{p:A->Bool}{k:Nat}(hk:k<l.length)(h:p (l.getD k default)=true):l.any p=true:=by
 rw[List.any_eq_true];exact⟨_,zm2 hk,h⟩
variable(h:((l.length:Int)==0)=false)(h2:decide (((l.getD 0 default).gs.length:Int) > 0)=false)(h3:decide (n<0)=false)(h4:decide (n > 12)=false)
include h h2 h3 h4
theorem zde{k:Nat}(hk:k<l.length)(h5:zaZ n (l.getD k default)=true):ai 2=ai (zbW l n):=by
 unfold zbW;rw[h,h2,h3,h4,zjD hk h5];rfl
theorem zi9{a:Nat}(ha:l.length<=a)(h5:∀j,j<a->zaZ n (l.getD j default)=false){k:Nat}(hk:k<l.length)(h6:zdO (l.getD k default)=true):ai 3=ai (zbW l n):=by
 unfold zbW;rw[h,h2,h3,h4,zgM ha h5,zjD hk h6];rfl
theorem zox{a b:Nat}(ha:l.length<=a)(h5:∀j,j<a->zaZ n (l.getD j default)=false)(hb:l.length<=b)(h6:∀j,j<b->zdO (l.getD j default)=false):ai 0=ai (zbW l n):=by
 unfold zbW;rw[h,h2,h3,h4,zgM ha h5,zgM hb h6];rfl
end
theorem zqT{s:SlotM}{i:Nat}(h1:1<=i)(hi:i<s.gs.length)(h:decide (s.gs.getD i 0<=s.gs.getD (i - 1) 0)=true):zdO s=true:=by
 unfold zdO;rw[List.any_eq_true];refine⟨i - 1,List.mem_range.2 (by omega),?_⟩;unfold zm8;rw[show i - 1+1=i by omega];exact h
theorem znN{s:SlotM}{i:Nat}(h1:1<=i)(h0:∀j,j+1<i->zm8 s.gs j=false)(h:decide (s.gs.getD i 0<=s.gs.getD (i - 1) 0)=false):∀j,j+1<i+1->zm8 s.gs j=false:=fun j hj=>by
 by_cases hq:j+1<i
 ·exact h0 j hq
 ·obtain rfl:i=j+1:=by omega
  exact h
theorem zt0{s:SlotM}{i:Nat}(hi:s.gs.length<=i)(h:∀j,j+1<i->zm8 s.gs j=false):zdO s=false:=by
 unfold zdO;rw[Bool.eq_false_iff,Ne,List.any_eq_true];rintro⟨x,hx,hp⟩;have:=List.mem_range.1 hx;rw[h x (by omega)]at hp;cases hp
theorem zne{n:Int}{s:SlotM}(h:zen n s.atom=true):zaZ n s=true:=by unfold zaZ;rw[h];rfl
theorem zvE{n:Int}{s:SlotM}(h:zen n s.atom=false)(h2:s.gs.any (zen n)=true):zaZ n s=true:=by unfold zaZ;rw[h,h2];rfl
theorem zt6{n:Int}{s:SlotM}(h:zen n s.atom=false)(h2:s.gs.any (zen n)=false):zaZ n s=false:=by unfold zaZ;rw[h,h2];rfl
theorem zgS{i:Nat}(h:1<=i):((i:Int) - 1).toNat=i - 1:=by omega
set_option maxHeartbeats 4000000 in
theorem znO(l:List SlotM)(hl:Lgt l)(n:Int):DSpec Tryz.prog axX axG 9 [.agg (zbo l),ai n] [] (fun v O=>v=ai (zbW l n)/\O=[]):=by
 have h30:=hl.1;refine zaw { glb:=axG,ann:=[(7,[34]),(13,[52]),(16,[10])] } true Tryz.func9 (by kernel_rfl) rfl ?_
 repeat' (
   (conv=>whnf)
   first
    |exact zaI (by kernel_rfl)
    |refine And.intro ?_ ?_
    |refine zae ?_ ?_
    |(refine⟨_,zl4 n _,?_⟩;rintro v O' ⟨rfl,rfl⟩)
    |(refine⟨_,zsQ (l.getD k default).gs n (Nat.le_trans (hl.2 k (by(simp only[zz]at *;omega))) (by decide)),?_⟩;rintro v O' ⟨rfl,rfl⟩)
    |((have:=hj2;refine⟨fun vs O _=>∃i:Nat,1<=i/\(∀j,j+1<i->zm8 (l.getD k2 default).gs j=false)/\vs=[ai i]/\O=[.cells 24 (zbo l),.cells 3 [ai n],.cells 38 (ziw (l.getD k2 default))],fun vs O=>match vs with |[.cv (.int _ i)]=>(l.getD k2 default).gs.length - i.toNat |_=>0,⟨1,Nat.le_refl _,fun j h=>absurd h (by omega),rfl,rfl⟩,?_⟩;rintro vs O _ ⟨i,hi,hj3,rfl,rfl⟩))
    |((have:=hj1;refine⟨fun vs O _=>∃k:Nat,k<=l.length/\(∀j,j<k->zdO (l.getD j default)=false)/\vs=[ai k]/\O=[.cells 24 (zbo l),.cells 3 [ai n]],fun vs O=>match vs with |[.cv (.int _ k)]=>l.length - k.toNat |_=>0,⟨0,Nat.zero_le _,fun j h=>absurd h (by omega),rfl,rfl⟩,?_⟩;rintro vs O _ ⟨k2,hk2,hj2,rfl,rfl⟩))
    |((refine⟨fun vs O _=>∃k:Nat,k<=l.length/\(∀j,j<k->zaZ n (l.getD j default)=false)/\vs=[ai k]/\O=[.cells 24 (zbo l),.cells 3 [ai n]],fun vs O=>match vs with |[.cv (.int _ k)]=>l.length - k.toNat |_=>0,⟨0,Nat.zero_le _,fun j h=>absurd h (by omega),rfl,rfl⟩,?_⟩;rintro vs O _ ⟨k,hk,hj1,rfl,rfl⟩))
    |intro _)
 all_goals try have hg20:=hl.2 k2 (by(simp only[zz]at *;omega))
 all_goals first
  |rfl
  |omega
  |(simp only[zz]at *;omega)
  |exact zn9 (by assumption)
  |exact zok (by assumption) (by assumption)
  |exact zoJ (by assumption) (by assumption) (by assumption)
  |exact znL (by assumption) (by assumption) (by assumption) (by assumption)
  |exact zde (by assumption) (by assumption) (by assumption) (by assumption) (k:=k) (by(simp only[zz]at *;omega)) (zne (by assumption))
  |exact zde (by assumption) (by assumption) (by assumption) (by assumption) (k:=k) (by(simp only[zz]at *;omega)) (zvE (by assumption) (by assumption))
  |exact⟨k+1,by(simp only[zz]at *;omega),zhQ (p:=fun j=>zaZ n (l.getD j default)) hj1 (zt6 (by assumption) (by assumption)),rfl,rfl⟩
  |exact zox (by assumption) (by assumption) (by assumption) (by assumption) (a:=k) (by(simp only[zz]at *;omega)) hj1 (b:=k2) (by(simp only[zz]at *;omega)) hj2
  |exact⟨k2+1,by(simp only[zz]at *;omega),zhQ (p:=fun j=>zdO (l.getD j default)) hj2 (zt0 (i:=i) (by(simp only[zz]at *;omega)) hj3),rfl,rfl⟩
  |(rename_i hz;rw[zgS hi]at hz;exact zi9 (by assumption) (by assumption) (by assumption) (by assumption) (a:=k) (by(simp only[zz]at *;omega)) hj1 (k:=k2) (by(simp only[zz]at *;omega)) (zqT hi (by(simp only[zz]at *;omega)) hz))
  |(rename_i hz;rw[zgS hi]at hz;exact⟨i+1,by omega,znN hi hj3 hz,rfl,rfl⟩)
theorem zut{n x:Int}(h1:decide (x<0)=false)(h2:decide (x>=n)=false):zen n x=false:=by unfold zen;rw[h1,h2];rfl
theorem zt8{n x:Int}(h1:decide (x<0)=true):zen n x=true:=by unfold zen;rw[h1];rfl
theorem zt9{n x:Int}(h2:decide (x>=n)=true):zen n x=true:=by unfold zen;rw[h2,Bool.or_true]
theorem zq9{n:Int}{g:List Int}{i:Nat}(hi:i<g.length)(h:zen n (g.getD i 0)=true):g.any (zen n)=true:=zjD (l:=g) (p:=zen n) hi h
theorem zvC{n:Int}{g:List Int}{i:Nat}(hi:g.length<=i)(h:∀j,j<i->zen n (g.getD j 0)=false):g.any (zen n)=false:=zgM (l:=g) (p:=zen n) hi h
theorem zqE{n:Int}{s:SlotM}(h:s.gs.any (zen n)=true):zaZ n s=true:=by unfold zaZ;rw[h,Bool.or_true]
set_option maxHeartbeats 4000000 in
theorem zlw(l:List SlotM)(hl:Lgt l)(n:Int):DSpec Tryz.prog axX axG 10 [.agg (zbo l),ai n] [] (fun v O=>v=ai (zbW l n)/\O=[]):=by
 have h30:=hl.1;refine zaw { glb:=axG,ann:=[(6,[5]),(12,[7]),(17,[8]),(21,[10])] } true Tryz.func10 (by kernel_rfl) rfl ?_
 repeat' (
   (conv=>whnf)
   first
    |exact zaI (by kernel_rfl)
    |refine And.intro ?_ ?_
    |refine zae ?_ ?_
    |((have:=hj2;refine⟨fun vs O _=>∃i:Nat,1<=i/\(∀j,j+1<i->zm8 (l.getD k2 default).gs j=false)/\vs=[ai i]/\O=[.cells 24 (zbo l)],fun vs O=>match vs with |[.cv (.int _ i)]=>(l.getD k2 default).gs.length - i.toNat |_=>0,⟨1,Nat.le_refl _,fun j h=>absurd h (by omega),rfl,rfl⟩,?_⟩;rintro vs O _ ⟨i,hi,hj3,rfl,rfl⟩))
    |((have:=hj1;refine⟨fun vs O _=>∃k:Nat,k<=l.length/\(∀j,j<k->zdO (l.getD j default)=false)/\vs=[ai k]/\O=[.cells 24 (zbo l)],fun vs O=>match vs with |[.cv (.int _ k)]=>l.length - k.toNat |_=>0,⟨0,Nat.zero_le _,fun j h=>absurd h (by omega),rfl,rfl⟩,?_⟩;rintro vs O _ ⟨k2,hk2,hj2,rfl,rfl⟩))
    |((have:=hj1;refine⟨fun vs O _=>∃i:Nat,i<=(l.getD k default).gs.length/\(∀j,j<i->zen n ((l.getD k default).gs.getD j 0)=false)/\vs=[ai i]/\O=[.cells 24 (zbo l),.cells 38 (ziw (l.getD k default))],fun vs O=>match vs with |[.cv (.int _ i)]=>(l.getD k default).gs.length - i.toNat |_=>0,⟨0,Nat.zero_le _,fun j h=>absurd h (by omega),rfl,rfl⟩,?_⟩;rintro vs O _ ⟨i,hi,hj4,rfl,rfl⟩))
    |((refine⟨fun vs O _=>∃k:Nat,k<=l.length/\(∀j,j<k->zaZ n (l.getD j default)=false)/\vs=[ai k]/\O=[.cells 24 (zbo l)],fun vs O=>match vs with |[.cv (.int _ k)]=>l.length - k.toNat |_=>0,⟨0,Nat.zero_le _,fun j h=>absurd h (by omega),rfl,rfl⟩,?_⟩;rintro vs O _ ⟨k,hk,hj1,rfl,rfl⟩))
    |intro _)
 all_goals try simp only[Int.toNat_natCast]at *
 all_goals try have hg20:=hl.2 k2 (by(simp only[zz]at *;omega))
 all_goals try have hg21:=hl.2 k (by(simp only[zz]at *;omega))
 all_goals first
  |rfl
  |omega
  |(simp only[zz]at *;omega)
  |exact zn9 (by assumption)
  |exact zok (by assumption) (by assumption)
  |exact zoJ (by assumption) (by assumption) (by assumption)
  |exact znL (by assumption) (by assumption) (by assumption) (by assumption)
  |exact zde (by assumption) (by assumption) (by assumption) (by assumption) (k:=k) (by(simp only[zz]at *;omega)) (zne (zt8 (by assumption)))
  |exact zde (by assumption) (by assumption) (by assumption) (by assumption) (k:=k) (by(simp only[zz]at *;omega)) (zne (zt9 (by assumption)))
  |exact zde (by assumption) (by assumption) (by assumption) (by assumption) (k:=k) (by(simp only[zz]at *;omega)) (zqE (zq9 (i:=i) (by(simp only[zz]at *;omega)) (zt8 (by assumption))))
  |exact zde (by assumption) (by assumption) (by assumption) (by assumption) (k:=k) (by(simp only[zz]at *;omega)) (zqE (zq9 (i:=i) (by(simp only[zz]at *;omega)) (zt9 (by assumption))))
  |exact⟨i+1,by(simp only[zz]at *;omega),zhQ (p:=fun j=>zen n ((l.getD k default).gs.getD j 0)) hj4 (zut (by assumption) (by assumption)),rfl,rfl⟩
  |exact⟨k+1,by(simp only[zz]at *;omega),zhQ (p:=fun j=>zaZ n (l.getD j default)) hj1 (zt6 (zut (by assumption) (by assumption)) (zvC (i:=i) (by(simp only[zz]at *;omega)) hj4)),rfl,rfl⟩
  |exact zox (by assumption) (by assumption) (by assumption) (by assumption) (a:=k) (by(simp only[zz]at *;omega)) hj1 (b:=k2) (by(simp only[zz]at *;omega)) hj2
  |exact⟨k2+1,by(simp only[zz]at *;omega),zhQ (p:=fun j=>zdO (l.getD j default)) hj2 (zt0 (i:=i) (by(simp only[zz]at *;omega)) hj3),rfl,rfl⟩
  |(rename_i hz;rw[zgS hi]at hz;exact zi9 (by assumption) (by assumption) (by assumption) (by assumption) (a:=k) (by(simp only[zz]at *;omega)) hj1 (k:=k2) (by(simp only[zz]at *;omega)) (zqT hi (by(simp only[zz]at *;omega)) hz))
  |(rename_i hz;rw[zgS hi]at hz;exact⟨i+1,by omega,znN hi hj3 hz,rfl,rfl⟩)
def zs7(s:SlotM):List SV:=[ai s.atom]
theorem ztJ(l:List SlotM):elF zs7 l=zgF (l.map SlotM.atom):=by
 funext i;show[ai (l.getD i default).atom]=[ai ((l.map SlotM.atom).getD i 0)]
 rw[ya8,ya8,yb9];cases l[i]? <;> rfl
theorem ziS{l:List SlotM}{k m:Nat}{el:Nat->List SV}(hk:l.length<=k)(h:LElA zs7 (l.take k) m el):Same (.isl 1 m el) (.isl 1 (l.map SlotM.atom).length (zgF (l.map SlotM.atom))):=by
 rw[List.take_of_length_le hk]at h;have:=h.same (sz:=1);rw[ztJ]at this;rw[yb7];exact this
theorem zmk{A:Type}[Inhabited A]{l:List A}{k:Nat}(hk:k<l.length):l.take (k+1)=l.take k++[l.getD k default]:=by
 rw[List.take_add_one,yb5 hk,ya8,yb5 hk];rfl
theorem zs8(l:List SlotM)(hl:Lgt l):DSpec Tryz.prog axX axG 12 [.agg (zbo l)] [] (fun v O=>v=.isl 1 (l.map SlotM.atom).length (zgF (l.map SlotM.atom))/\O=[]):=by
 refine DSpec.same (post:=fun v O=>Same v (.isl 1 (l.map SlotM.atom).length (zgF (l.map SlotM.atom)))/\O=[]) ?_ fun v O h=>⟨_,h.1,rfl,h.2⟩
 have h30:=hl.1;refine zaw { glb:=axG,ann:=[(3,[9,3])],nils:=[(3,[(.slot 3,3,1)])] } true Tryz.func12 (by kernel_rfl) rfl ?_
 repeat' (
   (conv=>whnf)
   first
    |exact zaI (by kernel_rfl)
    |refine And.intro ?_ ?_
    |refine zae ?_ ?_
    |((refine⟨fun vs O _=>∃(k m:Nat) (el:Nat->List SV),k<=l.length/\LElA zs7 (l.take k) m el/\vs=[ai k,.lst 1]/\O=[.cells 24 (zbo l),.list 3 1 m el],fun vs O=>match vs with |[.cv (.int _ k),_]=>l.length - k.toNat |_=>0,⟨0,0,_,Nat.zero_le _,⟨rfl,fun i h=>absurd h (by omega)⟩,rfl,rfl⟩,?_⟩;rintro vs O _ ⟨k,m,el,hk,he,rfl,rfl⟩))
    |intro _)
 all_goals try have hm:=he.1
 all_goals try rw[List.length_take]at hm
 all_goals first
  |rfl
  |omega
  |(simp only[zz]at *;omega)
  |exact⟨k+1,_,_,by(simp only[zz]at *;omega),by rw[zmk (by(simp only[zz]at *;omega))];exact he.snoc rfl rfl,rfl,rfl⟩
  |exact ziS (k:=k) (by(simp only[zz]at *;omega)) he
theorem zrI(l:List SlotM)(hl:Lgt l):DSpec Tryz.prog axX axG 13 [.agg (zbo l)] [] (fun v O=>v=.isl 1 (l.map SlotM.atom).length (zgF (l.map SlotM.atom))/\O=[]):=by
 refine DSpec.same (post:=fun v O=>Same v (.isl 1 (l.map SlotM.atom).length (zgF (l.map SlotM.atom)))/\O=[]) ?_ fun v O h=>⟨_,h.1,rfl,h.2⟩
 have h30:=hl.1;refine zaw { glb:=axG,ann:=[(3,[4,3])],nils:=[(3,[(.slot 3,3,1)])] } true Tryz.func13 (by kernel_rfl) rfl ?_
 repeat' (
   (conv=>whnf)
   first
    |exact zaI (by kernel_rfl)
    |refine And.intro ?_ ?_
    |refine zae ?_ ?_
    |((refine⟨fun vs O _=>∃(k m:Nat) (el:Nat->List SV),k<=l.length/\LElA zs7 (l.take k) m el/\vs=[ai k,.lst 1]/\O=[.cells 24 (zbo l),.list 3 1 m el],fun vs O=>match vs with |[.cv (.int _ k),_]=>l.length - k.toNat |_=>0,⟨0,0,_,Nat.zero_le _,⟨rfl,fun i h=>absurd h (by omega)⟩,rfl,rfl⟩,?_⟩;rintro vs O _ ⟨k,m,el,hk,he,rfl,rfl⟩))
    |intro _)
 all_goals try have hm:=he.1
 all_goals try rw[List.length_take]at hm
 all_goals first
  |rfl
  |omega
  |(simp only[zz]at *;omega)
  |exact⟨k+1,_,_,by(simp only[zz]at *;omega),by rw[zmk (by(simp only[zz]at *;omega))];exact he.snoc rfl rfl,rfl,rfl⟩
  |exact ziS (k:=k) (by(simp only[zz]at *;omega)) he
end Go.Proofs.YteaemnicofpbeaaGreatDoor
