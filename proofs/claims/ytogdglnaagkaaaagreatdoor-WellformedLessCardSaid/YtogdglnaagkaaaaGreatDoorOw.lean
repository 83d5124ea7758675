import Derived.Test.YtogdglnaagkaaaaGreatDoorAb
import Derived.Test.YtogdglnaagkaaaaGreatDoorGh
set_option linter.unusedSimpArgs false
set_option linter.unusedVariables false
set_option maxRecDepth 100000
namespace Go.Proofs.YtogdglnaagkaaaaGreatDoor
open Go Go.Cx
theorem zFs{sz n:Nat}{x el:Nat->List SV}:Same (.isl sz (0+n) (zcb 0 x el)) (.isl sz n el):=by
 rw[Nat.zero_add];exact .isl fun i _=>by unfold zcb;simp
theorem zpi(a:AtomM)(hl:a.cs.length<=1000000):DSpec Tryz.prog axX axG 40 [.agg (zfQ a)] [] (fun v O=>v=.agg (zfQ a)/\O=[]):=by
 refine DSpec.same (post:=fun v O=>Same v (.agg (zfQ a))/\O=[]) ?_ fun v O h=>⟨_,h.1,rfl,h.2⟩
 refine zac { glb:=axG } true Tryz.func40 (by kernel_rfl) rfl ?_
 repeat' (
   (conv=>whnf)
   first
    |exact zad (by kernel_rfl)
    |refine And.intro ?_ ?_
    |refine zaa ?_ ?_
    |intro _)
 all_goals first
  |rfl
  |omega
  |exact .agg (.cons (.refl _) (.cons (.refl _) (.cons (.refl _) (.cons zFs SameL.rfl))))
def NEls(l:List NodeM)(m:Nat)(el:Nat->List SV):Prop:=∀i,i<m->el i=zah (atN l i)
theorem NEls.zero{l:List NodeM}{el:Nat->List SV}:NEls l 0 el:=fun i hi=>absurd hi (by omega)
theorem NEls.snoc{l:List NodeM}{m sz:Nat}{el:Nat->List SV}{cs:List SV}(h:NEls l m el)(hc:cs=zah (atN l m))(hl:cs.length=sz):NEls l (m+1) (zcb m el (zcz sz cs)):=fun i hi=>by
 unfold zcb;split
 ·rename_i hq;exact h i hq
 ·have:i=m:=by omega
  subst this;rw[Nat.sub_self];simp only[zcz,Nat.zero_mul,List.drop_zero];rw[<- hl,List.take_length];exact hc
theorem zy8{l:List NodeM}{i:Nat}(hi:i<l.length):zcW l i=zah (atN l i):=by
 unfold zcW;rw[zeU,ya8,yb9,zkV hi,yb5 hi];rfl
theorem zir{n:NodeM}{k:Nat}{el:Nat->List SV}(hk:k=n.kids.length)(he:NEls n.kids k el):Same (.agg (zgw n (zcW n.kids) |>.set 8 (.isl 9 k el))) (.agg (zah n)):=by
 subst hk;refine .agg (.cons (.refl _) (.cons (.refl _) (.cons (.refl _) (.cons (.refl _) (.cons (.refl _) (.cons (.refl _) (.cons (.refl _) (.cons (.refl _) (.cons (.isl fun i hi=>?_) .nil)))))))));rw[he i hi,zy8 hi]
set_option maxHeartbeats 4000000 in
theorem zvg(n:NodeM):Fit n->DSpec Tryz.prog axX axG 27 [.agg (zah n)] [] (fun v O=>v=.agg (zah n)/\O=[]):=by
 refine zfb (p:=fun n=>Fit n->DSpec Tryz.prog axX axG 27 [.agg (zah n)] [] (fun v O=>v=.agg (zah n)/\O=[])) ?_ n;clear n;intro n ih0 hn;have ih:∀m∈n.kids,DSpec Tryz.prog axX axG 27 [.agg (zah m)] [] (fun v O=>v=.agg (zah m)/\O=[]):=fun m hm=>ih0 m hm (hn.kid hm)
 have hk:=hn.self.1;have hc:=hn.self.2;refine DSpec.same (post:=fun v O=>Same v (.agg (zah n))/\O=[]) ?_ fun v O h=>⟨_,h.1,rfl,h.2⟩
 rcases zdY n with he |he
 ·skip
  refine zac { glb:=axG,ann:=[(4,[4,3])],nils:=[(4,[(.slot 3,30,9)])] } true Tryz.func27 (by kernel_rfl) rfl ?_
  repeat' (
    (conv=>whnf)
    first
     |exact zad (by kernel_rfl)
     |refine And.intro ?_ ?_
     |refine zaa ?_ ?_
     |(refine⟨_,zpi n.atom hc,?_⟩;rintro v O' ⟨rfl,rfl⟩)
     |(refine⟨_,ih (atN n.kids k) (zdN (by(simp only[zz]at *;omega))),?_⟩;rintro v O' ⟨rfl,rfl⟩)
     |((refine⟨fun vs O _=>∃(k:Nat) (el:Nat->List SV),k<=n.kids.length/\NEls n.kids k el/\vs=[ai k,.lst 2]/\O=[.cells 30 (zgw n (zcW n.kids)),.cells 30 [ai 0,ai 0,ai 0,ai 0,ab false,au 0,.cv .nils,.cv (.str []),.cv .nils],.list 30 9 k el],fun vs O=>match vs with |[.cv (.int _ k),_]=>n.kids.length - k.toNat |_=>0,⟨0,_,Nat.zero_le _,NEls.zero,rfl,rfl⟩,?_⟩;rintro vs O _ ⟨k,el,hk1,hj,rfl,rfl⟩))
     |intro _)
  all_goals first
   |rfl
   |omega
   |(simp only[zz]at *;omega)
   |exact⟨k+1,_,by(simp only[zz]at *;omega),hj.snoc rfl rfl,rfl,rfl⟩
   |(rw[<- he];exact zir (by(simp only[zz]at *;omega)) hj)
   |exact zir (by(simp only[zz]at *;omega)) hj
   |(exfalso;(simp only[zz]at *;omega))
   |skip
 ·rw[he];refine zac { glb:=axG,ann:=[(4,[4,3])],nils:=[(4,[(.slot 3,30,9)])] } true Tryz.func27 (by kernel_rfl) rfl ?_
  repeat' (
    (conv=>whnf)
    first
     |exact zad (by kernel_rfl)
     |refine And.intro ?_ ?_
     |refine zaa ?_ ?_
     |(refine⟨_,zpi n.atom hc,?_⟩;rintro v O' ⟨rfl,rfl⟩)
     |(refine⟨_,ih (atN n.kids k) (zdN (by(simp only[zz]at *;omega))),?_⟩;rintro v O' ⟨rfl,rfl⟩)
     |((refine⟨fun vs O _=>∃(k:Nat) (el:Nat->List SV),k<=n.kids.length/\NEls n.kids k el/\vs=[ai k,.lst 2]/\O=[.cells 30 (zgw n (fun i=>zah (atN n.kids i))),.cells 30 [ai 0,ai 0,ai 0,ai 0,ab false,au 0,.cv .nils,.cv (.str []),.cv .nils],.list 30 9 k el],fun vs O=>match vs with |[.cv (.int _ k),_]=>n.kids.length - k.toNat |_=>0,⟨0,_,Nat.zero_le _,NEls.zero,rfl,rfl⟩,?_⟩;rintro vs O _ ⟨k,el,hk1,hj,rfl,rfl⟩))
     |intro _)
  all_goals first
   |rfl
   |omega
   |(simp only[zz]at *;omega)
   |exact⟨k+1,_,by(simp only[zz]at *;omega),hj.snoc rfl rfl,rfl,rfl⟩
   |(rw[<- he];exact zir (by(simp only[zz]at *;omega)) hj)
   |exact zir (by(simp only[zz]at *;omega)) hj
   |(exfalso;(simp only[zz]at *;omega))
def zzG(q:QueryM):List SV:=[ai q.p.kind,ai q.p.mn,ai q.p.mx,ai q.p.atom.kind,ab q.p.atom.bnd,au q.p.atom.bound,.isl 2 q.p.atom.cs.length (zco q.p.atom.cs),ziY q.p.atom.name,.isl 9 q.p.kids.length (zcW q.p.kids),au q.within,.isl 4 q.hv.length (zkF q.hv),.isl 2 q.em.length (zkk q.em)]
theorem ztv(q:QueryM)(hq:QFit q):DSpec Tryz.prog axX axG 7 [.agg (zaD q)] [] (fun v O=>v=.agg (zzG q)/\O=[]):=by
 refine DSpec.same (post:=fun v O=>Same v (.agg (zzG q))/\O=[]) ?_ fun v O h=>⟨_,h.1,rfl,h.2⟩
 have h1:=hq.hv;have h2:=hq.em;refine zac { glb:=axG } true Tryz.func7 (by kernel_rfl) rfl ?_
 repeat' (
   (conv=>whnf)
   first
    |exact zad (by kernel_rfl)
    |refine And.intro ?_ ?_
    |refine zaa ?_ ?_
    |(refine⟨_,zvg q.p hq.fit,?_⟩;rintro v O' ⟨rfl,rfl⟩)
    |intro _)
 all_goals first
  |rfl
  |omega
  |exact .agg (.cons (.refl _) (.cons (.refl _) (.cons (.refl _) (.cons (.refl _) (.cons (.refl _) (.cons (.refl _) (.cons (.refl _) (.cons (.refl _) (.cons (.refl _) (.cons (.refl _) (.cons zFs (.cons zFs .nil))))))))))))
end Go.Proofs.YtogdglnaagkaaaaGreatDoor
