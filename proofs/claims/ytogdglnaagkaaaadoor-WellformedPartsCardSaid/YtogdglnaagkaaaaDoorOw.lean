import Derived.Test.YtogdglnaagkaaaaDoorAb
import Derived.Test.YtogdglnaagkaaaaDoorGh
set_option linter.unusedSimpArgs false
set_option linter.unusedVariables false
set_option maxRecDepth 100000
namespace Go.Proofs.YtogdglnaagkaaaaDoor
open Go Go.Cx
theorem zCh{sz n:Nat}{x el:Nat->List SV}:Same (.isl sz (0+n) (zcd 0 x el)) (.isl sz n el):=by
 rw[Nat.zero_add];exact .isl fun i _=>by unfold zcd;simp
theorem zfO(a:AtomM)(hl:a.cs.length<=1000000):DSpec Tryd.prog axX axG 26 [.agg (zjt a)] [] (fun v O=>v=.agg (zjt a)/\O=[]):=by
 refine DSpec.same (post:=fun v O=>Same v (.agg (zjt a))/\O=[]) ?_ fun v O h=>⟨_,h.1,rfl,h.2⟩
 refine zac { glb:=axG } true Tryd.func26 (by kernel_rfl) rfl ?_
 repeat' (
   (conv=>whnf)
   first
    |exact zaf (by kernel_rfl)
    |refine And.intro ?_ ?_
    |refine zaa ?_ ?_
    |intro _)
 all_goals first
  |rfl
  |omega
  |exact .agg (.cons (.refl _) (.cons (.refl _) (.cons (.refl _) (.cons zCh SameL.rfl))))
def NEls(l:List NodeM)(m:Nat)(el:Nat->List SV):Prop:=∀i,i<m->el i=zah (atN l i)
theorem NEls.zero{l:List NodeM}{el:Nat->List SV}:NEls l 0 el:=fun i hi=>absurd hi (by omega)
theorem NEls.snoc{l:List NodeM}{m sz:Nat}{el:Nat->List SV}{cs:List SV}(h:NEls l m el)(hc:cs=zah (atN l m))(hl:cs.length=sz):NEls l (m+1) (zcd m el (zc9 sz cs)):=fun i hi=>by
 unfold zcd;split
 ·rename_i hq;exact h i hq
 ·have:i=m:=by omega
  subst this;rw[Nat.sub_self];simp only[zc9,Nat.zero_mul,List.drop_zero];rw[<- hl,List.take_length];exact hc
theorem zk5{l:List NodeM}{i:Nat}(hi:i<l.length):zcc l i=zah (atN l i):=by
 unfold zcc;rw[zel,ya8,yb9,zef hi,yb5 hi];rfl
theorem zh7{n:NodeM}{k:Nat}{el:Nat->List SV}(hk:k=n.kids.length)(he:NEls n.kids k el):Same (.agg (zhB n (zcc n.kids) |>.set 8 (.isl 9 k el))) (.agg (zah n)):=by
 subst hk;refine .agg (.cons (.refl _) (.cons (.refl _) (.cons (.refl _) (.cons (.refl _) (.cons (.refl _) (.cons (.refl _) (.cons (.refl _) (.cons (.refl _) (.cons (.isl fun i hi=>?_) .nil)))))))));rw[he i hi,zk5 hi]
set_option maxHeartbeats 4000000 in
theorem zsq(n:NodeM):Fit n->DSpec Tryd.prog axX axG 9 [.agg (zah n)] [] (fun v O=>v=.agg (zah n)/\O=[]):=by
 refine zeX (p:=fun n=>Fit n->DSpec Tryd.prog axX axG 9 [.agg (zah n)] [] (fun v O=>v=.agg (zah n)/\O=[])) ?_ n;clear n;intro n ih0 hn;have ih:∀m∈n.kids,DSpec Tryd.prog axX axG 9 [.agg (zah m)] [] (fun v O=>v=.agg (zah m)/\O=[]):=fun m hm=>ih0 m hm (hn.kid hm)
 have hk:=hn.self.1;have hc:=hn.self.2;refine DSpec.same (post:=fun v O=>Same v (.agg (zah n))/\O=[]) ?_ fun v O h=>⟨_,h.1,rfl,h.2⟩
 rcases zeE n with he |he
 ·skip
  refine zac { glb:=axG,ann:=[(4,[4,3])],nils:=[(4,[(.slot 3,30,9)])] } true Tryd.func9 (by kernel_rfl) rfl ?_
  repeat' (
    (conv=>whnf)
    first
     |exact zaf (by kernel_rfl)
     |refine And.intro ?_ ?_
     |refine zaa ?_ ?_
     |(refine⟨_,zfO n.atom hc,?_⟩;rintro v O' ⟨rfl,rfl⟩)
     |(refine⟨_,ih (atN n.kids k) (zeo (by(simp only[zz]at *;omega))),?_⟩;rintro v O' ⟨rfl,rfl⟩)
     |((refine⟨fun vs O _=>∃(k:Nat) (el:Nat->List SV),k<=n.kids.length/\NEls n.kids k el/\vs=[ai k,.lst 2]/\O=[.cells 30 (zhB n (zcc n.kids)),.cells 30 [ai 0,ai 0,ai 0,ai 0,ab false,au 0,.cv .nils,.cv (.str []),.cv .nils],.list 30 9 k el],fun vs O=>match vs with |[.cv (.int _ k),_]=>n.kids.length - k.toNat |_=>0,⟨0,_,Nat.zero_le _,NEls.zero,rfl,rfl⟩,?_⟩;rintro vs O _ ⟨k,el,hk1,hj,rfl,rfl⟩))
     |intro _)
  all_goals first
   |rfl
   |omega
   |(simp only[zz]at *;omega)
   |exact⟨k+1,_,by(simp only[zz]at *;omega),hj.snoc rfl rfl,rfl,rfl⟩
   |(rw[<- he];exact zh7 (by(simp only[zz]at *;omega)) hj)
   |exact zh7 (by(simp only[zz]at *;omega)) hj
   |(exfalso;(simp only[zz]at *;omega))
   |skip
 ·rw[he];refine zac { glb:=axG,ann:=[(4,[4,3])],nils:=[(4,[(.slot 3,30,9)])] } true Tryd.func9 (by kernel_rfl) rfl ?_
  repeat' (
    (conv=>whnf)
    first
     |exact zaf (by kernel_rfl)
     |refine And.intro ?_ ?_
     |refine zaa ?_ ?_
     |(refine⟨_,zfO n.atom hc,?_⟩;rintro v O' ⟨rfl,rfl⟩)
     |(refine⟨_,ih (atN n.kids k) (zeo (by(simp only[zz]at *;omega))),?_⟩;rintro v O' ⟨rfl,rfl⟩)
     |((refine⟨fun vs O _=>∃(k:Nat) (el:Nat->List SV),k<=n.kids.length/\NEls n.kids k el/\vs=[ai k,.lst 2]/\O=[.cells 30 (zhB n (fun i=>zah (atN n.kids i))),.cells 30 [ai 0,ai 0,ai 0,ai 0,ab false,au 0,.cv .nils,.cv (.str []),.cv .nils],.list 30 9 k el],fun vs O=>match vs with |[.cv (.int _ k),_]=>n.kids.length - k.toNat |_=>0,⟨0,_,Nat.zero_le _,NEls.zero,rfl,rfl⟩,?_⟩;rintro vs O _ ⟨k,el,hk1,hj,rfl,rfl⟩))
     |intro _)
  all_goals first
   |rfl
   |omega
   |(simp only[zz]at *;omega)
   |exact⟨k+1,_,by(simp only[zz]at *;omega),hj.snoc rfl rfl,rfl,rfl⟩
   |(rw[<- he];exact zh7 (by(simp only[zz]at *;omega)) hj)
   |exact zh7 (by(simp only[zz]at *;omega)) hj
   |(exfalso;(simp only[zz]at *;omega))
end Go.Proofs.YtogdglnaagkaaaaDoor
