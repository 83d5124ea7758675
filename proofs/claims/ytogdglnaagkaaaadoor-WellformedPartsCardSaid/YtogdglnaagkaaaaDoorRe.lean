import Derived.Test.YtogdglnaagkaaaaDoorRd
import Derived.Test.YtogdglnaagkaaaaDoorOw
import Derived.Test.YtogdglnaagkaaaaDoorGh
set_option linter.unusedSimpArgs false
set_option linter.unusedVariables false
set_option maxRecDepth 100000
namespace Go.Proofs.YtogdglnaagkaaaaDoor
open Go Go.Cx
def zAr(n:NodeM):List SV:=[ai n.kind,ai n.mn,ai n.mx,ai n.atom.kind,ab n.atom.bnd,au n.atom.bound,.isl 2 n.atom.cs.length (zbo n.atom.cs),zgu n.atom.name,.lst 2]
def zBx(n:NodeM)(v:SV)(O:List SObj):Prop:=∃el,NEls n.kids n.kids.length el/\v=.agg (zAr n)/\O=[.dead,.dead,.list 30 9 n.kids.length el]
set_option maxHeartbeats 4000000 in
theorem zrJ(n:NodeM)(hn:Fit n):DSpec Tryd.prog axX axG 9 [.agg (zah n)] [] (zBx n):=by
 have ih:∀m∈n.kids,DSpec Tryd.prog axX axG 9 [.agg (zah m)] [] (fun v O=>v=.agg (zah m)/\O=[]):=fun m hm=>zsq m (hn.kid hm)
 have hk:=hn.self.1;have hc:=hn.self.2;rcases zeE n with he |he
 ·skip
  refine zac { glb:=axG,ann:=[(4,[4,3])],nils:=[(4,[(.slot 3,30,9)])] } false Tryd.func9 (by kernel_rfl) rfl ?_
  repeat' (
    (conv=>whnf)
    first
     |exact zaf (by kernel_rfl)
     |refine And.intro ?_ ?_
     |refine zaa ?_ ?_
     |(refine⟨_,zfO n.atom hc,?_⟩;rintro v O' ⟨rfl,rfl⟩)
     |(refine⟨_,ih (atN n.kids k) (zeo (by(simp only[zz]at *;omega))),?_⟩;rintro v O' ⟨rfl,rfl⟩)
     |((refine⟨fun vs O _=>∃(k:Nat) (el:Nat->List SV),k<=n.kids.length/\NEls n.kids k el/\vs=[ai k,.lst 2]/\O=[.cells 30 (zhB n (zcc n.kids)),.cells 30 [ai 0,ai 0,ai 0,ai 0,ab false,au 0,.cv .nils,.cv (.str []),.cv .nils],.list 30 9 k el],fun vs O=>match vs with |[.cv (.int _ k),_]=>n.kids.length - k.toNat |_=>0,⟨0,_,Nat.zero_le _,NEls.zero,rfl,rfl⟩,?_⟩;rintro vs O _ ⟨k,el,hk1,hj,rfl,rfl⟩))
     |intro _)
  all_goals first
   |rfl
   |omega
   |(simp only[zz]at *;omega)
   |exact⟨k+1,_,by(simp only[zz]at *;omega),hj.snoc rfl rfl,rfl,rfl⟩
   | (obtain rfl:k=n.kids.length:=by(simp only[zz]at *;omega)
      conv=>whnf
      exact⟨el,hj,rfl,rfl⟩)
   |(exfalso;(simp only[zz]at *;omega))
 ·rw[he];refine zac { glb:=axG,ann:=[(4,[4,3])],nils:=[(4,[(.slot 3,30,9)])] } false Tryd.func9 (by kernel_rfl) rfl ?_
  repeat' (
    (conv=>whnf)
    first
     |exact zaf (by kernel_rfl)
     |refine And.intro ?_ ?_
     |refine zaa ?_ ?_
     |(refine⟨_,zfO n.atom hc,?_⟩;rintro v O' ⟨rfl,rfl⟩)
     |(refine⟨_,ih (atN n.kids k) (zeo (by(simp only[zz]at *;omega))),?_⟩;rintro v O' ⟨rfl,rfl⟩)
     |((refine⟨fun vs O _=>∃(k:Nat) (el:Nat->List SV),k<=n.kids.length/\NEls n.kids k el/\vs=[ai k,.lst 2]/\O=[.cells 30 (zhB n (fun i=>zah (atN n.kids i))),.cells 30 [ai 0,ai 0,ai 0,ai 0,ab false,au 0,.cv .nils,.cv (.str []),.cv .nils],.list 30 9 k el],fun vs O=>match vs with |[.cv (.int _ k),_]=>n.kids.length - k.toNat |_=>0,⟨0,_,Nat.zero_le _,NEls.zero,rfl,rfl⟩,?_⟩;rintro vs O _ ⟨k,el,hk1,hj,rfl,rfl⟩))
     |intro _)
  all_goals first
   |rfl
   |omega
   |(simp only[zz]at *;omega)
   |exact⟨k+1,_,by(simp only[zz]at *;omega),hj.snoc rfl rfl,rfl,rfl⟩
   | (obtain rfl:k=n.kids.length:=by(simp only[zz]at *;omega)
      conv=>whnf
      exact⟨el,hj,rfl,rfl⟩)
   |(exfalso;(simp only[zz]at *;omega))
def zl8(l:List NodeM):Nat->List SV:=fun i=>zah (atN l i)
theorem znG(n:NodeM)(hn:Fit n):DSpec Tryd.prog axX axG 9 [.agg (zah n)] [] (fun v O=>v=.agg (zAr n)/\O=[.dead,.dead,.list 30 9 n.kids.length (zl8 n.kids)]):=
 DSpec.sameO (zrJ n hn) fun v O ⟨el,h1,h2,h3⟩=>by
  subst h2;subst h3;refine⟨_,_,.refl _,.cons (.refl _) (.cons (.refl _) (.cons (.list fun i hi=>?_) .nil)),rfl,rfl⟩;rw[h1 i hi];exact ze5
def zm5(l:List NodeM)(k i:Nat):NodeM:=if i<k then onceN (atN l i)else atN l i
def zmW(l:List NodeM)(k:Nat):Nat->List SV:=fun i=>zah (zm5 l k i)
theorem zti{l:List NodeM}{k:Nat}:zm5 l k ((k:Int).toNat)=atN l k:=if_neg (Nat.lt_irrefl k)
theorem zux(l:List NodeM):zl8 l=zmW l 0:=by
 funext i;unfold zl8 zmW zm5;rw[if_neg (Nat.not_lt_zero i)]
theorem zq2{l:List NodeM}{k:Nat}:zmX ((k:Int).toNat) (zah (onceN (atN l k))) (zmW l k)=zmW l (k+1):=by
 funext i;show(if i=k then zah (onceN (atN l k))else zah (zm5 l k i))=zah (zm5 l (k+1) i);unfold zm5;by_cases he:i=k
 ·subst he;rw[if_pos rfl,if_pos (Nat.lt_succ_self _)]
 ·rw[if_neg he];by_cases hl:i<k
  ·rw[if_pos hl,if_pos (by omega)]
  ·rw[if_neg hl,if_neg (by omega)]
theorem znA{n:NodeM}{k:Nat}{mn mx:Int}(hk:k=n.kids.length)(h1:mn=bif n.kind==1 then 1 else n.mn)(h2:mx=bif n.kind==1 then 1 else n.mx):Same (.agg [ai n.kind,ai mn,ai mx,ai n.atom.kind,ab n.atom.bnd,au n.atom.bound,.isl 2 n.atom.cs.length (zbo n.atom.cs),zgu n.atom.name,.isl 9 n.kids.length (zmW n.kids k)]) (.agg (zah (onceN n))):=by
 subst hk;subst h1;subst h2;have e:zah (onceN n)=[ai n.kind,ai (bif n.kind==1 then 1 else n.mn),ai (bif n.kind==1 then 1 else n.mx),ai n.atom.kind,ab n.atom.bnd,au n.atom.bound,.isl 2 n.atom.cs.length (zbo n.atom.cs),zgu n.atom.name,.isl 9 n.kids.length (zcc (n.kids.map onceN))]:=by
  rw[zdR];show[ai n.kind,_,_,_,_,_,_,_,SV.isl 9 (n.kids.map onceN).length (zcc (n.kids.map onceN))]=_;rw[yb7];rfl
 rw[e];refine .agg (.cons (.refl _) (.cons (.refl _) (.cons (.refl _) (.cons (.refl _) (.cons (.refl _) (.cons (.refl _) (.cons (.refl _) (.cons (.refl _) (.cons (.isl fun i hi=>?_) .nil)))))))));unfold zmW zm5;rw[if_pos hi,zk5 (l:=n.kids.map onceN) (by rw[yb7];exact hi),zef (l:=n.kids.map onceN) (by rw[yb7];exact hi),List.getElem_map,zef hi]
set_option maxHeartbeats 1000000 in
theorem zxa(n:NodeM):Fit n->DSpec Tryd.prog axX axG 7 [.agg (zah n)] [] (fun v O=>v=.agg (zah (onceN n))/\O=[]):=by
 refine zeX (p:=fun n=>Fit n->DSpec Tryd.prog axX axG 7 [.agg (zah n)] [] (fun v O=>v=.agg (zah (onceN n))/\O=[])) ?_ n;clear n;intro n ih0 hn;have ih:∀k:Nat,k<n.kids.length->DSpec Tryd.prog axX axG 7 [.agg (zah (zm5 n.kids k ((k:Int).toNat)))] [] (fun v O=>v=.agg (zah (onceN (atN n.kids k)))/\O=[]):=fun k hk=>by
  rw[zti];exact ih0 _ (zeo hk) (hn.kid (zeo hk))
 have hk:=hn.self.1;refine DSpec.same (post:=fun v O=>Same v (.agg (zah (onceN n)))/\O=[]) ?_ fun v O h=>⟨_,h.1,rfl,h.2⟩
 refine zac { glb:=axG,ann:=[(5,[3])] } true Tryd.func7 (by kernel_rfl) rfl ?_
 repeat' (
   (conv=>whnf)
   first
    |exact zaf (by kernel_rfl)
    |refine And.intro ?_ ?_
    |refine zaa ?_ ?_
    |(refine⟨_,znG n hn,?_⟩;rintro v O' ⟨rfl,rfl⟩)
    |(refine⟨_,ih k (by(simp only[zz]at *;omega)),?_⟩;rintro v O' ⟨rfl,rfl⟩)
    |((refine⟨fun vs O _=>∃(k:Nat),k<=n.kids.length/\vs=[ai k]/\O=[.cells 30 [ai n.kind,ai 1,ai 1,ai n.atom.kind,ab n.atom.bnd,au n.atom.bound,.isl 2 n.atom.cs.length (zbo n.atom.cs),zgu n.atom.name,.lst 4],.cells 30 [ai 0,ai 0,ai 0,ai 0,ab false,au 0,.cv .nils,.cv (.str []),.cv .nils],.dead,.dead,.list 30 9 n.kids.length (zmW n.kids k)],fun vs O=>match vs with |[.cv (.int _ k)]=>n.kids.length - k.toNat |_=>0,⟨0,Nat.zero_le _,rfl,by rw[zux];rfl⟩,?_⟩;rintro vs O _ ⟨k,hk1,rfl,rfl⟩))
    |((refine⟨fun vs O _=>∃(k:Nat),k<=n.kids.length/\vs=[ai k]/\O=[.cells 30 [ai n.kind,ai n.mn,ai n.mx,ai n.atom.kind,ab n.atom.bnd,au n.atom.bound,.isl 2 n.atom.cs.length (zbo n.atom.cs),zgu n.atom.name,.lst 4],.cells 30 [ai 0,ai 0,ai 0,ai 0,ab false,au 0,.cv .nils,.cv (.str []),.cv .nils],.dead,.dead,.list 30 9 n.kids.length (zmW n.kids k)],fun vs O=>match vs with |[.cv (.int _ k)]=>n.kids.length - k.toNat |_=>0,⟨0,Nat.zero_le _,rfl,by rw[zux];rfl⟩,?_⟩;rintro vs O _ ⟨k,hk1,rfl,rfl⟩))
    |intro _)
 all_goals first
  |rfl
  |omega
  |(simp only[zz]at *;omega)
  |exact ya9 rfl
  |exact⟨k+1,by(simp only[zz]at *;omega),rfl,by rw[<- zq2];rfl⟩
  |exact znA (by(simp only[zz]at *;omega)) (by rw[‹(n.kind==1)=true›];rfl) (by rw[‹(n.kind==1)=true›];rfl)
  |exact znA (by(simp only[zz]at *;omega)) (by rw[‹(n.kind==1)=false›];rfl) (by rw[‹(n.kind==1)=false›];rfl)
theorem zwI(k:Int)(s:List Nat):DSpec Tryd.prog axX axG 10 [ai k,.cv (.str s)] [] (fun v O=>v=.agg [ai 2,ai 0,ai 0,ai k,ab false,au 0,.cv .nils,.cv (.str s),.cv .nils]/\O=[]):=by
 refine zac { glb:=axG } true Tryd.func10 (by kernel_rfl) rfl ?_
 repeat' (
   (conv=>whnf)
   first
    |exact zaf (by kernel_rfl)
    |refine And.intro ?_ ?_
    |refine zaa ?_ ?_
    |intro _)
 all_goals rfl
end Go.Proofs.YtogdglnaagkaaaaDoor
