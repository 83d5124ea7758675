import Derived.Test.YtogdglnaagkaaaaGreatDoorAc
set_option linter.unusedSimpArgs false
set_option linter.unusedVariables false
set_option maxRecDepth 100000
namespace Go.Proofs.YtogdglnaagkaaaaGreatDoor
open Go Go.Cx
def zkz(n:NodeM):Bool:=n.kind==1||n.kind==2
theorem zzI(n:NodeM):DSpec Tryz.prog axX axG 44 [.agg (zah n)] [] (fun v O=>v=ab (zkz n)/\O=[]):=by
 refine zac { glb:=axG } true Tryz.func44 (by kernel_rfl) rfl ?_
 repeat' (
   (conv=>whnf)
   first
    |exact zad (by kernel_rfl)
    |refine And.intro ?_ ?_
    |refine zaa ?_ ?_
    |intro _)
 all_goals first
  |rfl
  |(unfold zkz;((try (refine congrArg (fun b=>SV.cv (CV.bool b)) ?_));(try rw[Bool.eq_iff_iff]);simp only[zz]at *;first |done |omega))
theorem zmZ(n:NodeM)(d:Int):DSpec Tryz.prog axX axG 68 [.agg (zah n),ai d] [] (fun v O=>v=.fn 86 [] [.ipt [ai d] 0,.ipt (zah n) 0]/\O=[]):=by
 refine zac { glb:=axG } true Tryz.func68 (by kernel_rfl) rfl ?_
 repeat' (
   (conv=>whnf)
   first
    |exact zad (by kernel_rfl)
    |refine And.intro ?_ ?_
    |refine zaa ?_ ?_
    |intro _)
 all_goals first
  |rfl
def ysP(l:List (Int×NodeM)):Nat->Option (List SV):=fun k=>(l[k]?).map fun p=>[ai p.1,.agg (zah p.2)]
theorem zim{l:List (Int×NodeM)}{k:Nat}{vs:List SV}(h:ysP l k=some vs):∃p,l[k]? = some p/\vs=[ai p.1,.agg (zah p.2)]:=by
 unfold ysP at h;cases hq:l[k]? with
 |none=>rw[hq]at h;cases h
 |some p=>rw[hq]at h;cases h;exact⟨p,rfl,rfl⟩
theorem zDg{l:List (Int×NodeM)}{k:Nat}{p:Int×NodeM}(h:l[k]? = some p):ysP l k=some [ai p.1,.agg (zah p.2)]:=by
 unfold ysP;rw[h];rfl
theorem zqV(d:Int)(n:NodeM):ysP (zaE d n) 0=some [ai d,.agg (zah n)]:=by
 unfold ysP;rw[za3];rfl
def ztK(d:Int)(n:NodeM)(k:Nat):Nat:=1+((n.kids.take k).flatMap (zaE (d+1))).length
theorem zj1{d:Int}{n:NodeM}{k:Nat}(hk:k<n.kids.length):ztK d n (k+1)=ztK d n k+(zaE (d+1) (atN n.kids k)).length:=by
 unfold ztK;rw[List.take_add_one,yb5 hk,List.flatMap_append,ya1,zkV hk];simp;omega
theorem zmB(d:Int)(n:NodeM):ztK d n n.kids.length=(zaE d n).length:=by
 unfold ztK;rw[List.take_of_length_le (Nat.le_refl _),za3];simp;omega
theorem zun{d:Int}{n:NodeM}{k j:Nat}{p:Int×NodeM}(hk:k<n.kids.length)(hp:(zaE (d+1) (atN n.kids k))[j]? = some p):(zaE d n)[ztK d n k+j]? = some p:=by
 have hs:n.kids=n.kids.take k++(atN n.kids k::n.kids.drop (k+1)):=by
  rw[zkV hk];simp
 rw[za3];unfold ztK;rw[show 1+((n.kids.take k).flatMap (zaE (d+1))).length+j=(((n.kids.take k).flatMap (zaE (d+1))).length+j)+1 by omega,yc6];have:n.kids.flatMap (zaE (d+1))=(n.kids.take k).flatMap (zaE (d+1))++(zaE (d+1) (atN n.kids k)++(n.kids.drop (k+1)).flatMap (zaE (d+1))):=by
  conv=>lhs;rw[hs]
  rw[List.flatMap_append,List.flatMap_cons]
 have hj:j<(zaE (d+1) (atN n.kids k)).length:=(List.getElem?_eq_some_iff.1 hp).1;rw[this,yd0 (by omega),yb8 (by omega),show((n.kids.take k).flatMap (zaE (d+1))).length+j - ((n.kids.take k).flatMap (zaE (d+1))).length=j by omega];exact hp
set_option maxRecDepth 100000 in
set_option maxHeartbeats 4000000 in
theorem zmY:∀(n:NodeM) (hn:Fit n) (d:Int) (hd:0<=d/\d+n.dep<=1000000),DIter Tryz.prog axX axG 86 (fun l=>[.cv (.yld l),.ipt [ai d] 0,.ipt (zah n) 0]) (ysP (zaE d n)) (fun g v=>v=.tup []/\(g.st=false->g.n=(zaE d n).length)):=by
 intro n
 induction n using zfb with |h n ih=>?_
 intro hn d hd;have hz:=hn.self.1;rcases zdY n with he |he
 all_goals try rw[he]
 all_goals
  refine ziF { glb:=axG,ann:=[(3,[16])] } Tryz.func86 (by kernel_rfl) rfl fun l=>?_
  repeat' (
    (conv=>whnf)
    first
     |exact zad (by kernel_rfl)
     |refine And.intro ?_ ?_
     |refine zaa ?_ ?_
     |((refine⟨fun vs O g=>∃k:Nat,k<=n.kids.length/\vs=[ai k]/\O=[.cells 134 [.cv (.yld l)]]/\g=⟨ztK d n k,false⟩,fun vs O=>match vs with |[.cv (.int _ k)]=>n.kids.length - k.toNat |_=>0,⟨0,Nat.zero_le _,rfl,rfl,rfl⟩,?_⟩;rintro vs O g ⟨k,hk,rfl,rfl,rfl⟩))
     |(refine⟨_,zmZ (atN n.kids k) (d+1),?_⟩;rintro v O' ⟨rfl,rfl⟩)
     |((refine⟨_,_,ih (atN n.kids k) (zdN (by(simp only[zz]at *;omega))) (hn.kid (zdN (by(simp only[zz]at *;omega)))) (d+1) (by have:=zlL (zdN (l:=n.kids) (k:=k) (by(simp only[zz]at *;omega)));omega),fun j O g=>O=[.cells 134 [.cv (.yld l)],.cells 30 (zah (atN n.kids k))]/\g=⟨ztK d n k+j,false⟩,⟨rfl,rfl⟩,?_,?_⟩;rintro j O' g' vs ⟨rfl,rfl⟩ hy;obtain⟨p,hp,rfl⟩:=zim hy;rotate_left;rintro j O' g' v ⟨rfl,rfl⟩ hy))
     |intro _)
  all_goals first
   |rfl
   |omega
   |(simp only[zz]at *;omega)
   |exact zqV d n
   |exact(zqV d n).trans (by rw[he];rfl)
   |exact stA (by assumption)
   |(rw[show k=n.kids.length by(simp only[zz]at *;omega)];exact zmB d n)
   |(exfalso;(simp only[zz]at *;omega))
   |exact zDg (zun (by(simp only[zz]at *;omega)) hp)
   |exact⟨k+1,by(simp only[zz]at *;omega),rfl,rfl,by have hq:=hy.2 rfl;rw[zj1 (by(simp only[zz]at *;omega)),<- hq]⟩
end Go.Proofs.YtogdglnaagkaaaaGreatDoor
