import Derived.Test.YtmgibblhcoimfaaDoorAc
set_option linter.unusedSimpArgs false
set_option linter.unusedVariables false
set_option maxRecDepth 100000
namespace Go.Proofs.YtmgibblhcoimfaaDoor
open Go Go.Cx
def zxI(n:NodeM):Bool:=n.kind==1||n.kind==2
theorem zA9(n:NodeM):DSpec Tryd.prog axX axG 44 [.agg (zay n)] [] (fun v O=>v=ab (zxI n)/\O=[]):=by
 refine zac { glb:=axG } true Tryd.func44 (by kernel_rfl) rfl ?_
 repeat' (
   (conv=>whnf)
   first
    |exact zaf (by kernel_rfl)
    |refine And.intro ?_ ?_
    |refine zaa ?_ ?_
    |intro _)
 all_goals first
  |rfl
  |(unfold zxI;((try (refine congrArg (fun b=>SV.cv (CV.bool b)) ?_));(try rw[Bool.eq_iff_iff]);simp only[zz]at *;first |done |omega))
theorem ztF(n:NodeM)(d:Int):DSpec Tryd.prog axX axG 72 [.agg (zay n),ai d] [] (fun v O=>v=.fn 84 [] [.ipt [ai d] 0,.ipt (zay n) 0]/\O=[]):=by
 refine zac { glb:=axG } true Tryd.func72 (by kernel_rfl) rfl ?_
 repeat' (
   (conv=>whnf)
   first
    |exact zaf (by kernel_rfl)
    |refine And.intro ?_ ?_
    |refine zaa ?_ ?_
    |intro _)
 all_goals first
  |rfl
def ysP(l:List (Int×NodeM)):Nat->Option (List SV):=fun k=>(l[k]?).map fun p=>[ai p.1,.agg (zay p.2)]
theorem zqr{l:List (Int×NodeM)}{k:Nat}{vs:List SV}(h:ysP l k=some vs):∃p,l[k]? = some p/\vs=[ai p.1,.agg (zay p.2)]:=by
 unfold ysP at h;cases hq:l[k]? with
 |none=>rw[hq]at h;cases h
 |some p=>rw[hq]at h;cases h;exact⟨p,rfl,rfl⟩
theorem zBq{l:List (Int×NodeM)}{k:Nat}{p:Int×NodeM}(h:l[k]? = some p):ysP l k=some [ai p.1,.agg (zay p.2)]:=by
 unfold ysP;rw[h];rfl
theorem zqX(d:Int)(n:NodeM):ysP (zbf d n) 0=some [ai d,.agg (zay n)]:=by
 unfold ysP;rw[za7];rfl
def zxa(d:Int)(n:NodeM)(k:Nat):Nat:=1+((n.kids.take k).flatMap (zbf (d+1))).length
theorem zvt{d:Int}{n:NodeM}{k:Nat}(hk:k<n.kids.length):zxa d n (k+1)=zxa d n k+(zbf (d+1) (atN n.kids k)).length:=by
 unfold zxa;rw[List.take_add_one,yb5 hk,List.flatMap_append,ya1,zja hk];simp;omega
theorem zx2(d:Int)(n:NodeM):zxa d n n.kids.length=(zbf d n).length:=by
 unfold zxa;rw[List.take_of_length_le (Nat.le_refl _),za7];simp;omega
theorem zzd{d:Int}{n:NodeM}{k j:Nat}{p:Int×NodeM}(hk:k<n.kids.length)(hp:(zbf (d+1) (atN n.kids k))[j]? = some p):(zbf d n)[zxa d n k+j]? = some p:=by
 have hs:n.kids=n.kids.take k++(atN n.kids k::n.kids.drop (k+1)):=by
  rw[zja hk];simp
 rw[za7];unfold zxa;rw[show 1+((n.kids.take k).flatMap (zbf (d+1))).length+j=(((n.kids.take k).flatMap (zbf (d+1))).length+j)+1 by omega,yc6];have:n.kids.flatMap (zbf (d+1))=(n.kids.take k).flatMap (zbf (d+1))++(zbf (d+1) (atN n.kids k)++(n.kids.drop (k+1)).flatMap (zbf (d+1))):=by
  conv=>lhs;rw[hs]
  rw[List.flatMap_append,List.flatMap_cons]
 have hj:j<(zbf (d+1) (atN n.kids k)).length:=(List.getElem?_eq_some_iff.1 hp).1;rw[this,yd0 (by omega),yb8 (by omega),show((n.kids.take k).flatMap (zbf (d+1))).length+j - ((n.kids.take k).flatMap (zbf (d+1))).length=j by omega];exact hp
set_option maxRecDepth 100000 in
set_option maxHeartbeats 4000000 in
theorem zxz:∀(n:NodeM) (hn:Fit n) (d:Int) (hd:0<=d/\d+n.dep<=1000000),DIter Tryd.prog axX axG 84 (fun l=>[.cv (.yld l),.ipt [ai d] 0,.ipt (zay n) 0]) (ysP (zbf d n)) (fun g v=>v=.tup []/\(g.st=false->g.n=(zbf d n).length)):=by
 intro n
 induction n using zmG with |h n ih=>?_
 intro hn d hd;have hz:=hn.self.1;rcases zgt n with he |he
 all_goals try rw[he]
 all_goals
  refine zw2 { glb:=axG,ann:=[(3,[16])] } Tryd.func84 (by kernel_rfl) rfl fun l=>?_
  repeat' (
    (conv=>whnf)
    first
     |exact zaf (by kernel_rfl)
     |refine And.intro ?_ ?_
     |refine zaa ?_ ?_
     |((refine⟨fun vs O g=>∃k:Nat,k<=n.kids.length/\vs=[ai k]/\O=[.cells 122 [.cv (.yld l)]]/\g=⟨zxa d n k,false⟩,fun vs O=>match vs with |[.cv (.int _ k)]=>n.kids.length - k.toNat |_=>0,⟨0,Nat.zero_le _,rfl,rfl,rfl⟩,?_⟩;rintro vs O g ⟨k,hk,rfl,rfl,rfl⟩))
     |(refine⟨_,ztF (atN n.kids k) (d+1),?_⟩;rintro v O' ⟨rfl,rfl⟩)
     |((refine⟨_,_,ih (atN n.kids k) (zdO (by(simp only[zz]at *;omega))) (hn.kid (zdO (by(simp only[zz]at *;omega)))) (d+1) (by have:=zft (zdO (l:=n.kids) (k:=k) (by(simp only[zz]at *;omega)));omega),fun j O g=>O=[.cells 122 [.cv (.yld l)],.cells 28 (zay (atN n.kids k))]/\g=⟨zxa d n k+j,false⟩,⟨rfl,rfl⟩,?_,?_⟩;rintro j O' g' vs ⟨rfl,rfl⟩ hy;obtain⟨p,hp,rfl⟩:=zqr hy;rotate_left;rintro j O' g' v ⟨rfl,rfl⟩ hy))
     |intro _)
  all_goals first
   |rfl
   |omega
   |(simp only[zz]at *;omega)
   |exact zqX d n
   |exact(zqX d n).trans (by rw[he];rfl)
   |exact stA (by assumption)
   |(rw[show k=n.kids.length by(simp only[zz]at *;omega)];exact zx2 d n)
   |(exfalso;(simp only[zz]at *;omega))
   |exact zBq (zzd (by(simp only[zz]at *;omega)) hp)
   |exact⟨k+1,by(simp only[zz]at *;omega),rfl,rfl,by have hq:=hy.2 rfl;rw[zvt (by(simp only[zz]at *;omega)),<- hq]⟩
end Go.Proofs.YtmgibblhcoimfaaDoor
