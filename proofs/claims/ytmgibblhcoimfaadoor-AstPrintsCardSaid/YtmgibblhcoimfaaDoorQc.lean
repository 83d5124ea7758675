import Derived.Test.YtmgibblhcoimfaaDoorQb
set_option linter.unusedSimpArgs false
set_option linter.unusedVariables false
set_option maxRecDepth 100000
namespace Go.Proofs.YtmgibblhcoimfaaDoor
open Go Go.Cx
theorem za8(f:NodeM->List Nat)(n:NodeM)(k:Nat):zeP f n (k+1)=zeP f n k++(if k=0 then[]else zrO n)++zjl (zoC n (atN n.kids k)) (f (atN n.kids k)):=by
 rw[zeP];cases k<;>rfl
theorem zu7{n:NodeM}(h:(n.kind==3)=true):zrO n=[32,59,32]:=by unfold zrO;rw[h];rfl
theorem zvm{n:NodeM}(h:(n.kind==3)=false):zrO n=[32,124,32]:=by unfold zrO;rw[h];rfl
theorem zBa{n m:NodeM}(h:(m.kind==4)=true):zoC n m=true:=by unfold zoC;rw[h];rfl
theorem zAt{n m:NodeM}(h:(m.kind==3)=true)(k:(n.kind==3)=true):zoC n m=true:=by unfold zoC;rw[h,k];cases m.kind==4<;>rfl
theorem zz3{n m:NodeM}(h:(m.kind==4)=false)(k:(m.kind==3)=false):zoC n m=false:=by unfold zoC;rw[h,k];rfl
theorem zA7{n m:NodeM}(h:(m.kind==4)=false)(k:(n.kind==3)=false):zoC n m=false:=by unfold zoC;rw[h,k];cases m.kind==3<;>rfl
set_option maxHeartbeats 8000000 in
theorem zv1(f:NodeM->List Nat)(n:NodeM)(hk:1<=n.kind/\n.kind<=4)(hkl:n.kids.length<=1000)(ha:AtomOk n.atom)(hc:n.atom.cs.length<=20/\n.atom.name.length<=30)(hm:0<=n.mn/\n.mn<=99/\0<=n.mx/\n.mx<=99)
  (hl:∀k,k<=n.kids.length->(zeP f n k).length<=200000) (hlf:∀m∈n.kids,(f m).length<=200000)
  (ih:∀m∈n.kids,DSpec Tryd.prog axX axG 23 [.agg (zaK m)] [] (fun v O=>v=.cv (.str (f m))/\O=[])):
  DSpec Tryd.prog axX axG 23 [.agg (zaK n)] [] (fun v O=>v=.cv (.str (bif n.kind==1 then zcq n.atom++ztC n else bif n.kind==2 then[110,111,116,32]++zcq n.atom else zeP f n n.kids.length))/\O=[]):=by
 have hA:=zvs n.atom ha hc;have hal:=ziN ha hc;have hd1:=zh6 n.mn hm.1 (by omega);have hd2:=zh6 n.mx hm.2.2.1 (by omega);have hg1:=za0 1 n.mn.toNat (by omega);have hg2:=za0 1 n.mx.toNat (by omega);rcases zel n with he |he
 all_goals try rw[he]
 all_goals
  refine zac { glb:=axG,ann:=[(10,[3,4])] } true Tryd.func23 (by kernel_rfl) rfl ?_
  repeat' (
    (conv=>whnf)
    first
     |exact zad (by kernel_rfl)
     |refine And.intro ?_ ?_
     |refine zaa ?_ ?_
     |(refine⟨_,hA,?_⟩;rintro v O' ⟨rfl,rfl⟩)
     |(refine⟨_,hd1,?_⟩;rintro v O' ⟨rfl,rfl⟩)
     |(refine⟨_,hd2,?_⟩;rintro v O' ⟨rfl,rfl⟩)
     |(refine⟨_,ih (atN n.kids k) (zd7 (show k<n.kids.length by(simp only[zz]at *;omega))),?_⟩;rintro v O' ⟨rfl,rfl⟩)
     |((refine⟨fun vs O _=>∃(k:Nat),k<=n.kids.length/\vs=[.cv (.str (zeP f n k)),ai k]/\O=[.cells 28 _],fun vs O=>match vs with |[_,.cv (.int _ k)]=>n.kids.length - k.toNat |_=>0,⟨0,Nat.zero_le _,rfl,rfl⟩,?_⟩;rintro vs O _ ⟨k,hkk,rfl,rfl⟩;have hpk:=hl _ hkk))
     |intro _)
 all_goals try have hfk:=hlf _ (zd7 (show k<n.kids.length by(simp only[zz]at *;omega)))
 all_goals first
  |rfl
  |omega
  |(simp only[zz]at *;omega)
  |(exfalso;(simp only[zz]at *;omega))
  |decide
  |((show(_:Nat)<=_);simp only[ya1,yb7,Array.length_toList,List.size_toArray,ya7,yb2,yb3,yb6,nm]at *;omega)
  | (refine⟨k+1,by(simp only[zz]at *;omega),?_,rfl⟩
     have hp:=zBa (n:=n) (m:=atN n.kids k) (by assumption)
     first
     | (have h0:k=0:=by(simp only[zz]at *;omega)
        rw[za8,hp,if_pos h0,yc2];rfl)
     | (have h0:k≠0:=by(simp only[zz]at *;omega)
        rw[za8,hp,if_neg h0,zu7 (by assumption)];rfl)
     | (have h0:k≠0:=by(simp only[zz]at *;omega)
        rw[za8,hp,if_neg h0,zvm (by assumption)];rfl))
  | (refine⟨k+1,by(simp only[zz]at *;omega),?_,rfl⟩
     have hp:=zAt (n:=n) (m:=atN n.kids k) (by assumption) (by assumption)
     first
     | (have h0:k=0:=by(simp only[zz]at *;omega)
        rw[za8,hp,if_pos h0,yc2];rfl)
     | (have h0:k≠0:=by(simp only[zz]at *;omega)
        rw[za8,hp,if_neg h0,zu7 (by assumption)];rfl)
     | (have h0:k≠0:=by(simp only[zz]at *;omega)
        rw[za8,hp,if_neg h0,zvm (by assumption)];rfl))
  | (refine⟨k+1,by(simp only[zz]at *;omega),?_,rfl⟩
     have hp:=zz3 (n:=n) (m:=atN n.kids k) (by assumption) (by assumption)
     first
     | (have h0:k=0:=by(simp only[zz]at *;omega)
        rw[za8,hp,if_pos h0,yc2];rfl)
     | (have h0:k≠0:=by(simp only[zz]at *;omega)
        rw[za8,hp,if_neg h0,zu7 (by assumption)];rfl)
     | (have h0:k≠0:=by(simp only[zz]at *;omega)
        rw[za8,hp,if_neg h0,zvm (by assumption)];rfl))
  | (refine⟨k+1,by(simp only[zz]at *;omega),?_,rfl⟩
     have hp:=zA7 (n:=n) (m:=atN n.kids k) (by assumption) (by assumption)
     first
     | (have h0:k=0:=by(simp only[zz]at *;omega)
        rw[za8,hp,if_pos h0,yc2];rfl)
     | (have h0:k≠0:=by(simp only[zz]at *;omega)
        rw[za8,hp,if_neg h0,zu7 (by assumption)];rfl)
     | (have h0:k≠0:=by(simp only[zz]at *;omega)
        rw[za8,hp,if_neg h0,zvm (by assumption)];rfl))
  | (refine congrArg (fun s=>SV.cv (CV.str s)) ?_
     rw[show(n.kind==1)=true by assumption,cond_true,zwS (by(simp only[zz]at *;omega)) (by(simp only[zz]at *;omega)),yc2])
  | (refine congrArg (fun s=>SV.cv (CV.str s)) ?_
     rw[show(n.kind==1)=true by assumption,cond_true,zyn (by(simp only[zz]at *;omega))];show zcq n.atom++[123]++zbX n.mn.toNat++[44]++zbX n.mx.toNat++[125]=_;simp only[yb3,yb6,yc2,yc1])
  | (refine congrArg (fun s=>SV.cv (CV.str s)) ?_
     rw[show(n.kind==1)=false by assumption,cond_false,show(n.kind==2)=true by assumption,cond_true];rfl)
  | (refine congrArg (fun s=>SV.cv (CV.str s)) ?_
     rw[show(n.kind==1)=false by assumption,cond_false,show(n.kind==2)=false by assumption,cond_false]
     first
     |rw[show n.kids.length=k by(simp only[zz]at *;omega)]
     |rw[show k=0 by(simp only[zz]at *;omega)])
end Go.Proofs.YtmgibblhcoimfaaDoor
