import Derived.Test.YtmgibblhcoimfaaDoorAb
set_option linter.unusedSimpArgs false
set_option linter.unusedVariables false
set_option maxRecDepth 100000
namespace Go.Proofs.YtmgibblhcoimfaaDoor
open Go Go.Cx
theorem zBV(a:AtomM):DSpec Tryd.prog axX axG 68 [.agg (zfZ a)] [] (fun v O=>v=ab (zjX a)/\O=[]):=by
 refine zac { glb:=axG } true Tryd.func68 (by kernel_rfl) rfl ?_
 repeat' (
   (conv=>whnf)
   first
    |exact zaf (by kernel_rfl)
    |refine And.intro ?_ ?_
    |refine zaa ?_ ?_
    |intro _)
 all_goals first
  |rfl
  |(simp only[zjX,isE, *,Bool.true_and,Bool.and_true,Bool.false_and,Bool.and_false,Bool.true_or,Bool.or_true,Bool.false_or,Bool.or_false,Bool.not_true,Bool.not_false,Bool.not_not,cond_true,cond_false];first |done |rfl)
set_option maxRecDepth 100000 in
theorem zBm(a:AtomM)(hl:a.cs.length<=1000000):DSpec Tryd.prog axX axG 67 [.agg (zfZ a)] [] (fun v O=>v=ab (zmk a)/\O=[]):=by
 refine zac { glb:=axG } true Tryd.func67 (by kernel_rfl) rfl ?_
 repeat' (
   (conv=>whnf)
   first
    |exact zaf (by kernel_rfl)
    |refine And.intro ?_ ?_
    |refine zaa ?_ ?_
    |(refine⟨_,zyl (nm a.name),?_⟩;rintro v O' ⟨rfl,rfl⟩)
    |(refine⟨_,zvg a.cs (by omega),?_⟩;rintro v O' ⟨rfl,rfl⟩)
    |intro _)
 all_goals first
  |rfl
  |(simp only[zmk,isE, *,Bool.true_and,Bool.and_true,Bool.false_and,Bool.and_false,Bool.true_or,Bool.or_true,Bool.false_or,Bool.or_false,Bool.not_true,Bool.not_false,Bool.not_not,cond_true,cond_false];first |done |rfl)
theorem zwO(D:Int)(hD:0<=D/\D<=200)(p:NodeM->Bool)(m:NodeM)(ih:DSpec Tryd.prog axX axG 38 [.agg (zay m),ai (D - 1)] [] (fun v O=>v=ab (p m)/\O=[])):DSpec Tryd.prog axX axG 70 [.agg (zay m),.ptr 0 0] [.cells 3 [ai D]] (fun v O=>v=ab (!p m)/\O=[.cells 3 [ai D]]):=by
 refine zac { glb:=axG } true Tryd.func70 (by kernel_rfl) rfl ?_
 repeat' (
   (conv=>whnf)
   first
    |exact zaf (by kernel_rfl)
    |refine And.intro ?_ ?_
    |refine zaa ?_ ?_
    |(refine⟨_,ih,?_⟩;rintro v O' ⟨rfl,rfl⟩)
    |intro _)
 all_goals first
  |rfl
  |omega
set_option maxRecDepth 100000 in
theorem ztW(l:List NodeM)(d:Int)(p:NodeM->Bool)(hl:l.length<=1000000)(hg:∀m∈l,DSpec Tryd.prog axX axG 70 [.agg (zay m),.ptr 0 0] [.cells 3 [ai d]] (fun v O=>v=ab (p m)/\O=[.cells 3 [ai d]])):
  DSpec Tryd.prog axX axG 83 [.isl 9 l.length (zfR l),.fn 70 [] [.ptr 0 0]] [.cells 3 [ai d]] (fun v O=>∃k:Int,v=ai k/\decide (k>=0)=l.any p/\O=[.cells 3 [ai d]]):=by
 rcases zgT l with he |he
 all_goals try rw[he]
 all_goals
  refine zac { glb:=axG,ann:=[(2,[8])] } true Tryd.func83 (by kernel_rfl) rfl ?_
  repeat' (
    (conv=>whnf)
    first
     |exact zaf (by kernel_rfl)
     |refine And.intro ?_ ?_
     |refine zaa ?_ ?_
     |((refine⟨fun vs O _=>∃k:Nat,k<=l.length/\(∀j,j<k->p (atN l j)=false)/\vs=[ai k]/\O=[.cells 3 [ai d]],fun vs O=>match vs with |[.cv (.int _ k)]=>l.length - k.toNat |_=>0,⟨0,Nat.zero_le _,fun j h=>absurd h (by omega),rfl,rfl⟩,?_⟩;rintro vs O _ ⟨k,hk,hj,rfl,rfl⟩))
     |(refine⟨_,hg (atN l k) (zdO (by(simp only[zz]at *;omega))),?_⟩;rintro v O' ⟨rfl,rfl⟩)
     |intro _)
  all_goals first
   |rfl
   |omega
   |(simp only[zz]at *;omega)
   |(rename_i hz;exact⟨k,rfl,zez (p:=p) (by(simp only[zz]at *;omega)) hz,rfl⟩)
   |(rename_i hz;exact⟨k+1,by(simp only[zz]at *;omega),zeb (p:=fun j=>p (atN l j)) hj hz,rfl,rfl⟩)
   |exact⟨-1,rfl,zgW (p:=p) (by(simp only[zz]at *;omega)) hj,rfl⟩
   |(exfalso;(simp only[zz]at *;omega))
theorem zuZ(l:List NodeM)(d:Int)(p:NodeM->Bool)(hl:l.length<=1000000)(hg:∀m∈l,DSpec Tryd.prog axX axG 70 [.agg (zay m),.ptr 0 0] [.cells 3 [ai d]] (fun v O=>v=ab (p m)/\O=[.cells 3 [ai d]])):
  DSpec Tryd.prog axX axG 69 [.isl 9 l.length (zfR l),.fn 70 [] [.ptr 0 0]] [.cells 3 [ai d]] (fun v O=>v=ab (l.any p)/\O=[.cells 3 [ai d]]):=by
 refine zac { glb:=axG } true Tryd.func69 (by kernel_rfl) rfl ?_
 repeat' (
   (conv=>whnf)
   first
    |exact zaf (by kernel_rfl)
    |refine And.intro ?_ ?_
    |refine zaa ?_ ?_
    |(refine⟨_,ztW l d p hl hg,?_⟩;rintro v O' ⟨k,rfl,hk,rfl⟩)
    |intro _)
 all_goals first
  |rfl
  |exact congrArg (fun b=>SV.cv (CV.bool b)) hk
set_option maxRecDepth 100000 in
set_option maxHeartbeats 4000000 in
theorem zzg:∀(d:Nat) (hd:d<=200) (n:NodeM) (hn:Fit n),DSpec Tryd.prog axX axG 38 [.agg (zay n),ai d] [] (fun v O=>v=ab (zbk d n)/\O=[]):=by
 intro d
 induction d with
 |zero=>
  intro hd n hn;refine zac { glb:=axG } true Tryd.func38 (by kernel_rfl) rfl ?_
  repeat' (
    (conv=>whnf)
    first
     |exact zaf (by kernel_rfl)
     |refine And.intro ?_ ?_
     |refine zaa ?_ ?_
     |intro _)
  all_goals first
   |rfl
   |(rename_i h;simp at h;done)
 |succ d ih=>
  intro hd n hn;have h1:∀m∈n.kids,DSpec Tryd.prog axX axG 70 [.agg (zay m),.ptr 0 0] [.cells 3 [ai ((d+1:Nat):Int)]] (fun v O=>v=ab (!zbk d m)/\O=[.cells 3 [ai ((d+1:Nat):Int)]]):=fun m hm=>zwO ((d+1:Nat):Int) (by omega) (zbk d) m (by rw[show((d+1:Nat):Int) - 1=(d:Int)by omega];exact ih (by omega) m (hn.kid hm))
  refine zac { glb:=axG } true Tryd.func38 (by kernel_rfl) rfl ?_
  repeat' (
    (conv=>whnf)
    first
     |exact zaf (by kernel_rfl)
     |refine And.intro ?_ ?_
     |refine zaa ?_ ?_
     |(refine⟨_,zBm n.atom hn.self.2,?_⟩;rintro v O' ⟨rfl,rfl⟩)
     |(refine⟨_,zBV n.atom,?_⟩;rintro v O' ⟨rfl,rfl⟩)
     |(refine⟨_,zuZ n.kids ((d+1:Nat):Int) (fun m => !zbk d m) hn.self.1 h1,?_⟩;rintro v O' ⟨rfl,rfl⟩)
     |intro _)
  all_goals first
   |rfl
   |(simp only[zbk, *,Bool.true_and,Bool.and_true,Bool.false_and,Bool.and_false,Bool.true_or,Bool.or_true,Bool.false_or,Bool.or_false,Bool.not_true,Bool.not_false,Bool.not_not,cond_true,cond_false];first |done |rfl)
end Go.Proofs.YtmgibblhcoimfaaDoor
