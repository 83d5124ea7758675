import Derived.Test.YtogdglnaagkaaaaGreatDoorAb
set_option linter.unusedSimpArgs false
set_option linter.unusedVariables false
set_option maxRecDepth 100000
namespace Go.Proofs.YtogdglnaagkaaaaGreatDoor
open Go Go.Cx
theorem zC5(a:AtomM):DSpec Tryz.prog axX axG 88 [.agg (zfQ a)] [] (fun v O=>v=ab (zom a)/\O=[]):=by
 refine zac { glb:=axG } true Tryz.func88 (by kernel_rfl) rfl ?_
 repeat' (
   (conv=>whnf)
   first
    |exact zad (by kernel_rfl)
    |refine And.intro ?_ ?_
    |refine zaa ?_ ?_
    |intro _)
 all_goals first
  |rfl
  |(simp only[zom,isE, *,Bool.true_and,Bool.and_true,Bool.false_and,Bool.and_false,Bool.true_or,Bool.or_true,Bool.false_or,Bool.or_false,Bool.not_true,Bool.not_false,Bool.not_not,cond_true,cond_false];first |done |rfl)
set_option maxRecDepth 100000 in
theorem zC3(a:AtomM)(hl:a.cs.length<=1000000):DSpec Tryz.prog axX axG 87 [.agg (zfQ a)] [] (fun v O=>v=ab (zjw a)/\O=[]):=by
 refine zac { glb:=axG } true Tryz.func87 (by kernel_rfl) rfl ?_
 repeat' (
   (conv=>whnf)
   first
    |exact zad (by kernel_rfl)
    |refine And.intro ?_ ?_
    |refine zaa ?_ ?_
    |(refine⟨_,zzM (nm a.name),?_⟩;rintro v O' ⟨rfl,rfl⟩)
    |(refine⟨_,zvB a.cs (by omega),?_⟩;rintro v O' ⟨rfl,rfl⟩)
    |intro _)
 all_goals first
  |rfl
  |(simp only[zjw,isE, *,Bool.true_and,Bool.and_true,Bool.false_and,Bool.and_false,Bool.true_or,Bool.or_true,Bool.false_or,Bool.or_false,Bool.not_true,Bool.not_false,Bool.not_not,cond_true,cond_false];first |done |rfl)
theorem zy6(D:Int)(hD:0<=D/\D<=200)(p:NodeM->Bool)(m:NodeM)(ih:DSpec Tryz.prog axX axG 69 [.agg (zah m),ai (D - 1)] [] (fun v O=>v=ab (p m)/\O=[])):DSpec Tryz.prog axX axG 90 [.agg (zah m),.ptr 0 0] [.cells 3 [ai D]] (fun v O=>v=ab (!p m)/\O=[.cells 3 [ai D]]):=by
 refine zac { glb:=axG } true Tryz.func90 (by kernel_rfl) rfl ?_
 repeat' (
   (conv=>whnf)
   first
    |exact zad (by kernel_rfl)
    |refine And.intro ?_ ?_
    |refine zaa ?_ ?_
    |(refine⟨_,ih,?_⟩;rintro v O' ⟨rfl,rfl⟩)
    |intro _)
 all_goals first
  |rfl
  |omega
set_option maxRecDepth 100000 in
theorem zw5(l:List NodeM)(d:Int)(p:NodeM->Bool)(hl:l.length<=1000000)(hg:∀m∈l,DSpec Tryz.prog axX axG 90 [.agg (zah m),.ptr 0 0] [.cells 3 [ai d]] (fun v O=>v=ab (p m)/\O=[.cells 3 [ai d]])):
  DSpec Tryz.prog axX axG 104 [.isl 9 l.length (zcW l),.fn 90 [] [.ptr 0 0]] [.cells 3 [ai d]] (fun v O=>∃k:Int,v=ai k/\decide (k>=0)=l.any p/\O=[.cells 3 [ai d]]):=by
 rcases zs0 l with he |he
 all_goals try rw[he]
 all_goals
  refine zac { glb:=axG,ann:=[(2,[8])] } true Tryz.func104 (by kernel_rfl) rfl ?_
  repeat' (
    (conv=>whnf)
    first
     |exact zad (by kernel_rfl)
     |refine And.intro ?_ ?_
     |refine zaa ?_ ?_
     |((refine⟨fun vs O _=>∃k:Nat,k<=l.length/\(∀j,j<k->p (atN l j)=false)/\vs=[ai k]/\O=[.cells 3 [ai d]],fun vs O=>match vs with |[.cv (.int _ k)]=>l.length - k.toNat |_=>0,⟨0,Nat.zero_le _,fun j h=>absurd h (by omega),rfl,rfl⟩,?_⟩;rintro vs O _ ⟨k,hk,hj,rfl,rfl⟩))
     |(refine⟨_,hg (atN l k) (zdN (by(simp only[zz]at *;omega))),?_⟩;rintro v O' ⟨rfl,rfl⟩)
     |intro _)
  all_goals first
   |rfl
   |omega
   |(simp only[zz]at *;omega)
   |(rename_i hz;exact⟨k,rfl,zfv (p:=p) (by(simp only[zz]at *;omega)) hz,rfl⟩)
   |(rename_i hz;exact⟨k+1,by(simp only[zz]at *;omega),zdm (p:=fun j=>p (atN l j)) hj hz,rfl,rfl⟩)
   |exact⟨-1,rfl,zjA (p:=p) (by(simp only[zz]at *;omega)) hj,rfl⟩
   |(exfalso;(simp only[zz]at *;omega))
theorem zwX(l:List NodeM)(d:Int)(p:NodeM->Bool)(hl:l.length<=1000000)(hg:∀m∈l,DSpec Tryz.prog axX axG 90 [.agg (zah m),.ptr 0 0] [.cells 3 [ai d]] (fun v O=>v=ab (p m)/\O=[.cells 3 [ai d]])):
  DSpec Tryz.prog axX axG 89 [.isl 9 l.length (zcW l),.fn 90 [] [.ptr 0 0]] [.cells 3 [ai d]] (fun v O=>v=ab (l.any p)/\O=[.cells 3 [ai d]]):=by
 refine zac { glb:=axG } true Tryz.func89 (by kernel_rfl) rfl ?_
 repeat' (
   (conv=>whnf)
   first
    |exact zad (by kernel_rfl)
    |refine And.intro ?_ ?_
    |refine zaa ?_ ?_
    |(refine⟨_,zw5 l d p hl hg,?_⟩;rintro v O' ⟨k,rfl,hk,rfl⟩)
    |intro _)
 all_goals first
  |rfl
  |exact congrArg (fun b=>SV.cv (CV.bool b)) hk
set_option maxRecDepth 100000 in
set_option maxHeartbeats 4000000 in
theorem zAa:∀(d:Nat) (hd:d<=200) (n:NodeM) (hn:Fit n),DSpec Tryz.prog axX axG 69 [.agg (zah n),ai d] [] (fun v O=>v=ab (zaK d n)/\O=[]):=by
 intro d
 induction d with
 |zero=>
  intro hd n hn;refine zac { glb:=axG } true Tryz.func69 (by kernel_rfl) rfl ?_
  repeat' (
    (conv=>whnf)
    first
     |exact zad (by kernel_rfl)
     |refine And.intro ?_ ?_
     |refine zaa ?_ ?_
     |intro _)
  all_goals first
   |rfl
   |(rename_i h;simp at h;done)
 |succ d ih=>
  intro hd n hn;have h1:∀m∈n.kids,DSpec Tryz.prog axX axG 90 [.agg (zah m),.ptr 0 0] [.cells 3 [ai ((d+1:Nat):Int)]] (fun v O=>v=ab (!zaK d m)/\O=[.cells 3 [ai ((d+1:Nat):Int)]]):=fun m hm=>zy6 ((d+1:Nat):Int) (by omega) (zaK d) m (by rw[show((d+1:Nat):Int) - 1=(d:Int)by omega];exact ih (by omega) m (hn.kid hm))
  refine zac { glb:=axG } true Tryz.func69 (by kernel_rfl) rfl ?_
  repeat' (
    (conv=>whnf)
    first
     |exact zad (by kernel_rfl)
     |refine And.intro ?_ ?_
     |refine zaa ?_ ?_
     |(refine⟨_,zC3 n.atom hn.self.2,?_⟩;rintro v O' ⟨rfl,rfl⟩)
     |(refine⟨_,zC5 n.atom,?_⟩;rintro v O' ⟨rfl,rfl⟩)
     |(refine⟨_,zwX n.kids ((d+1:Nat):Int) (fun m => !zaK d m) hn.self.1 h1,?_⟩;rintro v O' ⟨rfl,rfl⟩)
     |intro _)
  all_goals first
   |rfl
   |(simp only[zaK, *,Bool.true_and,Bool.and_true,Bool.false_and,Bool.and_false,Bool.true_or,Bool.or_true,Bool.false_or,Bool.or_false,Bool.not_true,Bool.not_false,Bool.not_not,cond_true,cond_false];first |done |rfl)
end Go.Proofs.YtogdglnaagkaaaaGreatDoor
