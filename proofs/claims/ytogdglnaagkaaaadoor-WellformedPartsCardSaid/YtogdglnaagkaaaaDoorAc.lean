import Derived.Test.YtogdglnaagkaaaaDoorAb
set_option linter.unusedSimpArgs false
set_option linter.unusedVariables false
set_option maxRecDepth 100000
namespace Go.Proofs.YtogdglnaagkaaaaDoor
open Go Go.Cx
theorem zzt(a:AtomM):DSpec Tryd.prog axX axG 73 [.agg (zjt a)] [] (fun v O=>v=ab (zuP a)/\O=[]):=by
 refine zac { glb:=axG } true Tryd.func73 (by kernel_rfl) rfl ?_
 repeat' (
   (conv=>whnf)
   first
    |exact zaf (by kernel_rfl)
    |refine And.intro ?_ ?_
    |refine zaa ?_ ?_
    |intro _)
 all_goals first
  |rfl
  |(simp only[zuP,isE, *,Bool.true_and,Bool.and_true,Bool.false_and,Bool.and_false,Bool.true_or,Bool.or_true,Bool.false_or,Bool.or_false,Bool.not_true,Bool.not_false,Bool.not_not,cond_true,cond_false];first |done |rfl)
set_option maxRecDepth 100000 in
theorem zzC(a:AtomM)(hl:a.cs.length<=1000000):DSpec Tryd.prog axX axG 72 [.agg (zjt a)] [] (fun v O=>v=ab (zrs a)/\O=[]):=by
 refine zac { glb:=axG } true Tryd.func72 (by kernel_rfl) rfl ?_
 repeat' (
   (conv=>whnf)
   first
    |exact zaf (by kernel_rfl)
    |refine And.intro ?_ ?_
    |refine zaa ?_ ?_
    |(refine⟨_,zwN (nm a.name),?_⟩;rintro v O' ⟨rfl,rfl⟩)
    |(refine⟨_,ztG a.cs (by omega),?_⟩;rintro v O' ⟨rfl,rfl⟩)
    |intro _)
 all_goals first
  |rfl
  |(simp only[zrs,isE, *,Bool.true_and,Bool.and_true,Bool.false_and,Bool.and_false,Bool.true_or,Bool.or_true,Bool.false_or,Bool.or_false,Bool.not_true,Bool.not_false,Bool.not_not,cond_true,cond_false];first |done |rfl)
theorem zvp(D:Int)(hD:0<=D/\D<=200)(p:NodeM->Bool)(m:NodeM)(ih:DSpec Tryd.prog axX axG 65 [.agg (zah m),ai (D - 1)] [] (fun v O=>v=ab (p m)/\O=[])):DSpec Tryd.prog axX axG 75 [.agg (zah m),.ptr 0 0] [.cells 3 [ai D]] (fun v O=>v=ab (!p m)/\O=[.cells 3 [ai D]]):=by
 refine zac { glb:=axG } true Tryd.func75 (by kernel_rfl) rfl ?_
 repeat' (
   (conv=>whnf)
   first
    |exact zaf (by kernel_rfl)
    |refine And.intro ?_ ?_
    |refine zaa ?_ ?_
    |(refine⟨_,ih,?_⟩;rintro v O' ⟨rfl,rfl⟩)
    |intro _)
 all_goals first
  |rfl
  |omega
set_option maxRecDepth 100000 in
theorem ztj(l:List NodeM)(d:Int)(p:NodeM->Bool)(hl:l.length<=1000000)(hg:∀m∈l,DSpec Tryd.prog axX axG 75 [.agg (zah m),.ptr 0 0] [.cells 3 [ai d]] (fun v O=>v=ab (p m)/\O=[.cells 3 [ai d]])):
  DSpec Tryd.prog axX axG 79 [.isl 9 l.length (zcc l),.fn 75 [] [.ptr 0 0]] [.cells 3 [ai d]] (fun v O=>∃k:Int,v=ai k/\decide (k>=0)=l.any p/\O=[.cells 3 [ai d]]):=by
 rcases zkD l with he |he
 all_goals try rw[he]
 all_goals
  refine zac { glb:=axG,ann:=[(2,[8])] } true Tryd.func79 (by kernel_rfl) rfl ?_
  repeat' (
    (conv=>whnf)
    first
     |exact zaf (by kernel_rfl)
     |refine And.intro ?_ ?_
     |refine zaa ?_ ?_
     |((refine⟨fun vs O _=>∃k:Nat,k<=l.length/\(∀j,j<k->p (atN l j)=false)/\vs=[ai k]/\O=[.cells 3 [ai d]],fun vs O=>match vs with |[.cv (.int _ k)]=>l.length - k.toNat |_=>0,⟨0,Nat.zero_le _,fun j h=>absurd h (by omega),rfl,rfl⟩,?_⟩;rintro vs O _ ⟨k,hk,hj,rfl,rfl⟩))
     |(refine⟨_,hg (atN l k) (zeo (by(simp only[zz]at *;omega))),?_⟩;rintro v O' ⟨rfl,rfl⟩)
     |intro _)
  all_goals first
   |rfl
   |omega
   |(simp only[zz]at *;omega)
   |(rename_i hz;exact⟨k,rfl,zfa (p:=p) (by(simp only[zz]at *;omega)) hz,rfl⟩)
   |(rename_i hz;exact⟨k+1,by(simp only[zz]at *;omega),zdb (p:=fun j=>p (atN l j)) hj hz,rfl,rfl⟩)
   |exact⟨-1,rfl,zif (p:=p) (by(simp only[zz]at *;omega)) hj,rfl⟩
   |(exfalso;(simp only[zz]at *;omega))
theorem zty(l:List NodeM)(d:Int)(p:NodeM->Bool)(hl:l.length<=1000000)(hg:∀m∈l,DSpec Tryd.prog axX axG 75 [.agg (zah m),.ptr 0 0] [.cells 3 [ai d]] (fun v O=>v=ab (p m)/\O=[.cells 3 [ai d]])):
  DSpec Tryd.prog axX axG 74 [.isl 9 l.length (zcc l),.fn 75 [] [.ptr 0 0]] [.cells 3 [ai d]] (fun v O=>v=ab (l.any p)/\O=[.cells 3 [ai d]]):=by
 refine zac { glb:=axG } true Tryd.func74 (by kernel_rfl) rfl ?_
 repeat' (
   (conv=>whnf)
   first
    |exact zaf (by kernel_rfl)
    |refine And.intro ?_ ?_
    |refine zaa ?_ ?_
    |(refine⟨_,ztj l d p hl hg,?_⟩;rintro v O' ⟨k,rfl,hk,rfl⟩)
    |intro _)
 all_goals first
  |rfl
  |exact congrArg (fun b=>SV.cv (CV.bool b)) hk
set_option maxRecDepth 100000 in
set_option maxHeartbeats 4000000 in
theorem zxK:∀(d:Nat) (hd:d<=200) (n:NodeM) (hn:Fit n),DSpec Tryd.prog axX axG 65 [.agg (zah n),ai d] [] (fun v O=>v=ab (zaS d n)/\O=[]):=by
 intro d
 induction d with
 |zero=>
  intro hd n hn;refine zac { glb:=axG } true Tryd.func65 (by kernel_rfl) rfl ?_
  repeat' (
    (conv=>whnf)
    first
     |exact zaf (by kernel_rfl)
     |refine And.intro ?_ ?_
     |refine zaa ?_ ?_
     |intro _)
  all_goals first
   |rfl
   |(rename_i h;simp at h;done)
 |succ d ih=>
  intro hd n hn;have h1:∀m∈n.kids,DSpec Tryd.prog axX axG 75 [.agg (zah m),.ptr 0 0] [.cells 3 [ai ((d+1:Nat):Int)]] (fun v O=>v=ab (!zaS d m)/\O=[.cells 3 [ai ((d+1:Nat):Int)]]):=fun m hm=>zvp ((d+1:Nat):Int) (by omega) (zaS d) m (by rw[show((d+1:Nat):Int) - 1=(d:Int)by omega];exact ih (by omega) m (hn.kid hm))
  refine zac { glb:=axG } true Tryd.func65 (by kernel_rfl) rfl ?_
  repeat' (
    (conv=>whnf)
    first
     |exact zaf (by kernel_rfl)
     |refine And.intro ?_ ?_
     |refine zaa ?_ ?_
     |(refine⟨_,zzC n.atom hn.self.2,?_⟩;rintro v O' ⟨rfl,rfl⟩)
     |(refine⟨_,zzt n.atom,?_⟩;rintro v O' ⟨rfl,rfl⟩)
     |(refine⟨_,zty n.kids ((d+1:Nat):Int) (fun m => !zaS d m) hn.self.1 h1,?_⟩;rintro v O' ⟨rfl,rfl⟩)
     |intro _)
  all_goals first
   |rfl
   |(simp only[zaS, *,Bool.true_and,Bool.and_true,Bool.false_and,Bool.and_false,Bool.true_or,Bool.or_true,Bool.false_or,Bool.or_false,Bool.not_true,Bool.not_false,Bool.not_not,cond_true,cond_false];first |done |rfl)
end Go.Proofs.YtogdglnaagkaaaaDoor
