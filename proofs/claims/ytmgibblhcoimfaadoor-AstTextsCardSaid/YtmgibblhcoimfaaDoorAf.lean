import Derived.Test.YtmgibblhcoimfaaDoorAe
set_option linter.unusedSimpArgs false
set_option linter.unusedVariables false
set_option maxRecDepth 100000
namespace Go.Proofs.YtmgibblhcoimfaaDoor
open Go Go.Cx
noncomputable abbrev zu6 (n:NodeM):List AtomM:=zlu n zdp zj0
theorem zz4(n:NodeM)(hn:NFit n):DSpec Tryd.prog axX axG 18 [.agg (zay n)] [] (fun v O=>v=.tup [.isl 5 (zu6 n).length (elF zfZ (zu6 n)),ai (zbh n)]/\O=[]):=by
 refine zac { glb:=axG } true Tryd.func18 (by kernel_rfl) rfl ?_
 repeat' (
   (conv=>whnf)
   first
    |exact zaf (by kernel_rfl)
    |refine And.intro ?_ ?_
    |refine zaa ?_ ?_
    |(refine⟨_,zsz n hn.fit hn.dep hn.num,?_⟩;rintro v O' ⟨rfl,rfl⟩)
    |intro _)
 all_goals first
  |rfl
  |omega
noncomputable def zeQ(a:AggM):Bool:=(decide (a.fn>=1)&&decide (a.fn<=6))&&zdu (nm a.name)
noncomputable def zjw(h:HaveM):Bool := !zeQ h.agg || !opB h.cond.op
theorem zBP(a:AggM):DSpec Tryd.prog axX axG 31 [.agg (zzb a)] [] (fun v O=>v=ab (zeQ a)/\O=[]):=by
 refine zac { glb:=axG } true Tryd.func31 (by kernel_rfl) rfl ?_
 repeat' (
   (conv=>whnf)
   first
    |exact zaf (by kernel_rfl)
    |refine And.intro ?_ ?_
    |refine zaa ?_ ?_
    |(refine⟨_,zyl (nm a.name),?_⟩;rintro v O' ⟨rfl,rfl⟩)
    |intro _)
 all_goals first
  |rfl
  |(simp only[zeQ, *,Bool.true_and,Bool.and_true,Bool.false_and,Bool.and_false,Bool.true_or,Bool.or_true,Bool.false_or,Bool.or_false,Bool.not_true,Bool.not_false,Bool.not_not,cond_true,cond_false];first |done |rfl)
theorem zw7(h:HaveM):DSpec Tryd.prog axX axG 30 [.agg (zxS h)] [] (fun v O=>v=ab (zjw h)/\O=[]):=by
 refine zac { glb:=axG } true Tryd.func30 (by kernel_rfl) rfl ?_
 repeat' (
   (conv=>whnf)
   first
    |exact zaf (by kernel_rfl)
    |refine And.intro ?_ ?_
    |refine zaa ?_ ?_
    |(refine⟨_,zBP h.agg,?_⟩;rintro v O' ⟨rfl,rfl⟩)
    |(refine⟨_,zDv h.cond.op,?_⟩;rintro v O' ⟨rfl,rfl⟩)
    |intro _)
 all_goals first
  |rfl
  |(simp only[zjw, *,Bool.true_and,Bool.and_true,Bool.false_and,Bool.and_false,Bool.true_or,Bool.or_true,Bool.false_or,Bool.or_false,Bool.not_true,Bool.not_false,Bool.not_not,cond_true,cond_false];first |done |rfl)
theorem zxV(a:AggM):DSpec Tryd.prog axX axG 34 [.agg (zzb a)] [] (fun v O=>v=ab (!zeQ a)/\O=[]):=by
 refine zac { glb:=axG } true Tryd.func34 (by kernel_rfl) rfl ?_
 repeat' (
   (conv=>whnf)
   first
    |exact zaf (by kernel_rfl)
    |refine And.intro ?_ ?_
    |refine zaa ?_ ?_
    |(refine⟨_,zBP a,?_⟩;rintro v O' ⟨rfl,rfl⟩)
    |intro _)
 all_goals first
  |rfl
  |(simp only[zjw, *,Bool.true_and,Bool.and_true,Bool.false_and,Bool.and_false,Bool.true_or,Bool.or_true,Bool.false_or,Bool.or_false,Bool.not_true,Bool.not_false,Bool.not_not,cond_true,cond_false];first |done |rfl)
theorem zv7(l:List HaveM)(hl:l.length<=1000000):DSpec Tryd.prog axX axG 63 [.isl 4 l.length (zh9 l),.fn 30 [] []] [] (fun v O=>∃k:Int,v=ai k/\decide (k>=0)=(l.any zjw)/\O=[]):=by
 refine zac { glb:=axG,ann:=[(2,[8])] } true Tryd.func63 (by kernel_rfl) rfl ?_
 repeat' (
   (conv=>whnf)
   first
    |exact zaf (by kernel_rfl)
    |refine And.intro ?_ ?_
    |refine zaa ?_ ?_
    |((refine⟨fun vs O _=>∃k:Nat,k<=l.length/\(∀j,j<k->zjw (l.getD j default)=false)/\vs=[ai k]/\O=[],fun vs O=>match vs with |[.cv (.int _ k)]=>l.length - k.toNat |_=>0,⟨0,Nat.zero_le _,fun j h=>absurd h (by omega),rfl,rfl⟩,?_⟩;rintro vs O _ ⟨k,hk,hj,rfl,rfl⟩))
    |(refine⟨_,zw7 (l.getD k default),?_⟩;rintro v O' ⟨rfl,rfl⟩)
    |intro _)
 all_goals first
  |rfl
  |omega
  |(simp only[zz]at *;omega)
  |(rename_i hz;exact⟨k,rfl,zez (p:=zjw) (by(simp only[zz]at *;omega)) hz,rfl⟩)
  |(rename_i hz;exact⟨k+1,by(simp only[zz]at *;omega),zeb (p:=fun j=>zjw (l.getD j default)) hj hz,rfl,rfl⟩)
  |exact⟨-1,rfl,zgW (p:=zjw) (by(simp only[zz]at *;omega)) hj,rfl⟩
theorem zur(l:List HaveM)(hl:l.length<=1000000):DSpec Tryd.prog axX axG 29 [.isl 4 l.length (zh9 l),.fn 30 [] []] [] (fun v O=>v=ab (l.any zjw)/\O=[]):=by
 refine zac { glb:=axG } true Tryd.func29 (by kernel_rfl) rfl ?_
 repeat' (
   (conv=>whnf)
   first
    |exact zaf (by kernel_rfl)
    |refine And.intro ?_ ?_
    |refine zaa ?_ ?_
    |(refine⟨_,zv7 l hl,?_⟩;rintro v O' ⟨k,rfl,hk,rfl⟩)
    |intro _)
 all_goals first
  |rfl
  |exact congrArg (fun b=>SV.cv (CV.bool b)) hk
theorem zwV(l:List AggM)(hl:l.length<=1000000):DSpec Tryd.prog axX axG 64 [.isl 2 l.length (zsl l),.fn 34 [] []] [] (fun v O=>∃k:Int,v=ai k/\decide (k>=0)=(l.any (fun a => !zeQ a))/\O=[]):=by
 refine zac { glb:=axG,ann:=[(2,[8])] } true Tryd.func64 (by kernel_rfl) rfl ?_
 repeat' (
   (conv=>whnf)
   first
    |exact zaf (by kernel_rfl)
    |refine And.intro ?_ ?_
    |refine zaa ?_ ?_
    |((refine⟨fun vs O _=>∃k:Nat,k<=l.length/\(∀j,j<k->(fun a => !zeQ a) (l.getD j default)=false)/\vs=[ai k]/\O=[],fun vs O=>match vs with |[.cv (.int _ k)]=>l.length - k.toNat |_=>0,⟨0,Nat.zero_le _,fun j h=>absurd h (by omega),rfl,rfl⟩,?_⟩;rintro vs O _ ⟨k,hk,hj,rfl,rfl⟩))
    |(refine⟨_,zxV (l.getD k default),?_⟩;rintro v O' ⟨rfl,rfl⟩)
    |intro _)
 all_goals first
  |rfl
  |omega
  |(simp only[zz]at *;omega)
  |(rename_i hz;exact⟨k,rfl,zez (p:=(fun a => !zeQ a)) (by(simp only[zz]at *;omega)) hz,rfl⟩)
  |(rename_i hz;exact⟨k+1,by(simp only[zz]at *;omega),zeb (p:=fun j=>(fun a => !zeQ a) (l.getD j default)) hj hz,rfl,rfl⟩)
  |exact⟨-1,rfl,zgW (p:=(fun a => !zeQ a)) (by(simp only[zz]at *;omega)) hj,rfl⟩
theorem zwy(l:List AggM)(hl:l.length<=1000000):DSpec Tryd.prog axX axG 33 [.isl 2 l.length (zsl l),.fn 34 [] []] [] (fun v O=>v=ab (l.any (fun a => !zeQ a))/\O=[]):=by
 refine zac { glb:=axG } true Tryd.func33 (by kernel_rfl) rfl ?_
 repeat' (
   (conv=>whnf)
   first
    |exact zaf (by kernel_rfl)
    |refine And.intro ?_ ?_
    |refine zaa ?_ ?_
    |(refine⟨_,zwV l hl,?_⟩;rintro v O' ⟨k,rfl,hk,rfl⟩)
    |intro _)
 all_goals first
  |rfl
  |exact congrArg (fun b=>SV.cv (CV.bool b)) hk
noncomputable def zsG(q:QueryM):Bool:=decide (q.within > 99999)||(q.hv.any zjw||q.em.any fun a => !zeQ a)
noncomputable def zec(q:QueryM):Int:=bif zbh q.p != 0 then zbh q.p else bif zsG q then 3 else 0
theorem zAk(q:QueryM)(hq:QFit q):DSpec Tryd.prog axX axG 11 [.agg (zb8 q)] [] (fun v O=>v=ai (zec q)/\O=[]):=by
 refine zac { glb:=axG } true Tryd.func11 (by kernel_rfl) rfl ?_
 repeat' (
   (conv=>whnf)
   first
    |exact zaf (by kernel_rfl)
    |refine And.intro ?_ ?_
    |refine zaa ?_ ?_
    |(refine⟨_,ztv q.p hq.fit,?_⟩;rintro v O' ⟨rfl,rfl⟩)
    |(refine⟨_,zur q.hv hq.hv,?_⟩;rintro v O' ⟨rfl,rfl⟩)
    |(refine⟨_,zwy q.em hq.em,?_⟩;rintro v O' ⟨rfl,rfl⟩)
    |intro _)
 all_goals first
  |rfl
  |omega
  |(simp only[zec,zsG, *,Bool.true_and,Bool.and_true,Bool.false_and,Bool.and_false,Bool.true_or,Bool.or_true,Bool.false_or,Bool.or_false,Bool.not_true,Bool.not_false,Bool.not_not,cond_true,cond_false];first |done |rfl)
end Go.Proofs.YtmgibblhcoimfaaDoor
