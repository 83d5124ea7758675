import Derived.Test.YtmgibblhcoimfaaDoorAe
set_option linter.unusedSimpArgs false
set_option linter.unusedVariables false
set_option maxRecDepth 100000
namespace Go.Proofs.YtmgibblhcoimfaaDoor
open Go Go.Cx
noncomputable def zgm(a:AggM):Bool:=(decide (a.fn>=1)&&decide (a.fn<=6))&&zd4 (nm a.name)
noncomputable def zdE(h:HaveM):Bool := !zgm h.agg || !opB h.cond.op
theorem zzX(a:AggM):DSpec Tryd.prog axX axG 31 [.agg (ztM a)] [] (fun v O=>v=ab (zgm a)/\O=[]):=by
 refine zac { glb:=axG } true Tryd.func31 (by kernel_rfl) rfl ?_
 repeat' (
   (conv=>whnf)
   first
    |exact zad (by kernel_rfl)
    |refine And.intro ?_ ?_
    |refine zaa ?_ ?_
    |(refine⟨_,zsh (nm a.name),?_⟩;rintro v O' ⟨rfl,rfl⟩)
    |intro _)
 all_goals first
  |rfl
  |(simp only[zgm, *,Bool.true_and,Bool.and_true,Bool.false_and,Bool.and_false,Bool.true_or,Bool.or_true,Bool.false_or,Bool.or_false,Bool.not_true,Bool.not_false,Bool.not_not,cond_true,cond_false];first |done |rfl)
theorem zwk(h:HaveM):DSpec Tryd.prog axX axG 30 [.agg (zu5 h)] [] (fun v O=>v=ab (zdE h)/\O=[]):=by
 refine zac { glb:=axG } true Tryd.func30 (by kernel_rfl) rfl ?_
 repeat' (
   (conv=>whnf)
   first
    |exact zad (by kernel_rfl)
    |refine And.intro ?_ ?_
    |refine zaa ?_ ?_
    |(refine⟨_,zzX h.agg,?_⟩;rintro v O' ⟨rfl,rfl⟩)
    |(refine⟨_,zBn h.cond.op,?_⟩;rintro v O' ⟨rfl,rfl⟩)
    |intro _)
 all_goals first
  |rfl
  |(simp only[zdE, *,Bool.true_and,Bool.and_true,Bool.false_and,Bool.and_false,Bool.true_or,Bool.or_true,Bool.false_or,Bool.or_false,Bool.not_true,Bool.not_false,Bool.not_not,cond_true,cond_false];first |done |rfl)
theorem zwp(a:AggM):DSpec Tryd.prog axX axG 34 [.agg (ztM a)] [] (fun v O=>v=ab (!zgm a)/\O=[]):=by
 refine zac { glb:=axG } true Tryd.func34 (by kernel_rfl) rfl ?_
 repeat' (
   (conv=>whnf)
   first
    |exact zad (by kernel_rfl)
    |refine And.intro ?_ ?_
    |refine zaa ?_ ?_
    |(refine⟨_,zzX a,?_⟩;rintro v O' ⟨rfl,rfl⟩)
    |intro _)
 all_goals first
  |rfl
  |(simp only[zdE, *,Bool.true_and,Bool.and_true,Bool.false_and,Bool.and_false,Bool.true_or,Bool.or_true,Bool.false_or,Bool.or_false,Bool.not_true,Bool.not_false,Bool.not_not,cond_true,cond_false];first |done |rfl)
theorem ztI(l:List HaveM)(hl:l.length<=1000000):DSpec Tryd.prog axX axG 63 [.isl 4 l.length (zm9 l),.fn 30 [] []] [] (fun v O=>∃k:Int,v=ai k/\decide (k>=0)=(l.any zdE)/\O=[]):=by
 refine zac { glb:=axG,ann:=[(2,[8])] } true Tryd.func63 (by kernel_rfl) rfl ?_
 repeat' (
   (conv=>whnf)
   first
    |exact zad (by kernel_rfl)
    |refine And.intro ?_ ?_
    |refine zaa ?_ ?_
    |((refine⟨fun vs O _=>∃k:Nat,k<=l.length/\(∀j,j<k->zdE (l.getD j default)=false)/\vs=[ai k]/\O=[],fun vs O=>match vs with |[.cv (.int _ k)]=>l.length - k.toNat |_=>0,⟨0,Nat.zero_le _,fun j h=>absurd h (by omega),rfl,rfl⟩,?_⟩;rintro vs O _ ⟨k,hk,hj,rfl,rfl⟩))
    |(refine⟨_,zwk (l.getD k default),?_⟩;rintro v O' ⟨rfl,rfl⟩)
    |intro _)
 all_goals first
  |rfl
  |omega
  |(simp only[zz]at *;omega)
  |(rename_i hz;exact⟨k,rfl,zcS (p:=zdE) (by(simp only[zz]at *;omega)) hz,rfl⟩)
  |(rename_i hz;exact⟨k+1,by(simp only[zz]at *;omega),zcl (p:=fun j=>zdE (l.getD j default)) hj hz,rfl,rfl⟩)
  |exact⟨-1,rfl,zdq (p:=zdE) (by(simp only[zz]at *;omega)) hj,rfl⟩
theorem zsx(l:List HaveM)(hl:l.length<=1000000):DSpec Tryd.prog axX axG 29 [.isl 4 l.length (zm9 l),.fn 30 [] []] [] (fun v O=>v=ab (l.any zdE)/\O=[]):=by
 refine zac { glb:=axG } true Tryd.func29 (by kernel_rfl) rfl ?_
 repeat' (
   (conv=>whnf)
   first
    |exact zad (by kernel_rfl)
    |refine And.intro ?_ ?_
    |refine zaa ?_ ?_
    |(refine⟨_,ztI l hl,?_⟩;rintro v O' ⟨k,rfl,hk,rfl⟩)
    |intro _)
 all_goals first
  |rfl
  |exact congrArg (fun b=>SV.cv (CV.bool b)) hk
theorem zu3(l:List AggM)(hl:l.length<=1000000):DSpec Tryd.prog axX axG 64 [.isl 2 l.length (zvJ l),.fn 34 [] []] [] (fun v O=>∃k:Int,v=ai k/\decide (k>=0)=(l.any (fun a => !zgm a))/\O=[]):=by
 refine zac { glb:=axG,ann:=[(2,[8])] } true Tryd.func64 (by kernel_rfl) rfl ?_
 repeat' (
   (conv=>whnf)
   first
    |exact zad (by kernel_rfl)
    |refine And.intro ?_ ?_
    |refine zaa ?_ ?_
    |((refine⟨fun vs O _=>∃k:Nat,k<=l.length/\(∀j,j<k->(fun a => !zgm a) (l.getD j default)=false)/\vs=[ai k]/\O=[],fun vs O=>match vs with |[.cv (.int _ k)]=>l.length - k.toNat |_=>0,⟨0,Nat.zero_le _,fun j h=>absurd h (by omega),rfl,rfl⟩,?_⟩;rintro vs O _ ⟨k,hk,hj,rfl,rfl⟩))
    |(refine⟨_,zwp (l.getD k default),?_⟩;rintro v O' ⟨rfl,rfl⟩)
    |intro _)
 all_goals first
  |rfl
  |omega
  |(simp only[zz]at *;omega)
  |(rename_i hz;exact⟨k,rfl,zcS (p:=(fun a => !zgm a)) (by(simp only[zz]at *;omega)) hz,rfl⟩)
  |(rename_i hz;exact⟨k+1,by(simp only[zz]at *;omega),zcl (p:=fun j=>(fun a => !zgm a) (l.getD j default)) hj hz,rfl,rfl⟩)
  |exact⟨-1,rfl,zdq (p:=(fun a => !zgm a)) (by(simp only[zz]at *;omega)) hj,rfl⟩
theorem zvD(l:List AggM)(hl:l.length<=1000000):DSpec Tryd.prog axX axG 33 [.isl 2 l.length (zvJ l),.fn 34 [] []] [] (fun v O=>v=ab (l.any (fun a => !zgm a))/\O=[]):=by
 refine zac { glb:=axG } true Tryd.func33 (by kernel_rfl) rfl ?_
 repeat' (
   (conv=>whnf)
   first
    |exact zad (by kernel_rfl)
    |refine And.intro ?_ ?_
    |refine zaa ?_ ?_
    |(refine⟨_,zu3 l hl,?_⟩;rintro v O' ⟨k,rfl,hk,rfl⟩)
    |intro _)
 all_goals first
  |rfl
  |exact congrArg (fun b=>SV.cv (CV.bool b)) hk
noncomputable def zfb(q:QueryM):Bool:=decide (q.within > 99999)||(q.hv.any zdE||q.em.any fun a => !zgm a)
noncomputable def zck(q:QueryM):Int:=bif zbo q.p != 0 then zbo q.p else bif zfb q then 3 else 0
theorem zsb(q:QueryM)(hq:QFit q):DSpec Tryd.prog axX axG 11 [.agg (zb8 q)] [] (fun v O=>v=ai (zck q)/\O=[]):=by
 refine zac { glb:=axG } true Tryd.func11 (by kernel_rfl) rfl ?_
 repeat' (
   (conv=>whnf)
   first
    |exact zad (by kernel_rfl)
    |refine And.intro ?_ ?_
    |refine zaa ?_ ?_
    |(refine⟨_,zoq q.p hq.fit,?_⟩;rintro v O' ⟨rfl,rfl⟩)
    |(refine⟨_,zsx q.hv hq.hv,?_⟩;rintro v O' ⟨rfl,rfl⟩)
    |(refine⟨_,zvD q.em hq.em,?_⟩;rintro v O' ⟨rfl,rfl⟩)
    |intro _)
 all_goals first
  |rfl
  |omega
  |(simp only[zck,zfb, *,Bool.true_and,Bool.and_true,Bool.false_and,Bool.and_false,Bool.true_or,Bool.or_true,Bool.false_or,Bool.or_false,Bool.not_true,Bool.not_false,Bool.not_not,cond_true,cond_false];first |done |rfl)
end Go.Proofs.YtmgibblhcoimfaaDoor
