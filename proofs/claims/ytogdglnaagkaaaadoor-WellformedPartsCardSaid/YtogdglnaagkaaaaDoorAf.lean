import Derived.Test.YtogdglnaagkaaaaDoorAe
set_option linter.unusedSimpArgs false
set_option linter.unusedVariables false
set_option maxRecDepth 100000
namespace Go.Proofs.YtogdglnaagkaaaaDoor
open Go Go.Cx
noncomputable abbrev za9 (n:NodeM):List AtomM:=zee n za5 zhK
noncomputable abbrev zoq (n:NodeM):List Bool:=zee n za5 zu6
noncomputable abbrev zjh (n:NodeM):List Int:=zee n zdN zo0
theorem ztf(n:NodeM)(hn:NFit n):DSpec Tryd.prog axX axG 29 [.agg (zah n)] [] (fun v O=>v=.tup [.isl 5 (za9 n).length (elF zjt (za9 n)),ai (za6 n)]/\O=[]):=by
 refine zac { glb:=axG } true Tryd.func29 (by kernel_rfl) rfl ?_
 repeat' (
   (conv=>whnf)
   first
    |exact zaf (by kernel_rfl)
    |refine And.intro ?_ ?_
    |refine zaa ?_ ?_
    |(refine⟨_,zq1 n hn.fit hn.dep hn.num,?_⟩;rintro v O' ⟨rfl,rfl⟩)
    |intro _)
 all_goals first
  |rfl
  |omega
theorem zt5(n:NodeM)(hn:NFit n):DSpec Tryd.prog axX axG 51 [.agg (zah n)] [] (fun v O=>v=.tup [.isl 1 (zoq n).length (elF zvc (zoq n)),ai (za6 n)]/\O=[]):=by
 refine zac { glb:=axG } true Tryd.func51 (by kernel_rfl) rfl ?_
 repeat' (
   (conv=>whnf)
   first
    |exact zaf (by kernel_rfl)
    |refine And.intro ?_ ?_
    |refine zaa ?_ ?_
    |(refine⟨_,zre n hn.fit hn.dep hn.num,?_⟩;rintro v O' ⟨rfl,rfl⟩)
    |intro _)
 all_goals first
  |rfl
  |omega
theorem zvn(n:NodeM)(hn:NFit n):DSpec Tryd.prog axX axG 42 [.agg (zah n)] [] (fun v O=>v=.tup [.isl 1 (zjh n).length (elF zzu (zjh n)),ai (za6 n)]/\O=[]):=by
 refine zac { glb:=axG } true Tryd.func42 (by kernel_rfl) rfl ?_
 repeat' (
   (conv=>whnf)
   first
    |exact zaf (by kernel_rfl)
    |refine And.intro ?_ ?_
    |refine zaa ?_ ?_
    |(refine⟨_,zq9 n hn.fit hn.dep hn.num,?_⟩;rintro v O' ⟨rfl,rfl⟩)
    |intro _)
 all_goals first
  |rfl
  |omega
theorem zpq{l:List Int}{k i:Nat}(hi:i<k)(hm:∀j,j<k->l.getD j default<=l.getD i default):(∀j,j<k+1->l.getD j default<=max (l.getD i default) (l.getD k default))/\∃j,j<k+1/\max (l.getD i default) (l.getD k default)=l.getD j default:=by
 refine⟨fun j hj=>?_,?_⟩
 ·rcases Nat.lt_succ_iff_lt_or_eq.1 hj with h1 |rfl
  ·have:=hm j h1;omega
  ·omega
 ·by_cases hq:l.getD i default<=l.getD k default
  ·exact⟨k,by omega,by omega⟩
  ·exact⟨i,by omega,by omega⟩
theorem zAW(l:List Int)(h0:0<l.length)(hl:l.length<=1000000):DSpec Tryd.prog axX axG 43 [.isl 1 l.length (elF zzu l)] [] (fun v O=>∃m:Int,v=ai m/\((∀i,i<l.length->l.getD i default<=m)/\∃i,i<l.length/\m=l.getD i default)/\O=[]):=by
 refine zac { glb:=axG,ann:=[(5,[3,4])] } true Tryd.func43 (by kernel_rfl) rfl ?_
 repeat' (
   (conv=>whnf)
   first
    |exact zaf (by kernel_rfl)
    |refine And.intro ?_ ?_
    |refine zaa ?_ ?_
    |((refine⟨fun vs O _=>∃(k:Nat) (m:Int),1<=k/\k<=l.length/\(∀i,i<k->l.getD i default<=m)/\(∃i,i<k/\m=l.getD i default)/\vs=[ai m,ai k]/\O=[],fun vs O=>match vs with |[_,.cv (.int _ k)]=>l.length - k.toNat |_=>0,⟨1,_,by decide,by omega,fun i hi=>?_,⟨0,by decide,rfl⟩,rfl,rfl⟩,?_⟩;rotate_left;rintro vs O _ ⟨k,m,hk0,hk,hm,⟨i,hi,rfl⟩,rfl,rfl⟩))
    |intro _)
 all_goals first
  |rfl
  |omega
  |(simp only[zz]at *;omega)
  |(exfalso;(simp only[zz]at *;omega))
  |exact⟨k+1,_,by omega,by(simp only[zz]at *;omega),(zpq hi hm).1,(zpq hi hm).2,rfl,rfl⟩
  |exact⟨_,rfl,⟨fun j hj=>hm j (by(simp only[zz]at *;omega)),i,by(simp only[zz]at *;omega),rfl⟩,rfl⟩
  | (obtain rfl:i=0:=by omega
     exact Int.le_refl _)
theorem zuQ{n:NodeM}:∀{d:Int},(∀p∈zaZ d n,p.1+p.2.dep<=d+n.dep)/\∃p∈zaZ d n,p.1=d+n.dep - 1:=by
 induction n using zeX with |h n ih=>?_
 intro d;refine⟨fun p hp=>?_,?_⟩
 ·rw[zcy]at hp;rcases List.mem_cons.1 hp with rfl |hp
  ·exact Int.le_refl _
  ·obtain⟨m,hm,hp⟩:=List.mem_flatMap.1 hp;have h1:=(ih m hm (d:=d+1)).1 p hp;have h2:=zl1 hm;omega
 ·cases hk:n.kids with
  |nil=>
   refine⟨(d,n),by rw[zcy];exact ya5,?_⟩;rw[zco,hk,depL];simp
  |cons a r=>
   obtain⟨m,hm,he⟩:=zpl (l:=n.kids) (by rw[hk];simp);obtain⟨p,hp,h1⟩:=(ih m hm (d:=d+1)).2;refine⟨p,ztA hm hp,?_⟩;rw[zco n,<- he];omega
noncomputable def zvE(n:NodeM):Int:=bif zaS 200 n then(n.dep:Int)else 0
theorem zvU{n:NodeM}{m:Int}(hs:zaS 200 n=true)(h1:∀i,i<(zjh n).length->(zjh n).getD i default<=m)(h2:∃i,i<(zjh n).length/\m=(zjh n).getD i default):m=zvE n:=by
 have hr:zjh n=(zaZ 1 n).map zo0:=by
  show zee n zdN zo0=_;unfold zee zuX;rw[hs];show List.map zo0 (List.filter zdN (zaZ 1 n))=_;have hf:List.filter zdN (zaZ 1 n)=zaZ 1 n:=List.filter_eq_self.2 fun _ _=>rfl
  rw[hf]
 rw[hr]at h1 h2;simp only[yb7]at h1 h2;have hg:∀i (hi:i<(zaZ 1 n).length),((zaZ 1 n).map zo0).getD i default=((zaZ 1 n)[i]).1:=fun i hi=>by
  rw[ya8,yb9,yb5 hi];rfl
 obtain⟨p,hp,hpd⟩:=(zuQ (n:=n) (d:=1)).2;obtain⟨j,hj,rfl⟩:=List.mem_iff_getElem.1 hp;have a1:=h1 j hj;rw[hg j hj]at a1;obtain⟨i,hi,rfl⟩:=h2;rw[hg i hi]at a1 ⊢;have a2:=(zuQ (n:=n) (d:=1)).1 _ (List.getElem_mem hi);have a3:1<=((zaZ 1 n)[i]).2.dep:=by rw[zco];omega
 unfold zvE;rw[hs];show _=(n.dep:Int)
 omega
theorem znr{n:NodeM}(hs:zaS 200 n=true):0<(zjh n).length/\(zjh n).length=(zaZ 1 n).length:=by
 have hr:zjh n=(zaZ 1 n).map zo0:=by
  show zee n zdN zo0=_;unfold zee zuX;rw[hs];show List.map zo0 (List.filter zdN (zaZ 1 n))=_;have hf:List.filter zdN (zaZ 1 n)=zaZ 1 n:=List.filter_eq_self.2 fun _ _=>rfl
  rw[hf]
 rw[hr,yb7];exact⟨by rw[zcy];simp,rfl⟩
theorem zyk(n:NodeM)(hn:NFit n):DSpec Tryd.prog axX axG 30 [.agg (zah n)] [] (fun v O=>v=.tup [ai (zvE n),ai (za6 n)]/\O=[]):=by
 have hnum:=hn.num;refine zac { glb:=axG } true Tryd.func30 (by kernel_rfl) rfl ?_
 repeat' (
   (conv=>whnf)
   first
    |exact zaf (by kernel_rfl)
    |refine And.intro ?_ ?_
    |refine zaa ?_ ?_
    |(refine⟨_,zvn n hn,?_⟩;rintro v O' ⟨rfl,rfl⟩)
    |(refine⟨_,zAW (zjh n) (znr (zcq (by assumption)).1).1 (by have:=(znr (zcq (n:=n) (by assumption)).1).2;omega),?_⟩;rintro v O' ⟨m,rfl,hm,rfl⟩)
    |intro _)
 all_goals first
  |rfl
  |omega
  |(rename_i hz;unfold zvE;rw[zj6 hz];rfl)
  |(rename_i hz;rw[zvU (zcq hz).1 hm.1 hm.2,(zcq hz).2])
noncomputable def zuD(a:AggM):Bool:=(decide (a.fn>=1)&&decide (a.fn<=6))&&zeg (nm a.name)
noncomputable def zjK(h:HaveM):Bool := !zuD h.agg || !opB h.cond.op
theorem zAe(a:AggM):DSpec Tryd.prog axX axG 58 [.agg (znZ a)] [] (fun v O=>v=ab (zuD a)/\O=[]):=by
 refine zac { glb:=axG } true Tryd.func58 (by kernel_rfl) rfl ?_
 repeat' (
   (conv=>whnf)
   first
    |exact zaf (by kernel_rfl)
    |refine And.intro ?_ ?_
    |refine zaa ?_ ?_
    |(refine⟨_,zwN (nm a.name),?_⟩;rintro v O' ⟨rfl,rfl⟩)
    |intro _)
 all_goals first
  |rfl
  |(simp only[zuD, *,Bool.true_and,Bool.and_true,Bool.false_and,Bool.and_false,Bool.true_or,Bool.or_true,Bool.false_or,Bool.or_false,Bool.not_true,Bool.not_false,Bool.not_not,cond_true,cond_false];first |done |rfl)
theorem zvy(h:HaveM):DSpec Tryd.prog axX axG 57 [.agg (zf2 h)] [] (fun v O=>v=ab (zjK h)/\O=[]):=by
 refine zac { glb:=axG } true Tryd.func57 (by kernel_rfl) rfl ?_
 repeat' (
   (conv=>whnf)
   first
    |exact zaf (by kernel_rfl)
    |refine And.intro ?_ ?_
    |refine zaa ?_ ?_
    |(refine⟨_,zAe h.agg,?_⟩;rintro v O' ⟨rfl,rfl⟩)
    |(refine⟨_,zB0 h.cond.op,?_⟩;rintro v O' ⟨rfl,rfl⟩)
    |intro _)
 all_goals first
  |rfl
  |(simp only[zjK, *,Bool.true_and,Bool.and_true,Bool.false_and,Bool.and_false,Bool.true_or,Bool.or_true,Bool.false_or,Bool.or_false,Bool.not_true,Bool.not_false,Bool.not_not,cond_true,cond_false];first |done |rfl)
theorem zv8(a:AggM):DSpec Tryd.prog axX axG 61 [.agg (znZ a)] [] (fun v O=>v=ab (!zuD a)/\O=[]):=by
 refine zac { glb:=axG } true Tryd.func61 (by kernel_rfl) rfl ?_
 repeat' (
   (conv=>whnf)
   first
    |exact zaf (by kernel_rfl)
    |refine And.intro ?_ ?_
    |refine zaa ?_ ?_
    |(refine⟨_,zAe a,?_⟩;rintro v O' ⟨rfl,rfl⟩)
    |intro _)
 all_goals first
  |rfl
  |(simp only[zjK, *,Bool.true_and,Bool.and_true,Bool.false_and,Bool.and_false,Bool.true_or,Bool.or_true,Bool.false_or,Bool.or_false,Bool.not_true,Bool.not_false,Bool.not_not,cond_true,cond_false];first |done |rfl)
theorem zth(l:List HaveM)(hl:l.length<=1000000):DSpec Tryd.prog axX axG 67 [.isl 4 l.length (zkF l),.fn 57 [] []] [] (fun v O=>∃k:Int,v=ai k/\decide (k>=0)=(l.any zjK)/\O=[]):=by
 refine zac { glb:=axG,ann:=[(2,[8])] } true Tryd.func67 (by kernel_rfl) rfl ?_
 repeat' (
   (conv=>whnf)
   first
    |exact zaf (by kernel_rfl)
    |refine And.intro ?_ ?_
    |refine zaa ?_ ?_
    |((refine⟨fun vs O _=>∃k:Nat,k<=l.length/\(∀j,j<k->zjK (l.getD j default)=false)/\vs=[ai k]/\O=[],fun vs O=>match vs with |[.cv (.int _ k)]=>l.length - k.toNat |_=>0,⟨0,Nat.zero_le _,fun j h=>absurd h (by omega),rfl,rfl⟩,?_⟩;rintro vs O _ ⟨k,hk,hj,rfl,rfl⟩))
    |(refine⟨_,zvy (l.getD k default),?_⟩;rintro v O' ⟨rfl,rfl⟩)
    |intro _)
 all_goals first
  |rfl
  |omega
  |(simp only[zz]at *;omega)
  |(rename_i hz;exact⟨k,rfl,zfa (p:=zjK) (by(simp only[zz]at *;omega)) hz,rfl⟩)
  |(rename_i hz;exact⟨k+1,by(simp only[zz]at *;omega),zdb (p:=fun j=>zjK (l.getD j default)) hj hz,rfl,rfl⟩)
  |exact⟨-1,rfl,zif (p:=zjK) (by(simp only[zz]at *;omega)) hj,rfl⟩
theorem ztQ(l:List HaveM)(hl:l.length<=1000000):DSpec Tryd.prog axX axG 56 [.isl 4 l.length (zkF l),.fn 57 [] []] [] (fun v O=>v=ab (l.any zjK)/\O=[]):=by
 refine zac { glb:=axG } true Tryd.func56 (by kernel_rfl) rfl ?_
 repeat' (
   (conv=>whnf)
   first
    |exact zaf (by kernel_rfl)
    |refine And.intro ?_ ?_
    |refine zaa ?_ ?_
    |(refine⟨_,zth l hl,?_⟩;rintro v O' ⟨k,rfl,hk,rfl⟩)
    |intro _)
 all_goals first
  |rfl
  |exact congrArg (fun b=>SV.cv (CV.bool b)) hk
theorem zv2(l:List AggM)(hl:l.length<=1000000):DSpec Tryd.prog axX axG 69 [.isl 2 l.length (zrE l),.fn 61 [] []] [] (fun v O=>∃k:Int,v=ai k/\decide (k>=0)=(l.any (fun a => !zuD a))/\O=[]):=by
 refine zac { glb:=axG,ann:=[(2,[8])] } true Tryd.func69 (by kernel_rfl) rfl ?_
 repeat' (
   (conv=>whnf)
   first
    |exact zaf (by kernel_rfl)
    |refine And.intro ?_ ?_
    |refine zaa ?_ ?_
    |((refine⟨fun vs O _=>∃k:Nat,k<=l.length/\(∀j,j<k->(fun a => !zuD a) (l.getD j default)=false)/\vs=[ai k]/\O=[],fun vs O=>match vs with |[.cv (.int _ k)]=>l.length - k.toNat |_=>0,⟨0,Nat.zero_le _,fun j h=>absurd h (by omega),rfl,rfl⟩,?_⟩;rintro vs O _ ⟨k,hk,hj,rfl,rfl⟩))
    |(refine⟨_,zv8 (l.getD k default),?_⟩;rintro v O' ⟨rfl,rfl⟩)
    |intro _)
 all_goals first
  |rfl
  |omega
  |(simp only[zz]at *;omega)
  |(rename_i hz;exact⟨k,rfl,zfa (p:=(fun a => !zuD a)) (by(simp only[zz]at *;omega)) hz,rfl⟩)
  |(rename_i hz;exact⟨k+1,by(simp only[zz]at *;omega),zdb (p:=fun j=>(fun a => !zuD a) (l.getD j default)) hj hz,rfl,rfl⟩)
  |exact⟨-1,rfl,zif (p:=(fun a => !zuD a)) (by(simp only[zz]at *;omega)) hj,rfl⟩
theorem zwm(l:List AggM)(hl:l.length<=1000000):DSpec Tryd.prog axX axG 60 [.isl 2 l.length (zrE l),.fn 61 [] []] [] (fun v O=>v=ab (l.any (fun a => !zuD a))/\O=[]):=by
 refine zac { glb:=axG } true Tryd.func60 (by kernel_rfl) rfl ?_
 repeat' (
   (conv=>whnf)
   first
    |exact zaf (by kernel_rfl)
    |refine And.intro ?_ ?_
    |refine zaa ?_ ?_
    |(refine⟨_,zv2 l hl,?_⟩;rintro v O' ⟨k,rfl,hk,rfl⟩)
    |intro _)
 all_goals first
  |rfl
  |exact congrArg (fun b=>SV.cv (CV.bool b)) hk
noncomputable def zAh(q:QueryM):Bool:=decide (q.within > 99999)||(q.hv.any zjK||q.em.any fun a => !zuD a)
noncomputable def zjZ(q:QueryM):Int:=bif za6 q.p != 0 then za6 q.p else bif zAh q then 3 else 0
theorem zx7(q:QueryM)(hq:QFit q):DSpec Tryd.prog axX axG 45 [.agg (zaP q)] [] (fun v O=>v=ai (zjZ q)/\O=[]):=by
 refine zac { glb:=axG } true Tryd.func45 (by kernel_rfl) rfl ?_
 repeat' (
   (conv=>whnf)
   first
    |exact zaf (by kernel_rfl)
    |refine And.intro ?_ ?_
    |refine zaa ?_ ?_
    |(refine⟨_,zlH q.p hq.fit,?_⟩;rintro v O' ⟨rfl,rfl⟩)
    |(refine⟨_,ztQ q.hv hq.hv,?_⟩;rintro v O' ⟨rfl,rfl⟩)
    |(refine⟨_,zwm q.em hq.em,?_⟩;rintro v O' ⟨rfl,rfl⟩)
    |intro _)
 all_goals first
  |rfl
  |omega
  |(simp only[zjZ,zAh, *,Bool.true_and,Bool.and_true,Bool.false_and,Bool.and_false,Bool.true_or,Bool.or_true,Bool.false_or,Bool.or_false,Bool.not_true,Bool.not_false,Bool.not_not,cond_true,cond_false];first |done |rfl)
end Go.Proofs.YtogdglnaagkaaaaDoor
