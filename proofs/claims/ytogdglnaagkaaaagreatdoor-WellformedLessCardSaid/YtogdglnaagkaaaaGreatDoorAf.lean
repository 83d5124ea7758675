import Derived.Test.YtogdglnaagkaaaaGreatDoorAe
set_option linter.unusedSimpArgs false
set_option linter.unusedVariables false
set_option maxRecDepth 100000
namespace Go.Proofs.YtogdglnaagkaaaaGreatDoor
open Go Go.Cx
noncomputable abbrev zap (n:NodeM):List AtomM:=zeC n zbd zid
noncomputable abbrev zod (n:NodeM):List Bool:=zeC n zbd zxg
noncomputable abbrev zjm (n:NodeM):List Int:=zeC n zeA zpR
theorem zme(n:NodeM)(hn:NFit n):DSpec Tryz.prog axX axG 28 [.agg (zah n)] [] (fun v O=>v=.tup [.isl 5 (zap n).length (elF zfQ (zap n)),ai (za7 n)]/\O=[]):=by
 refine zac { glb:=axG } true Tryz.func28 (by kernel_rfl) rfl ?_
 repeat' (
   (conv=>whnf)
   first
    |exact zad (by kernel_rfl)
    |refine And.intro ?_ ?_
    |refine zaa ?_ ?_
    |(refine⟨_,zsZ n hn.fit hn.dep hn.num,?_⟩;rintro v O' ⟨rfl,rfl⟩)
    |intro _)
 all_goals first
  |rfl
  |omega
theorem zt3(n:NodeM)(hn:NFit n):DSpec Tryz.prog axX axG 67 [.agg (zah n)] [] (fun v O=>v=.tup [.isl 1 (zod n).length (elF zxK (zod n)),ai (za7 n)]/\O=[]):=by
 refine zac { glb:=axG } true Tryz.func67 (by kernel_rfl) rfl ?_
 repeat' (
   (conv=>whnf)
   first
    |exact zad (by kernel_rfl)
    |refine And.intro ?_ ?_
    |refine zaa ?_ ?_
    |(refine⟨_,zsU n hn.fit hn.dep hn.num,?_⟩;rintro v O' ⟨rfl,rfl⟩)
    |intro _)
 all_goals first
  |rfl
  |omega
theorem zyn(n:NodeM)(hn:NFit n):DSpec Tryz.prog axX axG 60 [.agg (zah n)] [] (fun v O=>v=.tup [.isl 1 (zjm n).length (elF zDh (zjm n)),ai (za7 n)]/\O=[]):=by
 refine zac { glb:=axG } true Tryz.func60 (by kernel_rfl) rfl ?_
 repeat' (
   (conv=>whnf)
   first
    |exact zad (by kernel_rfl)
    |refine And.intro ?_ ?_
    |refine zaa ?_ ?_
    |(refine⟨_,zta n hn.fit hn.dep hn.num,?_⟩;rintro v O' ⟨rfl,rfl⟩)
    |intro _)
 all_goals first
  |rfl
  |omega
theorem zsl{l:List Int}{k i:Nat}(hi:i<k)(hm:∀j,j<k->l.getD j default<=l.getD i default):(∀j,j<k+1->l.getD j default<=max (l.getD i default) (l.getD k default))/\∃j,j<k+1/\max (l.getD i default) (l.getD k default)=l.getD j default:=by
 refine⟨fun j hj=>?_,?_⟩
 ·rcases Nat.lt_succ_iff_lt_or_eq.1 hj with h1 |rfl
  ·have:=hm j h1;omega
  ·omega
 ·by_cases hq:l.getD i default<=l.getD k default
  ·exact⟨k,by omega,by omega⟩
  ·exact⟨i,by omega,by omega⟩
theorem zEq(l:List Int)(h0:0<l.length)(hl:l.length<=1000000):DSpec Tryz.prog axX axG 61 [.isl 1 l.length (elF zDh l)] [] (fun v O=>∃m:Int,v=ai m/\((∀i,i<l.length->l.getD i default<=m)/\∃i,i<l.length/\m=l.getD i default)/\O=[]):=by
 refine zac { glb:=axG,ann:=[(5,[3,4])] } true Tryz.func61 (by kernel_rfl) rfl ?_
 repeat' (
   (conv=>whnf)
   first
    |exact zad (by kernel_rfl)
    |refine And.intro ?_ ?_
    |refine zaa ?_ ?_
    |((refine⟨fun vs O _=>∃(k:Nat) (m:Int),1<=k/\k<=l.length/\(∀i,i<k->l.getD i default<=m)/\(∃i,i<k/\m=l.getD i default)/\vs=[ai m,ai k]/\O=[],fun vs O=>match vs with |[_,.cv (.int _ k)]=>l.length - k.toNat |_=>0,⟨1,_,by decide,by omega,fun i hi=>?_,⟨0,by decide,rfl⟩,rfl,rfl⟩,?_⟩;rotate_left;rintro vs O _ ⟨k,m,hk0,hk,hm,⟨i,hi,rfl⟩,rfl,rfl⟩))
    |intro _)
 all_goals first
  |rfl
  |omega
  |(simp only[zz]at *;omega)
  |(exfalso;(simp only[zz]at *;omega))
  |exact⟨k+1,_,by omega,by(simp only[zz]at *;omega),(zsl hi hm).1,(zsl hi hm).2,rfl,rfl⟩
  |exact⟨_,rfl,⟨fun j hj=>hm j (by(simp only[zz]at *;omega)),i,by(simp only[zz]at *;omega),rfl⟩,rfl⟩
  | (obtain rfl:i=0:=by omega
     exact Int.le_refl _)
theorem zub{n:NodeM}:∀{d:Int},(∀p∈zaE d n,p.1+p.2.dep<=d+n.dep)/\∃p∈zaE d n,p.1=d+n.dep - 1:=by
 induction n using zfb with |h n ih=>?_
 intro d;refine⟨fun p hp=>?_,?_⟩
 ·rw[za3]at hp;rcases List.mem_cons.1 hp with rfl |hp
  ·exact Int.le_refl _
  ·obtain⟨m,hm,hp⟩:=List.mem_flatMap.1 hp;have h1:=(ih m hm (d:=d+1)).1 p hp;have h2:=zlL hm;omega
 ·cases hk:n.kids with
  |nil=>
   refine⟨(d,n),by rw[za3];exact ya5,?_⟩;rw[zch,hk,depL];simp
  |cons a r=>
   obtain⟨m,hm,he⟩:=zm2 (l:=n.kids) (by rw[hk];simp);obtain⟨p,hp,h1⟩:=(ih m hm (d:=d+1)).2;refine⟨p,zmF hm hp,?_⟩;rw[zch n,<- he];omega
noncomputable def zze(n:NodeM):Int:=bif zaK 200 n then(n.dep:Int)else 0
theorem zy0{n:NodeM}{m:Int}(hs:zaK 200 n=true)(h1:∀i,i<(zjm n).length->(zjm n).getD i default<=m)(h2:∃i,i<(zjm n).length/\m=(zjm n).getD i default):m=zze n:=by
 have hr:zjm n=(zaE 1 n).map zpR:=by
  show zeC n zeA zpR=_;unfold zeC zuT;rw[hs];show List.map zpR (List.filter zeA (zaE 1 n))=_;have hf:List.filter zeA (zaE 1 n)=zaE 1 n:=List.filter_eq_self.2 fun _ _=>rfl
  rw[hf]
 rw[hr]at h1 h2;simp only[yb7]at h1 h2;have hg:∀i (hi:i<(zaE 1 n).length),((zaE 1 n).map zpR).getD i default=((zaE 1 n)[i]).1:=fun i hi=>by
  rw[ya8,yb9,yb5 hi];rfl
 obtain⟨p,hp,hpd⟩:=(zub (n:=n) (d:=1)).2;obtain⟨j,hj,rfl⟩:=List.mem_iff_getElem.1 hp;have a1:=h1 j hj;rw[hg j hj]at a1;obtain⟨i,hi,rfl⟩:=h2;rw[hg i hi]at a1 ⊢;have a2:=(zub (n:=n) (d:=1)).1 _ (List.getElem_mem hi);have a3:1<=((zaE 1 n)[i]).2.dep:=by rw[zch];omega
 unfold zze;rw[hs];show _=(n.dep:Int)
 omega
theorem znK{n:NodeM}(hs:zaK 200 n=true):0<(zjm n).length/\(zjm n).length=(zaE 1 n).length:=by
 have hr:zjm n=(zaE 1 n).map zpR:=by
  show zeC n zeA zpR=_;unfold zeC zuT;rw[hs];show List.map zpR (List.filter zeA (zaE 1 n))=_;have hf:List.filter zeA (zaE 1 n)=zaE 1 n:=List.filter_eq_self.2 fun _ _=>rfl
  rw[hf]
 rw[hr,yb7];exact⟨by rw[za3];simp,rfl⟩
theorem zBK(n:NodeM)(hn:NFit n):DSpec Tryz.prog axX axG 33 [.agg (zah n)] [] (fun v O=>v=.tup [ai (zze n),ai (za7 n)]/\O=[]):=by
 have hnum:=hn.num;refine zac { glb:=axG } true Tryz.func33 (by kernel_rfl) rfl ?_
 repeat' (
   (conv=>whnf)
   first
    |exact zad (by kernel_rfl)
    |refine And.intro ?_ ?_
    |refine zaa ?_ ?_
    |(refine⟨_,zyn n hn,?_⟩;rintro v O' ⟨rfl,rfl⟩)
    |(refine⟨_,zEq (zjm n) (znK (zcD (by assumption)).1).1 (by have:=(znK (zcD (n:=n) (by assumption)).1).2;omega),?_⟩;rintro v O' ⟨m,rfl,hm,rfl⟩)
    |intro _)
 all_goals first
  |rfl
  |omega
  |(rename_i hz;unfold zze;rw[zlc hz];rfl)
  |(rename_i hz;rw[zy0 (zcD hz).1 hm.1 hm.2,(zcD hz).2])
noncomputable def zhw(a:AggM):Bool:=(decide (a.fn>=1)&&decide (a.fn<=6))&&zcY (nm a.name)
noncomputable def zhs(h:HaveM):Bool := !zhw h.agg || !opB h.cond.op
theorem zDr(a:AggM):DSpec Tryz.prog axX axG 49 [.agg (zlZ a)] [] (fun v O=>v=ab (zhw a)/\O=[]):=by
 refine zac { glb:=axG } true Tryz.func49 (by kernel_rfl) rfl ?_
 repeat' (
   (conv=>whnf)
   first
    |exact zad (by kernel_rfl)
    |refine And.intro ?_ ?_
    |refine zaa ?_ ?_
    |(refine⟨_,zzM (nm a.name),?_⟩;rintro v O' ⟨rfl,rfl⟩)
    |intro _)
 all_goals first
  |rfl
  |(simp only[zhw, *,Bool.true_and,Bool.and_true,Bool.false_and,Bool.and_false,Bool.true_or,Bool.or_true,Bool.false_or,Bool.or_false,Bool.not_true,Bool.not_false,Bool.not_not,cond_true,cond_false];first |done |rfl)
theorem zyo(h:HaveM):DSpec Tryz.prog axX axG 48 [.agg (zgr h)] [] (fun v O=>v=ab (zhs h)/\O=[]):=by
 refine zac { glb:=axG } true Tryz.func48 (by kernel_rfl) rfl ?_
 repeat' (
   (conv=>whnf)
   first
    |exact zad (by kernel_rfl)
    |refine And.intro ?_ ?_
    |refine zaa ?_ ?_
    |(refine⟨_,zDr h.agg,?_⟩;rintro v O' ⟨rfl,rfl⟩)
    |(refine⟨_,zFB h.cond.op,?_⟩;rintro v O' ⟨rfl,rfl⟩)
    |intro _)
 all_goals first
  |rfl
  |(simp only[zhs, *,Bool.true_and,Bool.and_true,Bool.false_and,Bool.and_false,Bool.true_or,Bool.or_true,Bool.false_or,Bool.or_false,Bool.not_true,Bool.not_false,Bool.not_not,cond_true,cond_false];first |done |rfl)
theorem zyi(a:AggM):DSpec Tryz.prog axX axG 52 [.agg (zlZ a)] [] (fun v O=>v=ab (!zhw a)/\O=[]):=by
 refine zac { glb:=axG } true Tryz.func52 (by kernel_rfl) rfl ?_
 repeat' (
   (conv=>whnf)
   first
    |exact zad (by kernel_rfl)
    |refine And.intro ?_ ?_
    |refine zaa ?_ ?_
    |(refine⟨_,zDr a,?_⟩;rintro v O' ⟨rfl,rfl⟩)
    |intro _)
 all_goals first
  |rfl
  |(simp only[zhs, *,Bool.true_and,Bool.and_true,Bool.false_and,Bool.and_false,Bool.true_or,Bool.or_true,Bool.false_or,Bool.or_false,Bool.not_true,Bool.not_false,Bool.not_not,cond_true,cond_false];first |done |rfl)
theorem zvW(l:List HaveM)(hl:l.length<=1000000):DSpec Tryz.prog axX axG 70 [.isl 4 l.length (zkF l),.fn 48 [] []] [] (fun v O=>∃k:Int,v=ai k/\decide (k>=0)=(l.any zhs)/\O=[]):=by
 refine zac { glb:=axG,ann:=[(2,[8])] } true Tryz.func70 (by kernel_rfl) rfl ?_
 repeat' (
   (conv=>whnf)
   first
    |exact zad (by kernel_rfl)
    |refine And.intro ?_ ?_
    |refine zaa ?_ ?_
    |((refine⟨fun vs O _=>∃k:Nat,k<=l.length/\(∀j,j<k->zhs (l.getD j default)=false)/\vs=[ai k]/\O=[],fun vs O=>match vs with |[.cv (.int _ k)]=>l.length - k.toNat |_=>0,⟨0,Nat.zero_le _,fun j h=>absurd h (by omega),rfl,rfl⟩,?_⟩;rintro vs O _ ⟨k,hk,hj,rfl,rfl⟩))
    |(refine⟨_,zyo (l.getD k default),?_⟩;rintro v O' ⟨rfl,rfl⟩)
    |intro _)
 all_goals first
  |rfl
  |omega
  |(simp only[zz]at *;omega)
  |(rename_i hz;exact⟨k,rfl,zfv (p:=zhs) (by(simp only[zz]at *;omega)) hz,rfl⟩)
  |(rename_i hz;exact⟨k+1,by(simp only[zz]at *;omega),zdm (p:=fun j=>zhs (l.getD j default)) hj hz,rfl,rfl⟩)
  |exact⟨-1,rfl,zjA (p:=zhs) (by(simp only[zz]at *;omega)) hj,rfl⟩
theorem zuS(l:List HaveM)(hl:l.length<=1000000):DSpec Tryz.prog axX axG 47 [.isl 4 l.length (zkF l),.fn 48 [] []] [] (fun v O=>v=ab (l.any zhs)/\O=[]):=by
 refine zac { glb:=axG } true Tryz.func47 (by kernel_rfl) rfl ?_
 repeat' (
   (conv=>whnf)
   first
    |exact zad (by kernel_rfl)
    |refine And.intro ?_ ?_
    |refine zaa ?_ ?_
    |(refine⟨_,zvW l hl,?_⟩;rintro v O' ⟨k,rfl,hk,rfl⟩)
    |intro _)
 all_goals first
  |rfl
  |exact congrArg (fun b=>SV.cv (CV.bool b)) hk
theorem zyr(l:List AggM)(hl:l.length<=1000000):DSpec Tryz.prog axX axG 72 [.islx 2 l.length (zkk l),.fn 52 [] []] [] (fun v O=>∃k:Int,v=ai k/\decide (k>=0)=(l.any (fun a => !zhw a))/\O=[]):=by
 refine zac { glb:=axG,ann:=[(2,[8])] } true Tryz.func72 (by kernel_rfl) rfl ?_
 repeat' (
   (conv=>whnf)
   first
    |exact zad (by kernel_rfl)
    |refine And.intro ?_ ?_
    |refine zaa ?_ ?_
    |((refine⟨fun vs O _=>∃k:Nat,k<=l.length/\(∀j,j<k->(fun a => !zhw a) (l.getD j default)=false)/\vs=[ai k]/\O=[],fun vs O=>match vs with |[.cv (.int _ k)]=>l.length - k.toNat |_=>0,⟨0,Nat.zero_le _,fun j h=>absurd h (by omega),rfl,rfl⟩,?_⟩;rintro vs O _ ⟨k,hk,hj,rfl,rfl⟩))
    |(refine⟨_,zyi (l.getD k default),?_⟩;rintro v O' ⟨rfl,rfl⟩)
    |intro _)
 all_goals first
  |rfl
  |omega
  |(simp only[zz]at *;omega)
  |(rename_i hz;exact⟨k,rfl,zfv (p:=(fun a => !zhw a)) (by(simp only[zz]at *;omega)) hz,rfl⟩)
  |(rename_i hz;exact⟨k+1,by(simp only[zz]at *;omega),zdm (p:=fun j=>(fun a => !zhw a) (l.getD j default)) hj hz,rfl,rfl⟩)
  |exact⟨-1,rfl,zjA (p:=(fun a => !zhw a)) (by(simp only[zz]at *;omega)) hj,rfl⟩
theorem zxH(l:List AggM)(hl:l.length<=1000000):DSpec Tryz.prog axX axG 51 [.islx 2 l.length (zkk l),.fn 52 [] []] [] (fun v O=>v=ab (l.any (fun a => !zhw a))/\O=[]):=by
 refine zac { glb:=axG } true Tryz.func51 (by kernel_rfl) rfl ?_
 repeat' (
   (conv=>whnf)
   first
    |exact zad (by kernel_rfl)
    |refine And.intro ?_ ?_
    |refine zaa ?_ ?_
    |(refine⟨_,zyr l hl,?_⟩;rintro v O' ⟨k,rfl,hk,rfl⟩)
    |intro _)
 all_goals first
  |rfl
  |exact congrArg (fun b=>SV.cv (CV.bool b)) hk
noncomputable def zo6(q:QueryM):Bool:=decide (q.within > 99999)||(q.hv.any zhs||q.em.any fun a => !zhw a)
noncomputable def zdk(q:QueryM):Int:=bif za7 q.p != 0 then za7 q.p else bif zo6 q then 3 else 0
theorem zwJ(q:QueryM)(hq:QFit q):DSpec Tryz.prog axX axG 30 [.agg (zaD q)] [] (fun v O=>v=ai (zdk q)/\O=[]):=by
 refine zac { glb:=axG } true Tryz.func30 (by kernel_rfl) rfl ?_
 repeat' (
   (conv=>whnf)
   first
    |exact zad (by kernel_rfl)
    |refine And.intro ?_ ?_
    |refine zaa ?_ ?_
    |(refine⟨_,zmg q.p hq.fit,?_⟩;rintro v O' ⟨rfl,rfl⟩)
    |(refine⟨_,zuS q.hv hq.hv,?_⟩;rintro v O' ⟨rfl,rfl⟩)
    |(refine⟨_,zxH q.em hq.em,?_⟩;rintro v O' ⟨rfl,rfl⟩)
    |intro _)
 all_goals first
  |rfl
  |omega
  |(simp only[zdk,zo6, *,Bool.true_and,Bool.and_true,Bool.false_and,Bool.and_false,Bool.true_or,Bool.or_true,Bool.false_or,Bool.or_false,Bool.not_true,Bool.not_false,Bool.not_not,cond_true,cond_false];first |done |rfl)
end Go.Proofs.YtogdglnaagkaaaaGreatDoor
