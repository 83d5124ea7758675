import Derived.Test.YtmgibblhcoimfaaDoorAf
set_option linter.unusedSimpArgs false
set_option linter.unusedVariables false
set_option maxRecDepth 100000
namespace Go.Proofs.YtmgibblhcoimfaaDoor
open Go Go.Cx
theorem zfQ(a b:List Nat):zbi a b=zbi b a:=by
 rw[zek,zek];exact Bool.eq_iff_iff.2 ⟨fun h=>by rw[eq_of_beq h];simp,fun h=>by rw[eq_of_beq h];simp⟩
theorem zqO(s:List Nat):zbi s []=decide ((s.length:Int)<1):=by
 cases s with
 |nil=>rfl
 |cons a r=>
  show false=_
  symm
  rw[decide_eq_false_iff_not,ya7];omega
def allW:List (List Nat):=wordsL++aggNames
theorem zvL:DSpec Tryd.prog axX axG 40 [] [] (fun v O=>v=.isl 1 11 (zeR 1 (allW.map fun x=>SV.cv (.str x)))/\O=[]):=by
 refine zac { glb:=axG } true Tryd.func40 (by kernel_rfl) rfl ?_
 repeat' (
   (conv=>whnf)
   first
    |exact zad (by kernel_rfl)
    |refine And.intro ?_ ?_
    |refine zaa ?_ ?_
    |intro _)
 all_goals first
  |rfl
theorem zuV{s:List Nat}(i:Nat)(hi:i<11)(h:zbi (allW.getD i []) s=true):zd4 s=false:=by
 rw[zfQ]at h;have h1:allW.any (fun w=>zbi s w)=true:=by
  rw[List.any_eq_true];refine⟨allW.getD i [],?_,h⟩;rw[ya8,yb5 (by exact hi)];exact List.getElem_mem _
 unfold allW at h1;rw[List.any_append]at h1;unfold zd4;cases hw:(wordsL.any fun w=>zbi s w) with
 |true=>simp
 |false=>rw[hw,Bool.false_or]at h1;rw[h1];simp
theorem zy4{s:List Nat}{k:Nat}(h0:decide ((s.length:Int)<1)=false)(h1:decide ((s.length:Int) > 8)=false)(hk:decide ((k:Int)<s.length)=false)(hj:∀j,j<k->zlW (s.getD j 0%256)=true)(hw:∀j,j<11->zbi (allW.getD j []) s=false):zd4 s=true:=by
 have a1:(s.all fun b=>zlW (b%256))=true:=by
  rw[yd1];intro x hx;obtain⟨i,hi,rfl⟩:=List.mem_iff_getElem.1 hx;have:=hj i (by simp at hk;omega)
  rwa [ya8,yb5 hi]at this
 have a2:allW.any (fun w=>zbi s w)=false:=by
  rw[Bool.eq_false_iff,Ne,List.any_eq_true];rintro⟨w,hwm,hb⟩;obtain⟨i,hi,rfl⟩:=List.mem_iff_getElem.1 hwm;have:=hw i hi;rw[zfQ,ya8,yb5 hi]at this;simp only[Option.getD_some]at this;rw[this]at hb;cases hb
 unfold allW at a2;rw[List.any_append,Bool.or_eq_false_iff]at a2;unfold zd4;rw[zqO,h0,h1,a1,a2.1,a2.2];rfl
theorem zh4{s:List Nat}{k:Nat}(h:∀j,j<k->zbi (allW.getD j []) s=false)(hk:zbi (allW.getD k []) s=false):∀j,j<k+1->zbi (allW.getD j []) s=false:=fun j hj=>by
 rcases Nat.lt_succ_iff_lt_or_eq.1 hj with h1 |rfl
 ·exact h j h1
 ·exact hk
set_option maxHeartbeats 4000000 in
theorem znU(s:List Nat):DSpec Tryd.prog axX axG 16 [.cv (.str s)] [] (fun v O=>v=ab (zd4 s)/\O=[]):=by
 refine zac { glb:=axG,ann:=[(4,[3]),(10,[5])] } true Tryd.func16 (by kernel_rfl) rfl ?_
 repeat' (
   (conv=>whnf)
   first
    |exact zad (by kernel_rfl)
    |refine And.intro ?_ ?_
    |refine zaa ?_ ?_
    |(refine⟨_,zvL,?_⟩;rintro v O' ⟨rfl,rfl⟩)
    |((have:=hj;refine⟨fun vs O _=>∃u:Nat,u<=11/\(∀j,j<u->zbi (allW.getD j []) s=false)/\vs=[ai u]/\O=[],fun vs O=>match vs with |[.cv (.int _ k)]=>11 - k.toNat |_=>0,⟨0,Nat.zero_le _,fun j h=>absurd h (by omega),rfl,rfl⟩,?_⟩;rintro vs O _ ⟨u,hu,hw,rfl,rfl⟩;obtain rfl |rfl |rfl |rfl |rfl |rfl |rfl |rfl |rfl |rfl |rfl |rfl:u=0\/u=1\/u=2\/u=3\/u=4\/u=5\/u=6\/u=7\/u=8\/u=9\/u=10\/u=11:=by omega))
    |((refine⟨fun vs O _=>∃k:Nat,k<=s.length/\(∀j,j<k->zlW (s.getD j 0%256)=true)/\vs=[ai k]/\O=[],fun vs O=>match vs with |[.cv (.int _ k)]=>s.length - k.toNat |_=>0,⟨0,Nat.zero_le _,fun j h=>absurd h (by omega),rfl,rfl⟩,?_⟩;rintro vs O _ ⟨k,hk,hj,rfl,rfl⟩))
    |intro _)
 all_goals first
  |rfl
  |omega
  |(simp only[zz]at *;omega)
  |exact ya9 rfl
  |(rename_i hz;exact abF (zBo (by rw[zqO];exact hz)))
  |(rename_i hz;exact abF (zBu hz))
  |(rename_i hz;exact abF (zAp (k:=k) (by(simp only[zz]at *;omega)) (zwA hz)))
  |(rename_i hz;exact abF (zAp (k:=k) (by(simp only[zz]at *;omega)) (zwE hz)))
  |(rename_i hz1 hz2;exact⟨k+1,by(simp only[zz]at *;omega),zBt hj (zwJ hz1 hz2),rfl,rfl⟩)
  |(rename_i hz;exact abF (zuV 0 (by decide) hz))
  |(rename_i hz;exact⟨0+1,by decide,zh4 (k:=0) hw hz,rfl,rfl⟩)
  |(rename_i hz;exact abF (zuV 1 (by decide) hz))
  |(rename_i hz;exact⟨1+1,by decide,zh4 (k:=1) hw hz,rfl,rfl⟩)
  |(rename_i hz;exact abF (zuV 2 (by decide) hz))
  |(rename_i hz;exact⟨2+1,by decide,zh4 (k:=2) hw hz,rfl,rfl⟩)
  |(rename_i hz;exact abF (zuV 3 (by decide) hz))
  |(rename_i hz;exact⟨3+1,by decide,zh4 (k:=3) hw hz,rfl,rfl⟩)
  |(rename_i hz;exact abF (zuV 4 (by decide) hz))
  |(rename_i hz;exact⟨4+1,by decide,zh4 (k:=4) hw hz,rfl,rfl⟩)
  |(rename_i hz;exact abF (zuV 5 (by decide) hz))
  |(rename_i hz;exact⟨5+1,by decide,zh4 (k:=5) hw hz,rfl,rfl⟩)
  |(rename_i hz;exact abF (zuV 6 (by decide) hz))
  |(rename_i hz;exact⟨6+1,by decide,zh4 (k:=6) hw hz,rfl,rfl⟩)
  |(rename_i hz;exact abF (zuV 7 (by decide) hz))
  |(rename_i hz;exact⟨7+1,by decide,zh4 (k:=7) hw hz,rfl,rfl⟩)
  |(rename_i hz;exact abF (zuV 8 (by decide) hz))
  |(rename_i hz;exact⟨8+1,by decide,zh4 (k:=8) hw hz,rfl,rfl⟩)
  |(rename_i hz;exact abF (zuV 9 (by decide) hz))
  |(rename_i hz;exact⟨9+1,by decide,zh4 (k:=9) hw hz,rfl,rfl⟩)
  |(rename_i hz;exact abF (zuV 10 (by decide) hz))
  |(rename_i hz;exact⟨10+1,by decide,zh4 (k:=10) hw hz,rfl,rfl⟩)
  |(rename_i h0 h1 _ hk2 _;exact congrArg (fun b=>SV.cv (CV.bool b)) (zy4 h0 h1 hk2 hj hw).symm)
theorem zsE(c:CondM):DSpec Tryd.prog axX axG 37 [.agg (zlS c)] [] (fun v O=>v=ab (opB c.op)/\O=[]):=by
 refine zac { glb:=axG } true Tryd.func37 (by kernel_rfl) rfl ?_
 repeat' (
   (conv=>whnf)
   first
    |exact zad (by kernel_rfl)
    |refine And.intro ?_ ?_
    |refine zaa ?_ ?_
    |intro _)
 all_goals first
  |rfl
  |(unfold opB;((try (refine congrArg (fun b=>SV.cv (CV.bool b)) ?_));(try rw[Bool.eq_iff_iff]);simp only[zz]at *;first |done |omega))
theorem zuB(a:AtomM):DSpec Tryd.prog axX axG 66 [.agg (zfR a)] [] (fun v O=>v=ab (znm a)/\O=[]):=by
 refine zac { glb:=axG } true Tryd.func66 (by kernel_rfl) rfl ?_
 repeat' (
   (conv=>whnf)
   first
    |exact zad (by kernel_rfl)
    |refine And.intro ?_ ?_
    |refine zaa ?_ ?_
    |intro _)
 all_goals first
  |rfl
  |(simp only[znm,isE, *,Bool.true_and,Bool.and_true,Bool.false_and,Bool.and_false,Bool.true_or,Bool.or_true,Bool.false_or,Bool.or_false,Bool.not_true,Bool.not_false,Bool.not_not,cond_true,cond_false];first |done |rfl)
theorem ztj{a:AtomM}{k:Nat}(hk:k<a.cs.length)(h:(!opB (a.cs.getD k default).op)=true):zia a=false:=by
 have:(a.cs.any fun c => !opB c.op)=true:=(zcS (p:=fun c:CondM => !opB c.op) hk h).symm.trans (by simp);unfold zia;rw[this];simp
theorem zv3{a:AtomM}{k:Nat}(hk:decide ((k:Int)<a.cs.length)=false)(hj:∀j,j<k->(!opB (a.cs.getD j default).op)=false):(a.cs.any fun c => !opB c.op)=false:=
 (zdq (p:=fun c:CondM => !opB c.op) (by simp at hk;omega) hj).symm.trans rfl
set_option maxHeartbeats 4000000 in
theorem zsa(a:AtomM)(hl:a.cs.length<=1000000):DSpec Tryd.prog axX axG 65 [.agg (zfR a)] [] (fun v O=>v=ab (zia a)/\O=[]):=by
 refine zac { glb:=axG,ann:=[(2,[3])] } true Tryd.func65 (by kernel_rfl) rfl ?_
 repeat' (
   (conv=>whnf)
   first
    |exact zad (by kernel_rfl)
    |refine And.intro ?_ ?_
    |refine zaa ?_ ?_
    |(refine⟨_,zsE _,?_⟩;rintro v O' ⟨rfl,rfl⟩)
    |(refine⟨_,znU (nm a.name),?_⟩;rintro v O' ⟨rfl,rfl⟩)
    |((refine⟨fun vs O _=>∃k:Nat,k<=a.cs.length/\(∀j,j<k->(!opB (a.cs.getD j default).op)=false)/\vs=[ai k]/\O=[.cells 25 (zfR a)],fun vs O=>match vs with |[.cv (.int _ k)]=>a.cs.length - k.toNat |_=>0,⟨0,Nat.zero_le _,fun j h=>absurd h (by omega),rfl,rfl⟩,?_⟩;rintro vs O _ ⟨k,hk,hj,rfl,rfl⟩))
    |intro _)
 all_goals try (have hok:=zv3 (a:=a) (k:=k) (by assumption) hj)
 all_goals first
  |rfl
  |omega
  |(simp only[zz]at *;omega)
  |(rename_i hz;exact abF (ztj (k:=k) (by(simp only[zz]at *;omega)) hz))
  |(rename_i hz;exact⟨k+1,by(simp only[zz]at *;omega),zcl (p:=fun j => !opB (a.cs.getD j default).op) hj hz,rfl,rfl⟩)
  |(simp only[zia,isE, *,Bool.true_and,Bool.and_true,Bool.false_and,Bool.and_false,Bool.true_or,Bool.or_true,Bool.false_or,Bool.or_false,Bool.not_true,Bool.not_false,Bool.not_not,cond_true,cond_false];first |done |rfl)
theorem zzn(a:AggM):DSpec Tryd.prog axX axG 36 [.agg (ztM a)] [] (fun v O=>v=ab (zgm a)/\O=[]):=by
 refine zac { glb:=axG } true Tryd.func36 (by kernel_rfl) rfl ?_
 repeat' (
   (conv=>whnf)
   first
    |exact zad (by kernel_rfl)
    |refine And.intro ?_ ?_
    |refine zaa ?_ ?_
    |(refine⟨_,znU (nm a.name),?_⟩;rintro v O' ⟨rfl,rfl⟩)
    |intro _)
 all_goals first
  |rfl
  |(simp only[zgm, *,Bool.true_and,Bool.and_true,Bool.false_and,Bool.and_false,Bool.true_or,Bool.or_true,Bool.false_or,Bool.or_false,Bool.not_true,Bool.not_false,Bool.not_not,cond_true,cond_false];first |done |rfl)
theorem zwr{x:Int}{b:Bool}(h:decide (x<2)=b):decide (x>=2) = !b:=by
 subst h;by_cases hq:x<2<;>simp[hq]<;>omega
theorem k3{n:NodeM}(h:(n.kind==3)=true):(n.kind==3||n.kind==4)=true:=by rw[h];rfl
theorem k4{n:NodeM}(h:(n.kind==4)=true):(n.kind==3||n.kind==4)=true:=by rw[h];simp
theorem zpG{d:Nat}{n:NodeM}{k:Nat}(hk:k<n.kids.length)(h:(!zaz d (atN n.kids k))=true):(n.kids.any fun m => !zaz d m)=true:=
 (zcS (p:=fun m => !zaz d m) hk h).symm.trans (by simp)
theorem zmN{d:Nat}{n:NodeM}{k:Nat}(hk:decide ((k:Int)<n.kids.length)=false)(hj:∀j,j<k->(!zaz d (atN n.kids j))=false):(n.kids.any fun m => !zaz d m)=false:=
 (zdq (p:=fun m => !zaz d m) (by simp at hk;omega) hj).symm.trans rfl
set_option maxHeartbeats 8000000 in
theorem zqQ:∀(d:Nat) (hd:d<=200) (D:Int) (hD:D=201 - d) (n:NodeM) (hn:Fit n),DSpec Tryd.prog axX axG 35 [.agg (zaK n),ai D] [] (fun v O=>v=ab (zaz d n)/\O=[]):=by
 intro d
 induction d with
 |zero=>
  intro hd D hD n hn;refine zac { glb:=axG,ann:=[(13,[5])] } true Tryd.func35 (by kernel_rfl) rfl ?_
  repeat' (
    (conv=>whnf)
    first
     |exact zad (by kernel_rfl)
     |refine And.intro ?_ ?_
     |refine zaa ?_ ?_
     |((exfalso;(simp only[zz]at *;omega)))
     |intro _)
  all_goals first
   |rfl
   |(exfalso;(simp only[zz]at *;omega))
 |succ d ih=>
  intro hd D hD n hn;have hz:=hn.self.1;rcases zel n with he |he
  ·skip
   refine zac { glb:=axG,ann:=[(13,[5])] } true Tryd.func35 (by kernel_rfl) rfl ?_
   repeat' (
     (conv=>whnf)
     first
      |exact zad (by kernel_rfl)
      |refine And.intro ?_ ?_
      |refine zaa ?_ ?_
      |(refine⟨_,zsa n.atom hn.self.2,?_⟩;rintro v O' ⟨rfl,rfl⟩)
      |(refine⟨_,zuB n.atom,?_⟩;rintro v O' ⟨rfl,rfl⟩)
      |((refine⟨fun vs O _=>∃k:Nat,k<=n.kids.length/\(∀j,j<k->(!zaz d (atN n.kids j))=false)/\vs=[ai k]/\O=[.cells 28 (zjn n (zgO n.kids))],fun vs O=>match vs with |[.cv (.int _ k)]=>n.kids.length - k.toNat |_=>0,⟨0,Nat.zero_le _,fun j h=>absurd h (by omega),rfl,rfl⟩,?_⟩;rintro vs O _ ⟨k,hk,hj,rfl,rfl⟩))
      |(refine⟨_,ih (by omega) (D+1) (by omega) (atN n.kids k) (hn.kid (zd7 (by(simp only[zz]at *;omega)))),?_⟩;rintro v O' ⟨rfl,rfl⟩)
      |intro _)
   all_goals have hlt2:=zwr (x:=(n.kids.length:Int)) rfl
   all_goals try (have hgood:=zmN (n:=n) (d:=d) (k:=k) (by assumption) hj)
   all_goals first
    |rfl
    |omega
    |(simp only[zz]at *;omega)
    |(exfalso;(simp only[zz]at *;omega))
    |(simp only[zaz, *,Bool.true_and,Bool.and_true,Bool.false_and,Bool.and_false,Bool.true_or,Bool.or_true,Bool.false_or,Bool.or_false,Bool.not_true,Bool.not_false,Bool.not_not,cond_true,cond_false];first |done |rfl)
    |(rename_i hq;exact⟨k+1,by(simp only[zz]at *;omega),zcl (p:=fun j => !zaz d (atN n.kids j)) hj hq,rfl,rfl⟩)
    |(simp only[bne,Bool.not_eq_true',Bool.not_eq_false']at *;(simp only[zaz, *,Bool.true_and,Bool.and_true,Bool.false_and,Bool.and_false,Bool.true_or,Bool.or_true,Bool.false_or,Bool.or_false,Bool.not_true,Bool.not_false,Bool.not_not,cond_true,cond_false];first |done |rfl))
    |(rename_i hq;have hb:=zpG (n:=n) (d:=d) (k:=k) (by(simp only[zz]at *;omega)) hq;simp only[bne,Bool.not_eq_true',Bool.not_eq_false']at *;(simp only[zaz, *,Bool.true_and,Bool.and_true,Bool.false_and,Bool.and_false,Bool.true_or,Bool.or_true,Bool.false_or,Bool.or_false,Bool.not_true,Bool.not_false,Bool.not_not,cond_true,cond_false];first |done |rfl))
    |skip
  ·rw[he];refine zac { glb:=axG,ann:=[(13,[5])] } true Tryd.func35 (by kernel_rfl) rfl ?_
   repeat' (
     (conv=>whnf)
     first
      |exact zad (by kernel_rfl)
      |refine And.intro ?_ ?_
      |refine zaa ?_ ?_
      |(refine⟨_,zsa n.atom hn.self.2,?_⟩;rintro v O' ⟨rfl,rfl⟩)
      |(refine⟨_,zuB n.atom,?_⟩;rintro v O' ⟨rfl,rfl⟩)
      |((refine⟨fun vs O _=>∃k:Nat,k<=n.kids.length/\(∀j,j<k->(!zaz d (atN n.kids j))=false)/\vs=[ai k]/\O=[.cells 28 (zjn n (fun i=>zaK (atN n.kids i)))],fun vs O=>match vs with |[.cv (.int _ k)]=>n.kids.length - k.toNat |_=>0,⟨0,Nat.zero_le _,fun j h=>absurd h (by omega),rfl,rfl⟩,?_⟩;rintro vs O _ ⟨k,hk,hj,rfl,rfl⟩))
      |(refine⟨_,ih (by omega) (D+1) (by omega) (atN n.kids k) (hn.kid (zd7 (by(simp only[zz]at *;omega)))),?_⟩;rintro v O' ⟨rfl,rfl⟩)
      |intro _)
   all_goals have hlt2:=zwr (x:=(n.kids.length:Int)) rfl
   all_goals try (have hgood:=zmN (n:=n) (d:=d) (k:=k) (by assumption) hj)
   all_goals first
    |rfl
    |omega
    |(simp only[zz]at *;omega)
    |(exfalso;(simp only[zz]at *;omega))
    |(simp only[zaz, *,Bool.true_and,Bool.and_true,Bool.false_and,Bool.and_false,Bool.true_or,Bool.or_true,Bool.false_or,Bool.or_false,Bool.not_true,Bool.not_false,Bool.not_not,cond_true,cond_false];first |done |rfl)
    |(rename_i hq;exact⟨k+1,by(simp only[zz]at *;omega),zcl (p:=fun j => !zaz d (atN n.kids j)) hj hq,rfl,rfl⟩)
    |(simp only[bne,Bool.not_eq_true',Bool.not_eq_false']at *;(simp only[zaz, *,Bool.true_and,Bool.and_true,Bool.false_and,Bool.and_false,Bool.true_or,Bool.or_true,Bool.false_or,Bool.or_false,Bool.not_true,Bool.not_false,Bool.not_not,cond_true,cond_false];first |done |rfl))
    |(rename_i hq;have hb:=zpG (n:=n) (d:=d) (k:=k) (by(simp only[zz]at *;omega)) hq;simp only[bne,Bool.not_eq_true',Bool.not_eq_false']at *;(simp only[zaz, *,Bool.true_and,Bool.and_true,Bool.false_and,Bool.and_false,Bool.true_or,Bool.or_true,Bool.false_or,Bool.or_false,Bool.not_true,Bool.not_false,Bool.not_not,cond_true,cond_false];first |done |rfl))
end Go.Proofs.YtmgibblhcoimfaaDoor
