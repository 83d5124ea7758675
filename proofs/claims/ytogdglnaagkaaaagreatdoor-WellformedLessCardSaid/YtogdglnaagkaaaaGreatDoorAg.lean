import Derived.Test.YtogdglnaagkaaaaGreatDoorAf
set_option linter.unusedSimpArgs false
set_option linter.unusedVariables false
set_option maxRecDepth 100000
namespace Go.Proofs.YtogdglnaagkaaaaGreatDoor
open Go Go.Cx
def ysN(l:List (Int×NodeM)):Nat->Option (List SV):=fun k=>(l[k]?).map fun p=>[.agg (zah p.2)]
theorem zil{l:List (Int×NodeM)}{k:Nat}{vs:List SV}(h:ysN l k=some vs):∃p,l[k]? = some p/\vs=[.agg (zah p.2)]:=by
 unfold ysN at h;cases hq:l[k]? with
 |none=>rw[hq]at h;cases h
 |some p=>rw[hq]at h;cases h;exact⟨p,rfl,rfl⟩
theorem zDO{l:List (Int×NodeM)}{k:Nat}{p:Int×NodeM}(h:l[k]? = some p):ysN l k=some [.agg (zah p.2)]:=by
 unfold ysN;rw[h];rfl
theorem ziq(d:Int)(n:NodeM):ysN (zaE d n) 0=some [.agg (zah n)]:=by
 unfold ysN;rw[za3];rfl
theorem zwe{d:Int}{n:NodeM}{k j:Nat}{vs:List SV}(hk:k<n.kids.length)(h:ysN (zaE (d+1) (atN n.kids k)) j=some vs):ysN (zaE d n) (ztK d n k+j)=some vs:=by
 obtain⟨p,hp,rfl⟩:=zil h;exact zDO (zun hk hp)
set_option maxHeartbeats 4000000 in
theorem zyW:∀(n:NodeM) (hn:Fit n) (d:Int),DIter Tryz.prog axX axG 101 (fun l=>[.agg (zah n),.cv (.yld l)]) (ysN (zaE d n)) (fun g v=>v=ab (!g.st)/\(g.st=false->g.n=(zaE d n).length)):=by
 intro n
 induction n using zfb with |h n ih=>?_
 intro hn d;have hz:=hn.self.1;rcases zdY n with he |he
 ·skip
  refine ziF { glb:=axG,ann:=[(4,[14])] } Tryz.func101 (by kernel_rfl) rfl fun l=>?_
  repeat' (
    (conv=>whnf)
    first
     |exact zad (by kernel_rfl)
     |refine And.intro ?_ ?_
     |refine zaa ?_ ?_
     |((refine⟨fun vs O g=>∃k:Nat,k<=n.kids.length/\vs=[ai k]/\O=[.cells 30 (zgw n (zcW n.kids))]/\g=⟨ztK d n k,false⟩,fun vs O=>match vs with |[.cv (.int _ k)]=>n.kids.length - k.toNat |_=>0,⟨0,Nat.zero_le _,rfl,rfl,rfl⟩,?_⟩;rintro vs O g ⟨k,hk,rfl,rfl,rfl⟩))
     |((refine⟨_,_,_,ih (atN n.kids k) (zdN (by(simp only[zz]at *;omega))) (hn.kid (zdN (by(simp only[zz]at *;omega)))) (d+1),⟨rfl,rfl,fun j vs hy=>zwe (by(simp only[zz]at *;omega)) hy⟩,?_⟩;rintro⟨gn,gst⟩ v ⟨rfl,hy⟩;cases gst))
     |intro _)
  all_goals first
   |rfl
   |omega
   |(simp only[zz]at *;omega)
   |exact ziq d n
   |exact(ziq d n).trans (by rw[he];rfl)
   |exact⟨rfl,fun h=>stA h⟩
   |exact⟨rfl,fun h=>absurd h (by decide)⟩
   |exact stA (by assumption)
   |(rw[show k=n.kids.length by(simp only[zz]at *;omega)];exact zmB d n)
   |(exfalso;(simp only[zz]at *;omega))
   |(rename_i h;cases h;done)
   |exact⟨k+1,by(simp only[zz]at *;omega),rfl,rfl,by have hq:=hy rfl;rw[zj1 (by(simp only[zz]at *;omega)),<- hq]⟩
   |skip
 ·rw[he];refine ziF { glb:=axG,ann:=[(4,[14])] } Tryz.func101 (by kernel_rfl) rfl fun l=>?_
  repeat' (
    (conv=>whnf)
    first
     |exact zad (by kernel_rfl)
     |refine And.intro ?_ ?_
     |refine zaa ?_ ?_
     |((refine⟨fun vs O g=>∃k:Nat,k<=n.kids.length/\vs=[ai k]/\O=[.cells 30 (zgw n (fun i=>zah (atN n.kids i)))]/\g=⟨ztK d n k,false⟩,fun vs O=>match vs with |[.cv (.int _ k)]=>n.kids.length - k.toNat |_=>0,⟨0,Nat.zero_le _,rfl,rfl,rfl⟩,?_⟩;rintro vs O g ⟨k,hk,rfl,rfl,rfl⟩))
     |((refine⟨_,_,_,ih (atN n.kids k) (zdN (by(simp only[zz]at *;omega))) (hn.kid (zdN (by(simp only[zz]at *;omega)))) (d+1),⟨rfl,rfl,fun j vs hy=>zwe (by(simp only[zz]at *;omega)) hy⟩,?_⟩;rintro⟨gn,gst⟩ v ⟨rfl,hy⟩;cases gst))
     |intro _)
  all_goals first
   |rfl
   |omega
   |(simp only[zz]at *;omega)
   |exact ziq d n
   |exact(ziq d n).trans (by rw[he];rfl)
   |exact⟨rfl,fun h=>stA h⟩
   |exact⟨rfl,fun h=>absurd h (by decide)⟩
   |exact stA (by assumption)
   |(rw[show k=n.kids.length by(simp only[zz]at *;omega)];exact zmB d n)
   |(exfalso;(simp only[zz]at *;omega))
   |(rename_i h;cases h;done)
   |exact⟨k+1,by(simp only[zz]at *;omega),rfl,rfl,by have hq:=hy rfl;rw[zj1 (by(simp only[zz]at *;omega)),<- hq]⟩
theorem zqG(n:NodeM):DSpec Tryz.prog axX axG 83 [.agg (zah n)] [] (fun v O=>v=.fn 100 [] [.ipt (zah n) 0]/\O=[]):=by
 refine zac { glb:=axG } true Tryz.func83 (by kernel_rfl) rfl ?_
 repeat' (
   (conv=>whnf)
   first
    |exact zad (by kernel_rfl)
    |refine And.intro ?_ ?_
    |refine zaa ?_ ?_
    |intro _)
 all_goals rfl
theorem zma(n:NodeM)(hn:Fit n):DIter Tryz.prog axX axG 100 (fun l=>[.cv (.yld l),.ipt (zah n) 0]) (ysN (zaE 0 n)) (fun g v=>v=.tup []/\(g.st=false->g.n=(zaE 0 n).length)):=by
 refine ziF { glb:=axG } Tryz.func100 (by kernel_rfl) rfl fun l=>?_
 repeat' (
   (conv=>whnf)
   first
    |exact zad (by kernel_rfl)
    |refine And.intro ?_ ?_
    |refine zaa ?_ ?_
    |((refine⟨_,_,_,zyW n hn 0,⟨rfl,rfl,fun j vs hy=>by rw[show gh0.n+j=j from Nat.zero_add j];exact hy⟩,?_⟩;rintro⟨gn,gst⟩ v ⟨rfl,hy⟩;cases gst))
    |intro _)
 all_goals first
  |rfl
  |omega
  |exact stA (by assumption)
  |(show gh0.n+gn=_;rw[show gh0.n+gn=gn from Nat.zero_add gn];exact hy rfl)
noncomputable def zoW(n:NodeM):Bool:=decide ((n.kids.length:Int) > 8)||decide ((n.atom.cs.length:Int) > 4)
theorem zBp(n:NodeM):DSpec Tryz.prog axX axG 63 [.agg (zah n)] [] (fun v O=>v=ab (zoW n)/\O=[]):=by
 refine zac { glb:=axG } true Tryz.func63 (by kernel_rfl) rfl ?_
 repeat' (
   (conv=>whnf)
   first
    |exact zad (by kernel_rfl)
    |refine And.intro ?_ ?_
    |refine zaa ?_ ?_
    |intro _)
 all_goals first
  |rfl
  |(simp only[zoW, *,Bool.true_and,Bool.and_true,Bool.false_and,Bool.and_false,Bool.true_or,Bool.or_true,Bool.false_or,Bool.or_false,Bool.not_true,Bool.not_false,Bool.not_not,cond_true,cond_false];first |done |rfl)
noncomputable def zdl(n:NodeM):Bool:=n.kind==1&&((decide (n.mn<1)||decide (n.mn > n.mx))||decide (n.mx > 6))
theorem zvd(n:NodeM):DSpec Tryz.prog axX axG 64 [.agg (zah n)] [] (fun v O=>v=ab (zdl n)/\O=[]):=by
 refine zac { glb:=axG } true Tryz.func64 (by kernel_rfl) rfl ?_
 repeat' (
   (conv=>whnf)
   first
    |exact zad (by kernel_rfl)
    |refine And.intro ?_ ?_
    |refine zaa ?_ ?_
    |intro _)
 all_goals first
  |rfl
  |(simp only[zdl, *,Bool.true_and,Bool.and_true,Bool.false_and,Bool.and_false,Bool.true_or,Bool.or_true,Bool.false_or,Bool.or_false,Bool.not_true,Bool.not_false,Bool.not_not,cond_true,cond_false];first |done |rfl)
noncomputable def zk8(n:NodeM)(i:Nat):Bool:=(atN n.kids i).kind==2&&((n.kind != 3||(i:Int)==0)||(i:Int)==(n.kids.length:Int) - 1)
noncomputable def zax(n:NodeM):Bool := !((List.range n.kids.length).any (zk8 n))
theorem zf7{n k:Nat}{p:Nat->Bool}(hk:k<n)(h:p k=true):(List.range n).any p=true:=by
 rw[List.any_eq_true];exact⟨k,List.mem_range.2 hk,h⟩
theorem zge{n k:Nat}{p:Nat->Bool}(hk:n<=k)(h:∀j,j<k->p j=false):(List.range n).any p=false:=by
 rw[Bool.eq_false_iff,Ne,List.any_eq_true];rintro⟨x,hx,hp⟩;rw[h x (by have:=List.mem_range.1 hx;omega)]at hp;cases hp
set_option maxHeartbeats 4000000 in
theorem zya(n:NodeM)(hn:Fit n):DSpec Tryz.prog axX axG 66 [.agg (zah n)] [] (fun v O=>v=ab (zax n)/\O=[]):=by
 have hz:=hn.self.1;rcases zdY n with he |he
 ·skip
  refine zac { glb:=axG,ann:=[(3,[13])] } true Tryz.func66 (by kernel_rfl) rfl ?_
  repeat' (
    (conv=>whnf)
    first
     |exact zad (by kernel_rfl)
     |refine And.intro ?_ ?_
     |refine zaa ?_ ?_
     |((refine⟨fun vs O _=>∃k:Nat,k<=n.kids.length/\(∀j,j<k->zk8 n j=false)/\vs=[ai k]/\O=[.cells 30 (zgw n (zcW n.kids))],fun vs O=>match vs with |[.cv (.int _ k)]=>n.kids.length - k.toNat |_=>0,⟨0,Nat.zero_le _,fun j h=>absurd h (by omega),rfl,rfl⟩,?_⟩;rintro vs O _ ⟨k,hk,hj,rfl,rfl⟩))
     |intro _)
  all_goals try (have hw:zk8 n k=((atN n.kids ((k:Int).toNat)).kind==2&&((n.kind != 3||(k:Int)==0)||(k:Int)==(n.kids.length:Int) - 1)):=rfl)
  all_goals first
   |rfl
   |omega
   |(simp only[zz]at *;omega)
   |(exfalso;(simp only[zz]at *;omega))
   |exact abF (by unfold zax;rw[zf7 (k:=k) (by(simp only[zz]at *;omega)) (by rw[hw];(simp only[*,Bool.true_and,Bool.and_true,Bool.false_and,Bool.and_false,Bool.true_or,Bool.or_true,Bool.false_or,Bool.or_false,Bool.not_true,Bool.not_false,Bool.not_not,cond_true,cond_false];first |done |rfl))];rfl)
   |exact⟨k+1,by(simp only[zz]at *;omega),zdm hj (by rw[hw];(simp only[*,Bool.true_and,Bool.and_true,Bool.false_and,Bool.and_false,Bool.true_or,Bool.or_true,Bool.false_or,Bool.or_false,Bool.not_true,Bool.not_false,Bool.not_not,cond_true,cond_false];first |done |rfl)),rfl,rfl⟩
   |exact congrArg (fun b=>SV.cv (CV.bool b)) (show true=zax n by unfold zax;rw[zge (k:=k) (by(simp only[zz]at *;omega)) hj];rfl)
   |skip
 ·rw[he];refine zac { glb:=axG,ann:=[(3,[13])] } true Tryz.func66 (by kernel_rfl) rfl ?_
  repeat' (
    (conv=>whnf)
    first
     |exact zad (by kernel_rfl)
     |refine And.intro ?_ ?_
     |refine zaa ?_ ?_
     |((refine⟨fun vs O _=>∃k:Nat,k<=n.kids.length/\(∀j,j<k->zk8 n j=false)/\vs=[ai k]/\O=[.cells 30 (zgw n (fun i=>zah (atN n.kids i)))],fun vs O=>match vs with |[.cv (.int _ k)]=>n.kids.length - k.toNat |_=>0,⟨0,Nat.zero_le _,fun j h=>absurd h (by omega),rfl,rfl⟩,?_⟩;rintro vs O _ ⟨k,hk,hj,rfl,rfl⟩))
     |intro _)
  all_goals try (have hw:zk8 n k=((atN n.kids ((k:Int).toNat)).kind==2&&((n.kind != 3||(k:Int)==0)||(k:Int)==(n.kids.length:Int) - 1)):=rfl)
  all_goals first
   |rfl
   |omega
   |(simp only[zz]at *;omega)
   |(exfalso;(simp only[zz]at *;omega))
   |exact abF (by unfold zax;rw[zf7 (k:=k) (by(simp only[zz]at *;omega)) (by rw[hw];(simp only[*,Bool.true_and,Bool.and_true,Bool.false_and,Bool.and_false,Bool.true_or,Bool.or_true,Bool.false_or,Bool.or_false,Bool.not_true,Bool.not_false,Bool.not_not,cond_true,cond_false];first |done |rfl))];rfl)
   |exact⟨k+1,by(simp only[zz]at *;omega),zdm hj (by rw[hw];(simp only[*,Bool.true_and,Bool.and_true,Bool.false_and,Bool.and_false,Bool.true_or,Bool.or_true,Bool.false_or,Bool.or_false,Bool.not_true,Bool.not_false,Bool.not_not,cond_true,cond_false];first |done |rfl)),rfl,rfl⟩
   |exact congrArg (fun b=>SV.cv (CV.bool b)) (show true=zax n by unfold zax;rw[zge (k:=k) (by(simp only[zz]at *;omega)) hj];rfl)
theorem zsR(n:NodeM)(hn:Fit n):DSpec Tryz.prog axX axG 65 [.agg (zah n)] [] (fun v O=>v=ab (!zax n)/\O=[]):=by
 refine zac { glb:=axG } true Tryz.func65 (by kernel_rfl) rfl ?_
 repeat' (
   (conv=>whnf)
   first
    |exact zad (by kernel_rfl)
    |refine And.intro ?_ ?_
    |refine zaa ?_ ?_
    |(refine⟨_,zya n hn,?_⟩;rintro v O' ⟨rfl,rfl⟩)
    |intro _)
 all_goals rfl
noncomputable def zgW(n:NodeM)(p:NodeM->Bool):Bool:=(zaE 0 n).any fun x=>p x.2
theorem zlO{n:NodeM}{p:NodeM->Bool}{j:Nat}{x:Int×NodeM}(hx:(zaE 0 n)[j]? = some x)(h:p x.2=true):zgW n p=true:=by
 unfold zgW;rw[List.any_eq_true];exact⟨x,List.mem_of_getElem? hx,h⟩
theorem zqz{n:NodeM}{p:NodeM->Bool}{j:Nat}(hj:j=(zaE 0 n).length)(h:∀i x,i<j->(zaE 0 n)[i]? = some x->p x.2=false):zgW n p=false:=by
 unfold zgW;rw[Bool.eq_false_iff,Ne,List.any_eq_true];rintro⟨x,hx,hp⟩;obtain⟨i,hi⟩:=List.mem_iff_getElem?.1 hx;have hlt:=(List.getElem?_eq_some_iff.1 hi).1;rw[h i x (by omega) hi]at hp;cases hp
theorem ztF{n:NodeM}{p:NodeM->Bool}{j:Nat}{y:Int×NodeM}(hy:(zaE 0 n)[j]? = some y)(h:∀i x,i<j->(zaE 0 n)[i]? = some x->p x.2=false)(hq:p y.2=false):∀i x,i<j+1->(zaE 0 n)[i]? = some x->p x.2=false:=fun i x hi hx=>by
 rcases Nat.lt_succ_iff_lt_or_eq.1 hi with h1 |rfl
 ·exact h i x h1 hx
 ·rw[hy]at hx;cases hx;exact hq
theorem zsY(q:QueryM)(hq:QFit q):DSpec Tryz.prog axX axG 62 [.agg (zaD q),.fn 63 [] []] [] (fun v O=>v=ab (zgW q.p zoW)/\O=[]):=by
 refine zac { glb:=axG } true Tryz.func62 (by kernel_rfl) rfl ?_
 repeat' (
   (conv=>whnf)
   first
    |exact zad (by kernel_rfl)
    |refine And.intro ?_ ?_
    |refine zaa ?_ ?_
    |(refine⟨_,zqG q.p,?_⟩;rintro v O' ⟨rfl,rfl⟩)
    |((refine⟨_,_,zma q.p hq.fit,fun j O=>O=[.cells 34 (zaD q),.cells 85 [.fn 63 [] []],.cells 4 [ab false]]/\∀i x,i<j->(zaE 0 q.p)[i]? = some x->zoW x.2=false,⟨rfl,fun i x h=>absurd h (by omega)⟩,?_,?_⟩;rintro j O' vs ⟨rfl,hj⟩ hy;obtain⟨x,hx,rfl⟩:=zil hy;rotate_left;rintro j O' v ⟨rfl,hj⟩ hy))
    |(refine⟨_,zBp x.2,?_⟩;rintro v O' ⟨rfl,rfl⟩)
    |intro _)
 all_goals first
  |rfl
  |omega
  |(rename_i hz;exact congrArg (fun b=>SV.cv (CV.bool b)) (zlO (p:=zoW) hx hz).symm)
  |(rename_i hz;exact⟨rfl,ztF (p:=zoW) hx hj hz⟩)
  |(rename_i hz i2 x2 hi2 hx2;exact ztF (p:=zoW) hx hj hz i2 x2 hi2 hx2)
  |exact abF (zqz (p:=zoW) (hy.2 rfl) hj)
theorem zoU(q:QueryM)(hq:QFit q):DSpec Tryz.prog axX axG 62 [.agg (zaD q),.fn 64 [] []] [] (fun v O=>v=ab (zgW q.p zdl)/\O=[]):=by
 refine zac { glb:=axG } true Tryz.func62 (by kernel_rfl) rfl ?_
 repeat' (
   (conv=>whnf)
   first
    |exact zad (by kernel_rfl)
    |refine And.intro ?_ ?_
    |refine zaa ?_ ?_
    |(refine⟨_,zqG q.p,?_⟩;rintro v O' ⟨rfl,rfl⟩)
    |((refine⟨_,_,zma q.p hq.fit,fun j O=>O=[.cells 34 (zaD q),.cells 85 [.fn 64 [] []],.cells 4 [ab false]]/\∀i x,i<j->(zaE 0 q.p)[i]? = some x->zdl x.2=false,⟨rfl,fun i x h=>absurd h (by omega)⟩,?_,?_⟩;rintro j O' vs ⟨rfl,hj⟩ hy;obtain⟨x,hx,rfl⟩:=zil hy;rotate_left;rintro j O' v ⟨rfl,hj⟩ hy))
    |(refine⟨_,zvd x.2,?_⟩;rintro v O' ⟨rfl,rfl⟩)
    |intro _)
 all_goals first
  |rfl
  |omega
  |(rename_i hz;exact congrArg (fun b=>SV.cv (CV.bool b)) (zlO (p:=zdl) hx hz).symm)
  |(rename_i hz;exact⟨rfl,ztF (p:=zdl) hx hj hz⟩)
  |(rename_i hz i2 x2 hi2 hx2;exact ztF (p:=zdl) hx hj hz i2 x2 hi2 hx2)
  |exact abF (zqz (p:=zdl) (hy.2 rfl) hj)
theorem zmG(q:QueryM)(hq:QFit q):DSpec Tryz.prog axX axG 62 [.agg (zaD q),.fn 65 [] []] [] (fun v O=>v=ab (zgW q.p (fun m => !zax m))/\O=[]):=by
 refine zac { glb:=axG } true Tryz.func62 (by kernel_rfl) rfl ?_
 repeat' (
   (conv=>whnf)
   first
    |exact zad (by kernel_rfl)
    |refine And.intro ?_ ?_
    |refine zaa ?_ ?_
    |(refine⟨_,zqG q.p,?_⟩;rintro v O' ⟨rfl,rfl⟩)
    |((refine⟨_,_,zma q.p hq.fit,fun j O=>O=[.cells 34 (zaD q),.cells 85 [.fn 65 [] []],.cells 4 [ab false]]/\∀i x,i<j->(zaE 0 q.p)[i]? = some x->(fun m => !zax m) x.2=false,⟨rfl,fun i x h=>absurd h (by omega)⟩,?_,?_⟩;rintro j O' vs ⟨rfl,hj⟩ hy;obtain⟨x,hx,rfl⟩:=zil hy;rotate_left;rintro j O' v ⟨rfl,hj⟩ hy))
    |(refine⟨_,zsR x.2 (zuR hq.fit hx),?_⟩;rintro v O' ⟨rfl,rfl⟩)
    |intro _)
 all_goals first
  |rfl
  |omega
  |(rename_i hz;exact congrArg (fun b=>SV.cv (CV.bool b)) (zlO (p:=(fun m => !zax m)) hx hz).symm)
  |(rename_i hz;exact⟨rfl,ztF (p:=(fun m => !zax m)) hx hj hz⟩)
  |(rename_i hz i2 x2 hi2 hx2;exact ztF (p:=(fun m => !zax m)) hx hj hz i2 x2 hi2 hx2)
  |exact abF (zqz (p:=(fun m => !zax m)) (hy.2 rfl) hj)
noncomputable def zh7(q:QueryM):Bool:=((decide (((zap q.p).length:Int) > 12)||decide ((q.hv.length:Int) > 4))||decide ((q.em.length:Int) > 4))||zgW q.p zoW
theorem zDP(q:QueryM)(hq:QFit q):DSpec Tryz.prog axX axG 35 [.agg (zaD q)] [] (fun v O=>v=ai (bif zh7 q then 6 else 0)/\O=[]):=by
 refine zac { glb:=axG } true Tryz.func35 (by kernel_rfl) rfl ?_
 repeat' (
   (conv=>whnf)
   first
    |exact zad (by kernel_rfl)
    |refine And.intro ?_ ?_
    |refine zaa ?_ ?_
    |(refine⟨_,zme q.p hq.toNFit,?_⟩;rintro v O' ⟨rfl,rfl⟩)
    |(refine⟨_,zsY q hq,?_⟩;rintro v O' ⟨rfl,rfl⟩)
    |intro _)
 all_goals first
  |rfl
  |(simp only[zh7, *,Bool.true_and,Bool.and_true,Bool.false_and,Bool.and_false,Bool.true_or,Bool.or_true,Bool.false_or,Bool.or_false,Bool.not_true,Bool.not_false,Bool.not_not,cond_true,cond_false];first |done |rfl)
theorem zCz(q:QueryM)(hq:QFit q):DSpec Tryz.prog axX axG 36 [.agg (zaD q)] [] (fun v O=>v=ai (bif decide (zze q.p > 6)then 22 else 0)/\O=[]):=by
 refine zac { glb:=axG } true Tryz.func36 (by kernel_rfl) rfl ?_
 repeat' (
   (conv=>whnf)
   first
    |exact zad (by kernel_rfl)
    |refine And.intro ?_ ?_
    |refine zaa ?_ ?_
    |(refine⟨_,zBK q.p hq.toNFit,?_⟩;rintro v O' ⟨rfl,rfl⟩)
    |intro _)
 all_goals first
  |rfl
  |(simp only[*,Bool.true_and,Bool.and_true,Bool.false_and,Bool.and_false,Bool.true_or,Bool.or_true,Bool.false_or,Bool.or_false,Bool.not_true,Bool.not_false,Bool.not_not,cond_true,cond_false];first |done |rfl)
noncomputable def zcK(q:QueryM):Bool:=decide (q.within > 10000)||zgW q.p zdl
theorem zyy(q:QueryM)(hq:QFit q):DSpec Tryz.prog axX axG 37 [.agg (zaD q)] [] (fun v O=>v=ai (bif zcK q then 2 else 0)/\O=[]):=by
 refine zac { glb:=axG } true Tryz.func37 (by kernel_rfl) rfl ?_
 repeat' (
   (conv=>whnf)
   first
    |exact zad (by kernel_rfl)
    |refine And.intro ?_ ?_
    |refine zaa ?_ ?_
    |(refine⟨_,zoU q hq,?_⟩;rintro v O' ⟨rfl,rfl⟩)
    |intro _)
 all_goals first
  |rfl
  |(simp only[zcK, *,Bool.true_and,Bool.and_true,Bool.false_and,Bool.and_false,Bool.true_or,Bool.or_true,Bool.false_or,Bool.or_false,Bool.not_true,Bool.not_false,Bool.not_not,cond_true,cond_false];first |done |rfl)
noncomputable def zbs(q:QueryM):Bool:=q.p.kind==2||zgW q.p fun m => !zax m
theorem zt7(q:QueryM)(hq:QFit q):DSpec Tryz.prog axX axG 38 [.agg (zaD q)] [] (fun v O=>v=ai (bif zbs q then 9 else 0)/\O=[]):=by
 refine zac { glb:=axG } true Tryz.func38 (by kernel_rfl) rfl ?_
 repeat' (
   (conv=>whnf)
   first
    |exact zad (by kernel_rfl)
    |refine And.intro ?_ ?_
    |refine zaa ?_ ?_
    |(refine⟨_,zmG q hq,?_⟩;rintro v O' ⟨rfl,rfl⟩)
    |intro _)
 all_goals first
  |rfl
  |(simp only[zbs, *,Bool.true_and,Bool.and_true,Bool.false_and,Bool.and_false,Bool.true_or,Bool.or_true,Bool.false_or,Bool.or_false,Bool.not_true,Bool.not_false,Bool.not_not,cond_true,cond_false];first |done |rfl)
theorem zxJ(q:QueryM)(hq:QFit q):DSpec Tryz.prog axX axG 34 [.agg (zaD q)] [] (fun v O=>v=ai (zdk q)/\O=[]):=by
 refine zac { glb:=axG } true Tryz.func34 (by kernel_rfl) rfl ?_
 repeat' (
   (conv=>whnf)
   first
    |exact zad (by kernel_rfl)
    |refine And.intro ?_ ?_
    |refine zaa ?_ ?_
    |(refine⟨_,zwJ q hq,?_⟩;rintro v O' ⟨rfl,rfl⟩)
    |intro _)
 all_goals rfl
end Go.Proofs.YtogdglnaagkaaaaGreatDoor
