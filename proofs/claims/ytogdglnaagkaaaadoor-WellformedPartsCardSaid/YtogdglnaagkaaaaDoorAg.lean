import Derived.Test.YtogdglnaagkaaaaDoorAf
set_option linter.unusedSimpArgs false
set_option linter.unusedVariables false
set_option maxRecDepth 100000
namespace Go.Proofs.YtogdglnaagkaaaaDoor
open Go Go.Cx
def ysN(l:List (Int×NodeM)):Nat->Option (List SV):=fun k=>(l[k]?).map fun p=>[.agg (zah p.2)]
theorem zh3{l:List (Int×NodeM)}{k:Nat}{vs:List SV}(h:ysN l k=some vs):∃p,l[k]? = some p/\vs=[.agg (zah p.2)]:=by
 unfold ysN at h;cases hq:l[k]? with
 |none=>rw[hq]at h;cases h
 |some p=>rw[hq]at h;cases h;exact⟨p,rfl,rfl⟩
theorem zzg{l:List (Int×NodeM)}{k:Nat}{p:Int×NodeM}(h:l[k]? = some p):ysN l k=some [.agg (zah p.2)]:=by
 unfold ysN;rw[h];rfl
theorem zhO(d:Int)(n:NodeM):ysN (zaZ d n) 0=some [.agg (zah n)]:=by
 unfold ysN;rw[zcy];rfl
theorem zsm{d:Int}{n:NodeM}{k j:Nat}{vs:List SV}(hk:k<n.kids.length)(h:ysN (zaZ (d+1) (atN n.kids k)) j=some vs):ysN (zaZ d n) (zr1 d n k+j)=some vs:=by
 obtain⟨p,hp,rfl⟩:=zh3 h;exact zzg (zup hk hp)
set_option maxHeartbeats 4000000 in
theorem zwc:∀(n:NodeM) (hn:Fit n) (d:Int),DIter Tryd.prog axX axG 71 (fun l=>[.agg (zah n),.cv (.yld l)]) (ysN (zaZ d n)) (fun g v=>v=ab (!g.st)/\(g.st=false->g.n=(zaZ d n).length)):=by
 intro n
 induction n using zeX with |h n ih=>?_
 intro hn d;have hz:=hn.self.1;rcases zeE n with he |he
 ·skip
  refine zhP { glb:=axG,ann:=[(4,[14])] } Tryd.func71 (by kernel_rfl) rfl fun l=>?_
  repeat' (
    (conv=>whnf)
    first
     |exact zaf (by kernel_rfl)
     |refine And.intro ?_ ?_
     |refine zaa ?_ ?_
     |((refine⟨fun vs O g=>∃k:Nat,k<=n.kids.length/\vs=[ai k]/\O=[.cells 30 (zhB n (zcc n.kids))]/\g=⟨zr1 d n k,false⟩,fun vs O=>match vs with |[.cv (.int _ k)]=>n.kids.length - k.toNat |_=>0,⟨0,Nat.zero_le _,rfl,rfl,rfl⟩,?_⟩;rintro vs O g ⟨k,hk,rfl,rfl,rfl⟩))
     |((refine⟨_,_,_,ih (atN n.kids k) (zeo (by(simp only[zz]at *;omega))) (hn.kid (zeo (by(simp only[zz]at *;omega)))) (d+1),⟨rfl,rfl,fun j vs hy=>zsm (by(simp only[zz]at *;omega)) hy⟩,?_⟩;rintro⟨gn,gst⟩ v ⟨rfl,hy⟩;cases gst))
     |intro _)
  all_goals first
   |rfl
   |omega
   |(simp only[zz]at *;omega)
   |exact zhO d n
   |exact(zhO d n).trans (by rw[he];rfl)
   |exact⟨rfl,fun h=>stA h⟩
   |exact⟨rfl,fun h=>absurd h (by decide)⟩
   |exact stA (by assumption)
   |(rw[show k=n.kids.length by(simp only[zz]at *;omega)];exact zlI d n)
   |(exfalso;(simp only[zz]at *;omega))
   |(rename_i h;cases h;done)
   |exact⟨k+1,by(simp only[zz]at *;omega),rfl,rfl,by have hq:=hy rfl;rw[ziv (by(simp only[zz]at *;omega)),<- hq]⟩
   |skip
 ·rw[he];refine zhP { glb:=axG,ann:=[(4,[14])] } Tryd.func71 (by kernel_rfl) rfl fun l=>?_
  repeat' (
    (conv=>whnf)
    first
     |exact zaf (by kernel_rfl)
     |refine And.intro ?_ ?_
     |refine zaa ?_ ?_
     |((refine⟨fun vs O g=>∃k:Nat,k<=n.kids.length/\vs=[ai k]/\O=[.cells 30 (zhB n (fun i=>zah (atN n.kids i)))]/\g=⟨zr1 d n k,false⟩,fun vs O=>match vs with |[.cv (.int _ k)]=>n.kids.length - k.toNat |_=>0,⟨0,Nat.zero_le _,rfl,rfl,rfl⟩,?_⟩;rintro vs O g ⟨k,hk,rfl,rfl,rfl⟩))
     |((refine⟨_,_,_,ih (atN n.kids k) (zeo (by(simp only[zz]at *;omega))) (hn.kid (zeo (by(simp only[zz]at *;omega)))) (d+1),⟨rfl,rfl,fun j vs hy=>zsm (by(simp only[zz]at *;omega)) hy⟩,?_⟩;rintro⟨gn,gst⟩ v ⟨rfl,hy⟩;cases gst))
     |intro _)
  all_goals first
   |rfl
   |omega
   |(simp only[zz]at *;omega)
   |exact zhO d n
   |exact(zhO d n).trans (by rw[he];rfl)
   |exact⟨rfl,fun h=>stA h⟩
   |exact⟨rfl,fun h=>absurd h (by decide)⟩
   |exact stA (by assumption)
   |(rw[show k=n.kids.length by(simp only[zz]at *;omega)];exact zlI d n)
   |(exfalso;(simp only[zz]at *;omega))
   |(rename_i h;cases h;done)
   |exact⟨k+1,by(simp only[zz]at *;omega),rfl,rfl,by have hq:=hy rfl;rw[ziv (by(simp only[zz]at *;omega)),<- hq]⟩
theorem zoc(n:NodeM):DSpec Tryd.prog axX axG 62 [.agg (zah n)] [] (fun v O=>v=.fn 70 [] [.ipt (zah n) 0]/\O=[]):=by
 refine zac { glb:=axG } true Tryd.func62 (by kernel_rfl) rfl ?_
 repeat' (
   (conv=>whnf)
   first
    |exact zaf (by kernel_rfl)
    |refine And.intro ?_ ?_
    |refine zaa ?_ ?_
    |intro _)
 all_goals rfl
theorem zla(n:NodeM)(hn:Fit n):DIter Tryd.prog axX axG 70 (fun l=>[.cv (.yld l),.ipt (zah n) 0]) (ysN (zaZ 0 n)) (fun g v=>v=.tup []/\(g.st=false->g.n=(zaZ 0 n).length)):=by
 refine zhP { glb:=axG } Tryd.func70 (by kernel_rfl) rfl fun l=>?_
 repeat' (
   (conv=>whnf)
   first
    |exact zaf (by kernel_rfl)
    |refine And.intro ?_ ?_
    |refine zaa ?_ ?_
    |((refine⟨_,_,_,zwc n hn 0,⟨rfl,rfl,fun j vs hy=>by rw[show gh0.n+j=j from Nat.zero_add j];exact hy⟩,?_⟩;rintro⟨gn,gst⟩ v ⟨rfl,hy⟩;cases gst))
    |intro _)
 all_goals first
  |rfl
  |omega
  |exact stA (by assumption)
  |(show gh0.n+gn=_;rw[show gh0.n+gn=gn from Nat.zero_add gn];exact hy rfl)
noncomputable def znf(n:NodeM):Bool:=decide ((n.kids.length:Int) > 8)||decide ((n.atom.cs.length:Int) > 4)
theorem zxr(n:NodeM):DSpec Tryd.prog axX axG 47 [.agg (zah n)] [] (fun v O=>v=ab (znf n)/\O=[]):=by
 refine zac { glb:=axG } true Tryd.func47 (by kernel_rfl) rfl ?_
 repeat' (
   (conv=>whnf)
   first
    |exact zaf (by kernel_rfl)
    |refine And.intro ?_ ?_
    |refine zaa ?_ ?_
    |intro _)
 all_goals first
  |rfl
  |(simp only[znf, *,Bool.true_and,Bool.and_true,Bool.false_and,Bool.and_false,Bool.true_or,Bool.or_true,Bool.false_or,Bool.or_false,Bool.not_true,Bool.not_false,Bool.not_not,cond_true,cond_false];first |done |rfl)
noncomputable def zc7(n:NodeM):Bool:=n.kind==1&&((decide (n.mn<1)||decide (n.mn > n.mx))||decide (n.mx > 6))
theorem zsW(n:NodeM):DSpec Tryd.prog axX axG 48 [.agg (zah n)] [] (fun v O=>v=ab (zc7 n)/\O=[]):=by
 refine zac { glb:=axG } true Tryd.func48 (by kernel_rfl) rfl ?_
 repeat' (
   (conv=>whnf)
   first
    |exact zaf (by kernel_rfl)
    |refine And.intro ?_ ?_
    |refine zaa ?_ ?_
    |intro _)
 all_goals first
  |rfl
  |(simp only[zc7, *,Bool.true_and,Bool.and_true,Bool.false_and,Bool.and_false,Bool.true_or,Bool.or_true,Bool.false_or,Bool.or_false,Bool.not_true,Bool.not_false,Bool.not_not,cond_true,cond_false];first |done |rfl)
noncomputable def zhl(n:NodeM)(i:Nat):Bool:=(atN n.kids i).kind==2&&((n.kind != 3||(i:Int)==0)||(i:Int)==(n.kids.length:Int) - 1)
noncomputable def zak(n:NodeM):Bool := !((List.range n.kids.length).any (zhl n))
theorem zeh{n k:Nat}{p:Nat->Bool}(hk:k<n)(h:p k=true):(List.range n).any p=true:=by
 rw[List.any_eq_true];exact⟨k,List.mem_range.2 hk,h⟩
theorem ze2{n k:Nat}{p:Nat->Bool}(hk:n<=k)(h:∀j,j<k->p j=false):(List.range n).any p=false:=by
 rw[Bool.eq_false_iff,Ne,List.any_eq_true];rintro⟨x,hx,hp⟩;rw[h x (by have:=List.mem_range.1 hx;omega)]at hp;cases hp
set_option maxHeartbeats 4000000 in
theorem zwp(n:NodeM)(hn:Fit n):DSpec Tryd.prog axX axG 50 [.agg (zah n)] [] (fun v O=>v=ab (zak n)/\O=[]):=by
 have hz:=hn.self.1;rcases zeE n with he |he
 ·skip
  refine zac { glb:=axG,ann:=[(3,[13])] } true Tryd.func50 (by kernel_rfl) rfl ?_
  repeat' (
    (conv=>whnf)
    first
     |exact zaf (by kernel_rfl)
     |refine And.intro ?_ ?_
     |refine zaa ?_ ?_
     |((refine⟨fun vs O _=>∃k:Nat,k<=n.kids.length/\(∀j,j<k->zhl n j=false)/\vs=[ai k]/\O=[.cells 30 (zhB n (zcc n.kids))],fun vs O=>match vs with |[.cv (.int _ k)]=>n.kids.length - k.toNat |_=>0,⟨0,Nat.zero_le _,fun j h=>absurd h (by omega),rfl,rfl⟩,?_⟩;rintro vs O _ ⟨k,hk,hj,rfl,rfl⟩))
     |intro _)
  all_goals try (have hw:zhl n k=((atN n.kids ((k:Int).toNat)).kind==2&&((n.kind != 3||(k:Int)==0)||(k:Int)==(n.kids.length:Int) - 1)):=rfl)
  all_goals first
   |rfl
   |omega
   |(simp only[zz]at *;omega)
   |(exfalso;(simp only[zz]at *;omega))
   |exact abF (by unfold zak;rw[zeh (k:=k) (by(simp only[zz]at *;omega)) (by rw[hw];(simp only[*,Bool.true_and,Bool.and_true,Bool.false_and,Bool.and_false,Bool.true_or,Bool.or_true,Bool.false_or,Bool.or_false,Bool.not_true,Bool.not_false,Bool.not_not,cond_true,cond_false];first |done |rfl))];rfl)
   |exact⟨k+1,by(simp only[zz]at *;omega),zdb hj (by rw[hw];(simp only[*,Bool.true_and,Bool.and_true,Bool.false_and,Bool.and_false,Bool.true_or,Bool.or_true,Bool.false_or,Bool.or_false,Bool.not_true,Bool.not_false,Bool.not_not,cond_true,cond_false];first |done |rfl)),rfl,rfl⟩
   |exact congrArg (fun b=>SV.cv (CV.bool b)) (show true=zak n by unfold zak;rw[ze2 (k:=k) (by(simp only[zz]at *;omega)) hj];rfl)
   |skip
 ·rw[he];refine zac { glb:=axG,ann:=[(3,[13])] } true Tryd.func50 (by kernel_rfl) rfl ?_
  repeat' (
    (conv=>whnf)
    first
     |exact zaf (by kernel_rfl)
     |refine And.intro ?_ ?_
     |refine zaa ?_ ?_
     |((refine⟨fun vs O _=>∃k:Nat,k<=n.kids.length/\(∀j,j<k->zhl n j=false)/\vs=[ai k]/\O=[.cells 30 (zhB n (fun i=>zah (atN n.kids i)))],fun vs O=>match vs with |[.cv (.int _ k)]=>n.kids.length - k.toNat |_=>0,⟨0,Nat.zero_le _,fun j h=>absurd h (by omega),rfl,rfl⟩,?_⟩;rintro vs O _ ⟨k,hk,hj,rfl,rfl⟩))
     |intro _)
  all_goals try (have hw:zhl n k=((atN n.kids ((k:Int).toNat)).kind==2&&((n.kind != 3||(k:Int)==0)||(k:Int)==(n.kids.length:Int) - 1)):=rfl)
  all_goals first
   |rfl
   |omega
   |(simp only[zz]at *;omega)
   |(exfalso;(simp only[zz]at *;omega))
   |exact abF (by unfold zak;rw[zeh (k:=k) (by(simp only[zz]at *;omega)) (by rw[hw];(simp only[*,Bool.true_and,Bool.and_true,Bool.false_and,Bool.and_false,Bool.true_or,Bool.or_true,Bool.false_or,Bool.or_false,Bool.not_true,Bool.not_false,Bool.not_not,cond_true,cond_false];first |done |rfl))];rfl)
   |exact⟨k+1,by(simp only[zz]at *;omega),zdb hj (by rw[hw];(simp only[*,Bool.true_and,Bool.and_true,Bool.false_and,Bool.and_false,Bool.true_or,Bool.or_true,Bool.false_or,Bool.or_false,Bool.not_true,Bool.not_false,Bool.not_not,cond_true,cond_false];first |done |rfl)),rfl,rfl⟩
   |exact congrArg (fun b=>SV.cv (CV.bool b)) (show true=zak n by unfold zak;rw[ze2 (k:=k) (by(simp only[zz]at *;omega)) hj];rfl)
theorem zrV(n:NodeM)(hn:Fit n):DSpec Tryd.prog axX axG 49 [.agg (zah n)] [] (fun v O=>v=ab (!zak n)/\O=[]):=by
 refine zac { glb:=axG } true Tryd.func49 (by kernel_rfl) rfl ?_
 repeat' (
   (conv=>whnf)
   first
    |exact zaf (by kernel_rfl)
    |refine And.intro ?_ ?_
    |refine zaa ?_ ?_
    |(refine⟨_,zwp n hn,?_⟩;rintro v O' ⟨rfl,rfl⟩)
    |intro _)
 all_goals rfl
noncomputable def ze6(n:NodeM)(p:NodeM->Bool):Bool:=(zaZ 0 n).any fun x=>p x.2
theorem zls{n:NodeM}{p:NodeM->Bool}{j:Nat}{x:Int×NodeM}(hx:(zaZ 0 n)[j]? = some x)(h:p x.2=true):ze6 n p=true:=by
 unfold ze6;rw[List.any_eq_true];exact⟨x,List.mem_of_getElem? hx,h⟩
theorem zpb{n:NodeM}{p:NodeM->Bool}{j:Nat}(hj:j=(zaZ 0 n).length)(h:∀i x,i<j->(zaZ 0 n)[i]? = some x->p x.2=false):ze6 n p=false:=by
 unfold ze6;rw[Bool.eq_false_iff,Ne,List.any_eq_true];rintro⟨x,hx,hp⟩;obtain⟨i,hi⟩:=List.mem_iff_getElem?.1 hx;have hlt:=(List.getElem?_eq_some_iff.1 hi).1;rw[h i x (by omega) hi]at hp;cases hp
theorem zrG{n:NodeM}{p:NodeM->Bool}{j:Nat}{y:Int×NodeM}(hy:(zaZ 0 n)[j]? = some y)(h:∀i x,i<j->(zaZ 0 n)[i]? = some x->p x.2=false)(hq:p y.2=false):∀i x,i<j+1->(zaZ 0 n)[i]? = some x->p x.2=false:=fun i x hi hx=>by
 rcases Nat.lt_succ_iff_lt_or_eq.1 hi with h1 |rfl
 ·exact h i x h1 hx
 ·rw[hy]at hx;cases hx;exact hq
theorem zqT(q:QueryM)(hq:QFit q):DSpec Tryd.prog axX axG 46 [.agg (zaP q),.fn 47 [] []] [] (fun v O=>v=ab (ze6 q.p znf)/\O=[]):=by
 refine zac { glb:=axG } true Tryd.func46 (by kernel_rfl) rfl ?_
 repeat' (
   (conv=>whnf)
   first
    |exact zaf (by kernel_rfl)
    |refine And.intro ?_ ?_
    |refine zaa ?_ ?_
    |(refine⟨_,zoc q.p,?_⟩;rintro v O' ⟨rfl,rfl⟩)
    |((refine⟨_,_,zla q.p hq.fit,fun j O=>O=[.cells 34 (zaP q),.cells 72 [.fn 47 [] []],.cells 4 [ab false]]/\∀i x,i<j->(zaZ 0 q.p)[i]? = some x->znf x.2=false,⟨rfl,fun i x h=>absurd h (by omega)⟩,?_,?_⟩;rintro j O' vs ⟨rfl,hj⟩ hy;obtain⟨x,hx,rfl⟩:=zh3 hy;rotate_left;rintro j O' v ⟨rfl,hj⟩ hy))
    |(refine⟨_,zxr x.2,?_⟩;rintro v O' ⟨rfl,rfl⟩)
    |intro _)
 all_goals first
  |rfl
  |omega
  |(rename_i hz;exact congrArg (fun b=>SV.cv (CV.bool b)) (zls (p:=znf) hx hz).symm)
  |(rename_i hz;exact⟨rfl,zrG (p:=znf) hx hj hz⟩)
  |(rename_i hz i2 x2 hi2 hx2;exact zrG (p:=znf) hx hj hz i2 x2 hi2 hx2)
  |exact abF (zpb (p:=znf) (hy.2 rfl) hj)
theorem znx(q:QueryM)(hq:QFit q):DSpec Tryd.prog axX axG 46 [.agg (zaP q),.fn 48 [] []] [] (fun v O=>v=ab (ze6 q.p zc7)/\O=[]):=by
 refine zac { glb:=axG } true Tryd.func46 (by kernel_rfl) rfl ?_
 repeat' (
   (conv=>whnf)
   first
    |exact zaf (by kernel_rfl)
    |refine And.intro ?_ ?_
    |refine zaa ?_ ?_
    |(refine⟨_,zoc q.p,?_⟩;rintro v O' ⟨rfl,rfl⟩)
    |((refine⟨_,_,zla q.p hq.fit,fun j O=>O=[.cells 34 (zaP q),.cells 72 [.fn 48 [] []],.cells 4 [ab false]]/\∀i x,i<j->(zaZ 0 q.p)[i]? = some x->zc7 x.2=false,⟨rfl,fun i x h=>absurd h (by omega)⟩,?_,?_⟩;rintro j O' vs ⟨rfl,hj⟩ hy;obtain⟨x,hx,rfl⟩:=zh3 hy;rotate_left;rintro j O' v ⟨rfl,hj⟩ hy))
    |(refine⟨_,zsW x.2,?_⟩;rintro v O' ⟨rfl,rfl⟩)
    |intro _)
 all_goals first
  |rfl
  |omega
  |(rename_i hz;exact congrArg (fun b=>SV.cv (CV.bool b)) (zls (p:=zc7) hx hz).symm)
  |(rename_i hz;exact⟨rfl,zrG (p:=zc7) hx hj hz⟩)
  |(rename_i hz i2 x2 hi2 hx2;exact zrG (p:=zc7) hx hj hz i2 x2 hi2 hx2)
  |exact abF (zpb (p:=zc7) (hy.2 rfl) hj)
theorem zlB(q:QueryM)(hq:QFit q):DSpec Tryd.prog axX axG 46 [.agg (zaP q),.fn 49 [] []] [] (fun v O=>v=ab (ze6 q.p (fun m => !zak m))/\O=[]):=by
 refine zac { glb:=axG } true Tryd.func46 (by kernel_rfl) rfl ?_
 repeat' (
   (conv=>whnf)
   first
    |exact zaf (by kernel_rfl)
    |refine And.intro ?_ ?_
    |refine zaa ?_ ?_
    |(refine⟨_,zoc q.p,?_⟩;rintro v O' ⟨rfl,rfl⟩)
    |((refine⟨_,_,zla q.p hq.fit,fun j O=>O=[.cells 34 (zaP q),.cells 72 [.fn 49 [] []],.cells 4 [ab false]]/\∀i x,i<j->(zaZ 0 q.p)[i]? = some x->(fun m => !zak m) x.2=false,⟨rfl,fun i x h=>absurd h (by omega)⟩,?_,?_⟩;rintro j O' vs ⟨rfl,hj⟩ hy;obtain⟨x,hx,rfl⟩:=zh3 hy;rotate_left;rintro j O' v ⟨rfl,hj⟩ hy))
    |(refine⟨_,zrV x.2 (zr9 hq.fit hx),?_⟩;rintro v O' ⟨rfl,rfl⟩)
    |intro _)
 all_goals first
  |rfl
  |omega
  |(rename_i hz;exact congrArg (fun b=>SV.cv (CV.bool b)) (zls (p:=(fun m => !zak m)) hx hz).symm)
  |(rename_i hz;exact⟨rfl,zrG (p:=(fun m => !zak m)) hx hj hz⟩)
  |(rename_i hz i2 x2 hi2 hx2;exact zrG (p:=(fun m => !zak m)) hx hj hz i2 x2 hi2 hx2)
  |exact abF (zpb (p:=(fun m => !zak m)) (hy.2 rfl) hj)
noncomputable def zqW(q:QueryM):Bool:=((decide (((za9 q.p).length:Int) > 12)||decide ((q.hv.length:Int) > 4))||decide ((q.em.length:Int) > 4))||ze6 q.p znf
theorem zzh(q:QueryM)(hq:QFit q):DSpec Tryd.prog axX axG 33 [.agg (zaP q)] [] (fun v O=>v=ai (bif zqW q then 6 else 0)/\O=[]):=by
 refine zac { glb:=axG } true Tryd.func33 (by kernel_rfl) rfl ?_
 repeat' (
   (conv=>whnf)
   first
    |exact zaf (by kernel_rfl)
    |refine And.intro ?_ ?_
    |refine zaa ?_ ?_
    |(refine⟨_,ztf q.p hq.toNFit,?_⟩;rintro v O' ⟨rfl,rfl⟩)
    |(refine⟨_,zqT q hq,?_⟩;rintro v O' ⟨rfl,rfl⟩)
    |intro _)
 all_goals first
  |rfl
  |(simp only[zqW, *,Bool.true_and,Bool.and_true,Bool.false_and,Bool.and_false,Bool.true_or,Bool.or_true,Bool.false_or,Bool.or_false,Bool.not_true,Bool.not_false,Bool.not_not,cond_true,cond_false];first |done |rfl)
theorem zzB(q:QueryM)(hq:QFit q):DSpec Tryd.prog axX axG 34 [.agg (zaP q)] [] (fun v O=>v=ai (bif decide (zvE q.p > 6)then 22 else 0)/\O=[]):=by
 refine zac { glb:=axG } true Tryd.func34 (by kernel_rfl) rfl ?_
 repeat' (
   (conv=>whnf)
   first
    |exact zaf (by kernel_rfl)
    |refine And.intro ?_ ?_
    |refine zaa ?_ ?_
    |(refine⟨_,zyk q.p hq.toNFit,?_⟩;rintro v O' ⟨rfl,rfl⟩)
    |intro _)
 all_goals first
  |rfl
  |(simp only[*,Bool.true_and,Bool.and_true,Bool.false_and,Bool.and_false,Bool.true_or,Bool.or_true,Bool.false_or,Bool.or_false,Bool.not_true,Bool.not_false,Bool.not_not,cond_true,cond_false];first |done |rfl)
noncomputable def zgQ(q:QueryM):Bool:=decide (q.within > 10000)||ze6 q.p zc7
theorem zvg(q:QueryM)(hq:QFit q):DSpec Tryd.prog axX axG 35 [.agg (zaP q)] [] (fun v O=>v=ai (bif zgQ q then 2 else 0)/\O=[]):=by
 refine zac { glb:=axG } true Tryd.func35 (by kernel_rfl) rfl ?_
 repeat' (
   (conv=>whnf)
   first
    |exact zaf (by kernel_rfl)
    |refine And.intro ?_ ?_
    |refine zaa ?_ ?_
    |(refine⟨_,znx q hq,?_⟩;rintro v O' ⟨rfl,rfl⟩)
    |intro _)
 all_goals first
  |rfl
  |(simp only[zgQ, *,Bool.true_and,Bool.and_true,Bool.false_and,Bool.and_false,Bool.true_or,Bool.or_true,Bool.false_or,Bool.or_false,Bool.not_true,Bool.not_false,Bool.not_not,cond_true,cond_false];first |done |rfl)
noncomputable def za7(q:QueryM):Bool:=q.p.kind==2||ze6 q.p fun m => !zak m
theorem zt2(q:QueryM)(hq:QFit q):DSpec Tryd.prog axX axG 36 [.agg (zaP q)] [] (fun v O=>v=ai (bif za7 q then 9 else 0)/\O=[]):=by
 refine zac { glb:=axG } true Tryd.func36 (by kernel_rfl) rfl ?_
 repeat' (
   (conv=>whnf)
   first
    |exact zaf (by kernel_rfl)
    |refine And.intro ?_ ?_
    |refine zaa ?_ ?_
    |(refine⟨_,zlB q hq,?_⟩;rintro v O' ⟨rfl,rfl⟩)
    |intro _)
 all_goals first
  |rfl
  |(simp only[za7, *,Bool.true_and,Bool.and_true,Bool.false_and,Bool.and_false,Bool.true_or,Bool.or_true,Bool.false_or,Bool.or_false,Bool.not_true,Bool.not_false,Bool.not_not,cond_true,cond_false];first |done |rfl)
theorem zvi(q:QueryM)(hq:QFit q):DSpec Tryd.prog axX axG 32 [.agg (zaP q)] [] (fun v O=>v=ai (zjZ q)/\O=[]):=by
 refine zac { glb:=axG } true Tryd.func32 (by kernel_rfl) rfl ?_
 repeat' (
   (conv=>whnf)
   first
    |exact zaf (by kernel_rfl)
    |refine And.intro ?_ ?_
    |refine zaa ?_ ?_
    |(refine⟨_,zx7 q hq,?_⟩;rintro v O' ⟨rfl,rfl⟩)
    |intro _)
 all_goals rfl
end Go.Proofs.YtogdglnaagkaaaaDoor
