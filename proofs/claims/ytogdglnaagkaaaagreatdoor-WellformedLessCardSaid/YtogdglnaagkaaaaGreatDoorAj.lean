import Derived.Test.YtogdglnaagkaaaaGreatDoorAi
set_option linter.unusedSimpArgs false
set_option linter.unusedVariables false
set_option maxRecDepth 100000
namespace Go.Proofs.YtogdglnaagkaaaaGreatDoor
open Go Go.Cx
def zyX:Nat->List SV:=zcz 1 [.fn 34 [] [],.fn 35 [] [],.fn 36 [] [],.fn 37 [] [],.fn 38 [] [],.fn 39 [] []]
theorem zyl:DSpec Tryz.prog axX axG 26 [] [] (fun v O=>v=.isl 1 6 zyX/\O=[]):=by
 refine zac { glb:=axG } true Tryz.func26 (by kernel_rfl) rfl ?_
 repeat' (
   (conv=>whnf)
   first
    |exact zad (by kernel_rfl)
    |refine And.intro ?_ ?_
    |refine zaa ?_ ?_
    |intro _)
 all_goals first
  |rfl
theorem zwP(e x:Int):zwI Tryz.prog axX axG 25 [.ptr 0 0,.ptr 1 0] [.cells 36 [ai e],.cells 36 [ai x]] (fun v O=>v=.tup []/\O=[.cells 36 [ai e],.cells 36 [ai e]]):=by
 refine ztS { glb:=axG } Tryz.func25 (by kernel_rfl) (by kernel_rfl) ?_
 repeat' (
   (conv=>whnf)
   first
    |exact zad (by kernel_rfl)
    |refine And.intro ?_ ?_
    |refine zaa ?_ ?_
    |intro _)
 all_goals first
  |rfl
  |exact⟨rfl,rfl⟩
noncomputable def zd7(q:QueryM)(k:Nat):Int:=[zdk q,bif zh7 q then 6 else 0,bif decide (zze q.p > 6)then 22 else 0,bif zcK q then 2 else 0,bif zbs q then 9 else 0,zcB q].getD k 0
noncomputable def za1(q:QueryM):Int:=bif zd7 q 0 != 0 then zd7 q 0 else bif zd7 q 1 != 0 then zd7 q 1 else bif zd7 q 2 != 0 then zd7 q 2 else bif zd7 q 3 != 0 then zd7 q 3 else bif zd7 q 4 != 0 then zd7 q 4 else zd7 q 5
theorem nzE{q:QueryM}{k:Nat}(h:zd7 q k=0):(zd7 q k != 0)=false:=by rw[h];rfl
theorem zhg{q:QueryM}{k:Nat}(hk:k<6)(hj:∀j,j<k->zd7 q j=0)(h:(zd7 q k != 0)=true):za1 q=zd7 q k:=by
 unfold za1;obtain rfl |rfl |rfl |rfl |rfl |rfl:k=0\/k=1\/k=2\/k=3\/k=4\/k=5:=by omega
 ·rw[h];rfl
 ·rw[nzE (hj 0 (by decide)),h];rfl
 ·rw[nzE (hj 0 (by decide)),nzE (hj 1 (by decide)),h];rfl
 ·rw[nzE (hj 0 (by decide)),nzE (hj 1 (by decide)),nzE (hj 2 (by decide)),h];rfl
 ·rw[nzE (hj 0 (by decide)),nzE (hj 1 (by decide)),nzE (hj 2 (by decide)),nzE (hj 3 (by decide)),h];rfl
 ·rw[nzE (hj 0 (by decide)),nzE (hj 1 (by decide)),nzE (hj 2 (by decide)),nzE (hj 3 (by decide)),nzE (hj 4 (by decide))];rfl
theorem zr6{q:QueryM}(hj:∀j,j<6->zd7 q j=0):za1 q=0:=by
 unfold za1;rw[nzE (hj 0 (by decide)),nzE (hj 1 (by decide)),nzE (hj 2 (by decide)),nzE (hj 3 (by decide)),nzE (hj 4 (by decide))];exact hj 5 (by decide)
theorem zCp{q:QueryM}{k:Nat}(hj:∀j,j<k->zd7 q j=0)(h:(zd7 q k != 0)=false):∀j,j<k+1->zd7 q j=0:=fun j hlt=>by
 rcases Nat.lt_succ_iff_lt_or_eq.1 hlt with h1 |rfl
 ·exact hj j h1
 ·simpa using h
theorem zCr{q:QueryM}{k:Nat}(h:(zd7 q k != 0)=false):[SObj.cells 34 (zaD q),.cells 36 [ai 0],.cells 36 [ai (zd7 q k)]]=[SObj.cells 34 (zaD q),.cells 36 [ai 0],.cells 36 [ai 0]]:=by
 rw[show zd7 q k=0 by simpa using h]
set_option maxHeartbeats 8000000 in
theorem zit(q:QueryM)(hq:QFit q)(hs:q.hv.length+q.em.length<=900000):DSpec Tryz.prog axX axG 6 [.agg (zaD q)] [] (fun v O=>v=ai (za1 q)/\O=[]):=by
 refine zac { glb:=axG,ann:=[(4,[9])] } true Tryz.func6 (by kernel_rfl) rfl ?_
 repeat' (
   (conv=>whnf)
   first
    |exact zad (by kernel_rfl)
    |refine And.intro ?_ ?_
    |refine zaa ?_ ?_
    |(refine⟨_,zyl,?_⟩;rintro v O' ⟨rfl,rfl⟩)
    |(refine⟨_,zwP _ _,?_⟩;rintro v O' ⟨rfl,rfl⟩)
    |(refine⟨_,zxJ q hq,?_⟩;rintro v O' ⟨rfl,rfl⟩)
    |(refine⟨_,zDP q hq,?_⟩;rintro v O' ⟨rfl,rfl⟩)
    |(refine⟨_,zCz q hq,?_⟩;rintro v O' ⟨rfl,rfl⟩)
    |(refine⟨_,zyy q hq,?_⟩;rintro v O' ⟨rfl,rfl⟩)
    |(refine⟨_,zt7 q hq,?_⟩;rintro v O' ⟨rfl,rfl⟩)
    |(refine⟨_,zBh q hq hs,?_⟩;rintro v O' ⟨rfl,rfl⟩)
    |((refine⟨fun vs O _=>∃k:Nat,k<=6/\(∀j,j<k->zd7 q j=0)/\vs=[ai k]/\O=[.cells 34 (zaD q),.cells 36 [ai 0],.cells 36 [ai 0]],fun vs O=>match vs with |[.cv (.int _ k)]=>6 - k.toNat |_=>0,⟨0,Nat.zero_le _,fun j h=>absurd h (by omega),rfl,rfl⟩,?_⟩;rintro vs O _ ⟨k,hk,hj,rfl,rfl⟩;obtain rfl |rfl |rfl |rfl |rfl |rfl |rfl:k=0\/k=1\/k=2\/k=3\/k=4\/k=5\/k=6:=by omega))
    |intro _)
 all_goals first
  |rfl
  |omega
  |(simp only[zz]at *;omega)
  |exact ya9 rfl
  |(rename_i hz;exact congrArg ai (zhg (k:=0) (by decide) hj hz).symm)
  |(rename_i hz;exact⟨0+1,by decide,zCp (k:=0) hj hz,rfl,zCr (k:=0) hz⟩)
  |(rename_i hz;exact congrArg ai (zhg (k:=1) (by decide) hj hz).symm)
  |(rename_i hz;exact⟨1+1,by decide,zCp (k:=1) hj hz,rfl,zCr (k:=1) hz⟩)
  |(rename_i hz;exact congrArg ai (zhg (k:=2) (by decide) hj hz).symm)
  |(rename_i hz;exact⟨2+1,by decide,zCp (k:=2) hj hz,rfl,zCr (k:=2) hz⟩)
  |(rename_i hz;exact congrArg ai (zhg (k:=3) (by decide) hj hz).symm)
  |(rename_i hz;exact⟨3+1,by decide,zCp (k:=3) hj hz,rfl,zCr (k:=3) hz⟩)
  |(rename_i hz;exact congrArg ai (zhg (k:=4) (by decide) hj hz).symm)
  |(rename_i hz;exact⟨4+1,by decide,zCp (k:=4) hj hz,rfl,zCr (k:=4) hz⟩)
  |(rename_i hz;exact congrArg ai (zhg (k:=5) (by decide) hj hz).symm)
  |(rename_i hz;exact⟨5+1,by decide,zCp (k:=5) hj hz,rfl,zCr (k:=5) hz⟩)
  |exact congrArg ai (zr6 hj).symm
def zcN(n:NodeM):QueryM:=⟨n,0,[],[]⟩
noncomputable def zs3(l:List AtomM)(k:Nat):List (List Nat):=((l.take k).filter fun a => !isE (nm a.name)).map fun a=>nm a.name
theorem zAB{l:List AtomM}{k:Nat}(hk:k<l.length)(h:(!isE (nm (l.getD k default).name))=true):zs3 l (k+1)=zs3 l k++[nm (l.getD k default).name]:=by
 unfold zs3;rw[ya8,yb5 hk]at h ⊢;simp only[Option.getD_some]at h ⊢;rw[List.take_add_one,yb5 hk,List.filter_append,List.map_append];simp only[Option.toList_some,List.filter_cons,List.filter_nil,h];rfl
theorem zyj{l:List AtomM}{k:Nat}(hk:k<l.length)(h:(!isE (nm (l.getD k default).name))=false):zs3 l (k+1)=zs3 l k:=by
 unfold zs3;rw[ya8,yb5 hk]at h;simp only[Option.getD_some]at h;rw[List.take_add_one,yb5 hk,List.filter_append,List.map_append];simp only[Option.toList_some,List.filter_cons,List.filter_nil,h];simp
theorem zqX(l:List AtomM)(k:Nat):(zs3 l k).length<=l.length:=by
 unfold zs3;rw[yb7];refine Nat.le_trans (List.length_filter_le _ _) ?_;rw[List.length_take];omega
noncomputable def zcO(q:QueryM):List (List Nat):=bif za1 q != 0 then[]else zs3 (zap q.p) (zap q.p).length
theorem zyf{q:QueryM}(h:(za1 q != 0)=true):Same (.tup [.cv .nils,ai (za1 q)]) (.tup [.isl 1 (zcO q).length (elF zkB (zcO q)),ai (za1 q)]):=by
 have:zcO q=[]:=by unfold zcO;rw[h];rfl
 rw[this];exact .tup (.cons .nils (.cons (.refl _) .nil))
theorem zBR{q:QueryM}{k m:Nat}{el:Nat->List SV}(h:(za1 q != 0)=false)(hk:decide ((k:Int)<(zap q.p).length)=false)(hle:k<=(zap q.p).length)(hl:LElA zkB (zs3 (zap q.p) k) m el):Same (.tup [.isl 1 m el,ai 0]) (.tup [.isl 1 (zcO q).length (elF zkB (zcO q)),ai (za1 q)]):=by
 have hk:k=(zap q.p).length:=by simp at hk;omega
 subst hk;have:zcO q=zs3 (zap q.p) (zap q.p).length:=by unfold zcO;rw[h];rfl
 rw[this,show za1 q=0 by simpa using h];obtain⟨rfl,h2⟩:=hl;exact .tup (.cons (.isl h2) (.cons (.refl _) .nil))
set_option maxHeartbeats 8000000 in
theorem zu7(q:QueryM)(hq:QFit q)(hs:q.hv.length+q.em.length<=900000):DSpec Tryz.prog axX axG 9 [.agg (zaD q)] [] (fun v O=>v=.tup [.isl 1 (zcO q).length (elF zkB (zcO q)),ai (za1 q)]/\O=[]):=by
 have hal:=zq3 hq.toNFit;refine DSpec.same (post:=fun v O=>Same v (.tup [.isl 1 (zcO q).length (elF zkB (zcO q)),ai (za1 q)])/\O=[]) ?_ fun v O h=>⟨_,h.1,rfl,h.2⟩
 refine zac { glb:=axG,ann:=[(7,[23,5])],nils:=[(7,[(.slot 5,9,1)])] } true Tryz.func9 (by kernel_rfl) rfl ?_
 repeat' (
   (conv=>whnf)
   first
    |exact zad (by kernel_rfl)
    |refine And.intro ?_ ?_
    |refine zaa ?_ ?_
    |(refine⟨_,zit q hq hs,?_⟩;rintro v O' ⟨rfl,rfl⟩)
    |(refine⟨_,zme q.p hq.toNFit,?_⟩;rintro v O' ⟨rfl,rfl⟩)
    |((refine⟨fun vs O _=>∃(k m:Nat) (el:Nat->List SV),k<=(zap q.p).length/\LElA zkB (zs3 (zap q.p) k) m el/\vs=[ai k,.lst 1]/\O=[.cells 34 (zaD q),.list 9 1 m el],fun vs O=>match vs with |[.cv (.int _ k),_]=>(zap q.p).length - k.toNat |_=>0,⟨0,0,_,Nat.zero_le _,⟨rfl,fun i h=>absurd h (by omega)⟩,rfl,rfl⟩,?_⟩;rintro vs O _ ⟨k,m,el,hk,hl,rfl,rfl⟩))
    |intro _)
 all_goals try have hnl:=zqX (zap q.p) k
 all_goals first
  |rfl
  |omega
  |(simp only[zz]at *;omega)
  |(have h1:=hl.1;omega)
  |(rename_i hz;exact zyf hz)
  |(rename_i hz;exact⟨k+1,_,_,by(simp only[zz]at *;omega),by rw[zAB (l:=zap q.p) (k:=k) (by(simp only[zz]at *;omega)) hz];exact hl.snoc rfl rfl,rfl,rfl⟩)
  |(rename_i hz;exact⟨k+1,_,_,by(simp only[zz]at *;omega),by rw[zyj (l:=zap q.p) (k:=k) (by(simp only[zz]at *;omega)) hz];exact hl,rfl,rfl⟩)
  |(rename_i h0 _ h1;exact zBR h0 h1 hk hl)
noncomputable def ixB(q:QueryM)(s:List Nat)(k:Nat):Bool := !isE s&&zbu (nm ((zap q.p).getD k default).name) s
noncomputable def zeJ(q:QueryM)(s:List Nat):Int×Int:=bif za1 q != 0 then(0,za1 q)else match(List.range (zap q.p).length).find? (ixB q s) with
 |some k=>((k:Int),0)
 |none=>(0,12)
def zDZ(p:Int×Int):SV:=.tup [ai p.1,ai p.2]
theorem zAd{n k:Nat}{p:Nat->Bool}(hk:k<n)(h:p k=true)(hj:∀j,j<k->p j=false):(List.range n).find? p=some k:=by
 rw[List.find?_range_eq_some];exact⟨h,List.mem_range.2 hk,fun j hlt=>by rw[hj j hlt];rfl⟩
theorem zB0{n k:Nat}{p:Nat->Bool}(hk:n<=k)(hj:∀j,j<k->p j=false):(List.range n).find? p=none:=by
 rw[List.find?_eq_none];intro x hx;rw[hj x (by have:=List.mem_range.1 hx;omega)];simp
theorem zCZ{q:QueryM}{s:List Nat}(h:(za1 q != 0)=true):zeJ q s=(0,za1 q):=by unfold zeJ;rw[h];rfl
theorem zFn{q:QueryM}{s:List Nat}{k:Nat}(h:(za1 q != 0)=false)(hk:k<(zap q.p).length)(hz:ixB q s k=true)(hj:∀j,j<k->ixB q s j=false):zeJ q s=((k:Int),0):=by unfold zeJ;rw[h,zAd hk hz hj];rfl
theorem zEL{q:QueryM}{s:List Nat}{k:Nat}(h:(za1 q != 0)=false)(hk:(zap q.p).length<=k)(hj:∀j,j<k->ixB q s j=false):zeJ q s=(0,12):=by unfold zeJ;rw[h,zB0 hk hj];rfl
set_option maxHeartbeats 8000000 in
theorem zsG(q:QueryM)(hq:QFit q)(hs:q.hv.length+q.em.length<=900000)(s:List Nat):DSpec Tryz.prog axX axG 12 [.agg (zaD q),.cv (.str s)] [] (fun v O=>v=zDZ (zeJ q s)/\O=[]):=by
 have hal:=zq3 hq.toNFit;refine zac { glb:=axG,ann:=[(6,[24])] } true Tryz.func12 (by kernel_rfl) rfl ?_
 repeat' (
   (conv=>whnf)
   first
    |exact zad (by kernel_rfl)
    |refine And.intro ?_ ?_
    |refine zaa ?_ ?_
    |(refine⟨_,zit q hq hs,?_⟩;rintro v O' ⟨rfl,rfl⟩)
    |(refine⟨_,zme q.p hq.toNFit,?_⟩;rintro v O' ⟨rfl,rfl⟩)
    |((refine⟨fun vs O _=>∃k:Nat,k<=(zap q.p).length/\(∀j,j<k->ixB q s j=false)/\vs=[ai k]/\O=[.cells 34 (zaD q)],fun vs O=>match vs with |[.cv (.int _ k)]=>(zap q.p).length - k.toNat |_=>0,⟨0,Nat.zero_le _,fun j h=>absurd h (by omega),rfl,rfl⟩,?_⟩;rintro vs O _ ⟨k,hk,hj,rfl,rfl⟩))
    |intro _)
 all_goals try have hix:ixB q s k=(!isE s&&zbu (nm ((zap q.p).getD ((k:Int).toNat) default).name) s):=rfl
 all_goals first
  |rfl
  |omega
  |(simp only[zz]at *;omega)
  |(rename_i hz;exact(congrArg zDZ (zCZ hz)).symm)
  |(rename_i h0 _ _ _ _;exact(congrArg zDZ (zFn h0 (by(simp only[zz]at *;omega)) (by rw[hix];(simp only[isE, *,Bool.true_and,Bool.and_true,Bool.false_and,Bool.and_false,Bool.true_or,Bool.or_true,Bool.false_or,Bool.or_false,Bool.not_true,Bool.not_false,Bool.not_not,cond_true,cond_false];first |done |rfl)) hj)).symm)
  |exact⟨k+1,by(simp only[zz]at *;omega),zdm hj (by rw[hix];(simp only[isE, *,Bool.true_and,Bool.and_true,Bool.false_and,Bool.and_false,Bool.true_or,Bool.or_true,Bool.false_or,Bool.or_false,Bool.not_true,Bool.not_false,Bool.not_not,cond_true,cond_false];first |done |rfl)),rfl,rfl⟩
  |exact(congrArg zDZ (zEL (by assumption) (by(simp only[zz]at *;omega)) hj)).symm
noncomputable def zgk(q:QueryM):List (List Nat):=bif za1 q != 0 then[]else zbc q
theorem zAl{q:QueryM}(h:(za1 q != 0)=true):Same (.tup [.cv .nils,ai (za1 q)]) (.tup [.isl 1 (zgk q).length (elF zkB (zgk q)),ai (za1 q)]):=by
 have:zgk q=[]:=by unfold zgk;rw[h];rfl
 rw[this];exact .tup (.cons .nils (.cons (.refl _) .nil))
theorem zDj{q:QueryM}(h:(za1 q != 0)=false):Same (.tup [.isl 1 (zbc q).length (elF zkB (zbc q)),ai 0]) (.tup [.isl 1 (zgk q).length (elF zkB (zgk q)),ai (za1 q)]):=by
 have:zgk q=zbc q:=by unfold zgk;rw[h];rfl
 rw[this,show za1 q=0 by simpa using h];exact .refl _
theorem zCG(q:QueryM)(hq:QFit q)(hs:q.hv.length+q.em.length<=900000):DSpec Tryz.prog axX axG 10 [.agg (zaD q)] [] (fun v O=>v=.tup [.isl 1 (zgk q).length (elF zkB (zgk q)),ai (za1 q)]/\O=[]):=by
 refine DSpec.same (post:=fun v O=>Same v (.tup [.isl 1 (zgk q).length (elF zkB (zgk q)),ai (za1 q)])/\O=[]) ?_ fun v O h=>⟨_,h.1,rfl,h.2⟩
 refine zac { glb:=axG } true Tryz.func10 (by kernel_rfl) rfl ?_
 repeat' (
   (conv=>whnf)
   first
    |exact zad (by kernel_rfl)
    |refine And.intro ?_ ?_
    |refine zaa ?_ ?_
    |(refine⟨_,zit q hq hs,?_⟩;rintro v O' ⟨rfl,rfl⟩)
    |(refine⟨_,zzN q hq hs,?_⟩;rintro v O' ⟨rfl,rfl⟩)
    |intro _)
 all_goals first
  |rfl
  |(rename_i hz;exact zAl hz)
  |(rename_i hz;exact zDj hz)
end Go.Proofs.YtogdglnaagkaaaaGreatDoor
