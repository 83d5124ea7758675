import Derived.Test.YtogdglnaagkaaaaDoorAi
set_option linter.unusedSimpArgs false
set_option linter.unusedVariables false
set_option maxRecDepth 100000
namespace Go.Proofs.YtogdglnaagkaaaaDoor
open Go Go.Cx
def zvQ:Nat->List SV:=zc9 1 [.fn 32 [] [],.fn 33 [] [],.fn 34 [] [],.fn 35 [] [],.fn 36 [] [],.fn 37 [] []]
theorem zvL:DSpec Tryd.prog axX axG 28 [] [] (fun v O=>v=.isl 1 6 zvQ/\O=[]):=by
 refine zac { glb:=axG } true Tryd.func28 (by kernel_rfl) rfl ?_
 repeat' (
   (conv=>whnf)
   first
    |exact zaf (by kernel_rfl)
    |refine And.intro ?_ ?_
    |refine zaa ?_ ?_
    |intro _)
 all_goals first
  |rfl
theorem zuz(e x:Int):zsv Tryd.prog axX axG 27 [.ptr 0 0,.ptr 1 0] [.cells 36 [ai e],.cells 36 [ai x]] (fun v O=>v=.tup []/\O=[.cells 36 [ai e],.cells 36 [ai e]]):=by
 refine ztm { glb:=axG } Tryd.func27 (by kernel_rfl) (by kernel_rfl) ?_
 repeat' (
   (conv=>whnf)
   first
    |exact zaf (by kernel_rfl)
    |refine And.intro ?_ ?_
    |refine zaa ?_ ?_
    |intro _)
 all_goals first
  |rfl
  |exact⟨rfl,rfl⟩
noncomputable def zfH(q:QueryM)(k:Nat):Int:=[zjZ q,bif zqW q then 6 else 0,bif decide (zvE q.p > 6)then 22 else 0,bif zgQ q then 2 else 0,bif za7 q then 9 else 0,zec q].getD k 0
noncomputable def zet(q:QueryM):Int:=bif zfH q 0 != 0 then zfH q 0 else bif zfH q 1 != 0 then zfH q 1 else bif zfH q 2 != 0 then zfH q 2 else bif zfH q 3 != 0 then zfH q 3 else bif zfH q 4 != 0 then zfH q 4 else zfH q 5
theorem nzE{q:QueryM}{k:Nat}(h:zfH q k=0):(zfH q k != 0)=false:=by rw[h];rfl
theorem zg4{q:QueryM}{k:Nat}(hk:k<6)(hj:∀j,j<k->zfH q j=0)(h:(zfH q k != 0)=true):zet q=zfH q k:=by
 unfold zet;obtain rfl |rfl |rfl |rfl |rfl |rfl:k=0\/k=1\/k=2\/k=3\/k=4\/k=5:=by omega
 ·rw[h];rfl
 ·rw[nzE (hj 0 (by decide)),h];rfl
 ·rw[nzE (hj 0 (by decide)),nzE (hj 1 (by decide)),h];rfl
 ·rw[nzE (hj 0 (by decide)),nzE (hj 1 (by decide)),nzE (hj 2 (by decide)),h];rfl
 ·rw[nzE (hj 0 (by decide)),nzE (hj 1 (by decide)),nzE (hj 2 (by decide)),nzE (hj 3 (by decide)),h];rfl
 ·rw[nzE (hj 0 (by decide)),nzE (hj 1 (by decide)),nzE (hj 2 (by decide)),nzE (hj 3 (by decide)),nzE (hj 4 (by decide))];rfl
theorem zv5{q:QueryM}(hj:∀j,j<6->zfH q j=0):zet q=0:=by
 unfold zet;rw[nzE (hj 0 (by decide)),nzE (hj 1 (by decide)),nzE (hj 2 (by decide)),nzE (hj 3 (by decide)),nzE (hj 4 (by decide))];exact hj 5 (by decide)
theorem zyV{q:QueryM}{k:Nat}(hj:∀j,j<k->zfH q j=0)(h:(zfH q k != 0)=false):∀j,j<k+1->zfH q j=0:=fun j hlt=>by
 rcases Nat.lt_succ_iff_lt_or_eq.1 hlt with h1 |rfl
 ·exact hj j h1
 ·simpa using h
theorem zy2{q:QueryM}{k:Nat}(h:(zfH q k != 0)=false):[SObj.cells 34 (zaP q),.cells 36 [ai 0],.cells 36 [ai (zfH q k)]]=[SObj.cells 34 (zaP q),.cells 36 [ai 0],.cells 36 [ai 0]]:=by
 rw[show zfH q k=0 by simpa using h]
set_option maxHeartbeats 8000000 in
theorem zvC(q:QueryM)(hq:QFit q)(hs:q.hv.length+q.em.length<=900000):DSpec Tryd.prog axX axG 16 [.agg (zaP q)] [] (fun v O=>v=ai (zet q)/\O=[]):=by
 refine zac { glb:=axG,ann:=[(4,[9])] } true Tryd.func16 (by kernel_rfl) rfl ?_
 repeat' (
   (conv=>whnf)
   first
    |exact zaf (by kernel_rfl)
    |refine And.intro ?_ ?_
    |refine zaa ?_ ?_
    |(refine⟨_,zvL,?_⟩;rintro v O' ⟨rfl,rfl⟩)
    |(refine⟨_,zuz _ _,?_⟩;rintro v O' ⟨rfl,rfl⟩)
    |(refine⟨_,zvi q hq,?_⟩;rintro v O' ⟨rfl,rfl⟩)
    |(refine⟨_,zzh q hq,?_⟩;rintro v O' ⟨rfl,rfl⟩)
    |(refine⟨_,zzB q hq,?_⟩;rintro v O' ⟨rfl,rfl⟩)
    |(refine⟨_,zvg q hq,?_⟩;rintro v O' ⟨rfl,rfl⟩)
    |(refine⟨_,zt2 q hq,?_⟩;rintro v O' ⟨rfl,rfl⟩)
    |(refine⟨_,zyM q hq hs,?_⟩;rintro v O' ⟨rfl,rfl⟩)
    |((refine⟨fun vs O _=>∃k:Nat,k<=6/\(∀j,j<k->zfH q j=0)/\vs=[ai k]/\O=[.cells 34 (zaP q),.cells 36 [ai 0],.cells 36 [ai 0]],fun vs O=>match vs with |[.cv (.int _ k)]=>6 - k.toNat |_=>0,⟨0,Nat.zero_le _,fun j h=>absurd h (by omega),rfl,rfl⟩,?_⟩;rintro vs O _ ⟨k,hk,hj,rfl,rfl⟩;obtain rfl |rfl |rfl |rfl |rfl |rfl |rfl:k=0\/k=1\/k=2\/k=3\/k=4\/k=5\/k=6:=by omega))
    |intro _)
 all_goals first
  |rfl
  |omega
  |(simp only[zz]at *;omega)
  |exact ya9 rfl
  |(rename_i hz;exact congrArg ai (zg4 (k:=0) (by decide) hj hz).symm)
  |(rename_i hz;exact⟨0+1,by decide,zyV (k:=0) hj hz,rfl,zy2 (k:=0) hz⟩)
  |(rename_i hz;exact congrArg ai (zg4 (k:=1) (by decide) hj hz).symm)
  |(rename_i hz;exact⟨1+1,by decide,zyV (k:=1) hj hz,rfl,zy2 (k:=1) hz⟩)
  |(rename_i hz;exact congrArg ai (zg4 (k:=2) (by decide) hj hz).symm)
  |(rename_i hz;exact⟨2+1,by decide,zyV (k:=2) hj hz,rfl,zy2 (k:=2) hz⟩)
  |(rename_i hz;exact congrArg ai (zg4 (k:=3) (by decide) hj hz).symm)
  |(rename_i hz;exact⟨3+1,by decide,zyV (k:=3) hj hz,rfl,zy2 (k:=3) hz⟩)
  |(rename_i hz;exact congrArg ai (zg4 (k:=4) (by decide) hj hz).symm)
  |(rename_i hz;exact⟨4+1,by decide,zyV (k:=4) hj hz,rfl,zy2 (k:=4) hz⟩)
  |(rename_i hz;exact congrArg ai (zg4 (k:=5) (by decide) hj hz).symm)
  |(rename_i hz;exact⟨5+1,by decide,zyV (k:=5) hj hz,rfl,zy2 (k:=5) hz⟩)
  |exact congrArg ai (zv5 hj).symm
def zcL(n:NodeM):QueryM:=⟨n,0,[],[]⟩
theorem zvP{n:NodeM}(h:NFit n):QFit (zcL n):=⟨h,by simp[zcL],by simp[zcL]⟩
theorem zdv(n:NodeM)(hn:NFit n):DSpec Tryd.prog axX axG 6 [.agg (zah n)] [] (fun v O=>v=ai (zet (zcL n))/\O=[]):=by
 have h:=(zvC (zcL n) (zvP hn) (by simp[zcL])).arg (args':=[.agg [ai n.kind,ai n.mn,ai n.mx,ai n.atom.kind,ab n.atom.bnd,au n.atom.bound,.isl 2 n.atom.cs.length (zbo n.atom.cs),zgu n.atom.name,.isl 9 n.kids.length (zcc n.kids),au 0,.cv .nils,.cv .nils]]) (.cons (.agg (.cons (.refl _) (.cons (.refl _) (.cons (.refl _) (.cons (.refl _) (.cons (.refl _) (.cons (.refl _) (.cons (.refl _) (.cons (.refl _) (.cons (.refl _) (.cons (.refl _) (.cons .nils (.cons .nils .nil))))))))))))) .nil);refine zac { glb:=axG } true Tryd.func6 (by kernel_rfl) rfl ?_
 repeat' (
   (conv=>whnf)
   first
    |exact zaf (by kernel_rfl)
    |refine And.intro ?_ ?_
    |refine zaa ?_ ?_
    |(refine⟨_,h,?_⟩;rintro v O' ⟨rfl,rfl⟩)
    |intro _)
 all_goals first
  |rfl
end Go.Proofs.YtogdglnaagkaaaaDoor
