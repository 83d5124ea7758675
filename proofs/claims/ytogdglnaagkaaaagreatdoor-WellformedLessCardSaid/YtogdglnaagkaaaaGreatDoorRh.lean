import Derived.Test.YtogdglnaagkaaaaGreatDoorRg
import Derived.Test.YtogdglnaagkaaaaGreatDoorRq
import Derived.Test.YtogdglnaagkaaaaGreatDoorOw
set_option linter.unusedSimpArgs false
set_option linter.unusedVariables false
set_option maxRecDepth 100000
namespace Go.Proofs.YtogdglnaagkaaaaGreatDoor
open Go Go.Cx
theorem zAp(l:List (List Nat))(hl:l.length<=1000000):DSpec Tryz.prog axX axG 11 [.isl 1 l.length (elF zkB l),.isl 1 l.length (elF zkB l)] [] (fun v O=>v=ab true/\O=[]):=by
 refine zac { glb:=axG,ann:=[(4,[5])] } true Tryz.func11 (by kernel_rfl) rfl ?_
 repeat' (
   (conv=>whnf)
   first
    |exact zad (by kernel_rfl)
    |refine And.intro ?_ ?_
    |refine zaa ?_ ?_
    |((refine⟨fun vs O _=>∃k:Nat,k<=l.length/\vs=[ai k]/\O=[],fun vs O=>match vs with |[.cv (.int _ k)]=>l.length - k.toNat |_=>0,⟨0,Nat.zero_le _,rfl,rfl⟩,?_⟩;rintro vs O _ ⟨k,hk,rfl,rfl⟩))
    |intro _)
 all_goals first
  |rfl
  |omega
  |(simp only[zz]at *;omega)
  |exact⟨k+1,by(simp only[zz]at *;omega),rfl,rfl⟩
  |(exfalso;(simp only[zz]at *;omega))
  |(rename_i hz;exfalso;simp[zgB]at hz;done)
  |(exfalso;simp_all [zgB];done)
def zBa(q:QueryM)(w:Int)(m:Nat):List SV:=[ai q.p.kind,ai q.p.mn,ai q.p.mx,ai q.p.atom.kind,ab q.p.atom.bnd,au q.p.atom.bound,.isl 2 q.p.atom.cs.length (zco q.p.atom.cs),ziY q.p.atom.name,.isl 9 q.p.kids.length (zcW q.p.kids),au w,.cv .nils,.islx 2 (m - Int.toNat 0) (zpd (Int.toNat 0) (zkk q.em))]
theorem zpc{q:QueryM}{w:Int}{m:Nat}(hm:m<=q.em.length):SameL (zBa q w m) (zaD (zpI q w m)):=by
 have hl:(q.em.take m).length=m:=by rw[List.length_take];omega
 have e:zaD (zpI q w m)=[ai q.p.kind,ai q.p.mn,ai q.p.mx,ai q.p.atom.kind,ab q.p.atom.bnd,au q.p.atom.bound,.isl 2 q.p.atom.cs.length (zco q.p.atom.cs),ziY q.p.atom.name,.isl 9 q.p.kids.length (zcW q.p.kids),au w,.isl 4 0 (zkF []),.islx 2 m (zkk (q.em.take m))]:=by
  show[_,_,_,_,_,_,_,_,_,_,_,SV.islx 2 (q.em.take m).length (zkk (q.em.take m))]=_;rw[hl];rfl
 rw[e];refine .cons (.refl _) (.cons (.refl _) (.cons (.refl _) (.cons (.refl _) (.cons (.refl _) (.cons (.refl _) (.cons (.refl _) (.cons (.refl _) (.cons (.refl _) (.cons (.refl _) (.cons .nils (.cons (.islx fun i hi=>?_) .nil)))))))))));have hi:i<m:=hi;have:zkk (q.em.take m) i=zpd (Int.toNat 0) (zkk q.em) i:=by
  show zlZ ((q.em.take m).getD i default)=zlZ (q.em.getD (0+i) default);rw[Nat.zero_add,ya8,List.getElem?_take,if_pos hi,ya8]
 rw[this];exact zfM
theorem zuV{q:QueryM}(hq:QueryOk q):(zcO q).length<=1000000:=by
 rw[zi0 hq.well];exact Nat.le_trans (zqX _ _) (Nat.le_trans (zq3 hq.fit.toNFit) (by decide))
theorem zxF{q:QueryM}(hq:QueryOk q):(zbc q).length<=6:=by
 have:=zrg q;have:=hq.hv3;have:=hq.em3;omega
theorem zty{q:QueryM}(hq:QueryOk q){k:Nat}(hk:k<(zbc q).length):zeJ q ((zbc q).getD k default)=((zfA q.p ((zbc q).getD k default)).1,0):=by
 rw[znH hq.well];have h:=zoR (hq.uses _ (zak hk));generalize zfA q.p ((zbc q).getD k default)=p at h;obtain⟨a,b⟩:=p;have h:b=0:=h;subst h;rfl
theorem zqd{q:QueryM}(hq:QueryOk q){w:Int}(hw:0<=w/\w<=7){m k:Nat}(hk:k<(zbc q).length):zeJ (zpI q w m) ((zbc q).getD k default)=((zfA q.p ((zbc q).getD k default)).1,0):=by
 rw[znH (hq.less hw m).well];have h:=zoR (hq.uses _ (zak hk));show zfA q.p _=_;generalize zfA q.p ((zbc q).getD k default)=p at h;obtain⟨a,b⟩:=p;have h:b=0:=h;subst h;rfl
set_option maxHeartbeats 4000000 in
theorem zDb(q:QueryM)(hq:QueryOk q)(l:List Int)(a:Int)(hQ:DSpec Tryz.prog axX axG 5 [.isl 1 l.length (zpU l)] [] (fun v O=>v=.agg (zaD q)/\O=[]))
  (pr:SV) (hpr:(pr=.tup [.cv (.str []),ai 4]\/∃t:List Nat,pr=.tup [.cv (.str t),ai 0]/\t.length<=400)/\zCi q=pr):DSpec Tryz.prog axX axG 3 [.isl 1 l.length (zpU l),ai a] [] (fun v _=>v=.cv (.bool true)):=by
 have hw:=hq.well;have hwi:=hq.within;have hv3:=hq.hv3;have hem3:=hq.em3;have hfit:=hq.fit;have hC:=zit q hfit (by omega);rw[hw]at hC;have hO:=ztv q hfit;have hM1:=zxY a (q.within+1) (by omega) (by omega);have hM2:=zxY a ((q.em.length:Int)+1) (by omega) (by omega);have hm1:=zej (n:=a) (m:=q.within+1) (by omega);have hm2:=zej (n:=a) (m:=(q.em.length:Int)+1) (by omega);have hm3:(zbt a ((q.em.length:Int)+1)).toNat<=q.em.length:=by omega
 have hN:=zu7 q hfit (by omega);rw[hw]at hN;have hL:=hq.less (w:=zbt a (q.within+1)) (by omega) (zbt a ((q.em.length:Int)+1)).toNat;have hLfit:=hL.fit;have hL2:(zpI q (zbt a (q.within+1)) (zbt a ((q.em.length:Int)+1)).toNat).hv.length+(zpI q (zbt a (q.within+1)) (zbt a ((q.em.length:Int)+1)).toNat).em.length<=900000:=by have:=hL.hv3;have:=hL.em3;omega
 have hN2:=(zu7 _ hLfit hL2).arg (.cons (.agg (zpc hm3)) .nil);rw[hL.well,zi0 hL.well,show zap (zpI q (zbt a (q.within+1)) (zbt a ((q.em.length:Int)+1)).toNat).p=zap q.p from rfl,<- zi0 hw]at hN2;have hT:=zAp (zcO q) (zuV hq);have hU:=zCG q hfit (by omega);rw[hw,zyZ hw]at hU;have hul:=zxF hq;have hK1:∀k:Nat,k<(zbc q).length->DSpec Tryz.prog axX axG 12 [.agg (zaD q),.cv (.str ((zbc q).getD ((k:Int).toNat) default))] [] (fun v O=>v=.tup [ai (zfA q.p ((zbc q).getD k default)).1,ai 0]/\O=[]):=fun k hk=>by
  have:=zsG q hfit (by omega) ((zbc q).getD k default);rw[zty hq hk]at this;exact this
 have hK2:∀k:Nat,k<(zbc q).length->DSpec Tryz.prog axX axG 12 [.agg (zBa q (zbt a (q.within+1)) (zbt a ((q.em.length:Int)+1)).toNat),.cv (.str ((zbc q).getD ((k:Int).toNat) default))] [] (fun v O=>v=.tup [ai (zfA q.p ((zbc q).getD k default)).1,ai 0]/\O=[]):=fun k hk=>by
  have:=zsG _ hLfit hL2 ((zbc q).getD k default);rw[zqd hq (by omega) hk]at this;exact this.arg (.cons (.agg (zpc hm3)) (.cons (.refl _) .nil))
 have hP:=zB4 q hq.ok;obtain⟨hpr,hpe⟩:=hpr;rw[hpe]at hP;rcases hpr with rfl |⟨tx,rfl,htx⟩
 all_goals
  refine zac { glb:=axG,ann:=[(15,[14])] } true Tryz.func3 (by kernel_rfl) rfl ?_
  repeat' (
    (conv=>whnf)
    first
     |exact zad (by kernel_rfl)
     |refine And.intro ?_ ?_
     |refine zaa ?_ ?_
     |(refine⟨_,axk_d rfl,?_⟩;rintro v O' ⟨rfl,rfl⟩)
     |(refine⟨_,hQ,?_⟩;rintro v O' ⟨rfl,rfl⟩)
     |(refine⟨_,hC,?_⟩;rintro v O' ⟨rfl,rfl⟩)
     |(refine⟨_,hO,?_⟩;rintro v O' ⟨rfl,rfl⟩)
     |(refine⟨_,hM1,?_⟩;rintro v O' ⟨rfl,rfl⟩)
     |(refine⟨_,hM2,?_⟩;rintro v O' ⟨rfl,rfl⟩)
     |(refine⟨_,hN,?_⟩;rintro v O' ⟨rfl,rfl⟩)
     |(refine⟨_,hN2,?_⟩;rintro v O' ⟨rfl,rfl⟩)
     |(refine⟨_,hT,?_⟩;rintro v O' ⟨rfl,rfl⟩)
     |(refine⟨_,hU,?_⟩;rintro v O' ⟨rfl,rfl⟩)
     |(refine⟨_,hP,?_⟩;rintro v O' ⟨rfl,rfl⟩)
     |(refine⟨_,hK1 k (by(simp only[zz]at *;omega)),?_⟩;rintro v O' ⟨rfl,rfl⟩)
     |(refine⟨_,hK2 k (by(simp only[zz]at *;omega)),?_⟩;rintro v O' ⟨rfl,rfl⟩)
     |((refine⟨fun vs O _=>∃(k:Nat),k<=(zbc q).length/\vs=[ai k]/\O=[.cells 34 (zaD q),.cells 34 (zBa q (zbt a (q.within+1)) (zbt a ((q.em.length:Int)+1)).toNat)],fun vs O=>match vs with |[.cv (.int _ k)]=>(zbc q).length - k.toNat |_=>0,⟨0,Nat.zero_le _,rfl,rfl⟩,?_⟩;rintro vs O _ ⟨k,hk,rfl,rfl⟩))
     |intro _)
  all_goals first
   |rfl
   |omega
   |(simp only[zz]at *;omega)
   |exact⟨k+1,by(simp only[zz]at *;omega),rfl,rfl⟩
   |(exfalso;(simp only[zz]at *;omega))
   |(rename_i hz;exfalso;simp at hz;done)
   |exact congrArg (fun b=>SV.cv (CV.bool b)) (decide_eq_true (by omega))
theorem ztQ{q:QueryM}(hq:QueryOk q):∃pr,(pr=SV.tup [.cv (.str []),ai 4]\/∃t:List Nat,pr=.tup [.cv (.str t),ai 0]/\t.length<=400)/\zCi q=pr:=by
 have hc:zdk q=0:=zi3 hq.well 0 (by decide);refine⟨_,?_,rfl⟩;unfold zCi;rw[hc];show zjS (zjh q)=_\/_;unfold zjS;cases hz:decide (((zjh q).length:Int) > 400) with
 |true=>exact .inl rfl
 |false=>exact .inr ⟨_,rfl,by simp at hz;omega⟩
theorem zie(l:List Int)(hl:l.length<=maxLen)(a:Int):DSpec Tryz.prog axX axG 3 [.isl 1 l.length (zpU l),ai a] [] (fun v _=>v=.cv (.bool true)):=by
 obtain⟨pr,h⟩:=ztQ (znI l);exact zDb _ (znI l) l a (zBv l hl) pr h
end Go.Proofs.YtogdglnaagkaaaaGreatDoor
