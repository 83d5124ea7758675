import Derived.Test.YtogdglnaagkaaaaDoorRe
set_option linter.unusedSimpArgs false
set_option linter.unusedVariables false
set_option maxRecDepth 100000
namespace Go.Proofs.YtogdglnaagkaaaaDoor
open Go Go.Cx
theorem ztp(l:List Int)(hl:l.length<=maxLen):DSpec Tryd.prog axX axG 5 [.isl 1 l.length (zju l)] [] (fun v O=>v=.agg (zaP (zgn l))/\O=[]):=
 DSpec.same (zx1 l hl) fun v O h=>⟨_,h.1,rfl,h.2⟩
def zhk(k:Int)(n:Nat)(el:Nat->List SV):List SV:=[ai k,ai 0,ai 0,ai 0,ab false,au 0,.isl 2 0 (zbo []),zgu [],.isl 9 n el]
theorem zsa{k:Int}{ks:List NodeM}(h:2<=ks.length):zah (zbi k ks)=zhk k ks.length (zl8 ks):=by
 rcases zkD ks with he |he
 ·omega
 ·show zhk k ks.length (zcc ks)=_;rw[he];rfl
theorem zlu{k:Int}{ks:List NodeM}{i:Nat}{cs:List SV}{x:NodeM}(hi:i<ks.length)(hc:SameL cs (zah x)):SameL (zhk k ks.length (zmX i cs (zl8 ks))) (zah (zbi k (ks.set i x))):=by
 have e:zah (zbi k (ks.set i x))=zhk k ks.length (zcc (ks.set i x)):=by
  show zhk k (ks.set i x).length (zcc (ks.set i x))=_;rw[List.length_set]
 rw[e];refine .cons (.refl _) (.cons (.refl _) (.cons (.refl _) (.cons (.refl _) (.cons (.refl _) (.cons (.refl _) (.cons (.refl _) (.cons (.refl _) (.cons (.islD fun j hj=>?_) .nil))))))));rw[zk5 (by rw[List.length_set];exact hj),zef (by rw[List.length_set];exact hj),List.getElem_set];show SameL (if j=i then cs else zah (atN ks j)) _;by_cases h:i=j
 ·subst h;rw[if_pos rfl,if_pos rfl];exact hc
 ·rw[if_neg fun hh=>h hh.symm,if_neg h,zef hj];exact ze5
theorem zul:SameL [ai 2,ai 0,ai 0,ai 0,ab false,au 0,.cv .nils,.cv (.str []),.cv .nils] (zah zr3):=
 .cons (.refl _) (.cons (.refl _) (.cons (.refl _) (.cons (.refl _) (.cons (.refl _) (.cons (.refl _) (.cons .nils (.cons (.refl _) (.cons .nils .nil))))))))
set_option maxHeartbeats 4000000 in
theorem zrC(q:QueryM)(l:List Int)(a:Int)(hQ:DSpec Tryd.prog axX axG 5 [.isl 1 l.length (zju l)] [] (fun v O=>v=.agg (zaP q)/\O=[]))(h:LfM q.p)(hk:q.p.kind=1):DSpec Tryd.prog axX axG 3 [.isl 1 l.length (zju l),ai a] [] (fun v _=>v=.cv (.bool true)):=by
 have hP:=zdv q.p (zmN (.inl h));rw[h.well1 hk]at hP;have hO:=zxa q.p (zmN (.inl h)).fit;have hP1:=zdv (onceN q.p) (zmN (.inl (zew h)));rw[(zew h).well1 (by rw[zfU];exact hk)]at hP1;have h0:q.p.kids.length=0:=by rw[h.nok];rfl
 refine zac { glb:=axG } true Tryd.func3 (by kernel_rfl) rfl ?_
 repeat' (
   (conv=>whnf)
   first
    |exact zaf (by kernel_rfl)
    |refine And.intro ?_ ?_
    |refine zaa ?_ ?_
    |(refine⟨_,axk_d rfl,?_⟩;rintro v O' ⟨rfl,rfl⟩)
    |(refine⟨_,hQ,?_⟩;rintro v O' ⟨rfl,rfl⟩)
    |(refine⟨_,hP,?_⟩;rintro v O' ⟨rfl,rfl⟩)
    |(refine⟨_,hO,?_⟩;rintro v O' ⟨rfl,rfl⟩)
    |(refine⟨_,hP1,?_⟩;rintro v O' ⟨rfl,rfl⟩)
    |intro _)
 all_goals first
  |rfl
  |omega
  |(simp only[zz]at *;omega)
  |(rw[hk];rfl)
  |(exfalso;(simp only[zz]at *;omega))
theorem TopOk.set_fit{k:Int}{ks:List NodeM}(h:TopOk k ks)(i:Nat):NFit (zbi k (ks.set i zr3)):=by
 have hs:∀m∈ks.set i zr3,ItM m:=fun m hm=>by
  rcases List.mem_or_eq_of_mem_set hm with hm |rfl
  ·exact h.it m hm
  ·exact .inl not0_lf
 have hl:(ks.set i zr3).length<=8:=by rw[List.length_set];exact h.l8
 refine⟨zsd fun d=>zdm (zma hl) fun m hm=>zqn (hs m hm) _,Nat.le_trans (zlJ (d:=2) fun m hm=>zpL (hs m hm)) (by decide),?_⟩;rw[zgH,ya7];have:=zqO (ks.set i zr3) hs;omega
theorem zzE{k:Int}{ks:List NodeM}(h:TopOk k ks){i:Nat}(he:i=0\/i=ks.length - 1):DSpec Tryd.prog axX axG 6 [.agg (zhk k ks.length (zmX i [ai 2,ai 0,ai 0,ai 0,ab false,au 0,.cv .nils,.cv (.str []),.cv .nils] (zl8 ks)))] [] (fun v O=>v=ai 9/\O=[]):=by
 have h2:=h.l2;have:=zdv (zbi k (ks.set i zr3)) (h.set_fit i);rw[h.set9 he]at this;exact this.arg (.cons (.agg (zlu (by omega) zul)) .nil)
set_option maxHeartbeats 4000000 in
theorem zqX(q:QueryM)(l:List Int)(a:Int){k:Int}{ks:List NodeM}(hq:q.p=zbi k ks)(hQ:DSpec Tryd.prog axX axG 5 [.isl 1 l.length (zju l)] [] (fun v O=>v=.agg (zaP q)/\O=[]))(h:TopOk k ks):DSpec Tryd.prog axX axG 3 [.isl 1 l.length (zju l),ai a] [] (fun v _=>v=.cv (.bool true)):=by
 have h2:=h.l2;have h8:=h.l8;have hc:=zsa (k:=k) h2;have hfit:=h.toKidsOk.fit;have hQ':DSpec Tryd.prog axX axG 5 [.isl 1 l.length (zju l)] [] (fun v O=>v=.agg (zhk k ks.length (zl8 ks)++[au q.within,.isl 4 q.hv.length (zkF q.hv),.isl 2 q.em.length (zrE q.em)])/\O=[]):=by
  have e:zaP q=zah (zbi k ks)++[au q.within,.isl 4 q.hv.length (zkF q.hv),.isl 2 q.em.length (zrE q.em)]:=by rw[<- hq];rfl
  rw[e,hc]at hQ;exact hQ
 have hP:=zdv (zbi k ks) hfit;rw[h.well0,hc]at hP;have hO:=zxa (zbi k ks) hfit.fit;rw[hc]at hO;have hpo:PatOk (onceN (zbi k ks)):=PatOk.once (.inr ⟨k,ks,rfl,h⟩);have hP1:=zdv (onceN (zbi k ks)) hpo.fit;rw[hpo.well]at hP1;have hM:=zx3 a (ks.length:Int) (by omega) (by omega);have hmi:=zg1 (n:=a) (m:=(ks.length:Int)) (by omega);have hj:(zb1 a (ks.length:Int)).toNat<ks.length:=by omega
 have hkid:=h.kid (zeo hj);have hPk:=zdv (atN ks (zb1 a (ks.length:Int)).toNat) (zmN (h.it _ (zeo hj)));have hW:DSpec Tryd.prog axX axG 9 [.agg (zhk k ks.length (zl8 ks))] [] (fun v O=>v=.agg [ai k,ai 0,ai 0,ai 0,ab false,au 0,.isl 2 0 (zbo []),zgu [],.lst 2]/\O=[.dead,.dead,.list 30 9 ks.length (zl8 ks)]):=by
  have:=znG (zbi k ks) hfit.fit;rw[hc]at this;exact this
 have hF:=zzE h (i:=(0:Int).toNat) (.inl rfl);have hB:=zzE h (i:=((ks.length:Int) - 1).toNat) (.inr (by omega));rcases hkid with⟨hk2,hw⟩ |⟨hk2,hw⟩
 ·rw[hw]at hPk;have hk3:((atN ks (zb1 a (ks.length:Int)).toNat).kind==2)=true:=by rw[hk2];rfl
  refine zac { glb:=axG } true Tryd.func3 (by kernel_rfl) rfl ?_
  repeat' (
    (conv=>whnf)
    first
     |exact zaf (by kernel_rfl)
     |refine And.intro ?_ ?_
     |refine zaa ?_ ?_
     |(refine⟨_,axk_d rfl,?_⟩;rintro v O' ⟨rfl,rfl⟩)
     |(refine⟨_,hQ',?_⟩;rintro v O' ⟨rfl,rfl⟩)
     |(refine⟨_,hP,?_⟩;rintro v O' ⟨rfl,rfl⟩)
     |(refine⟨_,hO,?_⟩;rintro v O' ⟨rfl,rfl⟩)
     |(refine⟨_,hP1,?_⟩;rintro v O' ⟨rfl,rfl⟩)
     |(refine⟨_,hM,?_⟩;rintro v O' ⟨rfl,rfl⟩)
     |(refine⟨_,hPk,?_⟩;rintro v O' ⟨rfl,rfl⟩)
     |(refine⟨_,hW,?_⟩;rintro v O' ⟨rfl,rfl⟩)
     |(refine⟨_,zwI _ _,?_⟩;rintro v O' ⟨rfl,rfl⟩)
     |(refine⟨_,hF,?_⟩;rintro v O' ⟨rfl,rfl⟩)
     |(refine⟨_,hB,?_⟩;rintro v O' ⟨rfl,rfl⟩)
     |intro _)
  all_goals first
   |rfl
   |omega
   |(simp only[zz]at *;omega)
   |(exfalso;(simp only[zz]at *;omega))
   |exact ya9 rfl
   |(rename_i hz;rw[hk3]at hz;exact Bool.noConfusion hz)
   |(exfalso;rename_i hz;rw[hk3]at hz;exact Bool.noConfusion hz)
 ·rw[hw]at hPk;have hk3:((atN ks (zb1 a (ks.length:Int)).toNat).kind==2)=false:=by simpa using hk2
  refine zac { glb:=axG } true Tryd.func3 (by kernel_rfl) rfl ?_
  repeat' (
    (conv=>whnf)
    first
     |exact zaf (by kernel_rfl)
     |refine And.intro ?_ ?_
     |refine zaa ?_ ?_
     |(refine⟨_,axk_d rfl,?_⟩;rintro v O' ⟨rfl,rfl⟩)
     |(refine⟨_,hQ',?_⟩;rintro v O' ⟨rfl,rfl⟩)
     |(refine⟨_,hP,?_⟩;rintro v O' ⟨rfl,rfl⟩)
     |(refine⟨_,hO,?_⟩;rintro v O' ⟨rfl,rfl⟩)
     |(refine⟨_,hP1,?_⟩;rintro v O' ⟨rfl,rfl⟩)
     |(refine⟨_,hM,?_⟩;rintro v O' ⟨rfl,rfl⟩)
     |(refine⟨_,hPk,?_⟩;rintro v O' ⟨rfl,rfl⟩)
     |(refine⟨_,hW,?_⟩;rintro v O' ⟨rfl,rfl⟩)
     |(refine⟨_,zwI _ _,?_⟩;rintro v O' ⟨rfl,rfl⟩)
     |(refine⟨_,hF,?_⟩;rintro v O' ⟨rfl,rfl⟩)
     |(refine⟨_,hB,?_⟩;rintro v O' ⟨rfl,rfl⟩)
     |intro _)
  all_goals first
   |rfl
   |omega
   |(simp only[zz]at *;omega)
   |(exfalso;(simp only[zz]at *;omega))
   |exact ya9 rfl
   |(rename_i hz;rw[hk3]at hz;exact Bool.noConfusion hz)
   |(exfalso;rename_i hz;rw[hk3]at hz;exact Bool.noConfusion hz)
theorem zgP(l:List Int)(hl:l.length<=maxLen)(a:Int):DSpec Tryd.prog axX axG 3 [.isl 1 l.length (zju l),ai a] [] (fun v _=>v=.cv (.bool true)):=by
 rcases zwA l with⟨h,hk⟩ |⟨k,ks,hq,h⟩
 ·exact zrC _ l a (ztp l hl) h hk
 ·exact zqX _ l a hq (ztp l hl) h
end Go.Proofs.YtogdglnaagkaaaaDoor
