import Derived.Test.YtmgibblhcoimfaaDoorAk
set_option linter.unusedSimpArgs false
set_option linter.unusedVariables false
set_option maxRecDepth 100000
namespace Go.Proofs.YtmgibblhcoimfaaDoor
open Go Go.Cx
theorem zqc(n:NodeM)(hn:Fit n):DSpec Tryd.prog axX axG 14 [.agg (zaK n)] [] (fun v O=>v=ai (zbo n)/\O=[]):=by
 have h:=zqQ 200 (by decide) 1 (by decide) n hn;refine zac { glb:=axG } true Tryd.func14 (by kernel_rfl) rfl ?_
 repeat' (
   (conv=>whnf)
   first
    |exact zad (by kernel_rfl)
    |refine And.intro ?_ ?_
    |refine zaa ?_ ?_
    |(refine⟨_,h,?_⟩;rintro v O' ⟨rfl,rfl⟩)
    |intro _)
 all_goals first
  |rfl
  |omega
  |(rename_i hz;unfold zbo;rw[Bool.not_eq_true']at hz;rw[hz];rfl)
  |(rename_i hz;unfold zbo;rw[Bool.not_eq_false']at hz;rw[hz];rfl)
theorem zBM{q:QueryM}(h:(!zaz 200 q.p)=true):zck q=3:=by
 rw[Bool.not_eq_true']at h;unfold zck zbo;rw[h];rfl
theorem zAP{q:QueryM}(h:zfb q=true):zck q=3:=by
 unfold zck;cases hb:zaz 200 q.p with
 |true=>unfold zbo;rw[hb,h];rfl
 |false=>unfold zbo;rw[hb];rfl
theorem zBL{q:QueryM}(h0:(!zaz 200 q.p)=false)(h:zfb q=false):zck q=0:=by
 rw[Bool.not_eq_false']at h0;unfold zck zbo;rw[h0,h];rfl
theorem zBD{q:QueryM}(h:decide (q.within > 99999)=true):zfb q=true:=by unfold zfb;rw[h];rfl
theorem zBy{q:QueryM}{k:Nat}(hk:k<q.hv.length)(h:zdE (q.hv.getD k default)=true):zfb q=true:=by
 have:q.hv.any zdE=true:=(zcS (p:=zdE) hk h).symm.trans (by simp);unfold zfb;rw[this];simp
theorem zBB{q:QueryM}{k:Nat}(hk:k<q.em.length)(h:(!zgm (q.em.getD k default))=true):zfb q=true:=by
 have:(q.em.any fun a => !zgm a)=true:=(zcS (p:=fun a:AggM => !zgm a) hk h).symm.trans (by simp);unfold zfb;rw[this];simp
theorem zBP{q:QueryM}{k u:Nat}(h0:decide (q.within > 99999)=false)(hk:decide ((k:Int)<q.hv.length)=false)(hj:∀j,j<k->zdE (q.hv.getD j default)=false)(hu:decide ((u:Int)<q.em.length)=false)(hv:∀j,j<u->(!zgm (q.em.getD j default))=false):zfb q=false:=by
 have a1:q.hv.any zdE=false:=(zdq (p:=zdE) (by simp at hk;omega) hj).symm.trans rfl;have a2:(q.em.any fun a => !zgm a)=false:=(zdq (p:=fun a:AggM => !zgm a) (by simp at hu;omega) hv).symm.trans rfl;unfold zfb;rw[h0,a1,a2];rfl
set_option maxHeartbeats 4000000 in
theorem zql(q:QueryM)(hq:QFit q):DSpec Tryd.prog axX axG 12 [.agg (zb8 q)] [] (fun v O=>v=ai (zck q)/\O=[]):=by
 have hh:=hq.hv;have hm:=hq.em;refine zac { glb:=axG,ann:=[(4,[3]),(9,[4])] } true Tryd.func12 (by kernel_rfl) rfl ?_
 repeat' (
   (conv=>whnf)
   first
    |exact zad (by kernel_rfl)
    |refine And.intro ?_ ?_
    |refine zaa ?_ ?_
    |(refine⟨_,zqQ 200 (by decide) 1 (by decide) q.p hq.fit,?_⟩;rintro v O' ⟨rfl,rfl⟩)
    |(refine⟨_,zzn _,?_⟩;rintro v O' ⟨rfl,rfl⟩)
    |(refine⟨_,zsE _,?_⟩;rintro v O' ⟨rfl,rfl⟩)
    |((have:=hj;refine⟨fun vs O _=>∃u:Nat,u<=q.em.length/\(∀j,j<u->(!zgm (q.em.getD j default))=false)/\vs=[ai u]/\O=[.cells 32 (zb8 q)],fun vs O=>match vs with |[.cv (.int _ k)]=>q.em.length - k.toNat |_=>0,⟨0,Nat.zero_le _,fun j h=>absurd h (by omega),rfl,rfl⟩,?_⟩;rintro vs O _ ⟨u,hu,hv,rfl,rfl⟩))
    |((refine⟨fun vs O _=>∃k:Nat,k<=q.hv.length/\(∀j,j<k->zdE (q.hv.getD j default)=false)/\vs=[ai k]/\O=[.cells 32 (zb8 q)],fun vs O=>match vs with |[.cv (.int _ k)]=>q.hv.length - k.toNat |_=>0,⟨0,Nat.zero_le _,fun j h=>absurd h (by omega),rfl,rfl⟩,?_⟩;rintro vs O _ ⟨k,hk,hj,rfl,rfl⟩))
    |intro _)
 all_goals try have hx:zdE (q.hv.getD ((k:Int).toNat) default)=(!zgm (q.hv.getD ((k:Int).toNat) default).agg || !opB (q.hv.getD ((k:Int).toNat) default).cond.op):=rfl
 all_goals first
  |rfl
  |omega
  |(simp only[zz]at *;omega)
  |(rename_i hz;exact congrArg ai (zBM hz).symm)
  |(rename_i hz;exact congrArg ai (zAP (zBD hz)).symm)
  |(rename_i hz;exact congrArg ai (zAP (zBB (k:=u) (by(simp only[zz]at *;omega)) hz)).symm)
  |exact congrArg ai (zAP (zBy (k:=k) (by(simp only[zz]at *;omega)) (hx.trans (by(simp only[*,Bool.true_and,Bool.and_true,Bool.false_and,Bool.and_false,Bool.true_or,Bool.or_true,Bool.false_or,Bool.or_false,Bool.not_true,Bool.not_false,Bool.not_not,cond_true,cond_false];first |done |rfl))))).symm
  |exact⟨k+1,by(simp only[zz]at *;omega),zcl (p:=fun j=>zdE (q.hv.getD j default)) hj (hx.trans (by(simp only[*,Bool.true_and,Bool.and_true,Bool.false_and,Bool.and_false,Bool.true_or,Bool.or_true,Bool.false_or,Bool.or_false,Bool.not_true,Bool.not_false,Bool.not_not,cond_true,cond_false];first |done |rfl))),rfl,rfl⟩
  |(rename_i hz;exact⟨u+1,by(simp only[zz]at *;omega),zcl (p:=fun j => !zgm (q.em.getD j default)) hv hz,rfl,rfl⟩)
  |(rename_i h0 h1 _ hk2 _ hu2;exact congrArg ai (zBL h0 (zBP h1 hk2 hj hu2 hv)).symm)
theorem LElA.app{A:Type}[Inhabited A]{g:A->List SV}{l l2:List A}{n:Nat}{el:Nat->List SV}(h:LElA g l n el):LElA g (l++l2) (n+l2.length) (zgK n el (elF g l2)):=by
 obtain⟨rfl,h⟩:=h;refine⟨by simp,fun i hi=>?_⟩;unfold zgK;split
 ·rename_i hq;rw[h i hq,ya8,ya8,yb8 hq]
 ·rename_i hq;unfold elF;rw[ya8,ya8,yd0 (by omega)]
end Go.Proofs.YtmgibblhcoimfaaDoor
