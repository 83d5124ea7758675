import Derived.Test.YtmgibblhcoimfaaDoorBb
set_option linter.unusedSimpArgs false
set_option linter.unusedVariables false
set_option maxRecDepth 100000
namespace Go.Proofs.YtmgibblhcoimfaaDoor
open Go Go.Cx
def zj2(h:HaveM):Bool:=decide (((nm h.agg.name).length:Int) > 30)
def zkU(a:AggM):Bool:=decide (((nm a.name).length:Int) > 30)
def zcg(q:QueryM):Bool := !decide ((q.hv.length:Int) > 20)&&(!decide ((q.em.length:Int) > 20)&&(!decide (zjI 210 250 q.p<0)&&(!q.hv.any zj2 && !q.em.any zkU)))
theorem zt9{A:Type}{d:A}{l:List A}{p:A->Bool}{k:Nat}(hk:k<l.length)(h:p (l.getD k d)=true):l.any p=true:=by
 have:=zez hk h;simpa using this.symm
theorem zto{A:Type}{d:A}{l:List A}{p:A->Bool}{k:Nat}(hk:l.length<=k)(h:∀j,j<k->p (l.getD j d)=false):l.any p=false:=by
 have:=zgW hk h;simpa using this.symm
theorem zCO{q:QueryM}(h:decide ((q.hv.length:Int) > 20)=true):SV.cv (CV.bool false)=ab (zcg q):=by unfold zcg;rw[h];rfl
theorem zCU{q:QueryM}(h:decide ((q.em.length:Int) > 20)=true):SV.cv (CV.bool false)=ab (zcg q):=by unfold zcg;rw[h];cases decide ((q.hv.length:Int) > 20)<;>rfl
theorem zCw{q:QueryM}(h:decide (zjI 210 250 q.p<0)=true):SV.cv (CV.bool false)=ab (zcg q):=by unfold zcg;rw[h];cases decide ((q.hv.length:Int) > 20)<;>cases decide ((q.em.length:Int) > 20)<;>rfl
theorem zDi{q:QueryM}{k:Nat}(hk:k<q.hv.length)(h:zj2 (q.hv.getD k default)=true):SV.cv (CV.bool false)=ab (zcg q):=by unfold zcg;rw[zt9 hk h];simp
theorem zC1{q:QueryM}{k:Nat}(hk:k<q.em.length)(h:zkU (q.em.getD k default)=true):SV.cv (CV.bool false)=ab (zcg q):=by unfold zcg;rw[zt9 hk h];simp
theorem zCx{q:QueryM}{k j:Nat}(h1:decide ((q.hv.length:Int) > 20)=false)(h2:decide ((q.em.length:Int) > 20)=false)(h3:decide (zjI 210 250 q.p<0)=false)(hk:q.hv.length<=k)(hj:∀i,i<k->zj2 (q.hv.getD i default)=false)(hk2:q.em.length<=j)(hj2:∀i,i<j->zkU (q.em.getD i default)=false):SV.cv (CV.bool true)=ab (zcg q):=by
 unfold zcg;rw[h1,h2,h3,zto hk hj,zto hk2 hj2];rfl
theorem zxt{n:NodeM}{o:Int}(ho:o<=1000)(h:decide (zjI 210 o n<0)=false):NFit n/\n.dep<=210/\((zbf 1 n).length:Int)<=o/\Few n:=by
 obtain⟨h1,h2,h3,h4⟩:=zyN 210 n o ho (by(simp only[zz]at *;omega));have h5:0<=zjI 210 o n:=by(simp only[zz]at *;omega)
 exact⟨⟨h4,by omega,by omega⟩,h1,by omega,h3⟩
theorem zrg{q:QueryM}(h:zcg q=true):QFit q/\q.p.dep<=210/\(zbf 1 q.p).length<=250/\Few q.p/\q.hv.length<=20/\q.em.length<=20/\(∀x∈q.hv,x.agg.name.length<=30)/\(∀x∈q.em,x.name.length<=30):=by
 unfold zcg at h;simp only[ya2,Bool.not_eq_true']at h;obtain⟨h1,h2,h3,h4,h5⟩:=h;obtain⟨q1,q2,q3,q4⟩:=zxt (by omega) h3;refine⟨⟨q1,by(simp only[zz]at *;omega),by(simp only[zz]at *;omega)⟩,q2,by omega,q4,by(simp only[zz]at *;omega),by(simp only[zz]at *;omega),fun x hx=>?_,fun x hx=>?_⟩
 ·have:=List.any_eq_false.1 h4 x hx;unfold zj2 nm at this;simp at this;omega
 ·have:=List.any_eq_false.1 h5 x hx;unfold zkU nm at this;simp at this;omega
set_option maxHeartbeats 4000000 in
theorem zrP(q:QueryM):DSpec Tryd.prog axX axG 5 [.agg (zb8 q)] [] (fun v O=>v=ab (zcg q)/\O=[]):=by
 have hf:DSpec Tryd.prog axX axG 17 [.agg (zay q.p),ai 250,ai 1] [] (fun v O=>v=ai (zjI 210 250 q.p)/\O=[]):=zwq 210 (by omega) q.p 250 (by omega) (by omega);refine zac { glb:=axG,ann:=[(4,[3]),(9,[4])] } true Tryd.func5 (by kernel_rfl) rfl ?_
 repeat' (
   (conv=>whnf)
   first
    |exact zaf (by kernel_rfl)
    |refine And.intro ?_ ?_
    |refine zaa ?_ ?_
    |(refine⟨_,hf,?_⟩;rintro v O' ⟨rfl,rfl⟩)
    |((have:=hj1;refine⟨fun vs O _=>∃k:Nat,k<=q.em.length/\(∀j,j<k->zkU (q.em.getD j default)=false)/\vs=[ai k]/\O=[.cells 32 (zb8 q)],fun vs O=>match vs with |[.cv (.int _ k)]=>q.em.length - k.toNat |_=>0,⟨0,Nat.zero_le _,fun j h=>absurd h (by omega),rfl,rfl⟩,?_⟩;rintro vs O _ ⟨k2,hk2,hj2,rfl,rfl⟩))
    |((refine⟨fun vs O _=>∃k:Nat,k<=q.hv.length/\(∀j,j<k->zj2 (q.hv.getD j default)=false)/\vs=[ai k]/\O=[.cells 32 (zb8 q)],fun vs O=>match vs with |[.cv (.int _ k)]=>q.hv.length - k.toNat |_=>0,⟨0,Nat.zero_le _,fun j h=>absurd h (by omega),rfl,rfl⟩,?_⟩;rintro vs O _ ⟨k,hk,hj1,rfl,rfl⟩))
    |intro _)
 all_goals try have hw1:zj2 (q.hv.getD k default)=decide (((nm (q.hv.getD ((k:Int).toNat) default).agg.name).length:Int) > 30):=rfl
 all_goals try have hw2:zkU (q.em.getD k2 default)=decide (((nm (q.em.getD ((k2:Int).toNat) default).name).length:Int) > 30):=rfl
 all_goals first
  |rfl
  |omega
  |(simp only[zz]at *;omega)
  |exact zCO (by assumption)
  |exact zCU (by assumption)
  |exact zCw (by assumption)
  |exact zDi (k:=k) (by(simp only[zz]at *;omega)) (by rw[hw1];(simp only[*,Bool.true_and,Bool.and_true,Bool.false_and,Bool.and_false,Bool.true_or,Bool.or_true,Bool.false_or,Bool.or_false,Bool.not_true,Bool.not_false,Bool.not_not,cond_true,cond_false];first |done |rfl))
  |exact zC1 (k:=k2) (by(simp only[zz]at *;omega)) (by rw[hw2];(simp only[*,Bool.true_and,Bool.and_true,Bool.false_and,Bool.and_false,Bool.true_or,Bool.or_true,Bool.false_or,Bool.or_false,Bool.not_true,Bool.not_false,Bool.not_not,cond_true,cond_false];first |done |rfl))
  |exact⟨k+1,by(simp only[zz]at *;omega),zeb hj1 (by rw[hw1];(simp only[*,Bool.true_and,Bool.and_true,Bool.false_and,Bool.and_false,Bool.true_or,Bool.or_true,Bool.false_or,Bool.or_false,Bool.not_true,Bool.not_false,Bool.not_not,cond_true,cond_false];first |done |rfl)),rfl,rfl⟩
  |exact⟨k2+1,by(simp only[zz]at *;omega),zeb hj2 (by rw[hw2];(simp only[*,Bool.true_and,Bool.and_true,Bool.false_and,Bool.and_false,Bool.true_or,Bool.or_true,Bool.false_or,Bool.or_false,Bool.not_true,Bool.not_false,Bool.not_not,cond_true,cond_false];first |done |rfl)),rfl,rfl⟩
  |exact zCx (by assumption) (by assumption) (by assumption) (by(simp only[zz]at *;omega)) hj1 (by(simp only[zz]at *;omega)) hj2
theorem zhS:DSpec Tryd.prog axX axG 6 [] [] (fun v O=>v=SV.cv (.bool true)/\O=[]):=ax_d rfl
end Go.Proofs.YtmgibblhcoimfaaDoor
