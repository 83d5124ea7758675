import Derived.Test.YteaemnicofpbeaaGreatDoorMa
set_option linter.unusedSimpArgs false
set_option linter.unusedVariables false
set_option maxRecDepth 100000
namespace Go.Proofs.YteaemnicofpbeaaGreatDoor
open Go Go.Cx
def Lgt(l:List SlotM):Prop:=l.length<=30/\∀j,j<l.length->(l.getD j default).gs.length<=20
def zmi(s:SlotM):Bool:=decide ((s.gs.length:Int) > 20)
def zgp(l:List SlotM):Bool := !((l.take 30).any zmi)&&decide ((l.length:Int)<=30)
theorem zrV{l:List SlotM}(h:zgp l=true):Lgt l:=by
 unfold zgp at h;rw[ya2,Bool.not_eq_true',decide_eq_true_eq]at h;have hl:l.length<=30:=by omega
 refine⟨hl,fun j hj=>?_⟩;have:=List.any_eq_false.1 h.1 (l.getD j default) (by rw[List.take_of_length_le hl];exact zm2 hj);unfold zmi at this;rw[decide_eq_true_eq]at this;omega
theorem zsT{l:List SlotM}{k:Nat}(hk:k<l.length)(h30:k<30)(h:zmi (l.getD k default)=true):SV.cv (CV.bool false)=ab (zgp l):=by
 have:(l.take 30).any zmi=true:=by
  rw[List.any_eq_true];refine⟨l.getD k default,?_,h⟩;rw[List.mem_take_iff_getElem];exact⟨k,by omega,by rw[ya8,yb5 hk];rfl⟩
 unfold zgp;rw[this];rfl
theorem zqz{l:List SlotM}{k:Nat}(hk:k=l.length\/k=30)(hl:k<=l.length)(h:∀j,j<k->zmi (l.getD j default)=false):ab (decide ((l.length:Int)<=30))=ab (zgp l):=by
 have:(l.take 30).any zmi=false:=by
  rw[Bool.eq_false_iff,Ne,List.any_eq_true];rintro⟨x,hx,hp⟩;rw[List.mem_take_iff_getElem]at hx;obtain⟨i,hi,rfl⟩:=hx;have hi2:i<l.length:=by omega
  have:=h i (by omega);rw[ya8,yb5 hi2]at this;simp only[Option.getD_some]at this;rw[this]at hp;cases hp
 unfold zgp;rw[this];rfl
theorem zmL(l:List SlotM)(hl:l.length<=maxLen):DSpec Tryz.prog axX axG 4 [.agg (zbo l)] [] (fun v O=>v=ab (zgp l)/\O=[]):=by
 refine zaw { glb:=axG,ann:=[(2,[3])] } true Tryz.func4 (by kernel_rfl) rfl ?_
 repeat' (
   (conv=>whnf)
   first
    |exact zaI (by kernel_rfl)
    |refine And.intro ?_ ?_
    |refine zae ?_ ?_
    |((refine⟨fun vs O _=>∃k:Nat,(k<=30/\k<=l.length)/\(∀j,j<k->zmi (l.getD j default)=false)/\vs=[ai k]/\O=[.cells 24 (zbo l)],fun vs O=>match vs with |[.cv (.int _ k)]=>30 - k.toNat |_=>0,⟨0,⟨by decide,Nat.zero_le _⟩,fun j h=>absurd h (by omega),rfl,rfl⟩,?_⟩;rintro vs O _ ⟨k,hk,hj,rfl,rfl⟩))
    |intro _)
 all_goals try have hw:zmi (l.getD k default)=decide (((l.getD ((k:Int).toNat) default).gs.length:Int) > 20):=rfl
 all_goals first
  |rfl
  |omega
  |(simp only[zz]at *;omega)
  |exact zsT (k:=k) (by(simp only[zz]at *;omega)) (by(simp only[zz]at *;omega)) (by rw[hw];assumption)
  |exact⟨k+1,by(simp only[zz]at *;omega),zhQ hj (by rw[hw];assumption),rfl,rfl⟩
  |exact zqz (k:=k) (by(simp only[zz]at *;omega)) (by(simp only[zz]at *;omega)) hj
theorem zl4(n x:Int):DSpec Tryz.prog axX axG 21 [ai x,.ptr 0 0] [.cells 3 [ai n]] (fun v O=>v=ab (zen n x)/\O=[.cells 3 [ai n]]):=by
 refine zaw { glb:=axG } true Tryz.func21 (by kernel_rfl) rfl ?_
 repeat' (
   (conv=>whnf)
   first
    |exact zaI (by kernel_rfl)
    |refine And.intro ?_ ?_
    |refine zae ?_ ?_
    |intro _)
 all_goals first
  |rfl
  |(simp only[zen, *,Bool.true_and,Bool.and_true,Bool.false_and,Bool.and_false,Bool.true_or,Bool.or_true,Bool.false_or,Bool.or_false,Bool.not_true,Bool.not_false,Bool.not_not,cond_true,cond_false];first |done |rfl)
theorem ztr(g:List Int)(n:Int)(hg:g.length<=1000000):DSpec Tryz.prog axX axG 28 [.isl 1 g.length (zgF g),.fn 21 [] [.ptr 0 0]] [.cells 3 [ai n]] (fun v O=>∃k:Int,v=ai k/\decide (k>=0)=g.any (zen n)/\O=[.cells 3 [ai n]]):=by
 refine zaw { glb:=axG,ann:=[(2,[8])] } true Tryz.func28 (by kernel_rfl) rfl ?_
 repeat' (
   (conv=>whnf)
   first
    |exact zaI (by kernel_rfl)
    |refine And.intro ?_ ?_
    |refine zae ?_ ?_
    |(refine⟨_,zl4 n (g.getD k 0),?_⟩;rintro v O' ⟨rfl,rfl⟩)
    |((refine⟨fun vs O _=>∃k:Nat,k<=g.length/\(∀j,j<k->zen n (g.getD j default)=false)/\vs=[ai k]/\O=[.cells 3 [ai n]],fun vs O=>match vs with |[.cv (.int _ k)]=>g.length - k.toNat |_=>0,⟨0,Nat.zero_le _,fun j h=>absurd h (by omega),rfl,rfl⟩,?_⟩;rintro vs O _ ⟨k,hk,hj,rfl,rfl⟩))
    |intro _)
 all_goals first
  |rfl
  |omega
  |(simp only[zz]at *;omega)
  |(rename_i hz;exact⟨k,rfl,zwG (p:=zen n) (by(simp only[zz]at *;omega)) hz,rfl⟩)
  |(rename_i hz;exact⟨k+1,by(simp only[zz]at *;omega),zhQ (p:=fun j=>zen n (g.getD j default)) hj hz,rfl,rfl⟩)
  |exact⟨-1,rfl,zvi (p:=zen n) (by(simp only[zz]at *;omega)) hj,rfl⟩
  |(exfalso;(simp only[zz]at *;omega))
theorem zsQ(g:List Int)(n:Int)(hg:g.length<=1000000):DSpec Tryz.prog axX axG 22 [.isl 1 g.length (zgF g),.fn 21 [] [.ptr 0 0]] [.cells 3 [ai n]] (fun v O=>v=ab (g.any (zen n))/\O=[.cells 3 [ai n]]):=by
 refine zaw { glb:=axG } true Tryz.func22 (by kernel_rfl) rfl ?_
 repeat' (
   (conv=>whnf)
   first
    |exact zaI (by kernel_rfl)
    |refine And.intro ?_ ?_
    |refine zae ?_ ?_
    |(refine⟨_,ztr g n hg,?_⟩;rintro v O' ⟨k,rfl,hk,rfl⟩)
    |intro _)
 all_goals first
  |rfl
  |exact congrArg (fun b=>SV.cv (CV.bool b)) hk
theorem zi8(l:List Int)(hl:l.length<=1000000):DSpec Tryz.prog axX axG 11 [.isl 1 l.length (zgF l),.isl 1 l.length (zgF l)] [] (fun v O=>v=ab true/\O=[]):=by
 refine zaw { glb:=axG,ann:=[(4,[5])] } true Tryz.func11 (by kernel_rfl) rfl ?_
 repeat' (
   (conv=>whnf)
   first
    |exact zaI (by kernel_rfl)
    |refine And.intro ?_ ?_
    |refine zae ?_ ?_
    |((refine⟨fun vs O _=>∃k:Nat,k<=l.length/\vs=[ai k]/\O=[],fun vs O=>match vs with |[.cv (.int _ k)]=>l.length - k.toNat |_=>0,⟨0,Nat.zero_le _,rfl,rfl⟩,?_⟩;rintro vs O _ ⟨k,hk,rfl,rfl⟩))
    |intro _)
 all_goals first
  |rfl
  |omega
  |(simp only[zz]at *;omega)
  |exact⟨k+1,by(simp only[zz]at *;omega),rfl,rfl⟩
  |(exfalso;(simp only[zz]at *;omega))
  |(rename_i hz;exfalso;simp at hz;done)
theorem zps(s:SlotM)(hl:s.gs.length<=1000000):DSpec Tryz.prog axX axG 23 [.agg (ziw s),.agg (ziw s)] [] (fun v O=>v=ab true/\O=[]):=by
 refine zaw { glb:=axG } true Tryz.func23 (by kernel_rfl) rfl ?_
 repeat' (
   (conv=>whnf)
   first
    |exact zaI (by kernel_rfl)
    |refine And.intro ?_ ?_
    |refine zae ?_ ?_
    |(refine⟨_,zi8 s.gs hl,?_⟩;rintro v O' ⟨rfl,rfl⟩)
    |intro _)
 all_goals first
  |rfl
  |(rename_i hz;exfalso;simp at hz;done)
theorem zpE(l:List SlotM)(hl:Lgt l):DSpec Tryz.prog axX axG 14 [.agg (zbo l),.agg (zbo l)] [] (fun v O=>v=ab true/\O=[]):=by
 have h30:=hl.1;refine zaw { glb:=axG,ann:=[(4,[5])] } true Tryz.func14 (by kernel_rfl) rfl ?_
 repeat' (
   (conv=>whnf)
   first
    |exact zaI (by kernel_rfl)
    |refine And.intro ?_ ?_
    |refine zae ?_ ?_
    |(refine⟨_,zps (l.getD k default) (Nat.le_trans (hl.2 k (by(simp only[zz]at *;omega))) (by decide)),?_⟩;rintro v O' ⟨rfl,rfl⟩)
    |((refine⟨fun vs O _=>∃k:Nat,k<=l.length/\vs=[ai k]/\O=[.cells 24 (zbo l),.cells 24 (zbo l)],fun vs O=>match vs with |[.cv (.int _ k)]=>l.length - k.toNat |_=>0,⟨0,Nat.zero_le _,rfl,rfl⟩,?_⟩;rintro vs O _ ⟨k,hk,rfl,rfl⟩))
    |intro _)
 all_goals first
  |rfl
  |omega
  |(simp only[zz]at *;omega)
  |exact⟨k+1,by(simp only[zz]at *;omega),rfl,rfl⟩
  |(exfalso;(simp only[zz]at *;omega))
  |(rename_i hz;exfalso;simp at hz;done)
end Go.Proofs.YteaemnicofpbeaaGreatDoor
