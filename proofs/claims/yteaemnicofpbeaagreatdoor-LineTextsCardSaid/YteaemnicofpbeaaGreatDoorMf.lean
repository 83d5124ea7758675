import Derived.Test.YteaemnicofpbeaaGreatDoorMe
set_option linter.unusedSimpArgs false
set_option linter.unusedVariables false
set_option maxRecDepth 100000
namespace Go.Proofs.YteaemnicofpbeaaGreatDoor
open Go Go.Cx
noncomputable def zij(l:List SlotM):SV:=.tup [.cv (.str (ztu l).1),ai (ztu l).2]
theorem znZ{l:List SlotM}(h:(zbW l 12 != 0)=true):SV.tup [.cv (.str []),ai (zbW l 12)]=zij l:=by
 have h2:zbW l 12≠0:=by simpa using h
 unfold zij ztu;rw[if_neg h2]
theorem zk1{l:List SlotM}(h:zbW l 12=0):SV.tup [.cv (.str (znh l)),ai 0]=zij l:=by
 unfold zij ztu;rw[if_pos h]
theorem zvv(l:List SlotM)(hl:Lgt l):DSpec Tryz.prog axX axG 7 [.agg (zbo l)] [] (fun v O=>v=zij l/\O=[]):=by
 have hC:=znO l hl 12;by_cases h:zbW l 12=0
 ·have hT:=zvt l hl (znV h);rw[h]at hC;refine zaw { glb:=axG } true Tryz.func7 (by kernel_rfl) rfl ?_
  repeat' (
    (conv=>whnf)
    first
     |exact zaI (by kernel_rfl)
     |refine And.intro ?_ ?_
     |refine zae ?_ ?_
     |(refine⟨_,hC,?_⟩;rintro v O' ⟨rfl,rfl⟩)
     |(refine⟨_,hT,?_⟩;rintro v O' ⟨rfl,rfl⟩)
     |intro _)
  all_goals first
   |rfl
   |exact zk1 h
 ·have h2:(zbW l 12 != 0)=true:=by simpa using h
  refine zaw { glb:=axG } true Tryz.func7 (by kernel_rfl) rfl ?_
  repeat' (
    (conv=>whnf)
    first
     |exact zaI (by kernel_rfl)
     |refine And.intro ?_ ?_
     |refine zae ?_ ?_
     |(refine⟨_,hC,?_⟩;rintro v O' ⟨rfl,rfl⟩)
     |intro _)
  all_goals first
   |rfl
   |exact znZ h2
   |(exfalso;rename_i hz;rw[h2]at hz;cases hz)
   |(rename_i hz;rw[h2]at hz;cases hz)
theorem ztI(l:List SlotM)(hl:Lgt l):DSpec Tryz.prog axX axG 8 [.agg (zbo l)] [] (fun v O=>v=zij l/\O=[]):=by
 have hC:=zlw l hl 12;by_cases h:zbW l 12=0
 ·have hT:=zta l hl (znV h);rw[h]at hC;refine zaw { glb:=axG } true Tryz.func8 (by kernel_rfl) rfl ?_
  repeat' (
    (conv=>whnf)
    first
     |exact zaI (by kernel_rfl)
     |refine And.intro ?_ ?_
     |refine zae ?_ ?_
     |(refine⟨_,hC,?_⟩;rintro v O' ⟨rfl,rfl⟩)
     |(refine⟨_,hT,?_⟩;rintro v O' ⟨rfl,rfl⟩)
     |intro _)
  all_goals first
   |rfl
   |exact zk1 h
 ·have h2:(zbW l 12 != 0)=true:=by simpa using h
  refine zaw { glb:=axG } true Tryz.func8 (by kernel_rfl) rfl ?_
  repeat' (
    (conv=>whnf)
    first
     |exact zaI (by kernel_rfl)
     |refine And.intro ?_ ?_
     |refine zae ?_ ?_
     |(refine⟨_,hC,?_⟩;rintro v O' ⟨rfl,rfl⟩)
     |intro _)
  all_goals first
   |rfl
   |exact znZ h2
   |(exfalso;rename_i hz;rw[h2]at hz;cases hz)
   |(rename_i hz;rw[h2]at hz;cases hz)
theorem zmP:∀s:List Nat,zjc s s=true
 |[]=>rfl
 |a::r=>by
  unfold zjc;rw[Nat.beq_refl];exact zmP r
set_option maxHeartbeats 4000000 in
theorem zmI(l:List SlotM)(hl:l.length<=maxLen)(n:Int):DSpec Tryz.prog axX axG 3 [.agg (zbo l),ai n] [] (fun v _=>v=.cv (.bool true)):=by
 have hL:=zmL l hl;have hA:DSpec Tryz.prog axX axG 5 [] [] (fun v O=>v=SV.cv (.bool true)/\O=[]):=axk_d rfl;cases h:zgp l with
 |false=>
  rw[h]at hL;refine zaw { glb:=axG } true Tryz.func3 (by kernel_rfl) rfl ?_
  repeat' (
    (conv=>whnf)
    first
     |exact zaI (by kernel_rfl)
     |refine And.intro ?_ ?_
     |refine zae ?_ ?_
     |(refine⟨_,hL,?_⟩;rintro v O' ⟨rfl,rfl⟩)
     |(refine⟨_,hA,?_⟩;rintro v O' ⟨rfl,rfl⟩)
     |intro _)
  all_goals first
   |rfl
 |true=>
  rw[h]at hL;have hg:=zrV h;have hSI:=zi8 (l.map SlotM.atom) (by rw[yb7];have:=hg.1;omega);obtain⟨t,e,ht⟩:∃(t:List Nat) (e:Int),zij l=.tup [.cv (.str t),ai e]:=⟨_,_,rfl⟩
  have hT1:=zvv l hg;have hT2:=ztI l hg;rw[ht]at hT1 hT2;refine zaw { glb:=axG } true Tryz.func3 (by kernel_rfl) rfl ?_
  repeat' (
    (conv=>whnf)
    first
     |exact zaI (by kernel_rfl)
     |refine And.intro ?_ ?_
     |refine zae ?_ ?_
     |(refine⟨_,hL,?_⟩;rintro v O' ⟨rfl,rfl⟩)
     |(refine⟨_,hA,?_⟩;rintro v O' ⟨rfl,rfl⟩)
     |(refine⟨_,zqh l hg,?_⟩;rintro v O' ⟨rfl,rfl⟩)
     |(refine⟨_,hT1,?_⟩;rintro v O' ⟨rfl,rfl⟩)
     |(refine⟨_,hT2,?_⟩;rintro v O' ⟨rfl,rfl⟩)
     |(refine⟨_,znO l hg n,?_⟩;rintro v O' ⟨rfl,rfl⟩)
     |(refine⟨_,zlw l hg n,?_⟩;rintro v O' ⟨rfl,rfl⟩)
     |(refine⟨_,zs8 l hg,?_⟩;rintro v O' ⟨rfl,rfl⟩)
     |(refine⟨_,zrI l hg,?_⟩;rintro v O' ⟨rfl,rfl⟩)
     |(refine⟨_,hSI,?_⟩;rintro v O' ⟨rfl,rfl⟩)
     |(refine⟨_,zpE l hg,?_⟩;rintro v O' ⟨rfl,rfl⟩)
     |intro _)
  all_goals first
   |rfl
   |(rename_i hz;exfalso;simp[zmP]at hz;done)
   |(exfalso;simp_all [zmP];done)
end Go.Proofs.YteaemnicofpbeaaGreatDoor
