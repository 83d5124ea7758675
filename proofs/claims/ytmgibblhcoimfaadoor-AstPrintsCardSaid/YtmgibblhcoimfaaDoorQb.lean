import Derived.Test.YtmgibblhcoimfaaDoorQa
import Derived.Test.YtmgibblhcoimfaaDoorPk
set_option linter.unusedSimpArgs false
set_option linter.unusedVariables false
set_option maxRecDepth 100000
namespace Go.Proofs.YtmgibblhcoimfaaDoor
open Go Go.Cx
def opsL:List (List Nat):=[[61],[33,61],[60],[60,61],[62],[62,61]]
theorem zzl:DSpec Tryd.prog axX axG 56 [] [] (fun v O=>v=.isl 1 6 (zeR 1 (opsL.map fun x=>SV.cv (.str x)))/\O=[]):=by
 refine zac { glb:=axG } true Tryd.func56 (by kernel_rfl) rfl ?_
 repeat' (
   (conv=>whnf)
   first
    |exact zad (by kernel_rfl)
    |refine And.intro ?_ ?_
    |refine zaa ?_ ?_
    |intro _)
 all_goals first
  |rfl
  |exact⟨rfl,rfl⟩
theorem zzW:DSpec Tryd.prog axX axG 55 [] [] (fun v O=>v=.isl 1 6 (zeR 1 (aggNames.map fun x=>SV.cv (.str x)))/\O=[]):=by
 refine zac { glb:=axG } true Tryd.func55 (by kernel_rfl) rfl ?_
 repeat' (
   (conv=>whnf)
   first
    |exact zad (by kernel_rfl)
    |refine And.intro ?_ ?_
    |refine zaa ?_ ?_
    |intro _)
 all_goals first
  |rfl
  |exact⟨rfl,rfl⟩
set_option maxHeartbeats 2000000 in
theorem zqC(c:CondM)(hf:1<=c.op/\c.op<=6)(h0 : -9223372036854775808<=c.val)(h1:c.val<=9223372036854775807):DSpec Tryd.prog axX axG 26 [.agg (zlS c)] [] (fun v O=>v=.cv (.str (zdz c))/\O=[]):=by
 obtain⟨op,val⟩:=c;have hl:(zh5 val).length<=20:=zkF h0 h1;have hf:op=1\/op=2\/op=3\/op=4\/op=5\/op=6:=by simp only at hf;omega
 rcases hf with rfl |rfl |rfl |rfl |rfl |rfl
 all_goals
  refine zac { glb:=axG } true Tryd.func26 (by kernel_rfl) rfl ?_
  repeat' (
    (conv=>whnf)
    first
     |exact zad (by kernel_rfl)
     |refine And.intro ?_ ?_
     |refine zaa ?_ ?_
     |(refine⟨_,zzl,?_⟩;rintro v O' ⟨rfl,rfl⟩)
     |(refine⟨_,zzQ val h0 h1,?_⟩;rintro v O' ⟨rfl,rfl⟩)
     |intro _)
 all_goals first
  |rfl
  |omega
  |(simp only[zz]at *;omega)
  |decide
  |(show 1+(zh5 val).length<=1000000;omega)
  |(show 2+(zh5 val).length<=1000000;omega)
set_option maxHeartbeats 2000000 in
theorem zr7(a:AggM)(hf:1<=a.fn/\a.fn<=6)(hn:a.name.length<=1000):DSpec Tryd.prog axX axG 25 [.agg (ztM a)] [] (fun v O=>v=.cv (.str (zoQ a))/\O=[]):=by
 obtain⟨fn,name⟩:=a;have hl:(nm name).length<=1000:=by unfold nm;rw[yb7];exact hn
 have hf:fn=1\/fn=2\/fn=3\/fn=4\/fn=5\/fn=6:=by simp only at hf;omega
 rcases hf with rfl |rfl |rfl |rfl |rfl |rfl
 all_goals
  refine zac { glb:=axG } true Tryd.func25 (by kernel_rfl) rfl ?_
  repeat' (
    (conv=>whnf)
    first
     |exact zad (by kernel_rfl)
     |refine And.intro ?_ ?_
     |refine zaa ?_ ?_
     |(refine⟨_,zzW,?_⟩;rintro v O' ⟨rfl,rfl⟩)
     |intro _)
 all_goals first
  |rfl
  |omega
  |(simp only[zz]at *;omega)
  |decide
  |(show(_++[40]).length+(nm name).length<=1000000;simp only[ya1,ya7,yb2];omega)
  |(show(_++[40]++nm name).length+1<=1000000;simp only[ya1,ya7,yb2];omega)
set_option maxHeartbeats 4000000 in
theorem zvs(a:AtomM)(ha:AtomOk a)(hc20:a.cs.length<=20/\a.name.length<=30):DSpec Tryd.prog axX axG 54 [.agg (zfR a)] [] (fun v O=>v=.cv (.str (zcq a))/\O=[]):=by
 have hcp:=zdy a.cs ha.cond;have hcc:∀k,k<a.cs.length->(zdz (a.cs.getD k default)).length<=22:=fun k h=>zct _ (ha.cond _ (zah h)).2.1 (ha.cond _ (zah h)).2.2
 have hk0:=ha.kind;have hu:=ha.bound;have hlab:DSpec Tryd.prog axX axG 78 [au a.bound] [] (fun v O=>v=.cv (.str (zpg a.bound.toNat))/\O=[]):=by
  have:=zy2 a.bound.toNat (by omega)
  rwa [show((a.bound.toNat:Nat):Int)=a.bound by omega]at this
 have hll:=zbv a.bound.toNat;have hbl:=za2 a;refine zac { glb:=axG,ann:=[(5,[3,4])] } true Tryd.func54 (by kernel_rfl) rfl ?_
 repeat' (
   (conv=>whnf)
   first
    |exact zad (by kernel_rfl)
    |refine And.intro ?_ ?_
    |refine zaa ?_ ?_
    |((refine⟨[65+a.kind.toNat],⟨rfl,fun i hi=>?_⟩,?_⟩;rotate_left))
    |(refine⟨_,hlab,?_⟩;rintro v O' ⟨rfl,rfl⟩)
    |(refine⟨_,zqC (a.cs.getD k default) (ha.cond _ (zah (show k<a.cs.length by(simp only[zz]at *;omega)))).1 (ha.cond _ (zah (show k<a.cs.length by(simp only[zz]at *;omega)))).2.1 (ha.cond _ (zah (show k<a.cs.length by(simp only[zz]at *;omega)))).2.2,?_⟩;rintro v O' ⟨rfl,rfl⟩)
    |((refine⟨fun vs O _=>∃(k:Nat),k<=a.cs.length/\vs=[.cv (.str ([65+a.kind.toNat]++zo0 a++zbm a.cs k)),ai k]/\O=[.cells 25 (zfR a)],fun vs O=>match vs with |[_,.cv (.int _ k)]=>a.cs.length - k.toNat |_=>0,⟨0,Nat.zero_le _,?_,rfl⟩,?_⟩;rotate_left;rintro vs O _ ⟨k,hk,rfl,rfl⟩;have hpk:=hcp _ hk))
    |intro _)
 all_goals try have hC:=zgZ (a:=a) (by assumption)
 all_goals try have hC:=zgJ (a:=a) (by assumption)
 all_goals try have hN:=zh8 (s:=a.name) (by assumption)
 all_goals try have hN:=zhV (s:=a.name) (by assumption)
 all_goals try have hB:=zlf (a:=a) (by assumption)
 all_goals try have hB:=zlo (a:=a) (by assumption)
 all_goals try have hck:=hcc k (by(simp only[zz]at *;omega))
 all_goals first
  |rfl
  |omega
  |(simp only[zz]at *;omega)
  |(exfalso;(simp only[zz]at *;omega))
  |decide
  |((show(_:Nat)<=_);simp only[ya1,yb7,Array.length_toList,List.size_toArray,ya7,yb2,yb3,yb6,nm]at *;omega)
  | (have he:k=0:=by(simp only[zz]at *;omega)
     refine⟨k+1,by(simp only[zz]at *;omega),?_,rfl⟩;show[SV.cv (CV.str ([65+a.kind.toNat]++zo0 a++zbm a.cs k++[91]++zdz (a.cs.getD k default))),ai ((k:Int)+1)]=_;rw[zcE,if_pos he];simp only[yc1];rfl)
  | (have he:k≠0:=by(simp only[zz]at *;omega)
     refine⟨k+1,by(simp only[zz]at *;omega),?_,rfl⟩;show[SV.cv (CV.str ([65+a.kind.toNat]++zo0 a++zbm a.cs k++[44]++zdz (a.cs.getD k default))),ai ((k:Int)+1)]=_;rw[zcE,if_neg he];simp only[yc1];rfl)
  | (show[SV.cv (CV.str ([65+a.kind.toNat]++[64]++zpg a.bound.toNat)),ai 0]=_
     rw[hB,zbm,yc2,yc1];rfl)
  | (show[SV.cv (CV.str [65+a.kind.toNat]),ai 0]=_
     rw[hB,zbm,yc2,yc2];rfl)
  | (refine congrArg (fun s=>SV.cv (CV.str s)) ?_
     have he:a.cs.length=k:=by(simp only[zz]at *;omega)
     rw[zcq,hC,hN,he]
     first
     | (show[65+a.kind.toNat]++zo0 a++zbm a.cs k++[93]++[58]++nm a.name=_
        simp only[yc1];rfl)
     | (show[65+a.kind.toNat]++zo0 a++zbm a.cs k++[93]=_
        simp only[yc1,yc2];done))
  | (refine congrArg (fun s=>SV.cv (CV.str s)) ?_
     have he:k=0:=by(simp only[zz]at *;omega)
     rw[zcq,hC,hN,he,zbm]
     first
     | (show[65+a.kind.toNat]++zo0 a++[]++[58]++nm a.name=_
        simp only[yc1,yc2,List.nil_append];rfl)
     |(simp only[yc1,yc2];done))
  | (obtain rfl:i=0:=by omega
     show 65+a.kind.toNat<256;omega)
  | (obtain rfl:i=0:=by omega
     show[SV.cv (.int .u8 (65+a.kind))]=[SV.cv (.int .u8 ((65+a.kind.toNat:Nat):Int))]
     rw[show((65+a.kind.toNat:Nat):Int)=65+a.kind by omega])
end Go.Proofs.YtmgibblhcoimfaaDoor
