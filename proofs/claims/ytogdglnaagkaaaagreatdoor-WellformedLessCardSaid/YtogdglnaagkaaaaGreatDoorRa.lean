import Derived.Test.YtogdglnaagkaaaaGreatDoorAb
set_option linter.unusedSimpArgs false
set_option linter.unusedVariables false
set_option maxRecDepth 100000
namespace Go.Proofs.YtogdglnaagkaaaaGreatDoor
open Go Go.Cx
def zbt(n m:Int):Int:=if n.tmod m<0 then n.tmod m+m else n.tmod m
theorem zej{n m:Int}(hm:1<=m):0<=zbt n m/\zbt n m<m:=by
 have h1:=Int.tmod_lt_of_pos n (show 0<m by omega);have h2 : -m<n.tmod m:=by
  have:=Int.lt_tmod_of_pos n (show 0<m by omega);exact this
 unfold zbt;split<;>omega
theorem zxY(n m:Int)(hm:1<=m)(hm':m<=1099511627776):DSpec Tryz.prog axX axG 8 [ai n,ai m] [] (fun v O=>v=ai (zbt n m)/\O=[]):=by
 refine zac { glb:=axG } true Tryz.func8 (by kernel_rfl) rfl ?_
 repeat' (
   (conv=>whnf)
   first
    |exact zad (by kernel_rfl)
    |refine And.intro ?_ ?_
    |refine zaa ?_ ?_
    |intro _)
 all_goals have h1:=Int.tmod_lt_of_pos n (show 0<m by omega)
 all_goals have h2:=Int.lt_tmod_of_pos n (show 0<m by omega)
 all_goals first
  |rfl
  |omega
  |(simp only[zz]at *;omega)
  |(unfold zbt;rw[if_pos (by(simp only[zz]at *;omega))])
  |(unfold zbt;rw[if_neg (by(simp only[zz]at *;omega))])
def zpU(l:List Int):Nat->List SV:=fun i=>[ai (l.getD i 0)]
theorem zFE(l:List Int)(i:Nat)(hl:l.length<=maxLen)(hi:i<=1000):DSpec Tryz.prog axX axG 24 [.isl 1 l.length (zpU l),ai i] [] (fun v O=>v=ai (l.getD i 0)/\O=[]):=by
 refine zac { glb:=axG } true Tryz.func24 (by kernel_rfl) rfl ?_
 repeat' (
   (conv=>whnf)
   first
    |exact zad (by kernel_rfl)
    |refine And.intro ?_ ?_
    |refine zaa ?_ ?_
    |intro _)
 all_goals first
  |rfl
  |omega
  |(simp only[zz]at *;omega)
  | (rename_i hz;have:l.length<=i:=by(simp only[zz]at *;omega)
     rw[ya8,List.getElem?_eq_none this];rfl)
def dm(k a b:Int):Int:=(k.tdiv a).tmod b
def zja(k:Int):CondM:=⟨1+dm k 108 6,dm k 648 5 - 2⟩
def zbH(k p:Int):AtomM:=
 ⟨k.tmod 3,dm k 3 3==1,bif dm k 3 3==1 then dm k 9 4 else 0,bif dm k 36 3==1 then[zja k] else[],bif dm k 3240 2==1 then[UInt8.ofNat (112+p).toNat] else[]⟩
def lfN(k p:Int):NodeM:=.mk 1 (bif dm k 6480 5==1 then 1+dm k 32400 2 else 1) (bif dm k 6480 5==1 then 2+dm k 64800 2 else 1) (zbH k p) []
theorem zAe{x:Int}(h:0<=x/\x<256){el:Nat->List SV}(he:el 0=[.cv (.int .u8 x)]):[x.toNat].length=1/\∀i,i<1->[x.toNat].getD i 0<256/\el i=[.cv (.int .u8 (([x.toNat].getD i 0:Nat):Int))]:=by
 refine⟨rfl,fun i hi=>?_⟩;obtain rfl:i=0:=by omega
 have h2:((x.toNat:Nat):Int)=x:=by omega
 refine⟨?_,?_⟩
 ·show x.toNat<256;omega
 ·rw[he];show _=[SV.cv (.int .u8 ((x.toNat:Nat):Int))]
  rw[h2]
theorem zDv{k p mn mx bd:Int}{b:Bool}{cv:SV}{nmv:List Nat}(h1:mn=(bif dm k 6480 5==1 then 1+dm k 32400 2 else 1))(h2:mx=(bif dm k 6480 5==1 then 2+dm k 64800 2 else 1))(h3:b=(dm k 3 3==1))(h4:bd=(bif dm k 3 3==1 then dm k 9 4 else 0))(h5:Same cv (.isl 2 (zbH k p).cs.length (zco (zbH k p).cs)))(h6:nmv=nm (zbH k p).name):Same (.agg [ai 1,ai mn,ai mx,ai (k.tmod 3),ab b,au bd,cv,.cv (.str nmv),.cv .nils]) (.agg (zah (lfN k p))):=by
 subst h1;subst h2;subst h3;subst h4;subst h6;exact .agg (.cons (.refl _) (.cons (.refl _) (.cons (.refl _) (.cons (.refl _) (.cons (.refl _) (.cons (.refl _) (.cons h5 (.cons (.refl _) (.cons .nils .nil)))))))))
theorem zE8{k p:Int}(h:(dm k 36 3==1)=true){sz:Nat}{cs:List SV}(hs:sz=2)(hc:cs=zza (zja k)):Same (.isl sz 1 (zcz sz cs)) (.isl 2 (zbH k p).cs.length (zco (zbH k p).cs)):=by
 subst hs;subst hc;have:(zbH k p).cs=[zja k]:=by unfold zbH;rw[h];rfl
 rw[this];exact .isl fun i hi=>by
  obtain rfl:i=0:=by omega
  rfl
theorem zEQ{k p:Int}(h:(dm k 36 3==1)=false):Same (.cv .nils) (.isl 2 (zbH k p).cs.length (zco (zbH k p).cs)):=by
 have:(zbH k p).cs=[]:=by unfold zbH;rw[h];rfl
 rw[this];exact .nils
theorem zEU{k p:Int}(h:(dm k 3240 2==1)=true)(hp:0<=p/\p<=100):[(112+p).toNat]=nm (zbH k p).name:=by
 have:(zbH k p).name=[UInt8.ofNat (112+p).toNat]:=by unfold zbH;rw[h];rfl
 rw[this];unfold nm;have h2:(UInt8.ofNat (112+p).toNat).toNat=(112+p).toNat%256:=by simp
 simp only[List.map_cons,List.map_nil,h2];rw[Nat.mod_eq_of_lt (by omega)]
theorem zE1{k p:Int}(h:(dm k 3240 2==1)=false):[]=nm (zbH k p).name:=by
 have:(zbH k p).name=[]:=by unfold zbH;rw[h];rfl
 rw[this];rfl
set_option maxHeartbeats 4000000 in
theorem zEW(k p:Int)(hk:0<=k/\k<1073741824)(hp:0<=p/\p<=100):DSpec Tryz.prog axX axG 23 [ai k,ai p] [] (fun v O=>Same v (.agg (zah (lfN k p)))/\O=[]):=by
 refine zac { glb:=axG } true Tryz.func23 (by kernel_rfl) rfl ?_
 repeat' (
   (conv=>whnf)
   first
    |exact zad (by kernel_rfl)
    |refine And.intro ?_ ?_
    |refine zaa ?_ ?_
    |((refine⟨[(112+p).toNat],zAe (by omega) rfl,?_⟩))
    |intro _)
 all_goals try have e1:dm k 3 3=(k.tdiv 3).tmod 3:=rfl
 all_goals try have e2:dm k 36 3=(k.tdiv 36).tmod 3:=rfl
 all_goals try have e3:dm k 3240 2=(k.tdiv 3240).tmod 2:=rfl
 all_goals try have e4:dm k 6480 5=(k.tdiv 6480).tmod 5:=rfl
 all_goals first
  |rfl
  |omega
  |(simp only[zz]at *;omega)
  | (refine zDv (p:=p) ?_ ?_ ?_ ?_ ?_ ?_
     ·rw[e4];(first |(rw[‹((k.tdiv 6480).tmod 5==1)=true›];rfl) |(rw[‹((k.tdiv 6480).tmod 5==1)=false›];rfl))
     ·rw[e4];(first |(rw[‹((k.tdiv 6480).tmod 5==1)=true›];rfl) |(rw[‹((k.tdiv 6480).tmod 5==1)=false›];rfl))
     ·rw[e1];(first |(rw[‹((k.tdiv 3).tmod 3==1)=true›];done) |(rw[‹((k.tdiv 3).tmod 3==1)=false›];done))
     ·rw[e1];(first |(rw[‹((k.tdiv 3).tmod 3==1)=true›];rfl) |(rw[‹((k.tdiv 3).tmod 3==1)=false›];rfl))
     ·(first |exact zE8 (by assumption) (by kernel_rfl) rfl |exact zEQ (by assumption))
     ·(first |exact zEU (by assumption) hp |exact zE1 (by assumption)))
  |(simp(disch:=omega) only[Int.tdiv_eq_ediv_of_nonneg,Int.tmod_eq_emod_of_nonneg]at *;omega)
theorem zE3(k p:Int)(hk:0<=k/\k<1073741824)(hp:0<=p/\p<=100):DSpec Tryz.prog axX axG 23 [ai k,ai p] [] (fun v O=>v=.agg (zah (lfN k p))/\O=[]):=
 DSpec.same (zEW k p hk hp) fun v O h=>⟨_,h.1,rfl,h.2⟩
end Go.Proofs.YtogdglnaagkaaaaGreatDoor
