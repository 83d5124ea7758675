import Derived.Test.YtmgibblhcoimfaaDoorLt
import Derived.Test.YtmgibblhcoimfaaDoorAl
set_option linter.unusedSimpArgs false
set_option linter.unusedVariables false
set_option maxRecDepth 100000
namespace Go.Proofs.YtmgibblhcoimfaaDoor
open Go Go.Cx
theorem zsR:∀n,n<10->zym [48,49,50,51,52,53,54,55,56,57] ((n:Nat):Int) ((n:Nat)+1:Int)=[48+n]:=by decide +kernel
theorem zxm(n:Nat)(h:n<10):DSpec Tryd.prog axX axG 24 [au (n:Nat)] [] (fun v O=>v=.cv (.str (zbX n))/\O=[]):=by
 rw[zf5 h];refine zac { glb:=axG } true Tryd.func24 (by kernel_rfl) rfl ?_
 repeat' (
   (conv=>whnf)
   first
    |exact zad (by kernel_rfl)
    |refine And.intro ?_ ?_
    |refine zaa ?_ ?_
    |intro _)
 all_goals first
  |rfl
  |omega
  |(simp only[zz]at *;omega)
  |(refine congrArg (fun s=>SV.cv (CV.str s)) ?_;exact zsR n h)
  |(rw[<- Int.le_def];refine Int.le_trans (b:=10) (by omega) ?_;decide +kernel)
  |(refine Int.le_trans (b:=10) (by omega) ?_;decide +kernel)
theorem zxi(n:Nat)(h:¬n<10)(hn:n<18446744073709551616)(ih:DSpec Tryd.prog axX axG 24 [au ((n / 10:Nat):Int)] [] (fun v O=>v=.cv (.str (zbX (n / 10)))/\O=[])):DSpec Tryd.prog axX axG 24 [au (n:Nat)] [] (fun v O=>v=.cv (.str (zbX n))/\O=[]):=by
 rw[zfJ h];have hd:=zsR (n%10) (by omega);have htd:(n:Int).tdiv 10=((n / 10:Nat):Int):=rfl;have htm:(n:Int).tmod 10=((n%10:Nat):Int):=rfl;have hdl:=za0 19 (n / 10) (by omega);refine zac { glb:=axG } true Tryd.func24 (by kernel_rfl) rfl ?_
 repeat' (
   (conv=>whnf)
   first
    |exact zad (by kernel_rfl)
    |refine And.intro ?_ ?_
    |refine zaa ?_ ?_
    |(refine⟨_,ih,?_⟩;rintro v O' ⟨rfl,rfl⟩)
    |intro _)
 all_goals first
  |rfl
  |omega
  |(simp only[zz]at *;omega)
  |(rw[<- Int.le_def,htd];omega)
  |(rw[<- Int.le_def,htm];omega)
  |(rw[<- Int.le_def,htm];refine Int.le_trans (b:=10) (by omega) ?_;decide +kernel)
  |(rw[htm];refine Int.le_trans (b:=10) (by omega) ?_;decide +kernel)
  |(show(zbX (n / 10)).length+(zym [48,49,50,51,52,53,54,55,56,57] ((n%10:Nat):Int) (((n%10:Nat):Int)+1)).length<=1000000;rw[hd];simp only[ya7,yb2];omega)
  |(show SV.cv (CV.str (zbX (n / 10)++zym [48,49,50,51,52,53,54,55,56,57] ((n%10:Nat):Int) (((n%10:Nat):Int)+1)))=_;rw[hd])
theorem zmv:∀(n:Nat),n<18446744073709551616->DSpec Tryd.prog axX axG 24 [au (n:Nat)] [] (fun v O=>v=.cv (.str (zbX n))/\O=[]):=by
 intro n
 induction n using Nat.strongRecOn with
 |_ n ih=>
  intro hn;by_cases h:n<10
  ·exact zxm n h
  ·exact zxi n h hn (ih (n / 10) (by omega) (by omega))
theorem zh6(x:Int)(h0:0<=x)(h1:x<=18446744073709551615):DSpec Tryd.prog axX axG 24 [au x] [] (fun v O=>v=.cv (.str (zbX x.toNat))/\O=[]):=by
 obtain⟨y,rfl⟩:∃y:Nat,x=y:=⟨x.toNat,by omega⟩
 exact zmv y (by omega)
theorem zzQ(x:Int)(h0 : -9223372036854775808<=x)(h1:x<=9223372036854775807):DSpec Tryd.prog axX axG 57 [ai x] [] (fun v O=>v=.cv (.str (zh5 x))/\O=[]):=by
 have hl:=zkF h0 h1;by_cases hn:x<0
 ·have hd:=zh6 (-(x+1)+1) (by omega) (by omega);have he:zh5 x=45::zbX (-(x+1)+1).toNat:=by
   rw[zqU hn,show(-(x+1)+1).toNat=x.natAbs by omega]
  rw[he,ya7]at hl;rw[he];refine zac { glb:=axG } true Tryd.func57 (by kernel_rfl) rfl ?_
  repeat' (
    (conv=>whnf)
    first
     |exact zad (by kernel_rfl)
     |refine And.intro ?_ ?_
     |refine zaa ?_ ?_
     |(refine⟨_,hd,?_⟩;rintro v O' ⟨rfl,rfl⟩)
     |intro _)
  all_goals first
   |rfl
   |omega
   |(simp only[zz]at *;omega)
   |(show 1+(zbX _).length<=1000000;omega)
   |(exfalso;(simp only[zz]at *;omega))
 ·have hd:=zh6 x (by omega) (by omega);rw[zk1 hn];refine zac { glb:=axG } true Tryd.func57 (by kernel_rfl) rfl ?_
  repeat' (
    (conv=>whnf)
    first
     |exact zad (by kernel_rfl)
     |refine And.intro ?_ ?_
     |refine zaa ?_ ?_
     |(refine⟨_,hd,?_⟩;rintro v O' ⟨rfl,rfl⟩)
     |intro _)
  all_goals first
   |rfl
   |omega
   |(simp only[zz]at *;omega)
   |(exfalso;(simp only[zz]at *;omega))
theorem zzj{x k:Nat}(hx:x<18446744073709551616)(hk:k<64):(b2 .and .u64 ((x:Int).fdiv (2 ^ min ((k:Int)).toNat IntKind.u64.bits)) 1==1)=x.testBit k:=by
 have h1:min ((k:Int)).toNat IntKind.u64.bits=k:=by
  show min k 64=k;omega
 have h2:(x:Int).fdiv (2 ^ k)=((x / 2 ^ k:Nat):Int):=by
  rw[show(2:Int) ^ k=((2 ^ k:Nat):Int)by simp];exact Int.ofNat_fdiv x (2 ^ k) |>.symm
 have h3:x / 2 ^ k<18446744073709551616:=Nat.lt_of_le_of_lt (Nat.div_le_self _ _) hx;rw[h1,h2,show(1:Int)=((1:Nat):Int)by rfl,zr9 h3 (by decide),Nat.and_one_is_mod,Nat.testBit_eq_decide_div_mod_eq];rw[Bool.eq_iff_iff,beq_iff_eq,decide_eq_true_eq];omega
theorem zyv{x k:Nat}(h:x.testBit k=false):zfp x (k+1)=zfp x k:=by rw[zfp,h];rfl
theorem zzr{x k:Nat}(h:x.testBit k=true)(hz:zbi (zfp x k) []=false):zfp x (k+1)=zfp x k++[44]++zbX k:=by
 rw[zfp,h];cases hq:zfp x k with
 |nil=>rw[hq]at hz;cases hz
 |cons b r=>rfl
theorem ztJ{x k:Nat}(h:x.testBit k=true)(hz:zbi (zfp x k) []=true):zfp x (k+1)=zfp x k++zbX k:=by
 rw[zfp,h];cases hq:zfp x k with
 |nil=>rfl
 |cons b r=>rw[hq]at hz;cases hz
set_option maxHeartbeats 1000000 in
theorem zy2(x:Nat)(hx:x<18446744073709551616):DSpec Tryd.prog axX axG 78 [au (x:Nat)] [] (fun v O=>v=.cv (.str (zpg x))/\O=[]):=by
 have hd:=fun(k:Nat) (h:k<64)=>zmv k (by omega)
 have hl:=zhz x;have hg:=fun(k:Nat) (h:k<64)=>za0 1 k (by omega)
 refine zac { glb:=axG,ann:=[(3,[3,4])] } true Tryd.func78 (by kernel_rfl) rfl ?_
 repeat' (
   (conv=>whnf)
   first
    |exact zad (by kernel_rfl)
    |refine And.intro ?_ ?_
    |refine zaa ?_ ?_
    |(refine⟨_,hd k (by(simp only[zz]at *;omega)),?_⟩;rintro v O' ⟨rfl,rfl⟩)
    |((refine⟨fun vs O _=>∃k:Nat,k<=64/\vs=[.cv (.str (zfp x k)),ai k]/\O=[],fun vs O=>match vs with |[_,.cv (.int _ k)]=>64 - k.toNat |_=>0,⟨0,Nat.zero_le _,rfl,rfl⟩,?_⟩;rintro vs O _ ⟨k,hk,rfl,rfl⟩))
    |intro _)
 all_goals try have hlk:=hl k (by omega)
 all_goals try have hk64:k<64:=by(simp only[zz]at *;omega)
 all_goals try have hgk:=hg k hk64
 all_goals try have hbt:=zzj hx hk64
 all_goals first
  |rfl
  |omega
  |(simp only[zz]at *;omega)
  |(show(zfp x k).length+1<=1000000;omega)
  |(show(zfp x k++[44]).length+(zbX k).length<=1000000;rw[ya1];simp only[ya7,yb2];omega)
  |(show(zfp x k).length+(zbX k).length<=1000000;omega)
  | (have hb:x.testBit k=true:=hbt.symm.trans (by assumption)
     refine⟨k+1,by omega,?_,rfl⟩;rw[zzr hb (by rename_i hz;simpa using hz)];rfl)
  | (have hb:x.testBit k=true:=hbt.symm.trans (by assumption)
     refine⟨k+1,by omega,?_,rfl⟩;rw[ztJ hb (by rename_i hz;simpa using hz)];rfl)
  | (have hb:x.testBit k=false:=hbt.symm.trans (by assumption)
     refine⟨k+1,by omega,?_,rfl⟩;rw[zyv hb];rfl)
  | (have he:k=64:=by(simp only[zz]at *;omega)
     subst he;rfl)
  | (have he:k=64:=by(simp only[zz]at *;omega)
     subst he;show 1+(zfp x 64).length<=1000000;omega)
  | (have he:k=64:=by(simp only[zz]at *;omega)
     subst he;show([123]++zfp x 64).length+1<=1000000;rw[ya1];simp only[ya7,yb2];omega)
end Go.Proofs.YtmgibblhcoimfaaDoor
