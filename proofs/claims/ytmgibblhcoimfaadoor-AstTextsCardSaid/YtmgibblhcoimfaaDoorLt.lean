import Derived.Test.YtmgibblhcoimfaaDoorAb
import Derived.Test.YtmgibblhcoimfaaDoorAz
import Derived.Test.YtmgibblhcoimfaaDoorPl
import Derived.Laws.Bits64b
set_option linter.unusedSimpArgs false
set_option linter.unusedVariables false
set_option maxRecDepth 100000
namespace Go.Proofs.YtmgibblhcoimfaaDoor
open Go Go.Cx
theorem zwd{R:RO}{e:DEnv}{x y:CV}{vs:List CV}(hx:zmC x=true)(hy:zmC y=true)(h:RepL R e [.cv x,.cv y] vs):vs=[x,y]:=by
 cases h with
 |cons h1 h2=>cases h2 with
  |cons h3 h4=>cases h4;cases h1;cases h3;rfl
theorem zyZ{R:RO}{e:DEnv}{x:CV}{vs:List CV}(h:RepL R e [.cv x] vs):vs=[x]:=by
 cases h with
 |cons h1 h2=>cases h2;cases h1;rfl
theorem ztM(x:Int)(h0 : -9223372036854775808<=x)(h1:x<=9223372036854775807):DSpec Tryd.prog axX axG 90 [ai x,ai 10] [] (fun v O=>v=.cv (.str (zhZ x))/\O=[]):=
 zg1 (g:=axIC) rfl (y:=.str (zhZ x)) (fun _ _=>.cv rfl) (fun R m xs hg hm hr=>by
  rw[zwd rfl rfl hr];show zBr _ m [.int .i64 x,.int .i64 10]=_;unfold zBr;simp only[h0,h1,decide_true,Bool.true_and,zpH hg hm axR_in];rfl) rfl
theorem zwp(x:Int)(h0:0<=x)(h1:x<=18446744073709551615):DSpec Tryd.prog axX axG 76 [au x,ai 10] [] (fun v O=>v=.cv (.str (zb2 x.toNat))/\O=[]):=
 zg1 (g:=axUC) rfl (y:=.str (zb2 x.toNat)) (fun _ _=>.cv rfl) (fun R m xs hg hm hr=>by
  rw[zwd rfl rfl hr];show zva _ m [.int .u64 x,.int .i64 10]=_;unfold zva;simp only[h0,h1,decide_true,Bool.true_and,zpH hg hm axR_in];rfl) rfl
theorem zDM(x:Int)(h0:0<x)(h1:x<=18446744073709551615):DSpec Tryd.prog axX axG 101 [au x] [] (fun v O=>v=ai (Lib.ctz 64 x.toNat:Nat)/\O=[]):=
 zg1 (g:=axZC) rfl (y:=.int .i64 (Lib.ctz 64 x.toNat:Nat)) (fun _ _=>.cv rfl) (fun R m xs hg hm hr=>by
  rw[zyZ hr];show tzC _ m [.int .u64 x]=_;unfold tzC;simp only[h0,h1,decide_true,Bool.true_and,zpH hg hm axB_in]) rfl
theorem zCG(x:Int)(h0 : -9223372036854775808<=x)(h1:x<=9223372036854775807):DSpec Tryd.prog axX axG 77 [ai x,ai 10] [] (fun v O=>v=.cv (.str (zhZ x))/\O=[]):=by
 refine zac { glb:=axG } true Tryd.func77 (by kernel_rfl) rfl ?_
 repeat' (
   (conv=>whnf)
   first
    |exact zaf (by kernel_rfl)
    |refine And.intro ?_ ?_
    |refine zaa ?_ ?_
    |(refine⟨_,ztM x h0 h1,?_⟩;rintro v O' ⟨rfl,rfl⟩)
    |intro _)
 all_goals first
  |rfl
theorem zBK(x:Int)(h0:0<=x)(h1:x<=18446744073709551615):DSpec Tryd.prog axX axG 49 [au x,ai 10] [] (fun v O=>v=.cv (.str (zb2 x.toNat))/\O=[]):=by
 refine zac { glb:=axG } true Tryd.func49 (by kernel_rfl) rfl ?_
 repeat' (
   (conv=>whnf)
   first
    |exact zaf (by kernel_rfl)
    |refine And.intro ?_ ?_
    |refine zaa ?_ ?_
    |(refine⟨_,zwp x h0 h1,?_⟩;rintro v O' ⟨rfl,rfl⟩)
    |intro _)
 all_goals first
  |rfl
theorem zx3(x:Int)(h0:0<=x)(h1:x<=99):DSpec Tryd.prog axX axG 80 [ai x] [] (fun v O=>v=.cv (.str (zb2 x.toNat))/\O=[]):=by
 rw[<- zc8 (show ¬x<0 by omega)];refine zac { glb:=axG } true Tryd.func80 (by kernel_rfl) rfl ?_
 repeat' (
   (conv=>whnf)
   first
    |exact zaf (by kernel_rfl)
    |refine And.intro ?_ ?_
    |refine zaa ?_ ?_
    |(refine⟨_,ztM x (by omega) (by omega),?_⟩;rintro v O' ⟨rfl,rfl⟩)
    |intro _)
 all_goals first
  |rfl
theorem znF(x:Int)(h0:0<=x)(h1:x<=99):DSpec Tryd.prog axX axG 59 [ai x] [] (fun v O=>v=.cv (.str (zb2 x.toNat))/\O=[]):=by
 refine zac { glb:=axG } true Tryd.func59 (by kernel_rfl) rfl ?_
 repeat' (
   (conv=>whnf)
   first
    |exact zaf (by kernel_rfl)
    |refine And.intro ?_ ?_
    |refine zaa ?_ ?_
    |(refine⟨_,zx3 x h0 h1,?_⟩;rintro v O' ⟨rfl,rfl⟩)
    |intro _)
 all_goals first
  |rfl
def zAE(x:Nat):Nat->Option (List SV):=fun n=>match(zaL x 64)[n]? with
 |some c=>some [ai (c:Nat)]
 |none=>none
theorem zv3{x n:Nat}{vs:List SV}(h:zAE x n=some vs):n<(zaL x 64).length/\vs=[ai ((zaL x 64).getD n default:Nat)]:=by
 unfold zAE at h;split at h
 ·rename_i c hc;cases h;refine⟨(List.getElem?_eq_some_iff.1 hc).1,?_⟩;rw[ya8,hc];rfl
 ·cases h
theorem zBf(x:Int):DSpec Tryd.prog axX axG 91 [au x] [] (fun v O=>v=.fn 100 [] [.ptr 0 0]/\O=[.cells 22 [au x]]):=by
 refine zac { glb:=axG } false Tryd.func91 (by kernel_rfl) rfl ?_
 repeat' (
   (conv=>whnf)
   first
    |exact zaf (by kernel_rfl)
    |refine And.intro ?_ ?_
    |refine zaa ?_ ?_
    |intro _)
 all_goals first
  |rfl
structure Left(x n y:Nat):Prop where
 lt:y<18446744073709551616
 len:n+(zaL y 64).length=(zaL x 64).length
 get:∀j:Nat,(zaL x 64)[n+j]? = (zaL y 64)[j]?
theorem Left.yields{x n y:Nat}(h:Left x n y)(h0:y≠0):zAE x n=some [ai (Lib.ctz 64 y:Nat)]:=by
 have:=h.get 0;rw[zlk h0 h.lt]at this;unfold zAE;rw[show n=n+0 by omega,this];rfl
theorem Left.next{x n y:Nat}(h:Left x n y)(h0:y≠0):Left x (n+1) (y&&&(y - 1)):=by
 have hb:=zlk h0 h.lt;refine⟨Nat.lt_of_le_of_lt Nat.and_le_left h.lt,?_,fun j=>?_⟩
 ·have:=h.len;rw[hb,ya7]at this;omega
 ·have:=h.get (j+1);rw[hb,yc6]at this;rw[<- this];congr 1;omega
theorem Left.last{x n:Nat}(h:Left x n 0):n=(zaL x 64).length:=by
 have:=h.len;rw[ztf rfl]at this;simpa using this
theorem Left.less{x n y:Nat}(h:Left x n y)(h0:y≠0):(zaL (y&&&(y - 1)) 64).length<(zaL y 64).length:=by
 rw[zlk h0 h.lt];simp
theorem zAb{a b:Nat}(ha:a<18446744073709551616)(hb:b<18446744073709551616):b2 .and .u64 (a:Int) (b:Int)=((a&&&b:Nat):Int):=bits_and_u64_nat a b ha hb
theorem zqV{y:Nat}(hy:y<18446744073709551616)(h0:y≠0):b2 .and .u64 (y:Int) ((y:Int) - 1)=((y&&&(y - 1):Nat):Int):=by
 rw[show(y:Int) - 1=((y - 1:Nat):Int)by omega,zAb hy (by omega)]
theorem zzk(x:Nat)(hx:x<18446744073709551616):DIterO Tryd.prog axX axG 100 (fun l=>[.cv (.yld l),.ptr 0 0]) [.cells 22 [au (x:Nat)]] (zAE x) (fun g v O=>v=.tup []/\(g.st=false->g.n=(zaL x 64).length)):=by
 refine zvo { glb:=axG,ann:=[(0,[])] } Tryd.func100 (by kernel_rfl) rfl fun l=>?_
 repeat' (
   (conv=>whnf)
   first
    |exact zaf (by kernel_rfl)
    |refine And.intro ?_ ?_
    |refine zaa ?_ ?_
    |((refine⟨fun vs O g=>∃(n y:Nat),Left x n y/\vs=[]/\O=[.cells 22 [au (y:Nat)]]/\g=⟨n,false⟩,fun vs O=>match O with |[.cells _ [.cv (.int _ y)]]=>(zaL y.toNat 64).length |_=>0,⟨0,x,⟨hx,by omega,fun j=>by rw[Nat.zero_add]⟩,rfl,rfl,rfl⟩,?_⟩;rintro vs O g ⟨n,y,hL,rfl,rfl,rfl⟩))
    |(refine⟨_,zDM (y:Nat) (by(simp only[zz]at *;omega)) (by have:=hL.lt;omega),?_⟩;rintro v O' ⟨rfl,rfl⟩)
    |intro _)
 all_goals try have hlt:=hL.lt
 all_goals first
  |rfl
  |omega
  |(simp only[zz]at *;omega)
  |(rename_i hh;cases hh;done)
  |exact hL.yields (by(simp only[zz]at *;omega))
  |exact⟨n+1,y&&&(y - 1),hL.next (by(simp only[zz]at *;omega)),rfl,by rw[zqV hlt (by(simp only[zz]at *;omega))],rfl⟩
  | (have h0:y≠0:=by(simp only[zz]at *;omega)
     have:=hL.less h0;show(zaL (b2 .and .u64 (y:Int) ((y:Int) - 1)).toNat 64).length+1<=(zaL (y:Int).toNat 64).length;rw[zqV hlt h0];exact this)
  | (have h0:y=0:=by(simp only[zz]at *;omega)
     subst h0;exact hL.last)
theorem zAA{x c:Nat}(h:c∈zaL x 64):c<64:=by
 unfold zaL at h;rw[List.mem_filter,List.mem_range]at h;exact h.1
@[reducible] def zC3 (s:List Nat):List SV:=[.cv (.str s)]
theorem zo5(x:Nat):(zaO [44] ((zaL x 64).map zb2)).length<=192:=by
 rw[<- zc1];exact zmc x 64 (by omega)
theorem zBR{l:List (List Nat)}{m:Nat}{el:Nat->List SV}(h:LElA zC3 l m el):∀i,i<m->el i=[.cv (.str (l.getD i default))]:=fun i hi=>h.2 i hi
theorem zlr{l:List (List Nat)}{m:Nat}{el:Nat->List SV}(h:LElA zC3 l m el):(List.range m).map (fun i=>l.getD i default)=l:=by
 rw[h.1];have:=zsN l (fun s=>s);simpa using this
theorem zhO{x j:Nat}(hj:j=(zaL x 64).length):((zaL x 64).map zb2).take j=(zaL x 64).map zb2:=by
 subst hj;rw[show(zaL x 64).length=((zaL x 64).map zb2).length by simp,List.take_length]
theorem zrd{x j:Nat}(hj:j<(zaL x 64).length):((zaL x 64).map zb2).take (j+1)=((zaL x 64).map zb2).take j++[zb2 ((zaL x 64).getD j default)]:=by
 rw[List.take_add_one,ya8,yb9,yb5 hj];rfl
set_option maxHeartbeats 1000000 in
theorem ztr(x:Nat)(hx:x<18446744073709551616):DSpec Tryd.prog axX axG 79 [au (x:Nat)] [] (fun v O=>v=.cv (.str (zmR x))/\O=[]):=by
 have hlen:∀c∈zaL x 64,c<64:=fun c hc=>zAA hc
 refine zac { glb:=axG } true Tryd.func79 (by kernel_rfl) rfl ?_
 repeat' (
   (conv=>whnf)
   first
    |exact zaf (by kernel_rfl)
    |refine And.intro ?_ ?_
    |refine zaa ?_ ?_
    |(refine⟨_,zBf (x:Nat),?_⟩;rintro v O' ⟨rfl,rfl⟩)
    |(refine⟨_,zAg rfl [44],?_⟩;rintro v O' ⟨rfl,rfl⟩)
    |(refine⟨_,zBF rfl m el (fun i=>(((zaL x 64).map zb2).take j).getD i default) (zBR hj) [44] (by omega) (by rw[zlr hj,zhO (hy.2 rfl)];have:=zo5 x;omega),?_⟩;rintro v O' ⟨rfl,rfl⟩)
    |((refine⟨zAE x,_,zzk x hx,fun j O=>(j=0/\O=[.cells 80 [.cv .nils]])\/(∃m el,0<j/\j<=(zaL x 64).length/\m<=64/\LElA zC3 (((zaL x 64).map zb2).take j) m el/\O=[.cells 80 [.lst 2],.dead,.list 9 1 m el]),.inl ⟨rfl,rfl⟩,?_,?_⟩;rintro j O' vs hj hy;obtain⟨hk,rfl⟩:=zv3 hy;obtain⟨hj,rfl⟩ |⟨m,el,hj0,hj1,hm,hj,rfl⟩:=hj;rotate_left;rotate_left;rintro j O' v Oz hj hy;obtain⟨hj,rfl⟩ |⟨m,el,hj0,hj1,hm,hj,rfl⟩:=hj))
    |(refine⟨_,znF ((zaL x 64).getD j default:Nat) (by omega) (by have:=hlen ((zaL x 64).getD j default) (zal hk);omega),?_⟩;rintro v O' ⟨rfl,rfl⟩)
    |intro _)
 all_goals first
  |rfl
  |omega
  |(simp only[zz]at *;omega)
  |decide
  | (refine congrArg (fun s=>SV.cv (CV.str s)) ?_
     have hz:zaL x 64=[]:=List.length_eq_zero_iff.1 (by have:=hy.2 rfl;simp only at this;omega);unfold zmR;rw[zc1,hz];rfl)
  | (show 1+(zaO [44] _).length<=1000000
     rw[zlr hj,zhO (hy.2 rfl)];have:=zo5 x;omega)
  | (show([123]++zaO [44] _).length+1<=1000000
     rw[zlr hj,zhO (hy.2 rfl),ya1];have:=zo5 x;simp only[ya7,yb2];omega)
  | (refine congrArg (fun s=>SV.cv (CV.str s)) ?_
     rw[zlr hj,zhO (hy.2 rfl),<- zc1];rfl)
  |exact .inr ⟨_,_,by omega,by omega,by decide,by subst hj;rw[zrd hk];exact LElA.one rfl rfl,rfl⟩
  |exact .inr ⟨_,_,by omega,by omega,by have:=hj.1;rw[List.length_take]at this;have:=zxn x 64;omega,by rw[zrd hk];exact LElA.snoc hj rfl rfl,rfl⟩
end Go.Proofs.YtmgibblhcoimfaaDoor
