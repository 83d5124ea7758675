import Derived.Test.YtogdglnaagkaaaaGreatDoorAa
import Derived.Lib.ItoaNum
import Derived.Test.YtogdglnaagkaaaaGreatDoorGs
import Derived.Test.YtogdglnaagkaaaaGreatDoorAb
import Derived.Test.YtogdglnaagkaaaaGreatDoorAz
import Derived.Laws.Bits64b
set_option linter.unusedSimpArgs false
set_option linter.unusedVariables false
namespace Go.Proofs.YtogdglnaagkaaaaGreatDoor
open Go Go.Cx
def zd4(n:Nat):List Nat:=(Lib.decDigits n).map UInt8.toNat
def znr(n:Int):List Nat:=(Lib.itoa n).map UInt8.toNat
theorem zsA{n:Nat}(h:n<10):(UInt8.ofNat (48+n)).toNat=48+n:=by
 have:(UInt8.ofNat (48+n)).toNat=(48+n)%256:=by simp
 rw[this];omega
theorem ziy{n:Nat}(h:n<10):zd4 n=[48+n]:=by
 unfold zd4;rw[Lib.decDigits,dif_pos h,List.map_cons,zsA h];rfl
theorem zi7{n:Nat}(h:¬n<10):zd4 n=zd4 (n / 10)++[48+n%10]:=by
 unfold zd4;rw[Lib.decDigits,dif_neg h,List.map_append,List.map_cons,zsA (Nat.mod_lt _ (by decide))];rfl
theorem zbU:∀(k n:Nat),n<10 ^ (k+1)->(zd4 n).length<=k+1
 |0,n,h=>by rw[ziy (by simpa using h)];simp
 |k+1,n,h=>by
  by_cases hn:n<10
  ·rw[ziy hn];simp
  ·rw[zi7 hn,ya1];have:=zbU k (n / 10) (by rw[Nat.pow_succ]at h;omega);simp;omega
theorem zyM(n:Nat):1<=(zd4 n).length:=by
 by_cases hn:n<10
 ·rw[ziy hn];simp
 ·rw[zi7 hn];simp
theorem zyJ:∀(n:Nat),∀b∈zd4 n,48<=b/\b<=57:=by
 intro n
 induction n using Nat.strongRecOn with
 |_ n ih=>
  intro b hb;by_cases hn:n<10
  ·rw[ziy hn]at hb;simp at hb;omega
  ·rw[zi7 hn]at hb;rcases List.mem_append.1 hb with hb |hb
   ·exact ih (n / 10) (by omega) b hb
   ·simp at hb;omega
theorem zy7{n:Int}(h:n<0):znr n=45::zd4 n.natAbs:=by
 unfold znr Lib.itoa;rw[if_pos h];rfl
theorem zsC{n:Int}(h:¬n<0):znr n=zd4 n.toNat:=by
 unfold znr Lib.itoa;rw[if_neg h];rfl
theorem zxs{n:Int}(h0 : -9223372036854775808<=n)(h1:n<=9223372036854775807):(znr n).length<=20:=by
 by_cases h:n<0
 ·rw[zy7 h,ya7];have:=zbU 18 n.natAbs (by omega);omega
 ·rw[zsC h];have:=zbU 18 n.toNat (by omega);omega
def ztL(x:Nat):Nat->List Nat
 |0=>[]
 |i+1=>bif x.testBit i then(match ztL x i with |[]=>[] |b::r=>(b::r)++[44])++zd4 i else ztL x i
def zwQ(x:Nat):List Nat:=[123]++ztL x 64++[125]
theorem zmv(x:Nat):∀i,i<=100->(ztL x i).length<=3*i
 |0,_=>by simp[ztL]
 |i+1,h=>by
  have ih:=zmv x i (by omega);have hd:=zbU 1 i (by omega);unfold ztL;cases x.testBit i with
  |false=>simp only[cond_false];omega
  |true=>
   simp only[cond_true];cases hq:ztL x i with
   |nil=>simp;omega
   |cons b r=>
    rw[hq]at ih;simp only[ya1,ya7,yb2]at ih ⊢;omega
theorem zbS(x:Nat):(zwQ x).length<=194:=by
 have:=zmv x 64 (by omega);unfold zwQ;simp only[ya1,ya7,yb2];omega
def opT(n:Int):List Nat:=bif n==1 then[61]else bif n==2 then[33,61]else bif n==3 then[60]else bif n==4 then[60,61]else bif n==5 then[62] else[62,61]
theorem zBM(n:Int):(opT n).length<=2:=by
 unfold opT
 repeat' (first |(split;done) |skip)
 cases n==1<;>cases n==2<;>cases n==3<;>cases n==4<;>cases n==5<;>simp
def fnT(n:Int):List Nat:=bif n==1 then[99,111,117,110,116]else bif n==2 then[115,117,109]else bif n==3 then[109,105,110]else bif n==4 then[109,97,120]else bif n==5 then[102,105,114,115,116] else[108,97,115,116]
theorem zBL(n:Int):(fnT n).length<=5:=by
 unfold fnT;cases n==1<;>cases n==2<;>cases n==3<;>cases n==4<;>cases n==5<;>simp
def zgP(c:CondM):List Nat:=opT c.op++znr c.val
def zdg(l:List CondM):Nat->List Nat
 |0=>[]
 |k+1=>zdg l k++(bif k==0 then[91] else[44])++zgP (l.getD k default)
def zxL(a:AtomM):List Nat:=bif a.bnd then 64::zwQ a.bound.toNat else[]
def zjR(l:List CondM):List Nat:=bif decide (l.length > 0)then zdg l l.length++[93] else[]
def zvF(s:List UInt8):List Nat:=match s with
 |[]=>[]
 |b::r=>58::nm (b::r)
def zex(a:AtomM):List Nat:=[65+a.kind.toNat]++zxL a++zjR a.cs++zvF a.name
def zxh(n:NodeM):List Nat:=bif n.mn==1&&n.mx==1 then[] else[123]++zd4 n.mn.toNat++[44]++zd4 n.mx.toNat++[125]
def zCb(n m:NodeM):Bool:=m.kind==4||(m.kind==3&&n.kind==3)
def zkt(b:Bool)(t:List Nat):List Nat:=bif b then[40]++t++[41]else t
def zBC(n:NodeM):List Nat:=bif n.kind==3 then[32,59,32] else[32,124,32]
def zkp(f:NodeM->List Nat)(n:NodeM):Nat->List Nat
 |0=>[]
 |k+1=>zkp f n k++(bif k==0 then[]else zBC n)++zkt (zCb n (atN n.kids k)) (f (atN n.kids k))
def zcZ:Nat->NodeM->List Nat
 |0,_=>[]
 |d+1,n=>bif n.kind==1 then zex n.atom++zxh n
  else bif n.kind==2 then[110,111,116,32]++zex n.atom
  else zkp (zcZ d) n n.kids.length
def zxk(a:AggM):List Nat:=fnT a.fn++[40]++nm a.name++[41]
def zvt(l:List HaveM):Nat->List Nat
 |0=>[]
 |k+1=>zvt l k++(bif k==0 then[32,104,97,118,105,110,103,32] else[32,97,110,100,32])++zxk (l.getD k default).agg++[32]++zgP (l.getD k default).cond
def emP(l:List AggM):Nat->List Nat
 |0=>[]
 |k+1=>emP l k++(bif k==0 then[32,101,109,105,116,32] else[44,32])++zxk (l.getD k default)
end Go.Proofs.YtogdglnaagkaaaaGreatDoor
set_option maxRecDepth 100000
namespace Go.Proofs.YtogdglnaagkaaaaGreatDoor
open Go Go.Cx
def zbe(x i:Nat):List Nat:=(List.range i).filter fun j=>x.testBit j
theorem zt0(x i:Nat):zbe x (i+1)=zbe x i++(if x.testBit i then[i] else[]):=by
 unfold zbe;rw[List.range_succ,List.filter_append];congr 1;cases h:x.testBit i<;>simp[h]
theorem zyq{sep:List Nat}{a:List Nat}{r:List (List Nat)}(ha:a≠[]):zdr sep (a::r)≠[]:=by
 cases r with
 |nil=>exact ha
 |cons b r=>
  unfold zdr;intro h;exact ha (List.append_eq_nil_iff.1 h).1
theorem zlz(sep:List Nat):∀(l:List (List Nat)) (d:List Nat),l≠[]->zdr sep (l++[d])=zdr sep l++(sep++d)
 |[],_,h=>absurd rfl h
 |[a],d,_=>rfl
 |a::b::r,d,_=>by
  have ih:=zlz sep (b::r) d (by simp);show a++(sep++zdr sep ((b::r)++[d]))=a++(sep++zdr sep (b::r))++(sep++d);rw[ih];simp only[yc1]
theorem zgt(x:Nat):∀i,ztL x i=zdr [44] ((zbe x i).map zd4)
 |0=>rfl
 |i+1=>by
  rw[zt0,ztL,zgt x i];cases x.testBit i with
  |false=>simp
  |true=>
   simp only[cond_true,if_true,List.map_append,List.map_cons,List.map_nil];cases hb:zbe x i with
   |nil=>simp[zdr]
   |cons a r=>
    have hne:zdr [44] ((a::r).map zd4)≠[]:=zyq (by have:=zyM a;intro h;rw[h]at this;simp at this);rw[zlz _ _ _ (by simp)];cases hj:zdr [44] ((a::r).map zd4) with
    |nil=>exact absurd hj hne
    |cons b s=>simp
theorem zx3{x:Nat}(h0:x≠0)(h:x<2 ^ 64):Lib.ctz 64 x<64/\x.testBit (Lib.ctz 64 x)=true/\(∀i,i<Lib.ctz 64 x->x.testBit i=false)/\∀i,(x&&&(x - 1)).testBit i=(x.testBit i&&decide (i≠Lib.ctz 64 x)):=by
 obtain⟨m,hm,hk⟩:=Lib.ctzFrom_spec 64 x (by omega) h;have e:Lib.ctz 64 x=Lib.ctzFrom 64 x:=by simp[Lib.ctz,h0]
 rw[e];generalize Lib.ctzFrom 64 x=k at *;have hb:∀i,x.testBit i=(decide (k<=i)&&(2*m+1).testBit (i - k)):=fun i=>by
  rw[hm,Nat.mul_comm,Nat.testBit_mul_two_pow]
 have hp:0<2 ^ k:=Nat.two_pow_pos k;have hx1:x - 1=2 ^ k*(2*m)+(2 ^ k - 1):=by
  rw[hm,Nat.mul_add,Nat.mul_one];omega
 have hb1:∀i,(x - 1).testBit i=if i<k then(2 ^ k - 1).testBit i else(2*m).testBit (i - k):=fun i=>by
  rw[hx1,Nat.testBit_two_pow_mul_add _ (by omega)]
 refine⟨hk,by rw[hb k];simp,fun i hi=>by rw[hb i,decide_eq_false (by omega)];rfl,fun i=>?_⟩;rw[Nat.testBit_and,hb1 i,hb i];rcases Nat.lt_trichotomy i k with hi |hi |hi
 ·rw[decide_eq_false (show ¬k<=i by omega)];simp
 ·subst hi;simp
 ·rw[if_neg (by omega),decide_eq_true (show i≠k by omega)];obtain⟨j,rfl⟩:∃j,i=k+(j+1):=⟨i - k - 1,by omega⟩
  rw[show k+(j+1) - k=j+1 by omega,Nat.testBit_succ,Nat.testBit_succ,show(2*m+1) / 2=m by omega,show 2*m / 2=m by omega];simp
theorem zw6{k n:Nat}(h:k<n):List.range n=List.range k++k::List.range' (k+1) (n - k - 1):=by
 obtain⟨d,rfl⟩:∃d,n=k+(d+1):=⟨n - k - 1,by omega⟩
 rw[List.range_eq_range',List.range_eq_range',<- List.range'_append_1,Nat.zero_add,List.range'_succ,show k+(d+1) - k - 1=d by omega]
theorem zmC{x:Nat}(h0:x≠0)(h:x<2 ^ 64):zbe x 64=Lib.ctz 64 x::zbe (x&&&(x - 1)) 64:=by
 obtain⟨h1,h2,h3,h4⟩:=zx3 h0 h;generalize Lib.ctz 64 x=k at *;unfold zbe;rw[zw6 h1,List.filter_append,List.filter_append,List.filter_cons,List.filter_cons,h2,h4 k];have e1:(List.range k).filter (fun j=>x.testBit j)=[]:=List.filter_eq_nil_iff.2 fun i hi=>by rw[h3 i (List.mem_range.1 hi)];decide
 have e2:(List.range k).filter (fun j=>(x&&&(x - 1)).testBit j)=[]:=List.filter_eq_nil_iff.2 fun i hi=>by rw[h4,h3 i (List.mem_range.1 hi)];simp
 have e3:(List.range' (k+1) (64 - k - 1)).filter (fun j=>(x&&&(x - 1)).testBit j)=(List.range' (k+1) (64 - k - 1)).filter (fun j=>x.testBit j):=List.filter_congr fun i hi=>by
  have:=(List.mem_range'_1.1 hi).1;rw[h4,decide_eq_true (show i≠k by omega),Bool.and_true]
 rw[e1,e2,e3];simp
theorem ztZ{x:Nat}(h:x=0):zbe x 64=[]:=by subst h;decide +kernel
theorem zxS(x i:Nat):(zbe x i).length<=i:=by
 unfold zbe;have:=List.length_filter_le (fun j=>x.testBit j) (List.range i);simpa using this
end Go.Proofs.YtogdglnaagkaaaaGreatDoor
set_option maxRecDepth 100000
namespace Go.Proofs.YtogdglnaagkaaaaGreatDoor
open Go Go.Cx
theorem zwi{R:RO}{e:DEnv}{x y:CV}{vs:List CV}(hx:zl6 x=true)(hy:zl6 y=true)(h:RepL R e [.cv x,.cv y] vs):vs=[x,y]:=by
 cases h with
 |cons h1 h2=>cases h2 with
  |cons h3 h4=>cases h4;cases h1;cases h3;rfl
theorem zAw{R:RO}{e:DEnv}{x:CV}{vs:List CV}(h:RepL R e [.cv x] vs):vs=[x]:=by
 cases h with
 |cons h1 h2=>cases h2;cases h1;rfl
theorem zvn(x:Int)(h0 : -9223372036854775808<=x)(h1:x<=9223372036854775807):DSpec Tryz.prog axX axG 99 [ai x,ai 10] [] (fun v O=>v=.cv (.str (znr x))/\O=[]):=
 zfm (g:=axIC) rfl (y:=.str (znr x)) (fun _ _=>.cv rfl) (fun R m xs hg hm hr=>by
  rw[zwi rfl rfl hr];show zDe _ m [.int .i64 x,.int .i64 10]=_;unfold zDe;simp only[h0,h1,decide_true,Bool.true_and,zmA hg hm axR_in];rfl) rfl
theorem zxo(x:Int)(h0:0<=x)(h1:x<=18446744073709551615):DSpec Tryz.prog axX axG 79 [au x,ai 10] [] (fun v O=>v=.cv (.str (zd4 x.toNat))/\O=[]):=
 zfm (g:=axUC) rfl (y:=.str (zd4 x.toNat)) (fun _ _=>.cv rfl) (fun R m xs hg hm hr=>by
  rw[zwi rfl rfl hr];show zvR _ m [.int .u64 x,.int .i64 10]=_;unfold zvR;simp only[h0,h1,decide_true,Bool.true_and,zmA hg hm axR_in];rfl) rfl
theorem zFG(x:Int)(h0:0<x)(h1:x<=18446744073709551615):DSpec Tryz.prog axX axG 116 [au x] [] (fun v O=>v=ai (Lib.ctz 64 x.toNat:Nat)/\O=[]):=
 zfm (g:=axZC) rfl (y:=.int .i64 (Lib.ctz 64 x.toNat:Nat)) (fun _ _=>.cv rfl) (fun R m xs hg hm hr=>by
  rw[zAw hr];show tzC _ m [.int .u64 x]=_;unfold tzC;simp only[h0,h1,decide_true,Bool.true_and,zmA hg hm axB_in]) rfl
theorem zEr(x:Int)(h0 : -9223372036854775808<=x)(h1:x<=9223372036854775807):DSpec Tryz.prog axX axG 80 [ai x,ai 10] [] (fun v O=>v=.cv (.str (znr x))/\O=[]):=by
 refine zac { glb:=axG } true Tryz.func80 (by kernel_rfl) rfl ?_
 repeat' (
   (conv=>whnf)
   first
    |exact zad (by kernel_rfl)
    |refine And.intro ?_ ?_
    |refine zaa ?_ ?_
    |(refine⟨_,zvn x h0 h1,?_⟩;rintro v O' ⟨rfl,rfl⟩)
    |intro _)
 all_goals first
  |rfl
theorem zC1(x:Int)(h0:0<=x)(h1:x<=18446744073709551615):DSpec Tryz.prog axX axG 55 [au x,ai 10] [] (fun v O=>v=.cv (.str (zd4 x.toNat))/\O=[]):=by
 refine zac { glb:=axG } true Tryz.func55 (by kernel_rfl) rfl ?_
 repeat' (
   (conv=>whnf)
   first
    |exact zad (by kernel_rfl)
    |refine And.intro ?_ ?_
    |refine zaa ?_ ?_
    |(refine⟨_,zxo x h0 h1,?_⟩;rintro v O' ⟨rfl,rfl⟩)
    |intro _)
 all_goals first
  |rfl
theorem zxV(x:Int)(h0:0<=x)(h1:x<=99):DSpec Tryz.prog axX axG 93 [ai x] [] (fun v O=>v=.cv (.str (zd4 x.toNat))/\O=[]):=by
 rw[<- zsC (show ¬x<0 by omega)];refine zac { glb:=axG } true Tryz.func93 (by kernel_rfl) rfl ?_
 repeat' (
   (conv=>whnf)
   first
    |exact zad (by kernel_rfl)
    |refine And.intro ?_ ?_
    |refine zaa ?_ ?_
    |(refine⟨_,zvn x (by omega) (by omega),?_⟩;rintro v O' ⟨rfl,rfl⟩)
    |intro _)
 all_goals first
  |rfl
theorem zoy(x:Int)(h0:0<=x)(h1:x<=99):DSpec Tryz.prog axX axG 74 [ai x] [] (fun v O=>v=.cv (.str (zd4 x.toNat))/\O=[]):=by
 refine zac { glb:=axG } true Tryz.func74 (by kernel_rfl) rfl ?_
 repeat' (
   (conv=>whnf)
   first
    |exact zad (by kernel_rfl)
    |refine And.intro ?_ ?_
    |refine zaa ?_ ?_
    |(refine⟨_,zxV x h0 h1,?_⟩;rintro v O' ⟨rfl,rfl⟩)
    |intro _)
 all_goals first
  |rfl
def zCo(x:Nat):Nat->Option (List SV):=fun n=>match(zbe x 64)[n]? with
 |some c=>some [ai (c:Nat)]
 |none=>none
theorem zt1{x n:Nat}{vs:List SV}(h:zCo x n=some vs):n<(zbe x 64).length/\vs=[ai ((zbe x 64).getD n default:Nat)]:=by
 unfold zCo at h;split at h
 ·rename_i c hc;cases h;refine⟨(List.getElem?_eq_some_iff.1 hc).1,?_⟩;rw[ya8,hc];rfl
 ·cases h
theorem zDE(x:Int):DSpec Tryz.prog axX axG 106 [au x] [] (fun v O=>v=.fn 115 [] [.ptr 0 0]/\O=[.cells 24 [au x]]):=by
 refine zac { glb:=axG } false Tryz.func106 (by kernel_rfl) rfl ?_
 repeat' (
   (conv=>whnf)
   first
    |exact zad (by kernel_rfl)
    |refine And.intro ?_ ?_
    |refine zaa ?_ ?_
    |intro _)
 all_goals first
  |rfl
structure Left(x n y:Nat):Prop where
 lt:y<18446744073709551616
 len:n+(zbe y 64).length=(zbe x 64).length
 get:∀j:Nat,(zbe x 64)[n+j]? = (zbe y 64)[j]?
theorem Left.yields{x n y:Nat}(h:Left x n y)(h0:y≠0):zCo x n=some [ai (Lib.ctz 64 y:Nat)]:=by
 have:=h.get 0;rw[zmC h0 h.lt]at this;unfold zCo;rw[show n=n+0 by omega,this];rfl
theorem Left.next{x n y:Nat}(h:Left x n y)(h0:y≠0):Left x (n+1) (y&&&(y - 1)):=by
 have hb:=zmC h0 h.lt;refine⟨Nat.lt_of_le_of_lt Nat.and_le_left h.lt,?_,fun j=>?_⟩
 ·have:=h.len;rw[hb,ya7]at this;omega
 ·have:=h.get (j+1);rw[hb,yc6]at this;rw[<- this];congr 1;omega
theorem Left.last{x n:Nat}(h:Left x n 0):n=(zbe x 64).length:=by
 have:=h.len;rw[ztZ rfl]at this;simpa using this
theorem Left.less{x n y:Nat}(h:Left x n y)(h0:y≠0):(zbe (y&&&(y - 1)) 64).length<(zbe y 64).length:=by
 rw[zmC h0 h.lt];simp
theorem zBn{a b:Nat}(ha:a<18446744073709551616)(hb:b<18446744073709551616):b2 .and .u64 (a:Int) (b:Int)=((a&&&b:Nat):Int):=bits_and_u64_nat a b ha hb
theorem zsy{y:Nat}(hy:y<18446744073709551616)(h0:y≠0):b2 .and .u64 (y:Int) ((y:Int) - 1)=((y&&&(y - 1):Nat):Int):=by
 rw[show(y:Int) - 1=((y - 1:Nat):Int)by omega,zBn hy (by omega)]
theorem zAg(x:Nat)(hx:x<18446744073709551616):DIterO Tryz.prog axX axG 115 (fun l=>[.cv (.yld l),.ptr 0 0]) [.cells 24 [au (x:Nat)]] (zCo x) (fun g v O=>v=.tup []/\(g.st=false->g.n=(zbe x 64).length)):=by
 refine zwn { glb:=axG,ann:=[(0,[])] } Tryz.func115 (by kernel_rfl) rfl fun l=>?_
 repeat' (
   (conv=>whnf)
   first
    |exact zad (by kernel_rfl)
    |refine And.intro ?_ ?_
    |refine zaa ?_ ?_
    |((refine⟨fun vs O g=>∃(n y:Nat),Left x n y/\vs=[]/\O=[.cells 24 [au (y:Nat)]]/\g=⟨n,false⟩,fun vs O=>match O with |[.cells _ [.cv (.int _ y)]]=>(zbe y.toNat 64).length |_=>0,⟨0,x,⟨hx,by omega,fun j=>by rw[Nat.zero_add]⟩,rfl,rfl,rfl⟩,?_⟩;rintro vs O g ⟨n,y,hL,rfl,rfl,rfl⟩))
    |(refine⟨_,zFG (y:Nat) (by(simp only[zz]at *;omega)) (by have:=hL.lt;omega),?_⟩;rintro v O' ⟨rfl,rfl⟩)
    |intro _)
 all_goals try have hlt:=hL.lt
 all_goals first
  |rfl
  |omega
  |(simp only[zz]at *;omega)
  |(rename_i hh;cases hh;done)
  |exact hL.yields (by(simp only[zz]at *;omega))
  |exact⟨n+1,y&&&(y - 1),hL.next (by(simp only[zz]at *;omega)),rfl,by rw[zsy hlt (by(simp only[zz]at *;omega))],rfl⟩
  | (have h0:y≠0:=by(simp only[zz]at *;omega)
     have:=hL.less h0;show(zbe (b2 .and .u64 (y:Int) ((y:Int) - 1)).toNat 64).length+1<=(zbe (y:Int).toNat 64).length;rw[zsy hlt h0];exact this)
  | (have h0:y=0:=by(simp only[zz]at *;omega)
     subst h0;exact hL.last)
theorem zB5{x c:Nat}(h:c∈zbe x 64):c<64:=by
 unfold zbe at h;rw[List.mem_filter,List.mem_range]at h;exact h.1
@[reducible] def zFm (s:List Nat):List SV:=[.cv (.str s)]
theorem zqJ(x:Nat):(zdr [44] ((zbe x 64).map zd4)).length<=192:=by
 rw[<- zgt];exact zmv x 64 (by omega)
theorem zDS{l:List (List Nat)}{m:Nat}{el:Nat->List SV}(h:LElA zFm l m el):∀i,i<m->el i=[.cv (.str (l.getD i default))]:=fun i hi=>h.2 i hi
theorem zmf{l:List (List Nat)}{m:Nat}{el:Nat->List SV}(h:LElA zFm l m el):(List.range m).map (fun i=>l.getD i default)=l:=by
 rw[h.1];have:=zsJ l (fun s=>s);simpa using this
theorem ziD{x j:Nat}(hj:j=(zbe x 64).length):((zbe x 64).map zd4).take j=(zbe x 64).map zd4:=by
 subst hj;rw[show(zbe x 64).length=((zbe x 64).map zd4).length by simp,List.take_length]
theorem zrN{x j:Nat}(hj:j<(zbe x 64).length):((zbe x 64).map zd4).take (j+1)=((zbe x 64).map zd4).take j++[zd4 ((zbe x 64).getD j default)]:=by
 rw[List.take_add_one,ya8,yb9,yb5 hj];rfl
set_option maxHeartbeats 1000000 in
theorem zvV(x:Nat)(hx:x<18446744073709551616):DSpec Tryz.prog axX axG 92 [au (x:Nat)] [] (fun v O=>v=.cv (.str (zwQ x))/\O=[]):=by
 have hlen:∀c∈zbe x 64,c<64:=fun c hc=>zB5 hc
 refine zac { glb:=axG } true Tryz.func92 (by kernel_rfl) rfl ?_
 repeat' (
   (conv=>whnf)
   first
    |exact zad (by kernel_rfl)
    |refine And.intro ?_ ?_
    |refine zaa ?_ ?_
    |(refine⟨_,zDE (x:Nat),?_⟩;rintro v O' ⟨rfl,rfl⟩)
    |(refine⟨_,zAz rfl [44],?_⟩;rintro v O' ⟨rfl,rfl⟩)
    |(refine⟨_,zDf rfl m el (fun i=>(((zbe x 64).map zd4).take j).getD i default) (zDS hj) [44] (by omega) (by rw[zmf hj,ziD (hy.2 rfl)];have:=zqJ x;omega),?_⟩;rintro v O' ⟨rfl,rfl⟩)
    |((refine⟨zCo x,_,zAg x hx,fun j O=>(j=0/\O=[.cells 40 [.cv .nils]])\/(∃m el,0<j/\j<=(zbe x 64).length/\m<=64/\LElA zFm (((zbe x 64).map zd4).take j) m el/\O=[.cells 40 [.lst 2],.dead,.list 9 1 m el]),.inl ⟨rfl,rfl⟩,?_,?_⟩;rintro j O' vs hj hy;obtain⟨hk,rfl⟩:=zt1 hy;obtain⟨hj,rfl⟩ |⟨m,el,hj0,hj1,hm,hj,rfl⟩:=hj;rotate_left;rotate_left;rintro j O' v Oz hj hy;obtain⟨hj,rfl⟩ |⟨m,el,hj0,hj1,hm,hj,rfl⟩:=hj))
    |(refine⟨_,zoy ((zbe x 64).getD j default:Nat) (by omega) (by have:=hlen ((zbe x 64).getD j default) (zak hk);omega),?_⟩;rintro v O' ⟨rfl,rfl⟩)
    |intro _)
 all_goals first
  |rfl
  |omega
  |(simp only[zz]at *;omega)
  |decide
  | (refine congrArg (fun s=>SV.cv (CV.str s)) ?_
     have hz:zbe x 64=[]:=List.length_eq_zero_iff.1 (by have:=hy.2 rfl;simp only at this;omega);unfold zwQ;rw[zgt,hz];rfl)
  | (show 1+(zdr [44] _).length<=1000000
     rw[zmf hj,ziD (hy.2 rfl)];have:=zqJ x;omega)
  | (show([123]++zdr [44] _).length+1<=1000000
     rw[zmf hj,ziD (hy.2 rfl),ya1];have:=zqJ x;simp only[ya7,yb2];omega)
  | (refine congrArg (fun s=>SV.cv (CV.str s)) ?_
     rw[zmf hj,ziD (hy.2 rfl),<- zgt];rfl)
  |exact .inr ⟨_,_,by omega,by omega,by decide,by subst hj;rw[zrN hk];exact LElA.one rfl rfl,rfl⟩
  |exact .inr ⟨_,_,by omega,by omega,by have:=hj.1;rw[List.length_take]at this;have:=zxS x 64;omega,by rw[zrN hk];exact LElA.snoc hj rfl rfl,rfl⟩
end Go.Proofs.YtogdglnaagkaaaaGreatDoor
