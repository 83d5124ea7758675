import Derived.Test.YtmgibblhcoimfaaDoorAa
import Derived.Lib.ItoaNum
set_option linter.unusedSimpArgs false
set_option linter.unusedVariables false
namespace Go.Proofs.YtmgibblhcoimfaaDoor
open Go Go.Cx
def zbX(n:Nat):List Nat:=(Lib.decDigits n).map UInt8.toNat
def zh5(n:Int):List Nat:=(Lib.itoa n).map UInt8.toNat
theorem zqJ{n:Nat}(h:n<10):(UInt8.ofNat (48+n)).toNat=48+n:=by
 have:(UInt8.ofNat (48+n)).toNat=(48+n)%256:=by simp
 rw[this];omega
theorem zf5{n:Nat}(h:n<10):zbX n=[48+n]:=by
 unfold zbX;rw[Lib.decDigits,dif_pos h,List.map_cons,zqJ h];rfl
theorem zfJ{n:Nat}(h:¬n<10):zbX n=zbX (n / 10)++[48+n%10]:=by
 unfold zbX;rw[Lib.decDigits,dif_neg h,List.map_append,List.map_cons,zqJ (Nat.mod_lt _ (by decide))];rfl
theorem za0:∀(k n:Nat),n<10 ^ (k+1)->(zbX n).length<=k+1
 |0,n,h=>by rw[zf5 (by simpa using h)];simp
 |k+1,n,h=>by
  by_cases hn:n<10
  ·rw[zf5 hn];simp
  ·rw[zfJ hn,ya1];have:=za0 k (n / 10) (by rw[Nat.pow_succ]at h;omega);simp;omega
theorem zwf(n:Nat):1<=(zbX n).length:=by
 by_cases hn:n<10
 ·rw[zf5 hn];simp
 ·rw[zfJ hn];simp
theorem zwe:∀(n:Nat),∀b∈zbX n,48<=b/\b<=57:=by
 intro n
 induction n using Nat.strongRecOn with
 |_ n ih=>
  intro b hb;by_cases hn:n<10
  ·rw[zf5 hn]at hb;simp at hb;omega
  ·rw[zfJ hn]at hb;rcases List.mem_append.1 hb with hb |hb
   ·exact ih (n / 10) (by omega) b hb
   ·simp at hb;omega
theorem zqU{n:Int}(h:n<0):zh5 n=45::zbX n.natAbs:=by
 unfold zh5 Lib.itoa;rw[if_pos h];rfl
theorem zk1{n:Int}(h:¬n<0):zh5 n=zbX n.toNat:=by
 unfold zh5 Lib.itoa;rw[if_neg h];rfl
theorem zkF{n:Int}(h0 : -9223372036854775808<=n)(h1:n<=9223372036854775807):(zh5 n).length<=20:=by
 by_cases h:n<0
 ·rw[zqU h,ya7];have:=za0 18 n.natAbs (by omega);omega
 ·rw[zk1 h];have:=za0 18 n.toNat (by omega);omega
def zfp(x:Nat):Nat->List Nat
 |0=>[]
 |i+1=>bif x.testBit i then(match zfp x i with |[]=>[] |b::r=>(b::r)++[44])++zbX i else zfp x i
def zpg(x:Nat):List Nat:=[123]++zfp x 64++[125]
theorem zhz(x:Nat):∀i,i<=100->(zfp x i).length<=3*i
 |0,_=>by simp[zfp]
 |i+1,h=>by
  have ih:=zhz x i (by omega);have hd:=za0 1 i (by omega);unfold zfp;cases x.testBit i with
  |false=>simp only[cond_false];omega
  |true=>
   simp only[cond_true];cases hq:zfp x i with
   |nil=>simp;omega
   |cons b r=>
    rw[hq]at ih;simp only[ya1,ya7,yb2]at ih ⊢;omega
theorem zbv(x:Nat):(zpg x).length<=194:=by
 have:=zhz x 64 (by omega);unfold zpg;simp only[ya1,ya7,yb2];omega
def opT(n:Int):List Nat:=bif n==1 then[61]else bif n==2 then[33,61]else bif n==3 then[60]else bif n==4 then[60,61]else bif n==5 then[62] else[62,61]
theorem zxu(n:Int):(opT n).length<=2:=by
 unfold opT
 repeat' (first |(split;done) |skip)
 cases n==1<;>cases n==2<;>cases n==3<;>cases n==4<;>cases n==5<;>simp
def fnT(n:Int):List Nat:=bif n==1 then[99,111,117,110,116]else bif n==2 then[115,117,109]else bif n==3 then[109,105,110]else bif n==4 then[109,97,120]else bif n==5 then[102,105,114,115,116] else[108,97,115,116]
theorem zx9(n:Int):(fnT n).length<=5:=by
 unfold fnT;cases n==1<;>cases n==2<;>cases n==3<;>cases n==4<;>cases n==5<;>simp
def zdz(c:CondM):List Nat:=opT c.op++zh5 c.val
def zbm(l:List CondM):Nat->List Nat
 |0=>[]
 |k+1=>zbm l k++(bif k==0 then[91] else[44])++zdz (l.getD k default)
def zo0(a:AtomM):List Nat:=bif a.bnd then 64::zpg a.bound.toNat else[]
def zh1(l:List CondM):List Nat:=bif decide (l.length > 0)then zbm l l.length++[93] else[]
def ztS(s:List UInt8):List Nat:=match s with
 |[]=>[]
 |b::r=>58::nm (b::r)
def zcq(a:AtomM):List Nat:=[65+a.kind.toNat]++zo0 a++zh1 a.cs++ztS a.name
def ztC(n:NodeM):List Nat:=bif n.mn==1&&n.mx==1 then[] else[123]++zbX n.mn.toNat++[44]++zbX n.mx.toNat++[125]
def zoC(n m:NodeM):Bool:=m.kind==4||(m.kind==3&&n.kind==3)
def zjl(b:Bool)(t:List Nat):List Nat:=bif b then[40]++t++[41]else t
def zrO(n:NodeM):List Nat:=bif n.kind==3 then[32,59,32] else[32,124,32]
def zeP(f:NodeM->List Nat)(n:NodeM):Nat->List Nat
 |0=>[]
 |k+1=>zeP f n k++(bif k==0 then[]else zrO n)++zjl (zoC n (atN n.kids k)) (f (atN n.kids k))
def za3:Nat->NodeM->List Nat
 |0,_=>[]
 |d+1,n=>bif n.kind==1 then zcq n.atom++ztC n
  else bif n.kind==2 then[110,111,116,32]++zcq n.atom
  else zeP (za3 d) n n.kids.length
def zoQ(a:AggM):List Nat:=fnT a.fn++[40]++nm a.name++[41]
def zmI(l:List HaveM):Nat->List Nat
 |0=>[]
 |k+1=>zmI l k++(bif k==0 then[32,104,97,118,105,110,103,32] else[32,97,110,100,32])++zoQ (l.getD k default).agg++[32]++zdz (l.getD k default).cond
def emP(l:List AggM):Nat->List Nat
 |0=>[]
 |k+1=>emP l k++(bif k==0 then[32,101,109,105,116,32] else[44,32])++zoQ (l.getD k default)
end Go.Proofs.YtmgibblhcoimfaaDoor
