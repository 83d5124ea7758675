import Derived.Test.YtmgibblhcoimfaaDoorAa
import Derived.Lib.ItoaNum
set_option linter.unusedSimpArgs false
set_option linter.unusedVariables false
namespace Go.Proofs.YtmgibblhcoimfaaDoor
open Go Go.Cx
def zb2(n:Nat):List Nat:=(Lib.decDigits n).map UInt8.toNat
def zhZ(n:Int):List Nat:=(Lib.itoa n).map UInt8.toNat
theorem zqz{n:Nat}(h:n<10):(UInt8.ofNat (48+n)).toNat=48+n:=by
 have:(UInt8.ofNat (48+n)).toNat=(48+n)%256:=by simp
 rw[this];omega
theorem zgn{n:Nat}(h:n<10):zb2 n=[48+n]:=by
 unfold zb2;rw[Lib.decDigits,dif_pos h,List.map_cons,zqz h];rfl
theorem zgd{n:Nat}(h:¬n<10):zb2 n=zb2 (n / 10)++[48+n%10]:=by
 unfold zb2;rw[Lib.decDigits,dif_neg h,List.map_append,List.map_cons,zqz (Nat.mod_lt _ (by decide))];rfl
theorem zbM:∀(k n:Nat),n<10 ^ (k+1)->(zb2 n).length<=k+1
 |0,n,h=>by rw[zgn (by simpa using h)];simp
 |k+1,n,h=>by
  by_cases hn:n<10
  ·rw[zgn hn];simp
  ·rw[zgd hn,ya1];have:=zbM k (n / 10) (by rw[Nat.pow_succ]at h;omega);simp;omega
theorem zlP(n:Nat):1<=(zb2 n).length:=by
 by_cases hn:n<10
 ·rw[zgn hn];simp
 ·rw[zgd hn];simp
theorem zeL:∀(n:Nat),∀b∈zb2 n,48<=b/\b<=57:=by
 intro n
 induction n using Nat.strongRecOn with
 |_ n ih=>
  intro b hb;by_cases hn:n<10
  ·rw[zgn hn]at hb;simp at hb;omega
  ·rw[zgd hn]at hb;rcases List.mem_append.1 hb with hb |hb
   ·exact ih (n / 10) (by omega) b hb
   ·simp at hb;omega
theorem zdV{n:Int}(h:n<0):zhZ n=45::zb2 n.natAbs:=by
 unfold zhZ Lib.itoa;rw[if_pos h];rfl
theorem zc8{n:Int}(h:¬n<0):zhZ n=zb2 n.toNat:=by
 unfold zhZ Lib.itoa;rw[if_neg h];rfl
theorem zx5{n:Int}(h0 : -9223372036854775808<=n)(h1:n<=9223372036854775807):(zhZ n).length<=20:=by
 by_cases h:n<0
 ·rw[zdV h,ya7];have:=zbM 18 n.natAbs (by omega);omega
 ·rw[zc8 h];have:=zbM 18 n.toNat (by omega);omega
def zsY(x:Nat):Nat->List Nat
 |0=>[]
 |i+1=>bif x.testBit i then(match zsY x i with |[]=>[] |b::r=>(b::r)++[44])++zb2 i else zsY x i
def zmR(x:Nat):List Nat:=[123]++zsY x 64++[125]
theorem zmc(x:Nat):∀i,i<=100->(zsY x i).length<=3*i
 |0,_=>by simp[zsY]
 |i+1,h=>by
  have ih:=zmc x i (by omega);have hd:=zbM 1 i (by omega);unfold zsY;cases x.testBit i with
  |false=>simp only[cond_false];omega
  |true=>
   simp only[cond_true];cases hq:zsY x i with
   |nil=>simp;omega
   |cons b r=>
    rw[hq]at ih;simp only[ya1,ya7,yb2]at ih ⊢;omega
theorem zbH(x:Nat):(zmR x).length<=194:=by
 have:=zmc x 64 (by omega);unfold zmR;simp only[ya1,ya7,yb2];omega
def opT(n:Int):List Nat:=bif n==1 then[61]else bif n==2 then[33,61]else bif n==3 then[60]else bif n==4 then[60,61]else bif n==5 then[62] else[62,61]
theorem zzM(n:Int):(opT n).length<=2:=by
 unfold opT
 repeat' (first |(split;done) |skip)
 cases n==1<;>cases n==2<;>cases n==3<;>cases n==4<;>cases n==5<;>simp
def fnT(n:Int):List Nat:=bif n==1 then[99,111,117,110,116]else bif n==2 then[115,117,109]else bif n==3 then[109,105,110]else bif n==4 then[109,97,120]else bif n==5 then[102,105,114,115,116] else[108,97,115,116]
theorem zzJ(n:Int):(fnT n).length<=5:=by
 unfold fnT;cases n==1<;>cases n==2<;>cases n==3<;>cases n==4<;>cases n==5<;>simp
def zcf(c:CondM):List Nat:=opT c.op++zhZ c.val
def zcw(l:List CondM):Nat->List Nat
 |0=>[]
 |k+1=>zcw l k++(bif k==0 then[91] else[44])++zcf (l.getD k default)
def zsZ(a:AtomM):List Nat:=bif a.bnd then 64::zmR a.bound.toNat else[]
def zcC(l:List CondM):List Nat:=bif decide (l.length > 0)then zcw l l.length++[93] else[]
def zhA(s:List UInt8):List Nat:=match s with
 |[]=>[]
 |b::r=>58::nm (b::r)
def za4(a:AtomM):List Nat:=[65+a.kind.toNat]++zsZ a++zcC a.cs++zhA a.name
def zjf(n:NodeM):List Nat:=bif n.mn==1&&n.mx==1 then[] else[123]++zb2 n.mn.toNat++[44]++zb2 n.mx.toNat++[125]
def zAL(n m:NodeM):Bool:=m.kind==4||(m.kind==3&&n.kind==3)
def zeA(b:Bool)(t:List Nat):List Nat:=bif b then[40]++t++[41]else t
def zz0(n:NodeM):List Nat:=bif n.kind==3 then[32,59,32] else[32,124,32]
def zef(f:NodeM->List Nat)(n:NodeM):Nat->List Nat
 |0=>[]
 |k+1=>zef f n k++(bif k==0 then[]else zz0 n)++zeA (zAL n (atN n.kids k)) (f (atN n.kids k))
def zaJ:Nat->NodeM->List Nat
 |0,_=>[]
 |d+1,n=>bif n.kind==1 then za4 n.atom++zjf n
  else bif n.kind==2 then[110,111,116,32]++za4 n.atom
  else zef (zaJ d) n n.kids.length
def zkO(a:AggM):List Nat:=fnT a.fn++[40]++nm a.name++[41]
def zkS(l:List HaveM):Nat->List Nat
 |0=>[]
 |k+1=>zkS l k++(bif k==0 then[32,104,97,118,105,110,103,32] else[32,97,110,100,32])++zkO (l.getD k default).agg++[32]++zcf (l.getD k default).cond
def emP(l:List AggM):Nat->List Nat
 |0=>[]
 |k+1=>emP l k++(bif k==0 then[32,101,109,105,116,32] else[44,32])++zkO (l.getD k default)
end Go.Proofs.YtmgibblhcoimfaaDoor
