import Derived.Test.YteaemnicofpbeaaGreatDoorAa
import Derived.Lib.ItoaNum
set_option linter.unusedSimpArgs false
set_option linter.unusedVariables false
namespace Go.Proofs.YteaemnicofpbeaaGreatDoor
open Go Go.Cx
def zeT(n:Nat):List Nat:=(Lib.decDigits n).map UInt8.toNat
def zwV(n:Int):List Nat:=(Lib.itoa n).map UInt8.toNat
theorem zor{n:Nat}(h:n<10):(UInt8.ofNat (48+n)).toNat=48+n:=by
 have:(UInt8.ofNat (48+n)).toNat=(48+n)%256:=by simp
 rw[this];omega
theorem zgQ{n:Nat}(h:n<10):zeT n=[48+n]:=by
 unfold zeT;rw[Lib.decDigits,dif_pos h,List.map_cons,zor h];rfl
theorem zlr{n:Nat}(h:¬n<10):zeT n=zeT (n / 10)++[48+n%10]:=by
 unfold zeT;rw[Lib.decDigits,dif_neg h,List.map_append,List.map_cons,zor (Nat.mod_lt _ (by decide))];rfl
theorem zcX:∀(k n:Nat),n<10 ^ (k+1)->(zeT n).length<=k+1
 |0,n,h=>by rw[zgQ (by simpa using h)];simp
 |k+1,n,h=>by
  by_cases hn:n<10
  ·rw[zgQ hn];simp
  ·rw[zlr hn,ya1];have:=zcX k (n / 10) (by rw[Nat.pow_succ]at h;omega);simp;omega
theorem ztg{n:Int}(h:¬n<0):zwV n=zeT n.toNat:=by
 unfold zwV Lib.itoa;rw[if_neg h];rfl
end Go.Proofs.YteaemnicofpbeaaGreatDoor
