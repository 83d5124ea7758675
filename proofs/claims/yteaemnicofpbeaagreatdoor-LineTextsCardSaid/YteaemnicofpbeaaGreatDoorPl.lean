import Derived.Test.YteaemnicofpbeaaGreatDoorPa
import Derived.Test.YteaemnicofpbeaaGreatDoorSf
set_option linter.unusedSimpArgs false
set_option linter.unusedVariables false
set_option maxRecDepth 100000
namespace Go.Proofs.YteaemnicofpbeaaGreatDoor
open Go Go.Cx
def zkx(x i:Nat):List Nat:=(List.range i).filter fun j=>x.testBit j
theorem ztB{x:Nat}(h0:x≠0)(h:x<2 ^ 64):Lib.ctz 64 x<64/\x.testBit (Lib.ctz 64 x)=true/\(∀i,i<Lib.ctz 64 x->x.testBit i=false)/\∀i,(x&&&(x - 1)).testBit i=(x.testBit i&&decide (i≠Lib.ctz 64 x)):=by
 obtain⟨m,hm,hk⟩:=Lib.ctzFrom_spec 64 x (by omega) h;have e:Lib.ctz 64 x=Lib.ctzFrom 64 x:=by simp[Lib.ctz,h0]
 rw[e];generalize Lib.ctzFrom 64 x=k at *;have hb:∀i,x.testBit i=(decide (k<=i)&&(2*m+1).testBit (i - k)):=fun i=>by
  rw[hm,Nat.mul_comm,Nat.testBit_mul_two_pow]
 have hp:0<2 ^ k:=Nat.two_pow_pos k;have hx1:x - 1=2 ^ k*(2*m)+(2 ^ k - 1):=by
  rw[hm,Nat.mul_add,Nat.mul_one];omega
 have hb1:∀i,(x - 1).testBit i=if i<k then(2 ^ k - 1).testBit i else(2*m).testBit (i - k):=fun i=>by
  rw[hx1,Nat.testBit_two_pow_mul_add _ (by omega)]
 refine⟨hk,by rw[hb k];simp,fun i hi=>by rw[hb i,decide_eq_false (by omega)];rfl,fun i=>?_⟩;rw[Nat.testBit_and,hb1 i,hb i];rcases Nat.lt_trichotomy i k with hi |hi |hi
 ·rw[decide_eq_false (show ¬k<=i by omega)];simp
 ·subst hi;simp
 ·rw[if_neg (by omega),decide_eq_true (show i≠k by omega)];obtain⟨j,rfl⟩:∃j,i=k+(j+1):=⟨i - k - 1,by omega⟩
  rw[show k+(j+1) - k=j+1 by omega,Nat.testBit_succ,Nat.testBit_succ,show(2*m+1) / 2=m by omega,show 2*m / 2=m by omega];simp
theorem zsw{k n:Nat}(h:k<n):List.range n=List.range k++k::List.range' (k+1) (n - k - 1):=by
 obtain⟨d,rfl⟩:∃d,n=k+(d+1):=⟨n - k - 1,by omega⟩
 rw[List.range_eq_range',List.range_eq_range',<- List.range'_append_1,Nat.zero_add,List.range'_succ,show k+(d+1) - k - 1=d by omega]
theorem ztm{x:Nat}(h0:x≠0)(h:x<2 ^ 64):zkx x 64=Lib.ctz 64 x::zkx (x&&&(x - 1)) 64:=by
 obtain⟨h1,h2,h3,h4⟩:=ztB h0 h;generalize Lib.ctz 64 x=k at *;unfold zkx;rw[zsw h1,List.filter_append,List.filter_append,List.filter_cons,List.filter_cons,h2,h4 k];have e1:(List.range k).filter (fun j=>x.testBit j)=[]:=List.filter_eq_nil_iff.2 fun i hi=>by rw[h3 i (List.mem_range.1 hi)];decide
 have e2:(List.range k).filter (fun j=>(x&&&(x - 1)).testBit j)=[]:=List.filter_eq_nil_iff.2 fun i hi=>by rw[h4,h3 i (List.mem_range.1 hi)];simp
 have e3:(List.range' (k+1) (64 - k - 1)).filter (fun j=>(x&&&(x - 1)).testBit j)=(List.range' (k+1) (64 - k - 1)).filter (fun j=>x.testBit j):=List.filter_congr fun i hi=>by
  have:=(List.mem_range'_1.1 hi).1;rw[h4,decide_eq_true (show i≠k by omega),Bool.and_true]
 rw[e1,e2,e3];simp
theorem zqy{x:Nat}(h:x=0):zkx x 64=[]:=by subst h;decide +kernel
end Go.Proofs.YteaemnicofpbeaaGreatDoor
