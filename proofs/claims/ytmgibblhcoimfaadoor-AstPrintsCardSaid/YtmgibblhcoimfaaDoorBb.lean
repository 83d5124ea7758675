import Derived.Test.YtmgibblhcoimfaaDoorBa
set_option linter.unusedSimpArgs false
set_option linter.unusedVariables false
set_option maxRecDepth 100000
namespace Go.Proofs.YtmgibblhcoimfaaDoor
open Go Go.Cx
theorem zfQ:∀a b:List Nat,zbi a b=zbi b a
 |[],[]=>rfl
 |[],_::_=>rfl
 |_::_,[]=>rfl
 |a::x,b::y=>by
  have h:Nat.beq (a%256) (b%256)=Nat.beq (b%256) (a%256):=by
   rw[Bool.eq_iff_iff,Nat.beq_eq,Nat.beq_eq];exact eq_comm
  unfold zbi;rw[h];cases Nat.beq (b%256) (a%256) with
  |false=>rfl
  |true=>exact zfQ x y
end Go.Proofs.YtmgibblhcoimfaaDoor
