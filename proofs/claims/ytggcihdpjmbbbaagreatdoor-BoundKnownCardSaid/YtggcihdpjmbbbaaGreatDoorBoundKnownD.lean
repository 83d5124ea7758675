/-
  BoundKnown: the states between its parts. Conditions: none.
-/
import Derived.Test.YtggcihdpjmbbbaaGreatDoorCu
import Derived.Test.YtggcihdpjmbbbaaGreatDoorChecked
import Derived.Test.YtggcihdpjmbbbaaGreatDoorCv
import Derived.KernelRfl
set_option linter.unusedSimpArgs false
set_option linter.unusedVariables false
namespace Go.Proofs.YtggcihdpjmbbbaaGreatDoor
open Go Go.Cx Go.RowKit
noncomputable def kn_c0 : Code := match Tryz.f3.body with | some c => c | none => .skip
noncomputable def kn_t1 : List (Nat × CV) := [(0, .bool true)]
noncomputable def kn_o1 : List (Nat × CO) := []
end Go.Proofs.YtggcihdpjmbbbaaGreatDoor
