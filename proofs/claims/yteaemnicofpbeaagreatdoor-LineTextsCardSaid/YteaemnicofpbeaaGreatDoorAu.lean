import Derived.Test.YteaemnicofpbeaaGreatDoorAb
import Derived.Test.YteaemnicofpbeaaGreatDoorGh
set_option linter.unusedSimpArgs false
set_option linter.unusedVariables false
set_option maxRecDepth 100000
namespace Go.Proofs.YteaemnicofpbeaaGreatDoor
open Go Go.Cx
section
variable{H:Type}{P:Program}{n:Nat}{t:TypeId}{d:DataW H}
end
variable{H:Type}
end Go.Proofs.YteaemnicofpbeaaGreatDoor
