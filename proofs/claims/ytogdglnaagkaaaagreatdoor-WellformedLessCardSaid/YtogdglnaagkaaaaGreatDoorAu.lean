import Derived.Test.YtogdglnaagkaaaaGreatDoorAb
import Derived.Test.YtogdglnaagkaaaaGreatDoorGh
set_option linter.unusedSimpArgs false
set_option linter.unusedVariables false
set_option maxRecDepth 100000
namespace Go.Proofs.YtogdglnaagkaaaaGreatDoor
open Go Go.Cx
section
variable{H:Type}{P:Program}{n:Nat}{t:TypeId}{d:DataW H}
end
variable{H:Type}
end Go.Proofs.YtogdglnaagkaaaaGreatDoor
