import Derived.Test.YtmgibblhcoimfaaDoorAc
set_option linter.unusedSimpArgs false
set_option linter.unusedVariables false
set_option maxRecDepth 100000
namespace Go.Proofs.YtmgibblhcoimfaaDoor
open Go Go.Cx
end Go.Proofs.YtmgibblhcoimfaaDoor
