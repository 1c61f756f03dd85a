/- strings.Clone; a text's lines, gone through. -/
import Derived.Test.YtigmpablpmanpaaDoorS119
import Derived.Test.YtigmpablpmanpaaDoorVE
import Derived.Test.YtigmpablpmanpaaDoorIc20
import Derived.Test.YtigmpablpmanpaaDoorIcY1
namespace Go.Proofs.YtigmpablpmanpaaDoor
open Go.RowKit
set_option maxRecDepth 100000
set_option linter.unusedVariables false
set_option linter.unusedSimpArgs false
end Go.Proofs.YtigmpablpmanpaaDoor
