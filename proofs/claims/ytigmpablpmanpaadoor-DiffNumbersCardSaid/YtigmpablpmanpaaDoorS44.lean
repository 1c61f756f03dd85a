/- Marks of hunks; hunks that are marked are the same. -/
import Derived.Test.YtigmpablpmanpaaDoorS43
import Derived.Test.YtigmpablpmanpaaDoorSB
import Derived.Test.YtigmpablpmanpaaDoorSM
namespace Go.Proofs.YtigmpablpmanpaaDoor
open Go.RowKit
set_option maxRecDepth 100000
set_option linter.unusedVariables false
set_option linter.unusedSimpArgs false
end Go.Proofs.YtigmpablpmanpaaDoor
