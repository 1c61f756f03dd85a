/- The document's Sorted. -/
import Derived.Test.YtigmpablpmanpaaDoorS33
import Derived.Test.YtigmpablpmanpaaDoorSB
namespace Go.Proofs.YtigmpablpmanpaaDoor
open Go.RowKit
set_option maxRecDepth 100000
set_option linter.unusedVariables false
set_option linter.unusedSimpArgs false
end Go.Proofs.YtigmpablpmanpaaDoor
