/- The document's line, and lines. -/
import Derived.Test.YtigmpablpmanpaaDoorSA
import Derived.Test.YtigmpablpmanpaaDoorIc3
namespace Go.Proofs.YtigmpablpmanpaaDoor
open Go.RowKit
set_option maxRecDepth 100000
set_option linter.unusedVariables false
set_option linter.unusedSimpArgs false
end Go.Proofs.YtigmpablpmanpaaDoor
