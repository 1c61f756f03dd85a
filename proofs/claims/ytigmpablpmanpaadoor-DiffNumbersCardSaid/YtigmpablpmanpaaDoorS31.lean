/- Lists of texts that were lent: kept, and written over. -/
import Derived.Test.YtigmpablpmanpaaDoorS30
namespace Go.Proofs.YtigmpablpmanpaaDoor
open Go.RowKit
set_option maxRecDepth 100000
set_option linter.unusedVariables false
set_option linter.unusedSimpArgs false
end Go.Proofs.YtigmpablpmanpaaDoor
