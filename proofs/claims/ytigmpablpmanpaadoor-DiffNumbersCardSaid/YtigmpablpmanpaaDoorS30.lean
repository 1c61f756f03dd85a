/- Marks; lists of texts that are lent. -/
import Derived.Test.YtigmpablpmanpaaDoorSA
import Derived.Test.YtigmpablpmanpaaDoorIc4
import Derived.Test.YtigmpablpmanpaaDoorVE
namespace Go.Proofs.YtigmpablpmanpaaDoor
open Go.RowKit
set_option maxRecDepth 100000
set_option linter.unusedVariables false
set_option linter.unusedSimpArgs false
end Go.Proofs.YtigmpablpmanpaaDoor
