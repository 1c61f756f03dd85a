/- flatHunks: rows of hunks that lie apart are told so. -/
import Derived.Test.YtigmpablpmanpaaDoorS40
import Derived.Test.YtigmpablpmanpaaDoorS30
import Derived.Test.YtigmpablpmanpaaDoorIc6
import Derived.Test.YtigmpablpmanpaaDoorS44
namespace Go.Proofs.YtigmpablpmanpaaDoor
open Go.RowKit
set_option maxRecDepth 100000
set_option linter.unusedVariables false
set_option linter.unusedSimpArgs false
end Go.Proofs.YtigmpablpmanpaaDoor
