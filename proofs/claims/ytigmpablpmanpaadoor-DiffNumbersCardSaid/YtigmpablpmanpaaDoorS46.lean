/- The bag: what is put into it; all its rows are looked at. -/
import Derived.Test.YtigmpablpmanpaaDoorS38
import Derived.Test.YtigmpablpmanpaaDoorS45
import Derived.Test.YtigmpablpmanpaaDoorVE
namespace Go.Proofs.YtigmpablpmanpaaDoor
open Go.RowKit
set_option maxRecDepth 100000
set_option linter.unusedVariables false
set_option linter.unusedSimpArgs false
end Go.Proofs.YtigmpablpmanpaaDoor
