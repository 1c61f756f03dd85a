/- Trees: the document's small functions. -/
import Derived.Test.YtfnahogjkgcklaaDoorS234
namespace Go.Proofs.YtfnahogjkgcklaaDoor
open Go.RowKit
set_option maxRecDepth 100000
set_option linter.unusedVariables false
set_option linter.unusedSimpArgs false
end Go.Proofs.YtfnahogjkgcklaaDoor
