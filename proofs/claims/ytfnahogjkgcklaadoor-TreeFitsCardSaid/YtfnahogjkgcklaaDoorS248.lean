/- How many there are: the document's; as far as is asked. -/
import Derived.Test.YtfnahogjkgcklaaDoorS247
namespace Go.Proofs.YtfnahogjkgcklaaDoor
open Go.RowKit
set_option maxRecDepth 100000
set_option linter.unusedVariables false
set_option linter.unusedSimpArgs false
/- Nodes, each eight bytes of a text one, as far as is asked. -/
end Go.Proofs.YtfnahogjkgcklaaDoor
