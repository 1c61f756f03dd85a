/- The document's Sorted. -/
import Derived.Test.YtijnpkpcoeeioaaGreatS33
import Derived.Test.YtijnpkpcoeeioaaGreatSB
namespace Go.Proofs.YtijnpkpcoeeioaaGreat
open Go.RowKit
set_option maxRecDepth 100000
set_option linter.unusedVariables false
set_option linter.unusedSimpArgs false

end Go.Proofs.YtijnpkpcoeeioaaGreat
