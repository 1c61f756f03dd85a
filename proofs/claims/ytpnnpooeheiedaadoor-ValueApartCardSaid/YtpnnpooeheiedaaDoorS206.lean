/- A value that is lent; kept. -/
import Derived.Test.YtpnnpooeheiedaaDoorS205
import Derived.Test.YtpnnpooeheiedaaDoorS193
namespace Go.Proofs.YtpnnpooeheiedaaDoor
open Go.RowKit
set_option maxRecDepth 100000
set_option linter.unusedVariables false
set_option linter.unusedSimpArgs false
end Go.Proofs.YtpnnpooeheiedaaDoor
