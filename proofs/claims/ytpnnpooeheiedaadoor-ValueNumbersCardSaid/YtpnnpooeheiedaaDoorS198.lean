/- Values: what an operator tells of ints. -/
import Derived.Test.YtpnnpooeheiedaaDoorS197
namespace Go.Proofs.YtpnnpooeheiedaaDoor
open Go.RowKit
set_option maxRecDepth 100000
set_option linter.unusedVariables false
set_option linter.unusedSimpArgs false
end Go.Proofs.YtpnnpooeheiedaaDoor
