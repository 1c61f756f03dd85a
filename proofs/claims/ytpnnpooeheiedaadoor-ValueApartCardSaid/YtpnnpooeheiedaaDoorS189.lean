/- Values: what is reckoned of two ints by the document. -/
import Derived.Test.YtpnnpooeheiedaaDoorS188
namespace Go.Proofs.YtpnnpooeheiedaaDoor
open Go.RowKit
set_option maxRecDepth 100000
set_option linter.unusedVariables false
set_option linter.unusedSimpArgs false
end Go.Proofs.YtpnnpooeheiedaaDoor
