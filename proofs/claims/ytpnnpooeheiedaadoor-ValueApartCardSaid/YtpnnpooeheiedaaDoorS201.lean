/- law11.ValueRing: the walk (under way: its first test). -/
import Derived.Test.YtpnnpooeheiedaaDoorS200
namespace Go.Proofs.YtpnnpooeheiedaaDoor
open Go.RowKit
set_option maxRecDepth 100000
set_option linter.unusedVariables false
set_option linter.unusedSimpArgs false
end Go.Proofs.YtpnnpooeheiedaaDoor
