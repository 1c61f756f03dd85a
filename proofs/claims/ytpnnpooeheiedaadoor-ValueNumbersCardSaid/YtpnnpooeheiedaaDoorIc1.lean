/- The abstract code of functions, printed by a small program; each is what the function's body is turned into. -/
import Derived.Test.YtpnnpooeheiedaaDoorProg
import Derived.Test.YtpnnpooeheiedaaDoorVC
import Derived.KernelRfl
namespace Go.Proofs.YtpnnpooeheiedaaDoor
set_option maxRecDepth 1000000
end Go.Proofs.YtpnnpooeheiedaaDoor
