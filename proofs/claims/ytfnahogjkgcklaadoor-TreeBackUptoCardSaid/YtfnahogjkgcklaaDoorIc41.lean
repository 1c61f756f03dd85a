/- The abstract code of functions, printed by a small program; each is what the function's body is turned into. -/
import Derived.Test.YtfnahogjkgcklaaDoorProg
import Derived.Test.YtfnahogjkgcklaaDoorVC
import Derived.KernelRfl
namespace Go.Proofs.YtfnahogjkgcklaaDoor
set_option maxRecDepth 1000000
end Go.Proofs.YtfnahogjkgcklaaDoor
