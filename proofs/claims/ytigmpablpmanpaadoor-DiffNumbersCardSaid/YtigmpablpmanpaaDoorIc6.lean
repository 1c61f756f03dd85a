/- The abstract code of functions, printed by a small program; each is what the function's body is turned into. -/
import Derived.Test.YtigmpablpmanpaaDoorProg
import Derived.Test.YtigmpablpmanpaaDoorVC
import Derived.KernelRfl
namespace Go.Proofs.YtigmpablpmanpaaDoor
set_option maxRecDepth 1000000
end Go.Proofs.YtigmpablpmanpaaDoor
