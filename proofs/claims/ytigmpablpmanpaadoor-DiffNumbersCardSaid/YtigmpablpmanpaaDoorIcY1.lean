/- The abstract code of functions that range over functions, and of the rounds, printed by a small program; each is what the function's body is turned into. -/
import Derived.Test.YtigmpablpmanpaaDoorProg
import Derived.Test.YtigmpablpmanpaaDoorVE
import Derived.KernelRfl
namespace Go.Proofs.YtigmpablpmanpaaDoor
set_option maxRecDepth 1000000
end Go.Proofs.YtigmpablpmanpaaDoor
