/- The abstract code of functions, printed by a small program; each is what the function's body is turned into. -/
import Derived.Test.YtnjcbphapcbofaaProg
import Derived.Test.YtnjcbphapcbofaaVC
import Derived.KernelRfl
namespace Go.Proofs.Ytnjcbphapcbofaa
set_option maxRecDepth 1000000

def ic36 : IC := (.seq (.ops [iP 4 (xI 0)]) (.seq (.ops [iM 5 0,iM 6 1,iH 7 (yC 43 5 6),iM 4 7]) .ret))
theorem dk36 : Dk Try.prog 36 ic36 [(.t 4)] 8 := dk_of (fn := Try.f36) Try.func36 (by kernel_rfl) (by kernel_rfl) (by kernel_rfl)

end Go.Proofs.Ytnjcbphapcbofaa
