/- The abstract code of functions, printed by a small program; each is what the function's body is turned into. -/
import Derived.Test.YtljajanjjcdelaaGreatProg
import Derived.Test.YtljajanjjcdelaaGreatVC
import Derived.KernelRfl
namespace Go.Proofs.YtljajanjjcdelaaGreat
set_option maxRecDepth 1000000
def ic78 : IC := (.seq (.ops [iP 4 (xI 0)]) (.seq (.ops [iM 5 0,iM 6 1,iH 7 (yC 110 5 6),iM 4 7]) .ret))
theorem dk78 : Dk Tryz.prog 78 ic78 [(.t 4)] 8 := dk_of (fn := Tryz.f78) Tryz.func78 (by kernel_rfl) (by kernel_rfl) (by kernel_rfl)
end Go.Proofs.YtljajanjjcdelaaGreat
