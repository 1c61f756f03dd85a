/- The abstract code of functions, printed by a small program; each is what the function's body is turned into. -/
import Derived.Test.YtfnahogjkgcklaaDoorProg
import Derived.Test.YtfnahogjkgcklaaDoorVC
import Derived.KernelRfl
namespace Go.Proofs.YtfnahogjkgcklaaDoor
set_option maxRecDepth 1000000
def ic57 : IC := (.seq (.ops [iP 4 (xI 0)]) (.seq (.ops [iM 5 0,iP 6 (.bin .add (.t 5) (kI 7)),iP 7 (.bin .mul (kI 1000003) (.t 6)),iM 8 1,iP 9 (xB .add 7 8),iM 4 9]) .ret))
theorem dk57 : Dk Tryd.prog 57 ic57 [(.t 4)] 10 := dk_of (fn := Tryd.f57) Tryd.func57 (by kernel_rfl) (by kernel_rfl) (by kernel_rfl)
end Go.Proofs.YtfnahogjkgcklaaDoor
