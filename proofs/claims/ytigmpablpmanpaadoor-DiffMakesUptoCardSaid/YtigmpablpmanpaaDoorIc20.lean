/- The abstract code of functions, printed by a small program; each is what the function's body is turned into. -/
import Derived.Test.YtigmpablpmanpaaDoorProg
import Derived.Test.YtigmpablpmanpaaDoorVC
import Derived.KernelRfl
namespace Go.Proofs.YtigmpablpmanpaaDoor
set_option maxRecDepth 1000000
def ic20 : IC := (.seq (.ops [iP 4 (xI 0)]) (.seq (.seq (.ops [iM 5 1,iP 6 (.bin .lss (.t 5) (kI 1))]) (.cond (.t 6) (.seq (.ops [iP 4 (xI 0)]) .ret) .skip)) (.seq (.ops [iM 7 0,iM 8 1,iP 9 (xB .rem 7 8),iM 0 9]) (.seq (.seq (.ops [iM 10 0,iP 11 (.bin .lss (.t 10) (kI 0))]) (.cond (.t 11) (.ops [iM 12 0,iM 13 1,iP 14 (xB .add 12 13),iM 0 14]) .skip)) (.seq (.ops [iM 15 0,iM 4 15]) .ret)))))
theorem dk20 : Dk Tryd.prog 20 ic20 [(.t 4)] 16 := dk_of (fn := Tryd.f20) Tryd.func20 (by kernel_rfl) (by kernel_rfl) (by kernel_rfl)
end Go.Proofs.YtigmpablpmanpaaDoor
