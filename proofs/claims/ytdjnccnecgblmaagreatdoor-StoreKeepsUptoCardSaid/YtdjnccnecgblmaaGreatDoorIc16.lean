import Derived.Test.YtdjnccnecgblmaaGreatDoorProg
import Derived.Test.YtdjnccnecgblmaaGreatDoorVC
import Derived.KernelRfl
namespace Go.Proofs.YtdjnccnecgblmaaGreatDoor
set_option maxRecDepth 1000000
def ic164 : IC:=(.seq (.ops [iP 4 (xI 0)]) (.seq (.ops [iM 5 0,iM 6 1,iH 7 (.gx .idxb [(.t 5),(.t 6)]),iM 4 7]) .ret))
theorem dk164 : Dk Tryz.prog 164 ic164 [(.t 4)] 8:=dk_of (fn:=Tryz.f164) Tryz.func164 (by kernel_rfl) (by kernel_rfl) (by kernel_rfl)
def ic107 : IC:=(.seq (.ops [iP 4 (.mv kF)]) (.seq (.ops [iM 5 0,iM 6 1,iH 7 (yC 165 5 6),iP 8 (.bin .geq (.t 7) (kI 0)),iM 4 8]) .ret))
theorem dk107 : Dk Tryz.prog 107 ic107 [(.t 4)] 9:=dk_of (fn:=Tryz.f107) Tryz.func107 (by kernel_rfl) (by kernel_rfl) (by kernel_rfl)
def ic165 : IC:=(.seq (.ops [iP 4 (xI 0)]) (.seq (.seq (.ops [iM 6 0,iP 7 (xL 6),iP 8 (xI 0)]) (.block 0 (.loop (.seq (.ops [iP 9 (xB .lss 8 7)]) (.seq (.cond (.t 9) .skip (.exit 0)) (.seq (.block 1 (.seq (.ops [iM 10 8,iM 5 10]) (.seq (.ops [iM 11 1,iM 12 0,iM 13 5,iP 14 (xA 1 12 13),iH 15 (yD 1 14),iH 16 (.callv (.t 11) [(.t 15)])]) (.cond (.t 16) (.seq (.ops [iM 17 5,iM 4 17]) .ret) .skip)))) (.ops [iP 18 (.bin .add (.t 8) (kI 1)),iM 8 18]))))))) (.seq (.ops [iP 4 (xI (-1))]) .ret)))
theorem dk165 : Dk Tryz.prog 165 ic165 [(.t 4)] 19:=dk_of (fn:=Tryz.f165) Tryz.func165 (by kernel_rfl) (by kernel_rfl) (by kernel_rfl)
end Go.Proofs.YtdjnccnecgblmaaGreatDoor
