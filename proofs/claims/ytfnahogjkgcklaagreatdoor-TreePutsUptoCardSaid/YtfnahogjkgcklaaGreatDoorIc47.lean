import Derived.Test.YtfnahogjkgcklaaGreatDoorProg
import Derived.Test.YtfnahogjkgcklaaGreatDoorVC
import Derived.KernelRfl
namespace Go.Proofs.YtfnahogjkgcklaaGreatDoor
set_option maxRecDepth 1000000
def ic13 : IC:=(.seq (.ops [iP 2 (.mv kF)]) (.seq (.ops [iP 5 (.build [nlA,nlA,nlA,nlA,nlA,nlA,nlA,nlA,nlA,nlA,nlA,nlA,nlA,nlA,nlA,nlA,nlA,nlA,nlA,nlA,nlA] []),iH 6 (.box 21 75 (.t 5)),iM 3 6]) (.seq (.seq (.ops [iP 4 (xI 0)]) (.block 0 (.loop (.seq (.seq (.ops [iM 7 4,iM 8 0,iP 9 (xL 8),iP 10 (xB .lss 7 9)]) (.cond (.t 10) .skip (.exit 0))) (.seq (.block 1 (.ops [iM 13 3,iM 14 0,iM 15 4,iP 16 (xA 1 14 15),iH 17 (yD 1 16),iH 18 (yC 27 13 17)])) (.ops [iM 11 4,iP 12 (.bin .add (.t 11) (kI 1)),iM 4 12])))))) (.seq (.ops [iM 19 3,iH 20 (.call 28 [(.t 19)]),iM 2 20]) .ret))))
theorem dk13 : Dk Tryz.prog 13 ic13 [(.t 2)] 21:=dk_of (fn:=Tryz.f13) Tryz.func13 (by kernel_rfl) (by kernel_rfl) (by kernel_rfl)
def ic27 : IC:=(.seq (.ops [iM 5 0,iM 6 0,iP 7 (.nilck (.t 6)),iP 8 (.faddr 9 (.t 7)),iH 9 (yD 1 8),iM 10 1,iH 11 (.bsl 1 23 nlA 1 [(0,(.t 10))]),iH 12 (.app 1 23 (.t 9) (.t 11)),iP 13 (.nilck (.t 5)),iP 14 (.faddr 9 (.t 13)),iS 1 14 12]) (.seq (.ops [iP 4 (xI 0)]) (.block 0 (.loop (.seq (.seq (.ops [iM 15 4,iM 16 1,iP 17 (xL 16),iP 18 (xB .lss 15 17)]) (.cond (.t 18) .skip (.exit 0))) (.seq (.block 1 (.ops [iM 21 0,iM 22 1,iM 23 4,iP 24 (xA 4 22 23),iH 25 (yA 4 24),iH 26 (yC 44 21 25)])) (.ops [iM 19 4,iP 20 (.bin .add (.t 19) (kI 1)),iM 4 20])))))))
theorem dk27 : Dk Tryz.prog 27 ic27 [] 27:=dk_of (fn:=Tryz.f27) Tryz.func27 (by kernel_rfl) (by kernel_rfl) (by kernel_rfl)
def ic44 : IC:=(.seq (.ops [iH 3 (.box 4 25 (.t 1))]) (.ops [iM 4 0,iP 5 (.faddr 3 (.t 3)),iH 6 (yD 1 5),iH 7 (yC 27 4 6)]))
theorem dk44 : Dk Tryz.prog 44 ic44 [] 8:=dk_of (fn:=Tryz.f44) Tryz.func44 (by kernel_rfl) (by kernel_rfl) (by kernel_rfl)
end Go.Proofs.YtfnahogjkgcklaaGreatDoor
