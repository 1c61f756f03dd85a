import Derived.Test.YtdjnccnecgblmaaGreatDoorProg
import Derived.Test.YtdjnccnecgblmaaGreatDoorVC
import Derived.KernelRfl
namespace Go.Proofs.YtdjnccnecgblmaaGreatDoor
set_option maxRecDepth 1000000
def ic99 : IC:=(.seq (.ops [iP 4 (.mv kF)]) (.seq (.seq (.ops [iM 6 0,iP 7 (xL 6),iM 8 1,iP 9 (xL 8),iP 10 (xB .neq 7 9)]) (.cond (.t 10) (.seq (.ops [iP 4 (.mv kF)]) .ret) .skip)) (.seq (.seq (.ops [iM 11 0,iP 12 (xL 11),iP 13 (xI 0)]) (.block 0 (.loop (.seq (.ops [iP 14 (xB .lss 13 12)]) (.seq (.cond (.t 14) .skip (.exit 0)) (.seq (.block 1 (.seq (.ops [iM 15 13,iM 5 15]) (.seq (.dops [iM 16 0,iM 17 5,iP 18 (xA 1 16 17),iH 19 (yD 1 18),iM 20 1,iM 21 5,iP 22 (xA 1 20 21),iH 23 (yD 1 22),iP 24 (xB .neq 19 23)] [[],[],[0,1],[2,0,1],[],[],[4,5],[6,4,5],[3,2,0,1,7,6,4,5]]) (.cond (.t 24) (.seq (.ops [iP 4 (.mv kF)]) .ret) .skip)))) (.ops [iP 25 (.bin .add (.t 13) (kI 1)),iM 13 25]))))))) (.seq (.ops [iP 4 (.mv kT)]) .ret))))
theorem dk99 : Dk Tryz.prog 99 ic99 [(.t 4)] 26:=dk_of (fn:=Tryz.f99) Tryz.func99 (by kernel_rfl) (by kernel_rfl) (by kernel_rfl)
def ic188 : IC:=(.seq (.ops [iP 2 (.mv (.k nlA))]) (.seq (.seq (.ops [iM 3 0,iP 4 (.nilS .true (.t 3))]) (.cond (.t 4) (.seq (.ops [iP 2 (.mv (.k nlA))]) .ret) .skip)) (.seq (.ops [iH 5 (.bsl 1 3 (.sc (.int .i64 0)) 0 []),iM 6 0,iH 7 (.app 1 3 (.t 5) (.t 6)),iM 2 7]) .ret)))
theorem dk188 : Dk Tryz.prog 188 ic188 [(.t 2)] 8:=dk_of (fn:=Tryz.f188) Tryz.func188 (by kernel_rfl) (by kernel_rfl) (by kernel_rfl)
end Go.Proofs.YtdjnccnecgblmaaGreatDoor
