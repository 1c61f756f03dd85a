/- The abstract code of functions, printed by a small program; each is what the function's body is turned into. -/
import Derived.Test.YtdjnccnecgblmaaDoorProg
import Derived.Test.YtdjnccnecgblmaaDoorVC
import Derived.KernelRfl
namespace Go.Proofs.YtdjnccnecgblmaaDoor
set_option maxRecDepth 1000000
def ic40 : IC := (.seq (.ops [iP 4 (.mv kF)]) (.seq (.seq (.ops [iM 6 0,iP 7 (xL 6),iM 8 1,iP 9 (xL 8),iP 10 (xB .neq 7 9)]) (.cond (.t 10) (.seq (.ops [iP 4 (.mv kF)]) .ret) .skip)) (.seq (.seq (.ops [iM 11 0,iP 12 (xL 11),iP 13 (xI 0)]) (.block 0 (.loop (.seq (.ops [iP 14 (xB .lss 13 12)]) (.seq (.cond (.t 14) .skip (.exit 0)) (.seq (.block 1 (.seq (.ops [iM 15 13,iM 5 15]) (.seq (.dops [iM 16 0,iM 17 5,iP 18 (xA 1 16 17),iH 19 (yD 1 18),iM 20 1,iM 21 5,iP 22 (xA 1 20 21),iH 23 (yD 1 22),iP 24 (xB .neq 19 23)] [[],[],[0,1],[2,0,1],[],[],[4,5],[6,4,5],[3,2,0,1,7,6,4,5]]) (.cond (.t 24) (.seq (.ops [iP 4 (.mv kF)]) .ret) .skip)))) (.ops [iP 25 (.bin .add (.t 13) (kI 1)),iM 13 25]))))))) (.seq (.ops [iP 4 (.mv kT)]) .ret))))
theorem dk40 : Dk Tryd.prog 40 ic40 [(.t 4)] 26 := dk_of (fn := Tryd.f40) Tryd.func40 (by kernel_rfl) (by kernel_rfl) (by kernel_rfl)
end Go.Proofs.YtdjnccnecgblmaaDoor
