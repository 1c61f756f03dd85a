/- The abstract code of functions, printed by a small program; each is what the function's body is turned into. -/
import Derived.Test.YtdjnccnecgblmaaDoorProg
import Derived.Test.YtdjnccnecgblmaaDoorVC
import Derived.KernelRfl
namespace Go.Proofs.YtdjnccnecgblmaaDoor
set_option maxRecDepth 1000000
def ic41 : IC := (.seq (.ops [iP 6 (.mv kF)]) (.seq (.seq (.ops [iM 10 0,iP 11 (xL 10),iM 12 1,iP 13 (xL 12),iP 14 (xB .neq 11 13)]) (.cond (.t 14) (.seq (.ops [iP 6 (.mv kF)]) .ret) .skip)) (.seq (.seq (.ops [iM 15 0,iP 16 (xL 15),iP 17 (xI 0)]) (.block 0 (.loop (.seq (.ops [iP 18 (xB .lss 17 16)]) (.seq (.cond (.t 18) .skip (.exit 0)) (.seq (.block 1 (.seq (.ops [iM 19 17,iP 20 (xA 4 15 17),iH 21 (yA 4 20),⟨(some 8),none,(.h (.alloc (.agg [(.sc (.int .u8 0)),(.sc (.string ⟨#[]⟩)),(.sc (.int .i64 0)),nlA]) 75))⟩,iM 7 19,iS 4 8 21]) (.seq (.ops [iM 22 1,iM 23 7,iP 24 (xA 4 22 23),iH 25 (yA 4 24),⟨(some 9),none,(.h (.alloc (.agg [(.sc (.int .u8 0)),(.sc (.string ⟨#[]⟩)),(.sc (.int .i64 0)),nlA]) 75))⟩,iS 4 9 25]) (.seq (.ops [iM 26 2,iH 27 (yA 4 8),iH 28 (yA 4 9),iH 29 (.callv (.t 26) [(.t 27),(.t 28)]),iP 30 (xN 29)]) (.cond (.t 30) (.seq (.ops [iP 6 (.mv kF)]) .ret) .skip))))) (.ops [iP 31 (.bin .add (.t 17) (kI 1)),iM 17 31]))))))) (.seq (.ops [iP 6 (.mv kT)]) .ret))))
theorem dk41 : Dk Tryd.prog 41 ic41 [(.t 6)] 32 := dk_of (fn := Tryd.f41) Tryd.func41 (by kernel_rfl) (by kernel_rfl) (by kernel_rfl)
end Go.Proofs.YtdjnccnecgblmaaDoor
