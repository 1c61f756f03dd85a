/- The abstract code of functions, printed by a small program; each is what the function's body is turned into. -/
import Derived.Test.YtnjcbphapcbofaaProg
import Derived.Test.YtnjcbphapcbofaaVC
import Derived.KernelRfl
namespace Go.Proofs.Ytnjcbphapcbofaa
set_option maxRecDepth 1000000

def ic28 : IC := (.seq (.ops [⟨(some 4),none,(.p (.mv (.k (.sc (.string ⟨#[]⟩)))))⟩]) (.seq (.ops [iM 5 0,iP 6 (.conv .u8 (.t 5)),iM 7 0,iP 8 (.shf .shr (.t 7) (.k (.sc (.int .u64 8)))),iP 9 (.conv .u8 (.t 8)),iM 10 0,iP 11 (.shf .shr (.t 10) (.k (.sc (.int .u64 16)))),iP 12 (.conv .u8 (.t 11)),iM 13 1,iP 14 (.conv .u8 (.t 13)),iM 15 1,iP 16 (.shf .shr (.t 15) (.k (.sc (.int .u64 8)))),iP 17 (.conv .u8 (.t 16)),iM 18 1,iP 19 (.shf .shr (.t 18) (.k (.sc (.int .u64 16)))),iP 20 (.conv .u8 (.t 19)),iH 21 (.bsl 1 5 (.sc (.int .u8 0)) 8 [(0,(.k (.sc (.int .u8 35)))),(1,(.t 6)),(2,(.t 9)),(3,(.t 12)),(4,(.k (.sc (.int .u8 47)))),(5,(.t 14)),(6,(.t 17)),(7,(.t 20))]),iP 22 (.convB (.t 21)),iM 4 22]) .ret))
theorem dk28 : Dk Try.prog 28 ic28 [(.t 4)] 23 := dk_of (fn := Try.f28) Try.func28 (by kernel_rfl) (by kernel_rfl) (by kernel_rfl)

end Go.Proofs.Ytnjcbphapcbofaa
