/- The abstract code of functions, printed by a small program; each is what the function's body is turned into. -/
import Derived.Test.YtfnahogjkgcklaaDoorProg
import Derived.Test.YtfnahogjkgcklaaDoorVC
import Derived.KernelRfl
namespace Go.Proofs.YtfnahogjkgcklaaDoor
set_option maxRecDepth 1000000
def ic22 : IC := (.seq (.ops [iH 2 (.box 4 25 (.t 0)),iH 3 (.box 4 25 (.t 1)),iP 4 (.mv kF)]) (.seq (.ops [iP 5 (.faddr 0 (.t 2)),iH 6 (yD 1 5),iP 7 (.faddr 0 (.t 3)),iH 8 (yD 1 7),iP 9 (xB .eql 6 8),iM 10 9,gP 11 10 .true (.faddr 1 (.t 2)),gH 12 10 .true (yD 1 11),gP 13 10 .true (.faddr 1 (.t 3)),gH 14 10 .true (yD 1 13),gP 15 10 .true (xB .eql 12 14),iP 16 (.pick (.t 10) (.t 15) kF),iM 17 16,gP 18 17 .true (.faddr 2 (.t 2)),gH 19 17 .true (yD 1 18),gP 20 17 .true (.faddr 2 (.t 3)),gH 21 17 .true (yD 1 20),gP 22 17 .true (xB .eql 19 21),iP 23 (.pick (.t 17) (.t 22) kF),iM 24 23,gP 25 24 .true (.faddr 3 (.t 2)),gH 26 24 .true (yD 1 25),gP 27 24 .true (.faddr 3 (.t 3)),gH 28 24 .true (yD 1 27),gH 29 24 .true (yC 47 26 28),iP 30 (.pick (.t 24) (.t 29) kF),iM 4 30]) .ret))
theorem dk22 : Dk Tryd.prog 22 ic22 [(.t 4)] 31 := dk_of (fn := Tryd.f22) Tryd.func22 (by kernel_rfl) (by kernel_rfl) (by kernel_rfl)
def ic47 : IC := (.seq (.ops [iP 4 (.mv kF)]) (.seq (.seq (.ops [iM 6 0,iP 7 (xL 6),iM 8 1,iP 9 (xL 8),iP 10 (xB .neq 7 9)]) (.cond (.t 10) (.seq (.ops [iP 4 (.mv kF)]) .ret) .skip)) (.seq (.seq (.ops [iP 5 (xI 0)]) (.block 0 (.loop (.seq (.seq (.ops [iM 11 5,iM 12 0,iP 13 (xL 12),iP 14 (xB .lss 11 13)]) (.cond (.t 14) .skip (.exit 0))) (.seq (.block 1 (.seq (.dops [iM 17 0,iM 18 5,iP 19 (xA 4 17 18),iH 20 (yA 4 19),iM 21 1,iM 22 5,iP 23 (xA 4 21 22),iH 24 (yA 4 23),iH 25 (yC 22 20 24),iP 26 (xN 25)] [[],[],[0,1],[2,0,1],[],[],[4,5],[6,4,5],[3,2,0,1,7,6,4,5],[8,3,2,0,1,7,6,4,5]]) (.cond (.t 26) (.seq (.ops [iP 4 (.mv kF)]) .ret) .skip))) (.ops [iM 15 5,iP 16 (.bin .add (.t 15) (kI 1)),iM 5 16])))))) (.seq (.ops [iP 4 (.mv kT)]) .ret))))
theorem dk47 : Dk Tryd.prog 47 ic47 [(.t 4)] 27 := dk_of (fn := Tryd.f47) Tryd.func47 (by kernel_rfl) (by kernel_rfl) (by kernel_rfl)
end Go.Proofs.YtfnahogjkgcklaaDoor
