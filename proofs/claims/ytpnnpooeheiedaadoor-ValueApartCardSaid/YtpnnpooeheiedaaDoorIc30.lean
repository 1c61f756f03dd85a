/- The abstract code of functions, printed by a small program; each is what the function's body is turned into. -/
import Derived.Test.YtpnnpooeheiedaaDoorProg
import Derived.Test.YtpnnpooeheiedaaDoorVC
import Derived.KernelRfl
namespace Go.Proofs.YtpnnpooeheiedaaDoor
set_option maxRecDepth 1000000
def ic25 : IC := (.seq (.ops [iH 2 (.box 3 25 (.t 0)),iH 3 (.box 3 25 (.t 1)),iP 4 (.mv kF)]) (.seq (.ops [iP 5 (.faddr 0 (.t 2)),iH 6 (yD 1 5),iP 7 (.faddr 0 (.t 3)),iH 8 (yD 1 7),iP 9 (xB .eql 6 8),iM 10 9,gP 11 10 .true (.faddr 1 (.t 2)),gH 12 10 .true (yD 1 11),gP 13 10 .true (.faddr 1 (.t 3)),gH 14 10 .true (yD 1 13),gP 15 10 .true (xB .eql 12 14),iP 16 (.pick (.t 10) (.t 15) kF),iM 17 16,gP 18 17 .true (.faddr 2 (.t 2)),gH 19 17 .true (yD 1 18),gP 20 17 .true (.faddr 2 (.t 3)),gH 21 17 .true (yD 1 20),gH 22 17 .true (yC 44 19 21),iP 23 (.pick (.t 17) (.t 22) kF),iM 4 23]) .ret))
theorem dk25 : Dk Tryd.prog 25 ic25 [(.t 4)] 24 := dk_of (fn := Tryd.f25) Tryd.func25 (by kernel_rfl) (by kernel_rfl) (by kernel_rfl)
def ic44 : IC := (.seq (.ops [iP 4 (.mv kF)]) (.seq (.seq (.ops [iM 6 0,iP 7 (xL 6),iM 8 1,iP 9 (xL 8),iP 10 (xB .neq 7 9)]) (.cond (.t 10) (.seq (.ops [iP 4 (.mv kF)]) .ret) .skip)) (.seq (.seq (.ops [iP 5 (xI 0)]) (.block 0 (.loop (.seq (.seq (.ops [iM 11 5,iM 12 0,iP 13 (xL 12),iP 14 (xB .lss 11 13)]) (.cond (.t 14) .skip (.exit 0))) (.seq (.block 1 (.seq (.dops [iM 17 0,iM 18 5,iP 19 (xA 1 17 18),iH 20 (yD 1 19),iM 21 1,iM 22 5,iP 23 (xA 1 21 22),iH 24 (yD 1 23),iP 25 (xB .neq 20 24)] [[],[],[0,1],[2,0,1],[],[],[4,5],[6,4,5],[3,2,0,1,7,6,4,5]]) (.cond (.t 25) (.seq (.ops [iP 4 (.mv kF)]) .ret) .skip))) (.ops [iM 15 5,iP 16 (.bin .add (.t 15) (kI 1)),iM 5 16])))))) (.seq (.ops [iP 4 (.mv kT)]) .ret))))
theorem dk44 : Dk Tryd.prog 44 ic44 [(.t 4)] 26 := dk_of (fn := Tryd.f44) Tryd.func44 (by kernel_rfl) (by kernel_rfl) (by kernel_rfl)
end Go.Proofs.YtpnnpooeheiedaaDoor
