/- The abstract code of functions, printed by a small program; each is what the function's body is turned into. -/
import Derived.Test.YtigmpablpmanpaaProg
import Derived.Test.YtigmpablpmanpaaVC
import Derived.KernelRfl
namespace Go.Proofs.Ytigmpablpmanpaa
set_option maxRecDepth 1000000

def ic14 : IC := (.seq (.ops [iP 4 (.mv kF)]) (.seq (.seq (.ops [iM 6 0,iP 7 (xL 6),iM 8 1,iP 9 (xL 8),iP 10 (xB .neq 7 9)]) (.cond (.t 10) (.seq (.ops [iP 4 (.mv kF)]) .ret) .skip)) (.seq (.seq (.ops [iP 5 (xI 0)]) (.block 0 (.loop (.seq (.seq (.ops [iM 11 5,iM 12 0,iP 13 (xL 12),iP 14 (xB .lss 11 13)]) (.cond (.t 14) .skip (.exit 0))) (.seq (.block 1 (.seq (.dops [iM 17 0,iM 18 5,iP 19 (xA 1 17 18),iH 20 (yD 1 19),iM 21 1,iM 22 5,iP 23 (xA 1 21 22),iH 24 (yD 1 23),iP 25 (xB .neq 20 24)] [[],[],[0,1],[2,0,1],[],[],[4,5],[6,4,5],[3,2,0,1,7,6,4,5]]) (.cond (.t 25) (.seq (.ops [iP 4 (.mv kF)]) .ret) .skip))) (.ops [iM 15 5,iP 16 (.bin .add (.t 15) (kI 1)),iM 5 16])))))) (.seq (.ops [iP 4 (.mv kT)]) .ret))))
theorem dk14 : Dk Try.prog 14 ic14 [(.t 4)] 26 := dk_of (fn := Try.f14) Try.func14 (by kernel_rfl) (by kernel_rfl) (by kernel_rfl)

def ic38 : IC := (.seq (.ops [iH 1 (.box 3 51 (.t 0)),iP 2 (.mv kF)]) (.seq (.ops [iP 3 (.faddr 0 (.t 1)),iH 4 (yD 1 3),iP 5 (.bin .geq (.t 4) (kI 0)),iM 6 5,gP 7 6 .true (.faddr 0 (.t 1)),gH 8 6 .true (yD 1 7),gP 9 6 .true (.bin .leq (.t 8) (kI 1099511627776)),iP 10 (.pick (.t 6) (.t 9) kF),iM 11 10,gP 12 11 .true (.faddr 1 (.t 1)),gH 13 11 .true (yD 1 12),gH 14 11 .true (.call 34 [(.t 13)]),iP 15 (.pick (.t 11) (.t 14) kF),iM 16 15,gP 17 16 .true (.faddr 2 (.t 1)),gH 18 16 .true (yD 1 17),gH 19 16 .true (.call 34 [(.t 18)]),iP 20 (.pick (.t 16) (.t 19) kF),iM 21 20,gP 22 21 .true (.faddr 1 (.t 1)),gH 23 21 .true (yD 1 22),gP 24 21 .true (.faddr 2 (.t 1)),gH 25 21 .true (yD 1 24),gH 26 21 .true (yC 52 23 25),gP 27 21 .true (xN 26),iP 28 (.pick (.t 21) (.t 27) kF),iM 2 28]) .ret))
theorem dk38 : Dk Try.prog 38 ic38 [(.t 2)] 29 := dk_of (fn := Try.f38) Try.func38 (by kernel_rfl) (by kernel_rfl) (by kernel_rfl)

def ic31 : IC := (.seq (.ops [iP 4 (xI 0)]) (.seq (.ops [iM 7 0,iP 8 (xL 7),iM 5 8]) (.seq (.seq (.ops [iP 6 (xI 0)]) (.block 0 (.loop (.seq (.seq (.ops [iM 9 6,iM 10 0,iP 11 (xL 10),iP 12 (xB .lss 9 11),iM 13 12,gM 14 13 .true 5,gM 15 13 .true 1,gP 16 13 .true (xB .leq 14 15),iP 17 (.pick (.t 13) (.t 16) kF)]) (.cond (.t 17) .skip (.exit 0))) (.seq (.block 1 (.ops [iM 20 5,iM 21 0,iM 22 6,iP 23 (xA 1 21 22),iH 24 (yD 1 23),iP 25 (.lenS (.t 24)),iP 26 (.bin .quo (.t 25) (kI 8)),iP 27 (xB .add 20 26),iM 5 27])) (.ops [iM 18 6,iP 19 (.bin .add (.t 18) (kI 1)),iM 6 19])))))) (.seq (.ops [iM 28 5,iM 4 28]) .ret))))
theorem dk31 : Dk Try.prog 31 ic31 [(.t 4)] 29 := dk_of (fn := Try.f31) Try.func31 (by kernel_rfl) (by kernel_rfl) (by kernel_rfl)

def ic34 : IC := (.seq (.ops [iP 2 (.mv kF)]) (.seq (.seq (.ops [iM 6 0,iP 7 (xL 6),iP 8 (xI 0)]) (.block 0 (.loop (.seq (.ops [iP 9 (xB .lss 8 7)]) (.seq (.cond (.t 9) .skip (.exit 0)) (.seq (.block 1 (.seq (.ops [iM 10 8,iP 11 (xA 1 6 8),iH 12 (yD 1 11),iM 3 10,iM 4 12]) (.seq (.ops [iM 13 4,iH 14 (.call 47 [(.t 13),(.k (.sc (.int .u8 10)))]),iM 5 14]) (.block 2 (.seq (.ops [iM 16 4,⟨(some 17),none,(.p (.bin .eql (.t 16) (.k (.sc (.string ⟨#[]⟩)))))⟩,iM 18 17,gM 19 18 .false 5,gP 20 18 .false (.bin .geq (.t 19) (kI 0)),gM 21 18 .false 20,gM 22 21 .true 5,gM 23 21 .true 4,gP 24 21 .true (.lenS (.t 23)),gP 25 21 .true (.bin .sub (.t 24) (kI 1)),gP 26 21 .true (xB .lss 22 25),gP 27 18 .false (.pick (.t 21) (.t 26) kF),iP 28 (.pick (.t 18) kT (.t 27)),iM 15 28]) (.cond (.t 15) (.seq (.ops [iP 2 (.mv kF)]) .ret) (.seq (.ops [iM 30 5,iP 31 (.bin .lss (.t 30) (kI 0)),iM 32 31,gM 33 32 .true 3,gM 34 32 .true 0,gP 35 32 .true (xL 34),gP 36 32 .true (.bin .sub (.t 35) (kI 1)),gP 37 32 .true (xB .lss 33 36),iP 38 (.pick (.t 32) (.t 37) kF),iM 29 38]) (.cond (.t 29) (.seq (.ops [iP 2 (.mv kF)]) .ret) .skip)))))))) (.ops [iP 39 (.bin .add (.t 8) (kI 1)),iM 8 39]))))))) (.seq (.ops [iP 2 (.mv kT)]) .ret)))
theorem dk34 : Dk Try.prog 34 ic34 [(.t 2)] 40 := dk_of (fn := Try.f34) Try.func34 (by kernel_rfl) (by kernel_rfl) (by kernel_rfl)

def ic51 : IC := (.seq (.ops [iP 2 (.mv (.k nlA))]) (.seq (.seq (.ops [iM 3 0,iP 4 (.nilS .true (.t 3))]) (.cond (.t 4) (.seq (.ops [iP 2 (.mv (.k nlA))]) .ret) .skip)) (.seq (.ops [⟨(some 5),none,(.h (.bsl 1 9 (.sc (.string ⟨#[]⟩)) 0 []))⟩,iM 6 0,iH 7 (.app 1 9 (.t 5) (.t 6)),iM 2 7]) .ret)))
theorem dk51 : Dk Try.prog 51 ic51 [(.t 2)] 8 := dk_of (fn := Try.f51) Try.func51 (by kernel_rfl) (by kernel_rfl) (by kernel_rfl)

def ic52 : IC := (.seq (.ops [iP 4 (.mv kF)]) (.seq (.seq (.ops [iM 6 0,iP 7 (xL 6),iM 8 1,iP 9 (xL 8),iP 10 (xB .neq 7 9)]) (.cond (.t 10) (.seq (.ops [iP 4 (.mv kF)]) .ret) .skip)) (.seq (.seq (.ops [iM 11 0,iP 12 (xL 11),iP 13 (xI 0)]) (.block 0 (.loop (.seq (.ops [iP 14 (xB .lss 13 12)]) (.seq (.cond (.t 14) .skip (.exit 0)) (.seq (.block 1 (.seq (.ops [iM 15 13,iM 5 15]) (.seq (.dops [iM 16 0,iM 17 5,iP 18 (xA 1 16 17),iH 19 (yD 1 18),iM 20 1,iM 21 5,iP 22 (xA 1 20 21),iH 23 (yD 1 22),iP 24 (xB .neq 19 23)] [[],[],[0,1],[2,0,1],[],[],[4,5],[6,4,5],[3,2,0,1,7,6,4,5]]) (.cond (.t 24) (.seq (.ops [iP 4 (.mv kF)]) .ret) .skip)))) (.ops [iP 25 (.bin .add (.t 13) (kI 1)),iM 13 25]))))))) (.seq (.ops [iP 4 (.mv kT)]) .ret))))
theorem dk52 : Dk Try.prog 52 ic52 [(.t 4)] 26 := dk_of (fn := Try.f52) Try.func52 (by kernel_rfl) (by kernel_rfl) (by kernel_rfl)

def ic47 : IC := (.seq (.ops [iP 4 (xI 0)]) (.seq (.ops [iM 5 0,iM 6 1,iH 7 (yC 61 5 6),iM 4 7]) .ret))
theorem dk47 : Dk Try.prog 47 ic47 [(.t 4)] 8 := dk_of (fn := Try.f47) Try.func47 (by kernel_rfl) (by kernel_rfl) (by kernel_rfl)

end Go.Proofs.Ytigmpablpmanpaa
