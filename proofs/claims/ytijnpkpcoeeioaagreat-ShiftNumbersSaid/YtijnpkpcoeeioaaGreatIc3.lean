/- The abstract code of functions, printed by a small program; each is what the function's body is turned into. -/
import Derived.Test.YtijnpkpcoeeioaaGreatProg
import Derived.Test.YtijnpkpcoeeioaaGreatVC
import Derived.KernelRfl
namespace Go.Proofs.YtijnpkpcoeeioaaGreat
set_option maxRecDepth 1000000

def ic27 : IC := (.seq (.ops [iH 1 (.box 3 24 (.t 0)),iP 2 (.mv kF)]) (.seq (.ops [iP 3 (.faddr 0 (.t 1)),iH 4 (yD 1 3),iP 5 (.bin .geq (.t 4) (kI 0)),iM 6 5,gP 7 6 .true (.faddr 0 (.t 1)),gH 8 6 .true (yD 1 7),gP 9 6 .true (.bin .leq (.t 8) (kI 1099511627776)),iP 10 (.pick (.t 6) (.t 9) kF),iM 11 10,gP 12 11 .true (.faddr 1 (.t 1)),gH 13 11 .true (yD 1 12),gH 14 11 .true (.call 40 [(.t 13)]),iP 15 (.pick (.t 11) (.t 14) kF),iM 16 15,gP 17 16 .true (.faddr 2 (.t 1)),gH 18 16 .true (yD 1 17),gH 19 16 .true (.call 40 [(.t 18)]),iP 20 (.pick (.t 16) (.t 19) kF),iM 21 20,gP 22 21 .true (.faddr 1 (.t 1)),gH 23 21 .true (yD 1 22),gP 24 21 .true (.faddr 2 (.t 1)),gH 25 21 .true (yD 1 24),gH 26 21 .true (yC 33 23 25),gP 27 21 .true (xN 26),iP 28 (.pick (.t 21) (.t 27) kF),iM 2 28]) .ret))
theorem dk27 : Dk Tryz.prog 27 ic27 [(.t 2)] 29 := dk_of (fn := Tryz.f27) Tryz.func27 (by kernel_rfl) (by kernel_rfl) (by kernel_rfl)

def ic32 : IC := (.seq (.ops [iH 1 (.box 3 24 (.t 0)),iH 2 (.alloc (.agg [(.sc (.int .i64 0)),nlA,nlA]) 24)]) (.seq (.dops [iP 3 (.faddr 0 (.t 1)),iH 4 (yD 1 3),iP 5 (.faddr 2 (.t 1)),iH 6 (yD 1 5),iH 7 (.call 42 [(.t 6)]),iP 8 (.faddr 1 (.t 1)),iH 9 (yD 1 8),iH 10 (.call 42 [(.t 9)]),iP 11 (.build [(.sc (.int .i64 0)),nlA,nlA] [(0,1,(.t 4)),(1,1,(.t 7)),(2,1,(.t 10))]),iS 3 2 11] [[],[0],[],[2],[3,2],[],[5],[6,5,4,3,2],[1,0,4,3,2,7,6,5],[8,1,0,4,3,2,7,6,5]]) .ret))
theorem dk32 : Dk Tryz.prog 32 ic32 [(.c 2 3 .true)] 12 := dk_of (fn := Tryz.f32) Tryz.func32 (by kernel_rfl) (by kernel_rfl) (by kernel_rfl)

def ic42 : IC := (.seq (.ops [iP 2 (.mv (.k nlA))]) (.seq (.ops [iP 3 (.mv (.k nlA))]) (.seq (.ops [iM 4 3,iM 5 0,iH 6 (.app 1 9 (.t 4) (.t 5)),iM 2 6]) .ret)))
theorem dk42 : Dk Tryz.prog 42 ic42 [(.t 2)] 7 := dk_of (fn := Tryz.f42) Tryz.func42 (by kernel_rfl) (by kernel_rfl) (by kernel_rfl)

def ic40 : IC := (.seq (.ops [iP 2 (.mv kF)]) (.seq (.seq (.ops [iP 3 (xI 0)]) (.block 0 (.loop (.seq (.seq (.ops [iM 6 3,iM 7 0,iP 8 (xL 7),iP 9 (xB .lss 6 8)]) (.cond (.t 9) .skip (.exit 0))) (.seq (.block 1 (.seq (.ops [iM 13 0,iM 14 3,iP 15 (xA 1 13 14),iH 16 (yD 1 15),iH 17 (.call 68 [(.t 16)]),iM 12 17,iP 18 (.ext (.t 12) 0),iP 19 (.ext (.t 12) 1),iM 4 18,iM 5 19]) (.seq (.ops [iM 20 4,iP 21 (xN 20),iM 22 21,gM 23 22 .false 5,gM 24 22 .false 23,gM 25 24 .true 3,gM 26 24 .true 0,gP 27 24 .true (xL 26),gP 28 24 .true (.bin .sub (.t 27) (kI 1)),gP 29 24 .true (xB .lss 25 28),gP 30 22 .false (.pick (.t 24) (.t 29) kF),iP 31 (.pick (.t 22) kT (.t 30))]) (.cond (.t 31) (.seq (.ops [iP 2 (.mv kF)]) .ret) .skip)))) (.ops [iM 10 3,iP 11 (.bin .add (.t 10) (kI 1)),iM 3 11])))))) (.seq (.ops [iP 2 (.mv kT)]) .ret)))
theorem dk40 : Dk Tryz.prog 40 ic40 [(.t 2)] 32 := dk_of (fn := Tryz.f40) Tryz.func40 (by kernel_rfl) (by kernel_rfl) (by kernel_rfl)

def ic68 : IC := (.seq (.ops [iP 2 (.mv kF),iP 3 (.mv kF)]) (.seq (.seq (.ops [iP 4 (xI 0)]) (.block 0 (.loop (.seq (.seq (.ops [iM 5 4,iM 6 0,iP 7 (.lenS (.t 6)),iP 8 (.bin .sub (.t 7) (kI 1)),iP 9 (xB .lss 5 8)]) (.cond (.t 9) .skip (.exit 0))) (.seq (.block 1 (.seq (.ops [iM 12 0,iM 13 4,iP 14 (.idxS (.t 12) (.t 13)),iP 15 (.bin .eql (.t 14) (.k (.sc (.int .u8 10))))]) (.cond (.t 15) (.seq (.ops [iP 2 (.mv kF),iP 3 (.mv kF)]) .ret) .skip))) (.ops [iM 10 4,iP 11 (.bin .add (.t 10) (kI 1)),iM 4 11])))))) (.seq (.dops [iM 16 0,⟨(some 17),none,(.p (.bin .neq (.t 16) (.k (.sc (.string ⟨#[]⟩)))))⟩,iM 18 0,⟨(some 19),none,(.p (.bin .eql (.t 18) (.k (.sc (.string ⟨#[]⟩)))))⟩,iM 20 19,gM 21 20 .false 0,gM 22 20 .false 0,gP 23 20 .false (.lenS (.t 22)),gP 24 20 .false (.bin .sub (.t 23) (kI 1)),gP 25 20 .false (.idxS (.t 21) (.t 24)),gP 26 20 .false (.bin .neq (.t 25) (.k (.sc (.int .u8 10)))),iP 27 (.pick (.t 20) kT (.t 26)),iM 2 17,iM 3 27] [[],[0],[],[2],[3,2],[4,3,2],[4,3,2],[6,4,3,2],[7,6,4,3,2],[5,4,3,2,8,7,6],[9,5,4,3,2,8,7,6],[4,3,2,10,9,5,8,7,6],[1,0,4,3,2],[11,4,3,2,10,9,5,8,7,6,12,1,0]]) .ret)))
theorem dk68 : Dk Tryz.prog 68 ic68 [(.t 2), (.t 3)] 28 := dk_of (fn := Tryz.f68) Tryz.func68 (by kernel_rfl) (by kernel_rfl) (by kernel_rfl)

end Go.Proofs.YtijnpkpcoeeioaaGreat
