/- The abstract code of functions, printed by a small program; each is what the function's body is turned into. -/
import Derived.Test.YtijnpkpcoeeioaaProg
import Derived.Test.YtijnpkpcoeeioaaVC
import Derived.KernelRfl
namespace Go.Proofs.Ytijnpkpcoeeioaa
set_option maxRecDepth 1000000

def ic8 : IC := (.seq (.ops [iP 6 (.mv (.k nlA))]) (.seq (.ops [iM 7 0,iM 8 1,iH 9 (yC 23 7 8),iM 10 2,iH 11 (.call 25 [(.t 10)]),iH 12 (yC 24 9 11),iM 6 12]) .ret))
theorem dk8 : Dk Try.prog 8 ic8 [(.t 6)] 13 := dk_of (fn := Try.f8) Try.func8 (by kernel_rfl) (by kernel_rfl) (by kernel_rfl)

def ic10 : IC := (.seq (.ops [iP 6 (.mv (.k nlA)),iP 7 (.mv kF)]) (.seq (.seq (.ops [iM 8 0,iP 9 (xL 8),iM 10 1,iP 11 (xL 10),iP 12 (xB .gtr 9 11),iM 13 12,gM 14 13 .true 0,gM 15 13 .true 1,gH 16 13 .true (yC 16 14 15),iP 17 (.pick (.t 13) (.t 16) kF),iM 18 17,gM 19 18 .true 0,gM 20 18 .true 1,gP 21 18 .true (xL 20),gP 22 18 .true (xA 1 19 21),gH 23 18 .true (yD 1 22),gM 24 18 .true 2,gP 25 18 .true (xB .eql 23 24),iP 26 (.pick (.t 18) (.t 25) kF)]) (.cond (.t 26) (.seq (.ops [iP 6 (.mv (.k nlA)),iP 7 (.mv kF)]) .ret) .skip)) (.seq (.ops [iM 27 0,iM 28 1,iH 29 (yC 23 27 28),iM 30 2,iH 31 (.call 28 [(.t 30)]),iH 32 (yC 24 29 31),iM 6 32,iP 7 (.mv kT)]) .ret)))
theorem dk10 : Dk Try.prog 10 ic10 [(.t 6), (.t 7)] 33 := dk_of (fn := Try.f10) Try.func10 (by kernel_rfl) (by kernel_rfl) (by kernel_rfl)

def ic12 : IC := (.seq (.ops [iH 6 (.box 1 3 (.t 2)),iH 7 (.box 1 3 (.t 3)),iP 8 (.mv (.k nlA))]) (.seq (.ops [iM 9 0,iM 10 1,iH 11 (yC 23 9 10),iP 12 (.mkfn (.func 29) [] [(.t 6),(.t 7)]),iH 13 (yC 24 11 12),iM 8 13]) .ret))
theorem dk12 : Dk Try.prog 12 ic12 [(.t 8)] 14 := dk_of (fn := Try.f12) Try.func12 (by kernel_rfl) (by kernel_rfl) (by kernel_rfl)

def ic14 : IC := (.seq (.ops [iP 4 (xI 0)]) (.seq (.ops [iM 5 0,iM 6 1,iH 7 (yC 30 5 6),iM 4 7]) .ret))
theorem dk14 : Dk Try.prog 14 ic14 [(.t 4)] 8 := dk_of (fn := Try.f14) Try.func14 (by kernel_rfl) (by kernel_rfl) (by kernel_rfl)

def ic16 : IC := (.seq (.ops [iP 4 (.mv kF)]) (.seq (.ops [iM 5 0,iP 6 (xL 5),iM 7 1,iP 8 (xL 7),iP 9 (xB .geq 6 8),iM 10 9,gM 11 10 .true 0,gM 12 10 .true 1,gP 13 10 .true (xL 12),gP 14 10 .true (.slc 1 (.t 11) none (some (.t 13)) none),gM 15 10 .true 1,gH 16 10 .true (yC 31 14 15),iP 17 (.pick (.t 10) (.t 16) kF),iM 4 17]) .ret))
theorem dk16 : Dk Try.prog 16 ic16 [(.t 4)] 18 := dk_of (fn := Try.f16) Try.func16 (by kernel_rfl) (by kernel_rfl) (by kernel_rfl)

def ic23 : IC := (.seq (.ops [iH 4 (.alloc (.agg [nlA,(.sc (.int .i64 0))]) 38)]) (.seq (.seq (.ops [iM 5 0,iM 6 1,iH 7 (yC 16 5 6),iP 8 (xN 7)]) (.cond (.t 8) (.seq (.ops [iM 9 0,iM 10 0,iP 11 (xL 10),iP 12 (.build [nlA,(.sc (.int .i64 0))] [(0,1,(.t 9)),(1,1,(.t 11))]),iS 2 4 12]) .ret) .skip)) (.seq (.ops [iM 13 0,iM 14 1,iP 15 (xL 14),iP 16 (.build [nlA,(.sc (.int .i64 0))] [(0,1,(.t 13)),(1,1,(.t 15))]),iS 2 4 16]) .ret)))
theorem dk23 : Dk Try.prog 23 ic23 [(.c 4 2 .true)] 17 := dk_of (fn := Try.f23) Try.func23 (by kernel_rfl) (by kernel_rfl) (by kernel_rfl)

def ic25 : IC := (.seq (.ops [iH 1 (.box 1 3 (.t 0)),iP 2 (.mv (.k (.sc .nilFunc)))]) (.seq (.ops [iP 3 (.mkfn (.func 35) [] [(.t 1)]),iM 2 3]) .ret))
theorem dk25 : Dk Try.prog 25 ic25 [(.t 2)] 4 := dk_of (fn := Try.f25) Try.func25 (by kernel_rfl) (by kernel_rfl) (by kernel_rfl)

def ic28 : IC := (.seq (.ops [iH 1 (.box 1 3 (.t 0)),iP 2 (.mv (.k (.sc .nilFunc)))]) (.seq (.ops [iP 3 (.mkfn (.func 36) [] [(.t 1)]),iM 2 3]) .ret))
theorem dk28 : Dk Try.prog 28 ic28 [(.t 2)] 4 := dk_of (fn := Try.f28) Try.func28 (by kernel_rfl) (by kernel_rfl) (by kernel_rfl)

def ic29 : IC := (.seq (.ops [iP 4 (xI 0)]) (.seq (.seq (.ops [iM 5 0,iH 6 (yD 1 1),iP 7 (xB .eql 5 6)]) (.cond (.t 7) (.seq (.ops [iH 8 (yD 1 2),iM 4 8]) .ret) .skip)) (.seq (.dops [iH 9 (yD 1 2),iH 10 (.call 25 [(.t 9)]),iH 11 (yD 1 1),iH 12 (.call 28 [(.t 11)]),iM 13 0,iH 14 (.callv (.t 12) [(.t 13)]),iH 15 (.callv (.t 10) [(.t 14)]),iM 4 15] [[],[0],[],[2,1,0],[],[3,2,1,0,4],[1,0,5,3,2,4],[6,1,0,5,3,2,4]]) .ret)))
theorem dk29 : Dk Try.prog 29 ic29 [(.t 4)] 16 := dk_of (fn := Try.f29) Try.func29 (by kernel_rfl) (by kernel_rfl) (by kernel_rfl)

def ic35 : IC := (.seq (.ops [iP 3 (xI 0)]) (.seq (.seq (.ops [iM 4 0,iH 5 (yD 1 1),iP 6 (xB .geq 4 5)]) (.cond (.t 6) (.ops [iM 7 0,iP 8 (.bin .add (.t 7) (kI 1)),iM 0 8]) .skip)) (.seq (.ops [iM 9 0,iM 3 9]) .ret)))
theorem dk35 : Dk Try.prog 35 ic35 [(.t 3)] 10 := dk_of (fn := Try.f35) Try.func35 (by kernel_rfl) (by kernel_rfl) (by kernel_rfl)

def ic36 : IC := (.seq (.ops [iP 3 (xI 0)]) (.seq (.seq (.ops [iM 4 0,iH 5 (yD 1 1),iP 6 (xB .gtr 4 5)]) (.cond (.t 6) (.ops [iM 7 0,iP 8 (.bin .sub (.t 7) (kI 1)),iM 0 8]) .skip)) (.seq (.ops [iM 9 0,iM 3 9]) .ret)))
theorem dk36 : Dk Try.prog 36 ic36 [(.t 3)] 10 := dk_of (fn := Try.f36) Try.func36 (by kernel_rfl) (by kernel_rfl) (by kernel_rfl)

def ic24 : IC := (.seq (.ops [iH 2 (.box 2 38 (.t 0)),iP 4 (.mv (.k nlA))]) (.seq (.ops [iP 5 (.faddr 0 (.t 2)),iH 6 (yD 1 5),iP 7 (.faddr 1 (.t 2)),iH 8 (yD 1 7),iM 9 1,iH 10 (.call 34 [(.t 6),(.t 8),(.t 9)]),iM 4 10]) .ret))
theorem dk24 : Dk Try.prog 24 ic24 [(.t 4)] 11 := dk_of (fn := Try.f24) Try.func24 (by kernel_rfl) (by kernel_rfl) (by kernel_rfl)

def ic34 : IC := (.seq (.ops [iP 6 (.mv (.k nlA))]) (.seq (.ops [iM 8 0,iH 9 (.call 59 [(.t 8)]),iM 7 9]) (.seq (.seq (.ops [iM 10 1,iM 11 7,iP 12 (xL 11),iP 13 (xB .lss 10 12)]) (.cond (.t 13) (.ops [iM 14 7,iM 15 1,iM 16 2,iM 17 7,iM 18 1,iP 19 (xA 1 17 18),iH 20 (yD 1 19),iH 21 (.callv (.t 16) [(.t 20)]),iP 22 (xA 1 14 15),iS 1 22 21]) .skip)) (.seq (.ops [iM 23 7,iM 6 23]) .ret))))
theorem dk34 : Dk Try.prog 34 ic34 [(.t 6)] 24 := dk_of (fn := Try.f34) Try.func34 (by kernel_rfl) (by kernel_rfl) (by kernel_rfl)

def ic30 : IC := (.seq (.ops [iP 4 (xI 0)]) (.seq (.seq (.ops [iM 9 0,iP 10 (xL 9),iP 11 (xI 0)]) (.block 0 (.loop (.seq (.ops [iP 12 (xB .lss 11 10)]) (.seq (.cond (.t 12) .skip (.exit 0)) (.seq (.block 1 (.seq (.ops [iM 13 11,iP 14 (xA 1 9 11),iH 15 (yD 1 14),iM 5 13,iM 6 15]) (.seq (.seq (.ops [iM 16 5,iM 17 1,iP 18 (xL 17),iP 19 (xB .geq 16 18)]) (.cond (.t 19) (.seq (.ops [iP 4 (xI 1)]) .ret) .skip)) (.seq (.ops [iM 20 1,iM 21 5,iP 22 (xA 1 20 21),iH 23 (yD 1 22),iM 7 23]) (.seq (.ops [iM 24 6,iM 25 7,iH 26 (yC 37 24 25),iM 8 26]) (.seq (.ops [iM 27 8,iP 28 (.bin .neq (.t 27) (kI 0))]) (.cond (.t 28) (.seq (.ops [iM 29 8,iM 4 29]) .ret) .skip))))))) (.ops [iP 30 (.bin .add (.t 11) (kI 1)),iM 11 30]))))))) (.seq (.seq (.ops [iM 31 0,iP 32 (xL 31),iM 33 1,iP 34 (xL 33),iP 35 (xB .lss 32 34)]) (.cond (.t 35) (.seq (.ops [iP 4 (xI (-1))]) .ret) .skip)) (.seq (.ops [iP 4 (xI 0)]) .ret))))
theorem dk30 : Dk Try.prog 30 ic30 [(.t 4)] 36 := dk_of (fn := Try.f30) Try.func30 (by kernel_rfl) (by kernel_rfl) (by kernel_rfl)

def ic31 : IC := (.seq (.ops [iP 4 (.mv kF)]) (.seq (.seq (.ops [iM 6 0,iP 7 (xL 6),iM 8 1,iP 9 (xL 8),iP 10 (xB .neq 7 9)]) (.cond (.t 10) (.seq (.ops [iP 4 (.mv kF)]) .ret) .skip)) (.seq (.seq (.ops [iM 11 0,iP 12 (xL 11),iP 13 (xI 0)]) (.block 0 (.loop (.seq (.ops [iP 14 (xB .lss 13 12)]) (.seq (.cond (.t 14) .skip (.exit 0)) (.seq (.block 1 (.seq (.ops [iM 15 13,iM 5 15]) (.seq (.dops [iM 16 0,iM 17 5,iP 18 (xA 1 16 17),iH 19 (yD 1 18),iM 20 1,iM 21 5,iP 22 (xA 1 20 21),iH 23 (yD 1 22),iP 24 (xB .neq 19 23)] [[],[],[0,1],[2,0,1],[],[],[4,5],[6,4,5],[3,2,0,1,7,6,4,5]]) (.cond (.t 24) (.seq (.ops [iP 4 (.mv kF)]) .ret) .skip)))) (.ops [iP 25 (.bin .add (.t 13) (kI 1)),iM 13 25]))))))) (.seq (.ops [iP 4 (.mv kT)]) .ret))))
theorem dk31 : Dk Try.prog 31 ic31 [(.t 4)] 26 := dk_of (fn := Try.f31) Try.func31 (by kernel_rfl) (by kernel_rfl) (by kernel_rfl)

def ic59 : IC := (.seq (.ops [iP 2 (.mv (.k nlA))]) (.seq (.seq (.ops [iM 3 0,iP 4 (.nilS .true (.t 3))]) (.cond (.t 4) (.seq (.ops [iP 2 (.mv (.k nlA))]) .ret) .skip)) (.seq (.ops [iH 5 (.bsl 1 3 (.sc (.int .i64 0)) 0 []),iM 6 0,iH 7 (.app 1 3 (.t 5) (.t 6)),iM 2 7]) .ret)))
theorem dk59 : Dk Try.prog 59 ic59 [(.t 2)] 8 := dk_of (fn := Try.f59) Try.func59 (by kernel_rfl) (by kernel_rfl) (by kernel_rfl)

def ic37 : IC := (.seq (.ops [iP 4 (xI 0)]) (.seq (.ops [iM 7 0,iH 8 (.call 60 [(.t 7)]),iM 5 8]) (.seq (.ops [iM 9 1,iH 10 (.call 60 [(.t 9)]),iM 6 10]) (.seq (.seq (.ops [iM 11 5]) (.cond (.t 11) (.seq (.seq (.ops [iM 12 6]) (.cond (.t 12) (.seq (.ops [iP 4 (xI 0)]) .ret) .skip)) (.seq (.ops [iP 4 (xI (-1))]) .ret)) .skip)) (.seq (.seq (.ops [iM 13 6]) (.cond (.t 13) (.seq (.ops [iP 4 (xI 1)]) .ret) .skip)) (.seq (.seq (.ops [iM 14 0,iM 15 1,iP 16 (xB .lss 14 15)]) (.cond (.t 16) (.seq (.ops [iP 4 (xI (-1))]) .ret) .skip)) (.seq (.seq (.ops [iM 17 0,iM 18 1,iP 19 (xB .gtr 17 18)]) (.cond (.t 19) (.seq (.ops [iP 4 (xI 1)]) .ret) .skip)) (.seq (.ops [iP 4 (xI 0)]) .ret))))))))
theorem dk37 : Dk Try.prog 37 ic37 [(.t 4)] 20 := dk_of (fn := Try.f37) Try.func37 (by kernel_rfl) (by kernel_rfl) (by kernel_rfl)

def ic60 : IC := (.seq (.ops [iP 2 (.mv kF)]) (.seq (.ops [iM 3 0,iM 4 0,iP 5 (xB .neq 3 4),iM 2 5]) .ret))
theorem dk60 : Dk Try.prog 60 ic60 [(.t 2)] 6 := dk_of (fn := Try.f60) Try.func60 (by kernel_rfl) (by kernel_rfl) (by kernel_rfl)

def ic9 : IC := (.seq (.ops [iP 6 (.mv (.k nlA))]) (.seq (.ops [iM 10 0,iM 11 1,iH 12 (yC 26 10 11),iM 9 12,iP 13 (.ext (.t 9) 0),iP 14 (.ext (.t 9) 1),iM 7 13,iM 8 14]) (.seq (.seq (.ops [iM 15 8,iP 16 (xN 15),iM 17 16,gM 18 17 .false 7,gM 19 17 .false 2,gP 20 17 .false (xB .lss 18 19),iP 21 (.pick (.t 17) kT (.t 20))]) (.cond (.t 21) (.seq (.ops [iH 22 (.bsl 1 3 (.sc (.int .i64 0)) 0 []),iM 23 0,iH 24 (.app 1 3 (.t 22) (.t 23)),iM 6 24]) .ret) .skip)) (.seq (.ops [iM 25 0,iM 26 1,iP 27 (xL 26),iM 28 7,iP 29 (.bin .add (.t 28) (kI 1)),iH 30 (.call 27 [(.t 25),(.t 27),(.t 29)]),iM 6 30]) .ret))))
theorem dk9 : Dk Try.prog 9 ic9 [(.t 6)] 31 := dk_of (fn := Try.f9) Try.func9 (by kernel_rfl) (by kernel_rfl) (by kernel_rfl)

def ic11 : IC := (.seq (.ops [iP 6 (.mv (.k nlA)),iP 7 (.mv kF)]) (.seq (.ops [iM 11 0,iM 12 1,iH 13 (yC 26 11 12),iM 10 13,iP 14 (.ext (.t 10) 0),iP 15 (.ext (.t 10) 1),iM 8 14,iM 9 15]) (.seq (.seq (.ops [iM 16 9,iP 17 (xN 16),iM 18 17,gM 19 18 .false 8,gM 20 18 .false 2,gP 21 18 .false (xB .lss 19 20),iP 22 (.pick (.t 18) kT (.t 21))]) (.cond (.t 22) (.seq (.ops [iH 23 (.bsl 1 3 (.sc (.int .i64 0)) 0 []),iM 24 0,iH 25 (.app 1 3 (.t 23) (.t 24)),iM 6 25,iP 7 (.mv kT)]) .ret) .skip)) (.seq (.seq (.ops [iM 26 8,iM 27 2,iP 28 (xB .eql 26 27)]) (.cond (.t 28) (.seq (.ops [iP 6 (.mv (.k nlA)),iP 7 (.mv kF)]) .ret) .skip)) (.seq (.ops [iM 29 0,iM 30 1,iP 31 (xL 30),iM 32 8,iP 33 (.bin .sub (.t 32) (kI 1)),iH 34 (.call 27 [(.t 29),(.t 31),(.t 33)]),iM 6 34,iP 7 (.mv kT)]) .ret)))))
theorem dk11 : Dk Try.prog 11 ic11 [(.t 6), (.t 7)] 35 := dk_of (fn := Try.f11) Try.func11 (by kernel_rfl) (by kernel_rfl) (by kernel_rfl)

def ic13 : IC := (.seq (.ops [iP 8 (.mv (.k nlA))]) (.seq (.ops [iM 12 0,iM 13 1,iH 14 (yC 26 12 13),iM 11 14,iP 15 (.ext (.t 11) 0),iP 16 (.ext (.t 11) 1),iM 9 15,iM 10 16]) (.seq (.seq (.ops [iM 17 10,iP 18 (xN 17)]) (.cond (.t 18) (.seq (.ops [iH 19 (.bsl 1 3 (.sc (.int .i64 0)) 0 []),iM 20 0,iH 21 (.app 1 3 (.t 19) (.t 20)),iM 8 21]) .ret) .skip)) (.seq (.seq (.ops [iM 22 9,iM 23 2,iP 24 (xB .eql 22 23)]) (.cond (.t 24) (.seq (.ops [iM 25 0,iM 26 1,iP 27 (xL 26),iM 28 3,iH 29 (.call 27 [(.t 25),(.t 27),(.t 28)]),iM 8 29]) .ret) .skip)) (.seq (.seq (.ops [iM 30 9,iM 31 2,iP 32 (xB .gtr 30 31)]) (.cond (.t 32) (.ops [iM 33 9,iP 34 (.bin .sub (.t 33) (kI 1)),iM 9 34]) .skip)) (.seq (.seq (.ops [iM 35 9,iM 36 3,iP 37 (xB .geq 35 36)]) (.cond (.t 37) (.ops [iM 38 9,iP 39 (.bin .add (.t 38) (kI 1)),iM 9 39]) .skip)) (.seq (.ops [iM 40 0,iM 41 1,iP 42 (xL 41),iM 43 9,iH 44 (.call 27 [(.t 40),(.t 42),(.t 43)]),iM 8 44]) .ret)))))))
theorem dk13 : Dk Try.prog 13 ic13 [(.t 8)] 45 := dk_of (fn := Try.f13) Try.func13 (by kernel_rfl) (by kernel_rfl) (by kernel_rfl)

def ic15 : IC := (.seq (.ops [iP 4 (xI 0)]) (.seq (.seq (.ops [iP 5 (xI 0)]) (.block 0 (.loop (.seq (.seq (.ops [iM 6 5,iM 7 0,iP 8 (xL 7),iP 9 (xB .lss 6 8),iM 10 9,gM 11 10 .true 5,gM 12 10 .true 1,gP 13 10 .true (xL 12),gP 14 10 .true (xB .lss 11 13),iP 15 (.pick (.t 10) (.t 14) kF)]) (.cond (.t 15) .skip (.exit 0))) (.seq (.block 1 (.seq (.seq (.dops [iM 18 0,iM 19 5,iP 20 (xA 1 18 19),iH 21 (yD 1 20),iM 22 1,iM 23 5,iP 24 (xA 1 22 23),iH 25 (yD 1 24),iP 26 (xB .lss 21 25)] [[],[],[0,1],[2,0,1],[],[],[4,5],[6,4,5],[3,2,0,1,7,6,4,5]]) (.cond (.t 26) (.seq (.ops [iP 4 (xI (-1))]) .ret) .skip)) (.seq (.dops [iM 27 0,iM 28 5,iP 29 (xA 1 27 28),iH 30 (yD 1 29),iM 31 1,iM 32 5,iP 33 (xA 1 31 32),iH 34 (yD 1 33),iP 35 (xB .gtr 30 34)] [[],[],[0,1],[2,0,1],[],[],[4,5],[6,4,5],[3,2,0,1,7,6,4,5]]) (.cond (.t 35) (.seq (.ops [iP 4 (xI 1)]) .ret) .skip)))) (.ops [iM 16 5,iP 17 (.bin .add (.t 16) (kI 1)),iM 5 17])))))) (.seq (.seq (.ops [iM 36 0,iP 37 (xL 36),iM 38 1,iP 39 (xL 38),iP 40 (xB .lss 37 39)]) (.cond (.t 40) (.seq (.ops [iP 4 (xI (-1))]) .ret) .skip)) (.seq (.seq (.ops [iM 41 0,iP 42 (xL 41),iM 43 1,iP 44 (xL 43),iP 45 (xB .gtr 42 44)]) (.cond (.t 45) (.seq (.ops [iP 4 (xI 1)]) .ret) .skip)) (.seq (.ops [iP 4 (xI 0)]) .ret)))))
theorem dk15 : Dk Try.prog 15 ic15 [(.t 4)] 46 := dk_of (fn := Try.f15) Try.func15 (by kernel_rfl) (by kernel_rfl) (by kernel_rfl)

def ic17 : IC := (.seq (.ops [iP 4 (.mv kF)]) (.seq (.seq (.ops [iM 6 0,iP 7 (xL 6),iM 8 1,iP 9 (xL 8),iP 10 (xB .lss 7 9)]) (.cond (.t 10) (.seq (.ops [iP 4 (.mv kF)]) .ret) .skip)) (.seq (.seq (.ops [iP 5 (xI 0)]) (.block 0 (.loop (.seq (.seq (.ops [iM 11 5,iM 12 1,iP 13 (xL 12),iP 14 (xB .lss 11 13)]) (.cond (.t 14) .skip (.exit 0))) (.seq (.block 1 (.seq (.dops [iM 17 0,iM 18 5,iP 19 (xA 1 17 18),iH 20 (yD 1 19),iM 21 1,iM 22 5,iP 23 (xA 1 21 22),iH 24 (yD 1 23),iP 25 (xB .neq 20 24)] [[],[],[0,1],[2,0,1],[],[],[4,5],[6,4,5],[3,2,0,1,7,6,4,5]]) (.cond (.t 25) (.seq (.ops [iP 4 (.mv kF)]) .ret) .skip))) (.ops [iM 15 5,iP 16 (.bin .add (.t 15) (kI 1)),iM 5 16])))))) (.seq (.ops [iP 4 (.mv kT)]) .ret))))
theorem dk17 : Dk Try.prog 17 ic17 [(.t 4)] 26 := dk_of (fn := Try.f17) Try.func17 (by kernel_rfl) (by kernel_rfl) (by kernel_rfl)

def ic26 : IC := (.seq (.ops [iP 4 (xI 0),iP 5 (.mv kF)]) (.seq (.seq (.ops [iM 6 0,iP 7 (xL 6),iM 8 1,iP 9 (xL 8),iP 10 (xB .leq 7 9),iM 11 10,gM 12 11 .false 0,gM 13 11 .false 1,gH 14 11 .false (yC 17 12 13),gP 15 11 .false (xN 14),iP 16 (.pick (.t 11) kT (.t 15))]) (.cond (.t 16) (.seq (.ops [iP 4 (xI 0),iP 5 (.mv kF)]) .ret) .skip)) (.seq (.ops [iM 17 0,iM 18 1,iP 19 (xL 18),iP 20 (xA 1 17 19),iH 21 (yD 1 20),iM 4 21,iP 5 (.mv kT)]) .ret)))
theorem dk26 : Dk Try.prog 26 ic26 [(.t 4), (.t 5)] 22 := dk_of (fn := Try.f26) Try.func26 (by kernel_rfl) (by kernel_rfl) (by kernel_rfl)

def ic27 : IC := (.seq (.ops [iP 6 (.mv (.k nlA))]) (.seq (.ops [iH 8 (.bsl 1 3 (.sc (.int .i64 0)) 0 []),iM 9 0,iH 10 (.app 1 3 (.t 8) (.t 9)),iM 7 10]) (.seq (.ops [iM 11 7,iM 12 1,iM 13 2,iP 14 (xA 1 11 12),iS 1 14 13]) (.seq (.ops [iM 15 7,iM 6 15]) .ret))))
theorem dk27 : Dk Try.prog 27 ic27 [(.t 6)] 16 := dk_of (fn := Try.f27) Try.func27 (by kernel_rfl) (by kernel_rfl) (by kernel_rfl)

end Go.Proofs.Ytijnpkpcoeeioaa
