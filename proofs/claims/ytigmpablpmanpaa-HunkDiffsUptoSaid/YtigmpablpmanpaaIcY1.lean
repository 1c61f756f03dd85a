/- The abstract code of functions that range over functions, and of the rounds, printed by a small program; each is what the function's body is turned into. -/
import Derived.Test.YtigmpablpmanpaaProg
import Derived.Test.YtigmpablpmanpaaV39
import Derived.KernelRfl
namespace Go.Proofs.Ytigmpablpmanpaa
set_option maxRecDepth 1000000

def ic57 : IC := (.seq (.ops [iP 3 (xI 0)]) (.block 0 (.loop (.seq (.seq (.ops [iM 5 3,iH 6 (yD 1 1),iP 7 (.lenS (.t 6)),iP 8 (xB .lss 5 7)]) (.cond (.t 8) .skip (.exit 0))) (.block 1 (.seq (.ops [iH 9 (yD 1 1),iM 10 3,iP 11 (.slcS (.t 9) (some (.t 10)) none),iH 12 (.call 47 [(.t 11),(.k (.sc (.int .u8 10)))]),iP 13 (.bin .add (.t 12) (kI 1)),iM 4 13]) (.seq (.seq (.ops [iM 14 4,iP 15 (.bin .eql (.t 14) (kI 0))]) (.cond (.t 15) (.ops [iH 16 (yD 1 1),iP 17 (.lenS (.t 16)),iM 18 3,iP 19 (xB .sub 17 18),iM 4 19]) .skip)) (.seq (.seq (.yld [iM 20 0,iM 21 3,iH 22 (yD 1 1),iM 23 3,iM 24 3,iM 25 4,iP 26 (xB .add 24 25),iP 27 (.slcS (.t 22) (some (.t 23)) (some (.t 26)))] none (.t 20) [(.t 21),(.t 27)] (some 28) [iP 29 (xN 28)]) (.cond (.t 29) .ret .skip)) (.ops [iM 30 3,iM 31 4,iP 32 (xB .add 30 31),iM 3 32])))))))))
theorem dk57 : Dk Try.prog 57 ic57 [] 33 := dk_ofY (fn := Try.f57) [5] Try.func57 (by kernel_rfl) (by kernel_rfl) (by kernel_rfl)

noncomputable def ic18 : IC := (.seq (.ops [iH 4 (.box 1 3 (.t 1)),iH 5 (.box 1 3 (.t 2)),iH 6 (.alloc (.sc (.int .i64 0)) 3),iH 7 (.alloc (.sc (.int .i64 0)) 25)]) (.seq (.ops [iH 8 (.alloc (.sc (.int .i64 0)) 3),⟨none,none,(.h (.store 1 (.t 8) (kI 0)))⟩]) (.seq (.seq (.ops [iH 13 (yD 1 4),iP 14 (.bin .lss (.t 13) (kI 0)),iM 15 14,gH 16 15 .false (yD 1 5),gP 17 15 .false (.bin .lss (.t 16) (kI 0)),iP 18 (.pick (.t 15) kT (.t 17))]) (.cond (.t 18) (.seq (.ops [⟨none,none,(.h (.store 1 (.t 6) (kI 0)))⟩,⟨none,none,(.h (.store 1 (.t 7) (kI 6)))⟩]) .ret) .skip)) (.seq (.seq (.ops [iM 19 0,iH 20 (.call 41 [(.t 19)])]) (.block 0 (.rng (.t 20) #[21,22] (rcA Try.f18 0) (rcB Try.f18 0)))) (.seq (.seq (.ops [iM 38 0,iM 39 0,iP 40 (.lenS (.t 39)),iH 41 (yC 16 38 40),iM 37 41,iP 42 (.ext (.t 37) 0),iP 43 (.ext (.t 37) 1),iM 11 42,iM 12 43]) (.seq (.ops [iM 44 11,iH 45 (yD 1 4),iP 46 (xB .eql 44 45),iM 47 46,gM 48 47 .true 12,gH 49 47 .true (yD 1 5),gP 50 47 .true (xB .eql 48 49),iP 51 (.pick (.t 47) (.t 50) kF)]) (.cond (.t 51) (.seq (.ops [iM 52 0,iP 53 (.lenS (.t 52)),iS 1 6 53,⟨none,none,(.h (.store 1 (.t 7) (kI 0)))⟩]) .ret) .skip))) (.seq (.ops [⟨none,none,(.h (.store 1 (.t 6) (kI 0)))⟩,⟨none,none,(.h (.store 1 (.t 7) (kI 6)))⟩]) .ret))))))
theorem dk18 : Dk Try.prog 18 ic18 [(.c 6 1 .false), (.c 7 1 .false)] 54 := dk_ofY (fn := Try.f18) [] Try.func18 (by kernel_rfl) (by kernel_rfl) (by kernel_rfl)

def ic18a0 : IC := (.seq (.ops [iM 9 21]) (.ops [iM 10 22]))
def ic18b0 : IC := (.block 1 (.seq (.seq (.ops [iH 23 (yD 1 8),iH 24 (yD 1 4),iP 25 (xB .eql 23 24),iM 26 25,gH 27 26 .true (yD 1 5),gM 28 26 .true 10,gP 29 26 .true (.lenS (.t 28)),gP 30 26 .true (xB .lss 27 29),iP 31 (.pick (.t 26) (.t 30) kF)]) (.cond (.t 31) (.seq (.ops [iM 32 9,iH 33 (yD 1 5),iP 34 (xB .add 32 33),iS 1 6 34,⟨none,none,(.h (.store 1 (.t 7) (kI 0)))⟩]) .ret) .skip)) (.ops [iH 35 (yD 1 8),iP 36 (.bin .add (.t 35) (kI 1)),iS 1 8 36])))
theorem rca18_0 : compY false Try.prog [] [] (rcA Try.f18 0) = some ic18a0 := by kernel_rfl
theorem rcb18_0 : compY false Try.prog [] [] (rcB Try.f18 0) = some ic18b0 := by kernel_rfl

noncomputable def ic20 : IC := (.seq (.ops [iH 6 (.alloc (.agg [(.sc (.int .i64 0)),(.sc (.int .i64 0))]) 37),iP 7 (xI 0)]) (.seq (.ops [iH 10 (.bsl 1 3 (.sc (.int .i64 0)) 0 []),iH 8 (.alloc nlA 72),iS 1 8 10]) (.seq (.seq (.ops [iM 11 0,iH 12 (.call 41 [(.t 11)])]) (.block 0 (.rng (.t 12) #[13,14] (rcA Try.f20 0) (rcB Try.f20 0)))) (.seq (.ops [iH 19 (yD 1 8),iM 20 0,iP 21 (.lenS (.t 20)),iH 22 (.bsl 1 3 (.sc (.int .i64 0)) 1 [(0,(.t 21))]),iH 23 (.bsl 1 72 nlA 2 [(0,(.t 19)),(1,(.t 22))]),iH 24 (.call 42 [(.t 23)]),iS 1 8 24]) (.seq (.seq (.ops [iM 25 1,iP 26 (.bin .lss (.t 25) (kI 0)),iM 27 26,gM 28 27 .false 1,gM 29 27 .false 2,gP 30 27 .false (xB .gtr 28 29),iP 31 (.pick (.t 27) kT (.t 30)),iM 32 31,gM 33 32 .false 2,gH 34 32 .false (yD 1 8),gP 35 32 .false (xL 34),gP 36 32 .false (xB .geq 33 35),iP 37 (.pick (.t 32) kT (.t 36))]) (.cond (.t 37) (.seq (.ops [iP 38 (.build [(.sc (.int .i64 0)),(.sc (.int .i64 0))] []),iS 2 6 38,iP 7 (xI 2)]) .ret) .skip)) (.seq (.dops [iH 39 (yD 1 8),iM 40 1,iP 41 (xA 1 39 40),iH 42 (yD 1 41),iH 43 (yD 1 8),iM 44 2,iP 45 (xA 1 43 44),iH 46 (yD 1 45),iP 47 (.build [(.sc (.int .i64 0)),(.sc (.int .i64 0))] [(0,1,(.t 42)),(1,1,(.t 46))]),iS 2 6 47,iP 7 (xI 0)] [[],[],[0,1],[2,0,1],[],[],[4,5],[6,4,5],[3,2,0,1,7,6,4,5],[8,3,2,0,1,7,6,4,5],[9,8,3,2,0,1,7,6,4,5]]) .ret))))))
theorem dk20 : Dk Try.prog 20 ic20 [(.c 6 2 .true), (.t 7)] 48 := dk_ofY (fn := Try.f20) [] Try.func20 (by kernel_rfl) (by kernel_rfl) (by kernel_rfl)

def ic20a0 : IC := (.ops [iM 9 13])
def ic20b0 : IC := (.block 1 (.ops [iH 15 (yD 1 8),iM 16 9,iH 17 (.bsl 1 3 (.sc (.int .i64 0)) 1 [(0,(.t 16))]),iH 18 (.app 1 3 (.t 15) (.t 17)),iS 1 8 18]))
theorem rca20_0 : compY false Try.prog [] [] (rcA Try.f20 0) = some ic20a0 := by kernel_rfl
theorem rcb20_0 : compY false Try.prog [] [] (rcB Try.f20 0) = some ic20b0 := by kernel_rfl

noncomputable def ic22 : IC := (.seq (.ops [iP 2 (.mv (.k nlA))]) (.seq (.ops [iH 3 (.alloc nlA 22)]) (.seq (.seq (.ops [iM 6 0,iH 7 (.call 41 [(.t 6)])]) (.block 0 (.rng (.t 7) #[8,9] (rcA Try.f22 0) (rcB Try.f22 0)))) (.seq (.ops [iH 15 (yD 1 3),iM 2 15]) .ret))))
theorem dk22 : Dk Try.prog 22 ic22 [(.t 2)] 16 := dk_ofY (fn := Try.f22) [] Try.func22 (by kernel_rfl) (by kernel_rfl) (by kernel_rfl)

def ic22a0 : IC := (.ops [iM 5 9])
def ic22b0 : IC := (.block 1 (.dops [iH 10 (yD 1 3),iM 11 5,iH 12 (.call 43 [(.t 11)]),⟨(some 13),none,(.h (.bsl 1 9 (.sc (.string ⟨#[]⟩)) 1 [(0,(.t 12))]))⟩,iH 14 (.app 1 9 (.t 10) (.t 13)),iS 1 3 14] [[],[],[1],[2,1],[0,3,2,1],[4,0,3,2,1]]))
theorem rca22_0 : compY false Try.prog [] [] (rcA Try.f22 0) = some ic22a0 := by kernel_rfl
theorem rcb22_0 : compY false Try.prog [] [] (rcB Try.f22 0) = some ic22b0 := by kernel_rfl

end Go.Proofs.Ytigmpablpmanpaa
