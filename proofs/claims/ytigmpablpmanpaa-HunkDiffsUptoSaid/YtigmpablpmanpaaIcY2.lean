/- The abstract code of functions that range over functions, and of the rounds, printed by a small program; each is what the function's body is turned into. -/
import Derived.Test.YtigmpablpmanpaaProg
import Derived.Test.YtigmpablpmanpaaV39
import Derived.KernelRfl
namespace Go.Proofs.Ytigmpablpmanpaa
set_option maxRecDepth 1000000

def ic49 : IC := (.seq (.ops [iH 4 (.alloc (.agg [(.sc (.int .i64 0)),(.sc (.int .i64 0))]) 89)]) (.seq (.dops [iH 8 (yD 1 1),iH 9 (yD 1 2),iH 10 (yC 50 8 9),iH 11 (yD 1 1),iP 12 (xL 11),iH 13 (yD 1 2),iP 14 (xL 13),iP 15 (.build [(.sc (.int .i64 0)),(.sc (.int .i64 0))] [(0,1,(.t 12)),(1,1,(.t 14))]),iH 16 (.bsl 2 89 (.agg [(.sc (.int .i64 0)),(.sc (.int .i64 0))]) 1 [(0,(.t 15))]),iH 17 (.app 2 89 (.t 10) (.t 16)),iP 18 (xL 17),iP 19 (xI 0)] [[],[],[0,1],[],[3],[],[5],[4,3,6,5],[7,4,3,6,5],[2,0,1,8,7,4,3,6,5],[9,2,0,1,8,7,4,3,6,5],[]]) (.block 0 (.loop (.seq (.ops [iP 20 (xB .lss 19 18)]) (.seq (.cond (.t 20) .skip (.exit 0)) (.seq (.block 1 (.seq (.ops [iP 21 (xA 2 17 19),iH 22 (yA 2 21),iH 6 (.alloc (.agg [(.sc (.int .i64 0)),(.sc (.int .i64 0))]) 89),iS 2 6 22]) (.seq (.dops [iH 7 (.alloc (.agg [(.sc (.int .i64 0)),nlA,nlA]) 51),iP 23 (.iaddrA 2 1 (.t 4) (kI 0)),iH 24 (yD 1 23),iH 25 (yD 1 1),iP 26 (.iaddrA 2 1 (.t 4) (kI 0)),iH 27 (yD 1 26),iP 28 (.iaddrA 2 1 (.t 6) (kI 0)),iH 29 (yD 1 28),iP 30 (.slc 1 (.t 25) (some (.t 27)) (some (.t 29)) none),iH 31 (.call 51 [(.t 30)]),iH 32 (yD 1 2),iP 33 (.iaddrA 2 1 (.t 4) (kI 1)),iH 34 (yD 1 33),iP 35 (.iaddrA 2 1 (.t 6) (kI 1)),iH 36 (yD 1 35),iP 37 (.slc 1 (.t 32) (some (.t 34)) (some (.t 36)) none),iH 38 (.call 51 [(.t 37)]),iP 39 (.build [(.sc (.int .i64 0)),nlA,nlA] [(0,1,(.t 24)),(1,1,(.t 31)),(2,1,(.t 38))]),iS 3 7 39] [[],[],[1],[],[],[4],[],[6],[3,5,4,7,6],[8,3,5,4,7,6],[],[],[11],[],[13],[10,12,11,14,13],[15,10,12,11,14,13,9,8,3,5,4,7,6],[2,1,9,8,3,5,4,7,6,16,15,10,12,11,14,13],[0,17,2,1,9,8,3,5,4,7,6,16,15,10,12,11,14,13]]) (.seq (.seq (.yld [iP 40 (.faddr 1 (.t 7)),iH 41 (yD 1 40),iP 42 (xL 41),iP 43 (.faddr 2 (.t 7)),iH 44 (yD 1 43),iP 45 (xL 44),iP 46 (xB .add 42 45),iP 47 (.bin .gtr (.t 46) (kI 0)),iM 48 47,gM 49 48 .true 0,gH 50 48 .true (yA 3 7)] (some (48,.true)) (.t 49) [(.t 50)] (some 51) [gP 52 48 .true (xN 51),iP 53 (.pick (.t 48) (.t 52) kF)]) (.cond (.t 53) .ret .skip)) (.ops [iP 54 (.iaddrA 2 1 (.t 6) (kI 0)),iH 55 (yD 1 54),iP 56 (.bin .add (.t 55) (kI 1)),iP 57 (.iaddrA 2 1 (.t 6) (kI 1)),iH 58 (yD 1 57),iP 59 (.bin .add (.t 58) (kI 1)),iP 60 (.build [(.sc (.int .i64 0)),(.sc (.int .i64 0))] [(0,1,(.t 56)),(1,1,(.t 59))]),iS 2 4 60]))))) (.ops [iP 61 (.bin .add (.t 19) (kI 1)),iM 19 61]))))))))
theorem dk49 : Dk Try.prog 49 ic49 [] 62 := dk_ofY (fn := Try.f49) [5] Try.func49 (by kernel_rfl) (by kernel_rfl) (by kernel_rfl)

noncomputable def ic12 : IC := (.seq (.ops [iP 4 (.mv (.k nlA))]) (.seq (.ops [iH 5 (.alloc nlA 28)]) (.seq (.seq (.ops [iM 7 0,iM 8 1,iH 9 (yC 37 7 8)]) (.block 0 (.rng (.t 9) #[10] (rcA Try.f12 0) (rcB Try.f12 0)))) (.seq (.ops [iH 15 (yD 1 5),iM 4 15]) .ret))))
theorem dk12 : Dk Try.prog 12 ic12 [(.t 4)] 16 := dk_ofY (fn := Try.f12) [] Try.func12 (by kernel_rfl) (by kernel_rfl) (by kernel_rfl)

def ic12a0 : IC := (.ops [iH 6 (.alloc (.agg [(.sc (.int .i64 0)),nlA,nlA]) 51),iS 3 6 10])
def ic12b0 : IC := (.block 1 (.ops [iH 11 (yD 1 5),iH 12 (yA 3 6),iH 13 (.bsl 3 51 (.agg [(.sc (.int .i64 0)),nlA,nlA]) 1 [(0,(.t 12))]),iH 14 (.app 3 51 (.t 11) (.t 13)),iS 1 5 14]))
theorem rca12_0 : compY false Try.prog [] [] (rcA Try.f12 0) = some ic12a0 := by kernel_rfl
theorem rcb12_0 : compY false Try.prog [] [] (rcB Try.f12 0) = some ic12b0 := by kernel_rfl

end Go.Proofs.Ytigmpablpmanpaa
