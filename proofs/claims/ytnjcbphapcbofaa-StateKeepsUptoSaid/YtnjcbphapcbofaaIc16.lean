/- The abstract code of functions, printed by a small program; each is what the function's body is turned into. -/
import Derived.Test.YtnjcbphapcbofaaProg
import Derived.Test.YtnjcbphapcbofaaVC
import Derived.KernelRfl
namespace Go.Proofs.Ytnjcbphapcbofaa
set_option maxRecDepth 1000000

def ic24 : List IO' := [iM 2 4]
def ic24b : IC := (.seq (.ops [iM 5 2,iP 6 (.eqN .false (.t 5))]) (.cond (.t 6) (.seq (.ops [iP 3 (.mv kF)]) (.seq (.seq (.ops [iM 8 2,iP 9 (.tass 33 (.sc (.int .i64 0)) (.t 8)),iM 7 9,iP 10 (.ext (.t 7) 0),iP 11 (.ext (.t 7) 1),iS 1 0 10,iM 3 11]) (.seq (.ops [iM 12 3,iP 13 (xN 12)]) (.cond (.t 13) (.ops [iM 14 2,⟨none,none,(.h (.pan (.t 14)))⟩]) .skip))) (.ops [⟨none,none,(.h (.store 1 (.t 1) (.k nlA)))⟩]))) .skip))
theorem rec24 : compRec Try.prog [] (Try.f24.body.getD .skip) = some (4, ic24, ic24b) := by kernel_rfl

def ic43 : IC := (.seq (.ops [iP 4 (xI 0)]) (.seq (.ops [iM 5 0,iM 6 1,iH 7 (.gx .idxb [(.t 5),(.t 6)]),iM 4 7]) .ret))
theorem dk43 : Dk Try.prog 43 ic43 [(.t 4)] 8 := dk_of (fn := Try.f43) Try.func43 (by kernel_rfl) (by kernel_rfl) (by kernel_rfl)

def ic15 : IC := (.seq (.ops [iH 4 (.alloc nlA 22),iH 5 (.alloc (.sc (.int .i64 0)) 33)]) (.ops [iP 9 (.mkfn (.func 24) [] [(.t 5),(.t 4)])]))
def ic15b : IC := (.seq (.ops [iM 10 0,iH 11 (.call 10 [(.t 10)]),iH 12 (.call 25 [(.t 11),(kI 4)])]) (.seq (.ops [iM 13 1,iH 14 (.call 21 [(.t 13)]),iH 15 (.call 25 [(.t 14),(kI 2)])]) (.seq (.ops [iM 16 0,iH 17 (.call 26 [(.t 16)]),iP 18 (.build [nlA] [(0,1,(.t 17))]),iP 19 (.build [nlA] [(0,1,(.t 18))]),iH 6 (.alloc (.agg [nlA]) 50),iS 1 6 19]) (.seq (.seq (.ops [iM 20 1,iP 21 (xL 20),iP 22 (xI 0)]) (.block 0 (.loop (.seq (.ops [iP 23 (xB .lss 22 21)]) (.seq (.cond (.t 23) .skip (.exit 0)) (.seq (.block 1 (.seq (.ops [iP 24 (xA 2 20 22),iH 25 (yA 2 24),⟨(some 8),none,(.h (.alloc (.agg [(.sc (.string ⟨#[]⟩)),(.sc (.string ⟨#[]⟩))]) 32))⟩,iS 2 8 25]) (.ops [iP 26 (.faddr 0 (.t 6)),iH 27 (yA 2 8),iH 28 (yC 27 26 27)]))) (.ops [iP 29 (.bin .add (.t 22) (kI 1)),iM 22 29]))))))) (.seq (.ops [iP 30 (.faddr 0 (.t 6)),iP 31 (.faddr 0 (.t 30)),iH 32 (yD 1 31),iS 1 4 32,⟨none,none,(.h (.store 1 (.t 5) (kI 0)))⟩]) .ret)))))
theorem dk15 {args : List AV} {H : AHeap} {Kr : AEnd → AHeap → Prop} (h : ES Try.prog ic15 (preS Try.prog 24 9 ic15b (bodyD Try.prog 4 ic24 ic24b 15 [(.c 4 1 .false), (.c 5 1 .false)] Kr) (bodyS [(.c 4 1 .false), (.c 5 1 .false)] Kr)) (args ++ List.replicate (33 - args.length) (.tup [])) H) : DK Try.prog 15 args H Kr :=
  DK_of_defer (fn := Try.f15) (c := Try.f15.body.getD .skip) (vecs := []) (gvecs := []) Try.func15 (by kernel_rfl) (by kernel_rfl) (by kernel_rfl) (gn := Try.f24) (gc := Try.f24.body.getD .skip) Try.func24 (by kernel_rfl) rec24 (by kernel_rfl) (by kernel_rfl) h

def ic25 : IC := (.seq (.ops [iM 4 0,iP 5 (xN 4)]) (.cond (.t 5) (.ops [iM 6 1,iP 7 (.mkif 33 (.t 6)),⟨none,none,(.h (.pan (.t 7)))⟩]) .skip))
theorem dk25 : Dk Try.prog 25 ic25 [] 8 := dk_of (fn := Try.f25) Try.func25 (by kernel_rfl) (by kernel_rfl) (by kernel_rfl)

def ic10 : IC := (.seq (.ops [iP 2 (.mv kF)]) (.seq (.seq (.ops [iM 4 0,iP 5 (xL 4),iP 6 (xI 0)]) (.block 0 (.loop (.seq (.ops [iP 7 (xB .lss 6 5)]) (.seq (.cond (.t 7) .skip (.exit 0)) (.seq (.block 1 (.seq (.ops [iM 8 6,iM 3 8]) (.seq (.dops [iM 9 3,iP 10 (.bin .gtr (.t 9) (kI 0)),iM 11 10,gM 12 11 .true 0,gM 13 11 .true 3,gP 14 11 .true (.bin .sub (.t 13) (kI 1)),gP 15 11 .true (xA 2 12 14),gP 16 11 .true (.faddr 0 (.t 15)),gH 17 11 .true (yD 1 16),gM 18 11 .true 0,gM 19 11 .true 3,gP 20 11 .true (xA 2 18 19),gP 21 11 .true (.faddr 0 (.t 20)),gH 22 11 .true (yD 1 21),gP 23 11 .true (xB .geq 17 22),iP 24 (.pick (.t 11) (.t 23) kF)] [[],[0],[1,0],[2,1,0],[2,1,0],[4,2,1,0],[3,2,1,0,5,4],[6,3,2,1,0,5,4],[7,6,3,2,1,0,5,4],[2,1,0],[2,1,0],[9,2,1,0,10],[11,9,2,1,0,10],[12,11,9,2,1,0,10],[8,7,6,3,2,1,0,5,4,13,12,11,9,10],[2,1,0,14,8,7,6,3,5,4,13,12,11,9,10]]) (.cond (.t 24) (.seq (.ops [iP 2 (.mv kF)]) .ret) .skip)))) (.ops [iP 25 (.bin .add (.t 6) (kI 1)),iM 6 25]))))))) (.seq (.ops [iM 26 0,iH 27 (.call 21 [(.t 26)]),iM 2 27]) .ret)))
theorem dk10 : Dk Try.prog 10 ic10 [(.t 2)] 28 := dk_of (fn := Try.f10) Try.func10 (by kernel_rfl) (by kernel_rfl) (by kernel_rfl)

def ic21 : IC := (.seq (.ops [iP 2 (.mv kF)]) (.seq (.ops [iM 3 0,iH 4 (.call 29 [(.t 3),(.k (.fn (.func 30) [] []))]),iP 5 (xN 4),iM 2 5]) .ret))
theorem dk21 : Dk Try.prog 21 ic21 [(.t 2)] 6 := dk_of (fn := Try.f21) Try.func21 (by kernel_rfl) (by kernel_rfl) (by kernel_rfl)

def ic30 : IC := (.seq (.ops [iH 1 (.box 2 32 (.t 0)),iP 2 (.mv kF)]) (.seq (.ops [iP 3 (.faddr 0 (.t 1)),iH 4 (yD 1 3),iH 5 (.call 31 [(.t 4)]),iP 6 (xN 5),iM 2 6]) .ret))
theorem dk30 : Dk Try.prog 30 ic30 [(.t 2)] 7 := dk_of (fn := Try.f30) Try.func30 (by kernel_rfl) (by kernel_rfl) (by kernel_rfl)

def ic31 : IC := (.seq (.ops [iP 2 (.mv kF)]) (.seq (.ops [iP 3 (.mv (.k (.fn (.func 35) [] [])))]) (.seq (.ops [iM 4 0,⟨(some 5),none,(.p (.bin .neq (.t 4) (.k (.sc (.string ⟨#[]⟩)))))⟩,iM 6 5,gM 7 6 .true 0,gP 8 6 .true (.lenS (.t 7)),gP 9 6 .true (.bin .leq (.t 8) (kI 24)),iP 10 (.pick (.t 6) (.t 9) kF),iM 11 10,gM 12 11 .true 0,gH 13 11 .true (.gx .s2b [(.t 12)]),gM 14 11 .true 3,gH 15 11 .true (yC 37 13 14),gP 16 11 .true (xN 15),iP 17 (.pick (.t 11) (.t 16) kF),iM 2 17]) .ret)))
theorem dk31 : Dk Try.prog 31 ic31 [(.t 2)] 18 := dk_of (fn := Try.f31) Try.func31 (by kernel_rfl) (by kernel_rfl) (by kernel_rfl)

def ic35 : IC := (.seq (.ops [iP 2 (.mv kF)]) (.seq (.ops [iM 3 0,⟨(some 4),none,(.h (.call 36 [(.k (.sc (.string ⟨#[97,98,99,100,101,102,103,104,105,106,107,108,109,110,111,112,113,114,115,116,117,118,119,120,121,122,65,66,67,68,69,70,71,72,73,74,75,76,77,78,79,80,81,82,83,84,85,86,87,88,89,90,48,49,50,51,52,53,54,55,56,57,46,95]⟩))),(.t 3)]))⟩,iP 5 (.bin .lss (.t 4) (kI 0)),iM 2 5]) .ret))
theorem dk35 : Dk Try.prog 35 ic35 [(.t 2)] 6 := dk_of (fn := Try.f35) Try.func35 (by kernel_rfl) (by kernel_rfl) (by kernel_rfl)

def ic8 : IC := (.seq (.ops [iH 3 (.box 1 9 (.t 1)),⟨(some 4),none,(.p (.mv (.k (.sc (.string ⟨#[]⟩)))))⟩,iP 5 (.mv kF)]) (.seq (.ops [iM 7 0,iP 8 (.mkfn (.func 20) [] [(.t 3)]),iH 9 (yC 19 7 8),iM 6 9]) (.seq (.seq (.ops [iM 10 6,iP 11 (.bin .lss (.t 10) (kI 0))]) (.cond (.t 11) (.seq (.ops [⟨(some 4),none,(.p (.mv (.k (.sc (.string ⟨#[]⟩)))))⟩,iP 5 (.mv kF)]) .ret) .skip)) (.seq (.ops [iM 12 0,iM 13 6,iP 14 (xA 2 12 13),iP 15 (.faddr 1 (.t 14)),iH 16 (yD 1 15),iM 4 16,iP 5 (.mv kT)]) .ret))))
theorem dk8 : Dk Try.prog 8 ic8 [(.t 4), (.t 5)] 17 := dk_of (fn := Try.f8) Try.func8 (by kernel_rfl) (by kernel_rfl) (by kernel_rfl)

def ic20 : IC := (.seq (.ops [iH 2 (.box 2 32 (.t 0)),iP 3 (.mv kF)]) (.seq (.ops [iP 4 (.faddr 0 (.t 2)),iH 5 (yD 1 4),iH 6 (yD 1 1),iP 7 (xB .eql 5 6),iM 3 7]) .ret))
theorem dk20 : Dk Try.prog 20 ic20 [(.t 3)] 8 := dk_of (fn := Try.f20) Try.func20 (by kernel_rfl) (by kernel_rfl) (by kernel_rfl)

def ic12 : IC := (.seq (.ops [iP 4 (.mv kF)]) (.seq (.ops [iM 5 0,iM 6 1,iH 7 (yC 23 5 6),iM 4 7]) .ret))
theorem dk12 : Dk Try.prog 12 ic12 [(.t 4)] 8 := dk_of (fn := Try.f12) Try.func12 (by kernel_rfl) (by kernel_rfl) (by kernel_rfl)

def ic32 : IC := (.seq (.ops [iH 5 (.box 1 58 (.t 2)),iP 6 (xI 0),iP 7 (.mv kF)]) (.seq (.ops [iM 8 0,iM 9 1,iP 10 (.mkfn (.func 39) [] [(.t 5)]),iH 11 (.call 38 [(.t 8),(.t 9),(.t 10)]),iP 12 (.ext (.t 11) 0),iP 13 (.ext (.t 11) 1),iM 6 12,iM 7 13]) .ret))
theorem dk32 : Dk Try.prog 32 ic32 [(.t 6), (.t 7)] 14 := dk_of (fn := Try.f32) Try.func32 (by kernel_rfl) (by kernel_rfl) (by kernel_rfl)

def ic39 : IC := (.seq (.ops [iH 3 (.box 2 32 (.t 0)),iP 5 (xI 0)]) (.seq (.ops [iH 6 (yD 1 2),iH 7 (yA 2 3),iH 8 (.callv (.t 6) [(.t 7)]),iM 9 1,iH 10 (yC 40 8 9),iM 5 10]) .ret))
theorem dk39 : Dk Try.prog 39 ic39 [(.t 5)] 11 := dk_of (fn := Try.f39) Try.func39 (by kernel_rfl) (by kernel_rfl) (by kernel_rfl)

def ic27 : IC := (.seq (.ops [iH 3 (.box 2 32 (.t 1))]) (.seq (.dops [iM 7 0,iP 8 (.nilck (.t 7)),iP 9 (.faddr 0 (.t 8)),iH 10 (yD 1 9),iP 11 (.faddr 0 (.t 3)),iH 12 (yD 1 11),iH 13 (.call 32 [(.t 10),(.t 12),(.k (.fn (.func 33) [] []))]),iM 6 13,iP 14 (.ext (.t 6) 0),iP 15 (.ext (.t 6) 1),iM 4 14,iM 5 15] [[],[0],[1,0],[2,1,0],[],[4],[3,2,1,0,5,4],[6,3,2,1,0,5,4],[7,6,3,2,1,0,5,4],[7,6,3,2,1,0,5,4],[8,7,6,3,2,1,0,5,4],[9,7,6,3,2,1,0,5,4,10,8]]) (.seq (.seq (.ops [iM 16 5]) (.cond (.t 16) (.seq (.dops [iM 17 0,iP 18 (.nilck (.t 17)),iP 19 (.faddr 0 (.t 18)),iH 20 (yD 1 19),iM 21 4,iH 22 (yA 2 3),iP 23 (xA 2 20 21),iS 2 23 22] [[],[0],[1,0],[2,1,0],[],[],[3,2,1,0,4,5],[6,3,2,1,0,4,5]]) .ret) .skip)) (.dops [iM 24 0,iM 25 0,iP 26 (.nilck (.t 25)),iP 27 (.faddr 0 (.t 26)),iH 28 (yD 1 27),iM 29 4,iH 30 (yA 2 3),⟨(some 31),none,(.h (.bsl 2 32 (.agg [(.sc (.string ⟨#[]⟩)),(.sc (.string ⟨#[]⟩))]) 1 [(0,(.t 30))]))⟩,iH 32 (.call 34 [(.t 28),(.t 29),(.t 31)]),iP 33 (.nilck (.t 24)),iP 34 (.faddr 0 (.t 33)),iS 1 34 32] [[],[],[1],[2,1],[3,2,1],[],[],[6],[4,3,2,1,5,7,6],[0,1,2,3,4,5,6,7,8],[9,0,1,2,3,4,5,6,7,8],[10,9,0,1,2,3,4,5,6,7,8]]))))
theorem dk27 : Dk Try.prog 27 ic27 [] 35 := dk_of (fn := Try.f27) Try.func27 (by kernel_rfl) (by kernel_rfl) (by kernel_rfl)

def ic33 : IC := (.seq (.ops [iH 1 (.box 2 32 (.t 0)),⟨(some 2),none,(.p (.mv (.k (.sc (.string ⟨#[]⟩)))))⟩]) (.seq (.ops [iP 3 (.faddr 0 (.t 1)),iH 4 (yD 1 3),iM 2 4]) .ret))
theorem dk33 : Dk Try.prog 33 ic33 [(.t 2)] 5 := dk_of (fn := Try.f33) Try.func33 (by kernel_rfl) (by kernel_rfl) (by kernel_rfl)

def ic26 : IC := (.seq (.ops [iP 2 (.mv (.k nlA))]) (.seq (.seq (.ops [iM 3 0,iP 4 (.nilS .true (.t 3))]) (.cond (.t 4) (.seq (.ops [iP 2 (.mv (.k nlA))]) .ret) .skip)) (.seq (.ops [⟨(some 5),none,(.h (.bsl 2 32 (.agg [(.sc (.string ⟨#[]⟩)),(.sc (.string ⟨#[]⟩))]) 0 []))⟩,iM 6 0,iH 7 (.app 2 32 (.t 5) (.t 6)),iM 2 7]) .ret)))
theorem dk26 : Dk Try.prog 26 ic26 [(.t 2)] 8 := dk_of (fn := Try.f26) Try.func26 (by kernel_rfl) (by kernel_rfl) (by kernel_rfl)

def ic19 : IC := (.seq (.ops [iP 4 (xI 0)]) (.seq (.seq (.ops [iM 6 0,iP 7 (xL 6),iP 8 (xI 0)]) (.block 0 (.loop (.seq (.ops [iP 9 (xB .lss 8 7)]) (.seq (.cond (.t 9) .skip (.exit 0)) (.seq (.block 1 (.seq (.ops [iM 10 8,iM 5 10]) (.seq (.ops [iM 11 1,iM 12 0,iM 13 5,iP 14 (xA 2 12 13),iH 15 (yA 2 14),iH 16 (.callv (.t 11) [(.t 15)])]) (.cond (.t 16) (.seq (.ops [iM 17 5,iM 4 17]) .ret) .skip)))) (.ops [iP 18 (.bin .add (.t 8) (kI 1)),iM 8 18]))))))) (.seq (.ops [iP 4 (xI (-1))]) .ret)))
theorem dk19 : Dk Try.prog 19 ic19 [(.t 4)] 19 := dk_of (fn := Try.f19) Try.func19 (by kernel_rfl) (by kernel_rfl) (by kernel_rfl)

def ic23 : IC := (.seq (.ops [iP 4 (.mv kF)]) (.seq (.seq (.ops [iM 6 0,iP 7 (xL 6),iM 8 1,iP 9 (xL 8),iP 10 (xB .neq 7 9)]) (.cond (.t 10) (.seq (.ops [iP 4 (.mv kF)]) .ret) .skip)) (.seq (.seq (.ops [iM 11 0,iP 12 (xL 11),iP 13 (xI 0)]) (.block 0 (.loop (.seq (.ops [iP 14 (xB .lss 13 12)]) (.seq (.cond (.t 14) .skip (.exit 0)) (.seq (.block 1 (.seq (.ops [iM 15 13,iM 5 15]) (.seq (.dops [iM 16 0,iM 17 5,iP 18 (xA 2 16 17),iH 19 (yA 2 18),iM 20 1,iM 21 5,iP 22 (xA 2 20 21),iH 23 (yA 2 22),iH 24 (.gx (.eqA .false [none,none]) [(.t 19),(.t 23)])] [[],[],[0,1],[2,0,1],[],[],[4,5],[6,4,5],[3,2,0,1,7,6,4,5]]) (.cond (.t 24) (.seq (.ops [iP 4 (.mv kF)]) .ret) .skip)))) (.ops [iP 25 (.bin .add (.t 13) (kI 1)),iM 13 25]))))))) (.seq (.ops [iP 4 (.mv kT)]) .ret))))
theorem dk23 : Dk Try.prog 23 ic23 [(.t 4)] 26 := dk_of (fn := Try.f23) Try.func23 (by kernel_rfl) (by kernel_rfl) (by kernel_rfl)

def ic29 : IC := (.seq (.ops [iP 4 (.mv kF)]) (.seq (.ops [iM 5 0,iM 6 1,iH 7 (yC 19 5 6),iP 8 (.bin .geq (.t 7) (kI 0)),iM 4 8]) .ret))
theorem dk29 : Dk Try.prog 29 ic29 [(.t 4)] 9 := dk_of (fn := Try.f29) Try.func29 (by kernel_rfl) (by kernel_rfl) (by kernel_rfl)

def ic37 : IC := (.seq (.ops [iP 4 (.mv kF)]) (.seq (.ops [iM 5 0,iM 6 1,iH 7 (yC 44 5 6),iP 8 (.bin .geq (.t 7) (kI 0)),iM 4 8]) .ret))
theorem dk37 : Dk Try.prog 37 ic37 [(.t 4)] 9 := dk_of (fn := Try.f37) Try.func37 (by kernel_rfl) (by kernel_rfl) (by kernel_rfl)

def ic44 : IC := (.seq (.ops [iP 4 (xI 0)]) (.seq (.seq (.ops [iM 6 0,iP 7 (xL 6),iP 8 (xI 0)]) (.block 0 (.loop (.seq (.ops [iP 9 (xB .lss 8 7)]) (.seq (.cond (.t 9) .skip (.exit 0)) (.seq (.block 1 (.seq (.ops [iM 10 8,iM 5 10]) (.seq (.ops [iM 11 1,iM 12 0,iM 13 5,iP 14 (xA 1 12 13),iH 15 (yD 1 14),iH 16 (.callv (.t 11) [(.t 15)])]) (.cond (.t 16) (.seq (.ops [iM 17 5,iM 4 17]) .ret) .skip)))) (.ops [iP 18 (.bin .add (.t 8) (kI 1)),iM 8 18]))))))) (.seq (.ops [iP 4 (xI (-1))]) .ret)))
theorem dk44 : Dk Try.prog 44 ic44 [(.t 4)] 19 := dk_of (fn := Try.f44) Try.func44 (by kernel_rfl) (by kernel_rfl) (by kernel_rfl)

def ic34 : IC := (.seq (.ops [iP 6 (.mv (.k nlA))]) (.seq (.ops [iM 10 0,iM 11 1,iP 12 (.slc 2 (.t 10) (some (.t 11)) none none)]) (.seq (.ops [iM 13 2,iP 14 (xL 13),iM 7 14]) (.seq (.seq (.ops [iM 15 7,iP 16 (.bin .eql (.t 15) (kI 0))]) (.cond (.t 16) (.seq (.ops [iM 17 0,iM 6 17]) .ret) .skip)) (.seq (.ops [iM 18 0,iP 19 (xL 18),iM 8 19]) (.seq (.seq (.ops [iM 20 1,iM 21 8,iP 22 (xB .eql 20 21)]) (.cond (.t 22) (.seq (.ops [iM 23 0,iM 24 2,iH 25 (.app 2 32 (.t 23) (.t 24)),iM 6 25]) .ret) .skip)) (.seq (.seq (.ops [iM 26 8,iM 27 7,iP 28 (xB .add 26 27),iM 29 0,iH 30 (.gx .cap [(.t 29)]),iP 31 (xB .gtr 28 30)]) (.cond (.t 31) (.seq (.ops [iM 32 0,iM 33 1,iP 34 (.slc 2 (.t 32) none (some (.t 33)) none),iM 35 8,iM 36 7,iP 37 (xB .add 35 36),iM 38 1,iP 39 (xB .sub 37 38),⟨(some 40),none,(.h (.gx (.appz 2 32 (.agg [(.sc (.string ⟨#[]⟩)),(.sc (.string ⟨#[]⟩))])) [(.t 34),(.t 39)]))⟩,iM 9 40]) (.seq (.ops [iM 41 9,iM 42 1,iP 43 (.slc 2 (.t 41) (some (.t 42)) none none),iM 44 2,iH 45 (.gx (.copy 2) [(.t 43),(.t 44)])]) (.seq (.dops [iM 46 9,iM 47 1,iM 48 7,iP 49 (xB .add 47 48),iP 50 (.slc 2 (.t 46) (some (.t 49)) none none),iM 51 0,iM 52 1,iP 53 (.slc 2 (.t 51) (some (.t 52)) none none),iH 54 (.gx (.copy 2) [(.t 50),(.t 53)])] [[],[],[],[1,2],[0,3,1,2],[],[],[5,6],[4,0,3,1,2,7,5,6]]) (.seq (.ops [iM 55 9,iM 6 55]) .ret)))) .skip)) (.seq (.ops [iM 56 0,iM 57 8,iM 58 7,iP 59 (xB .add 57 58),iP 60 (.slc 2 (.t 56) none (some (.t 59)) none),iM 0 60]) (.seq (.seq (.ops [iM 61 2,iM 62 0,iM 63 1,iM 64 7,iP 65 (xB .add 63 64),iP 66 (.slc 2 (.t 62) (some (.t 65)) none none),iH 67 (.gx .ovl [(.t 61),(.t 66)]),iP 68 (xN 67)]) (.cond (.t 68) (.seq (.dops [iM 69 0,iM 70 1,iM 71 7,iP 72 (xB .add 70 71),iP 73 (.slc 2 (.t 69) (some (.t 72)) none none),iM 74 0,iM 75 1,iP 76 (.slc 2 (.t 74) (some (.t 75)) none none),iH 77 (.gx (.copy 2) [(.t 73),(.t 76)])] [[],[],[],[1,2],[0,3,1,2],[],[],[5,6],[4,0,3,1,2,7,5,6]]) (.seq (.ops [iM 78 0,iM 79 1,iP 80 (.slc 2 (.t 78) (some (.t 79)) none none),iM 81 2,iH 82 (.gx (.copy 2) [(.t 80),(.t 81)])]) (.seq (.ops [iM 83 0,iM 6 83]) .ret))) .skip)) (.seq (.ops [iM 84 0,iM 85 8,iP 86 (.slc 2 (.t 84) (some (.t 85)) none none),iM 87 2,iH 88 (.gx (.copy 2) [(.t 86),(.t 87)])]) (.seq (.ops [iM 89 0,iM 90 1,iP 91 (.slc 2 (.t 89) (some (.t 90)) none none),iM 92 7,iH 93 (yC 42 91 92)]) (.seq (.ops [iM 94 0,iM 6 94]) .ret))))))))))))
theorem dk34 : Dk Try.prog 34 ic34 [(.t 6)] 95 := dk_of (fn := Try.f34) Try.func34 (by kernel_rfl) (by kernel_rfl) (by kernel_rfl)

def ic38 : IC := (.seq (.ops [iP 6 (xI 0),iP 7 (.mv kF)]) (.seq (.ops [iM 12 0,iP 13 (xL 12),iM 8 13]) (.seq (.ops [iM 14 8,iP 9 (xI 0),iM 10 14]) (.seq (.block 0 (.loop (.seq (.seq (.ops [iM 15 9,iM 16 10,iP 17 (xB .lss 15 16)]) (.cond (.t 17) .skip (.exit 0))) (.block 1 (.seq (.ops [iM 18 9,iM 19 10,iP 20 (xB .add 18 19),iP 21 (.conv .u64 (.t 20)),iP 22 (.shf .shr (.t 21) (.k (.sc (.int .u64 1)))),iP 23 (.conv .i64 (.t 22)),iM 11 23]) (.seq (.ops [iM 24 2,iM 25 0,iM 26 11,iP 27 (xA 2 25 26),iH 28 (yA 2 27),iM 29 1,iH 30 (.callv (.t 24) [(.t 28),(.t 29)]),iP 31 (.bin .lss (.t 30) (kI 0))]) (.cond (.t 31) (.ops [iM 32 11,iP 33 (.bin .add (.t 32) (kI 1)),iM 9 33]) (.ops [iM 34 11,iM 10 34])))))))) (.seq (.ops [iM 35 9,iM 36 9,iM 37 8,iP 38 (xB .lss 36 37),iM 39 38,gM 40 39 .true 2,gM 41 39 .true 0,gM 42 39 .true 9,gP 43 39 .true (xA 2 41 42),gH 44 39 .true (yA 2 43),gM 45 39 .true 1,gH 46 39 .true (.callv (.t 40) [(.t 44),(.t 45)]),gP 47 39 .true (.bin .eql (.t 46) (kI 0)),iP 48 (.pick (.t 39) (.t 47) kF),iM 6 35,iM 7 48]) .ret)))))
theorem dk38 : Dk Try.prog 38 ic38 [(.t 6), (.t 7)] 49 := dk_of (fn := Try.f38) Try.func38 (by kernel_rfl) (by kernel_rfl) (by kernel_rfl)

def ic40 : IC := (.seq (.ops [iP 4 (xI 0)]) (.seq (.ops [iM 7 0,iH 8 (.call 45 [(.t 7)]),iM 5 8]) (.seq (.ops [iM 9 1,iH 10 (.call 45 [(.t 9)]),iM 6 10]) (.seq (.seq (.ops [iM 11 5]) (.cond (.t 11) (.seq (.seq (.ops [iM 12 6]) (.cond (.t 12) (.seq (.ops [iP 4 (xI 0)]) .ret) .skip)) (.seq (.ops [iP 4 (xI (-1))]) .ret)) .skip)) (.seq (.seq (.ops [iM 13 6]) (.cond (.t 13) (.seq (.ops [iP 4 (xI 1)]) .ret) .skip)) (.seq (.seq (.ops [iM 14 0,iM 15 1,iP 16 (xB .lss 14 15)]) (.cond (.t 16) (.seq (.ops [iP 4 (xI (-1))]) .ret) .skip)) (.seq (.seq (.ops [iM 17 0,iM 18 1,iP 19 (xB .gtr 17 18)]) (.cond (.t 19) (.seq (.ops [iP 4 (xI 1)]) .ret) .skip)) (.seq (.ops [iP 4 (xI 0)]) .ret))))))))
theorem dk40 : Dk Try.prog 40 ic40 [(.t 4)] 20 := dk_of (fn := Try.f40) Try.func40 (by kernel_rfl) (by kernel_rfl) (by kernel_rfl)

def ic45 : IC := (.seq (.ops [iP 2 (.mv kF)]) (.seq (.ops [iM 3 0,iM 4 0,iP 5 (xB .neq 3 4),iM 2 5]) .ret))
theorem dk45 : Dk Try.prog 45 ic45 [(.t 2)] 6 := dk_of (fn := Try.f45) Try.func45 (by kernel_rfl) (by kernel_rfl) (by kernel_rfl)

end Go.Proofs.Ytnjcbphapcbofaa
