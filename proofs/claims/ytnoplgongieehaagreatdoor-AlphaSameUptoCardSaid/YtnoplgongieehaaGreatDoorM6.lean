import Derived.Test.YtnoplgongieehaaGreatDoorProg
import Derived.Test.YtnoplgongieehaaGreatDoorM3
import Derived.KernelRfl
import Derived.Test.YtnoplgongieehaaGreatDoorM5
import Derived.Test.YtnoplgongieehaaGreatDoorM4
namespace Go.Proofs.YtnoplgongieehaaGreatDoor
set_option maxRecDepth 1000000
def VW:IC:=(.seq (.ops [⟨(some 2),none,(.h (.alloc (.agg [(.Z (.int .u8 0)),(.Z (.string ⟨#[]⟩)),(.Z (.int .i64 0)),aV]) 25))⟩,iH 3 (.alloc (.agg [(.Z (.int .i64 0)),(.Z (.int .i64 0))]) 93)]) (.seq (.ops [iM 10 0,iH 11 (.call 104 [(.t 10)]),iM 9 11,iP 12 (.ext (.t 9) 0),iP 13 (.ext (.t 9) 1),iH 5 (.alloc (.agg [(.Z (.int .i64 0)),(.Z (.int .i64 0))]) 93),iM 4 12,iS 2 5 13]) (.seq (.seq (.ops [iP 14 (.af 0 (.t 5)),iH 15 (yD 1 14),iP 16 (.az .neq (.t 15) (kI 0))]) (.cond (.t 16) (.seq (.cH [⟨(some 17),none,(.p (.build [(.Z (.int .u8 0)),(.Z (.string ⟨#[]⟩)),(.Z (.int .i64 0)),aV] []))⟩,iH 18 (yA 2 5),iS 4 2 17,iS 2 3 18] [[],[],[0],[1,2,0]]) .ret) .skip)) (.seq (.ops [iM 19 4,iP 20 (.build [aV,(.Z (.int .i64 0)),(.Z (.int .i64 0)),(.Z (.int .i64 0)),(.Z (.int .i64 0))] [(0,1,(.t 19))]),iH 21 (.box 5 150 (.t 20)),iM 6 21]) (.seq (.ops [⟨(some 22),none,(.p (.build [(.Z (.int .u8 0)),(.Z (.string ⟨#[]⟩)),(.Z (.int .i64 0)),aV] [(0,1,(.k (.Z (.int .u8 1))))]))⟩,⟨(some 7),none,(.h (.alloc (.agg [(.Z (.int .u8 0)),(.Z (.string ⟨#[]⟩)),(.Z (.int .i64 0)),aV]) 25))⟩,iS 4 7 22]) (.seq (.block 0 (.loop (.seq (.seq (.cH [iM 23 6,iP 24 (.aP (.t 23)),iP 25 (.af 3 (.t 24)),iP 26 (.af 0 (.t 25)),iH 27 (yD 1 26),iP 28 (.az .eql (.t 27) (kI 0)),iM 29 28,gM 30 29 .true 6,gP 31 29 .true (.aP (.t 30)),gP 32 29 .true (.af 0 (.t 31)),gH 33 29 .true (yD 1 32),gM 34 29 .true 6,gP 35 29 .true (.aP (.t 34)),gP 36 29 .true (.af 1 (.t 35)),gH 37 29 .true (yD 1 36),gP 38 29 .true (xA 3 33 37),gP 39 29 .true (.af 0 (.t 38)),gH 40 29 .true (yD 1 39),gP 41 29 .true (.az .neq (.t 40) (.k (.Z (.int .u8 5)))),iP 42 (.pick (.t 29) (.t 41) kF)] [[],[0],[1,0],[2,1,0],[3,2,1,0],[4,3,2,1,0],[5,4,3,2,1,0],[6,5,4,3,2,1,0],[7,6,5,4,3,2,1,0],[8,7,6,5,4,3,2,1,0],[9,8,7,6,5,4,3,2,1,0],[6,5,4,3,2,1,0],[11,6,5,4,3,2,1,0],[12,11,6,5,4,3,2,1,0],[13,12,11,6,5,4,3,2,1,0],[10,9,8,7,6,5,4,3,2,1,0,14,13,12,11],[15,10,9,8,7,6,5,4,3,2,1,0,14,13,12,11],[16,15,10,9,8,7,6,5,4,3,2,1,0,14,13,12,11],[17,16,15,10,9,8,7,6,5,4,3,2,1,0,14,13,12,11],[6,5,4,3,2,1,0,18,17,16,15,10,9,8,7,14,13,12,11]]) (.cond (.t 42) .skip (.exit 0))) (.block 1 (.seq (.ops [iM 43 6,iH 44 (.call 105 [(.t 43)]),⟨(some 8),none,(.h (.alloc (.agg [(.Z (.int .u8 0)),(.Z (.string ⟨#[]⟩)),(.Z (.int .i64 0)),aV]) 25))⟩,iS 4 8 44]) (.ops [iP 45 (.af 3 (.t 7)),iH 46 (yD 1 45),iH 47 (yA 4 8),⟨(some 48),none,(.h (.dh 4 25 (.agg [(.Z (.int .u8 0)),(.Z (.string ⟨#[]⟩)),(.Z (.int .i64 0)),aV]) 1 [(0,(.t 47))]))⟩,iH 49 (.dD 4 25 (.t 46) (.t 48)),iP 50 (.af 3 (.t 7)),iS 1 50 49])))))) (.seq (.seq (.ops [iM 51 6,iP 52 (.aP (.t 51)),iP 53 (.af 3 (.t 52)),iP 54 (.af 0 (.t 53)),iH 55 (yD 1 54),iP 56 (.az .neq (.t 55) (kI 0))]) (.cond (.t 56) (.seq (.cH [⟨(some 57),none,(.p (.build [(.Z (.int .u8 0)),(.Z (.string ⟨#[]⟩)),(.Z (.int .i64 0)),aV] []))⟩,iM 58 6,iP 59 (.aP (.t 58)),iP 60 (.af 3 (.t 59)),iH 61 (yA 2 60),iS 4 2 57,iS 2 3 61] [[],[],[1],[2,1],[3,2,1],[0],[4,3,2,1,5,0]]) .ret) .skip)) (.seq (.seq (.ops [iH 62 (yA 4 7),iH 63 (.call 46 [(.t 62)]),iP 64 (xN 63)]) (.cond (.t 64) (.seq (.ops [⟨(some 65),none,(.p (.build [(.Z (.int .u8 0)),(.Z (.string ⟨#[]⟩)),(.Z (.int .i64 0)),aV] []))⟩,iP 66 (.build [(.Z (.int .i64 0)),(.Z (.int .i64 0))] [(0,1,(kI 103))]),iS 4 2 65,iS 2 3 66]) .ret) .skip)) (.seq (.ops [iH 67 (yA 4 7),iP 68 (.build [(.Z (.int .i64 0)),(.Z (.int .i64 0))] []),iS 4 2 67,iS 2 3 68]) .ret)))))))))
theorem acr:Dk Tryz.prog 53 VW [(.c 2 4 .true),(.c 3 2 .true)] 69:=fun h=>cR (fn:=Tryz.f53) (c:=Tryz.f53.body.getD .skip) (aY:=List.range 200) Tryz.func53 (by kernel_rfl) (by kernel_rfl) (by kernel_rfl) h
def M1:IC:=(.seq (.ops [iH 1 (.box 4 25 (.t 0)),iP 2 (.mv kF)]) (.seq (.seq (.ops [iP 5 (.af 0 (.t 1)),iH 6 (yD 1 5),iH 7 (.call 182 [(.t 6)])]) (.cond (.t 7) (.seq (.ops [iP 8 (.af 1 (.t 1)),iH 9 (yD 1 8),iH 10 (.call 47 [(.t 9)]),iM 2 10]) .ret) .skip)) (.seq (.seq (.ops [iP 11 (.af 0 (.t 1)),iH 12 (yD 1 11),iP 13 (.az .eql (.t 12) (.k (.Z (.int .u8 23))))]) (.cond (.t 13) (.seq (.ops [iP 14 (.af 1 (.t 1)),iH 15 (yD 1 14),⟨(some 16),none,(.p (.az .eql (.t 15) (.k (.Z (.string ⟨#[45]⟩)))))⟩,iM 17 16,gP 18 17 .false (.af 1 (.t 1)),gH 19 17 .false (yD 1 18),⟨(some 20),(some (17,.false)),(.p (.az .eql (.t 19) (.k (.Z (.string ⟨#[33]⟩)))))⟩,iP 21 (.pick (.t 17) kT (.t 20)),iM 2 21]) .ret) .skip)) (.seq (.seq (.ops [iP 22 (.af 0 (.t 1)),iH 23 (yD 1 22),iP 24 (.az .neq (.t 23) (.k (.Z (.int .u8 24))))]) (.cond (.t 24) (.seq (.ops [iP 25 (.af 1 (.t 1)),iH 26 (yD 1 25),⟨(some 27),none,(.p (.az .eql (.t 26) (.k (.Z (.string ⟨#[]⟩)))))⟩,iM 2 27]) .ret) .skip)) (.seq (.ops [⟨(some 28),none,(.h (.dh 1 9 (.Z (.string ⟨#[]⟩)) 13 [(0,(.k (.Z (.string ⟨#[124,124]⟩)))),(1,(.k (.Z (.string ⟨#[38,38]⟩)))),(2,(.k (.Z (.string ⟨#[61,61]⟩)))),(3,(.k (.Z (.string ⟨#[33,61]⟩)))),(4,(.k (.Z (.string ⟨#[60]⟩)))),(5,(.k (.Z (.string ⟨#[60,61]⟩)))),(6,(.k (.Z (.string ⟨#[62]⟩)))),(7,(.k (.Z (.string ⟨#[62,61]⟩)))),(8,(.k (.Z (.string ⟨#[43]⟩)))),(9,(.k (.Z (.string ⟨#[45]⟩)))),(10,(.k (.Z (.string ⟨#[42]⟩)))),(11,(.k (.Z (.string ⟨#[47]⟩)))),(12,(.k (.Z (.string ⟨#[37]⟩))))]))⟩,iM 3 28]) (.seq (.seq (.ops [iP 4 (xI 0)]) (.block 0 (.loop (.seq (.seq (.ops [iM 29 4,iM 30 3,iP 31 (xL 30),iP 32 (xB .lss 29 31)]) (.cond (.t 32) .skip (.exit 0))) (.seq (.block 1 (.seq (.cH [iP 35 (.af 1 (.t 1)),iH 36 (yD 1 35),iM 37 3,iM 38 4,iP 39 (xA 1 37 38),iH 40 (yD 1 39),iP 41 (xB .eql 36 40)] [[],[0],[],[],[2,3],[4,2,3],[1,0,5,4,2,3]]) (.cond (.t 41) (.seq (.ops [iP 2 (.mv kT)]) .ret) .skip))) (.ops [iM 33 4,iP 34 (.az .add (.t 33) (kI 1)),iM 4 34])))))) (.seq (.ops [iP 2 (.mv kF)]) .ret)))))))
theorem YG:Dk Tryz.prog 132 M1 [(.t 2)] 42:=fun h=>cR (fn:=Tryz.f132) (c:=Tryz.f132.body.getD .skip) (aY:=List.range 200) Tryz.func132 (by kernel_rfl) (by kernel_rfl) (by kernel_rfl) h
def VX:IC:=(.seq (.ops [iP 0 (.mv (.k aV))]) (.seq (.ops [⟨(some 1),none,(.h (.dh 1 9 (.Z (.string ⟨#[]⟩)) 11 [(0,(.k (.Z (.string ⟨#[102,117,110,99]⟩)))),(1,(.k (.Z (.string ⟨#[118,97,114]⟩)))),(2,(.k (.Z (.string ⟨#[105,102]⟩)))),(3,(.k (.Z (.string ⟨#[101,108,115,101]⟩)))),(4,(.k (.Z (.string ⟨#[119,104,105,108,101]⟩)))),(5,(.k (.Z (.string ⟨#[114,101,116,117,114,110]⟩)))),(6,(.k (.Z (.string ⟨#[112,114,105,110,116]⟩)))),(7,(.k (.Z (.string ⟨#[116,114,117,101]⟩)))),(8,(.k (.Z (.string ⟨#[102,97,108,115,101]⟩)))),(9,(.k (.Z (.string ⟨#[108,101,110]⟩)))),(10,(.k (.Z (.string ⟨#[114,101,97,100]⟩))))]))⟩,iM 0 1]) .ret))
theorem acs:Dk Tryz.prog 80 VX [(.t 0)] 2:=fun h=>cR (fn:=Tryz.f80) (c:=Tryz.f80.body.getD .skip) (aY:=List.range 200) Tryz.func80 (by kernel_rfl) (by kernel_rfl) (by kernel_rfl) h
def M2:IC:=(.seq (.ops [⟨(some 2),none,(.h (.alloc (.agg [(.Z (.int .u8 0)),(.Z (.string ⟨#[]⟩)),(.Z (.int .i64 0)),aV]) 25))⟩]) (.seq (.ops [iM 8 0,⟨(some 9),none,(.h (.call 162 [(.t 8),(.k (.Z (.string ⟨#[102,117,110,99]⟩)))]))⟩]) (.seq (.ops [iM 10 0,iH 11 (.call 163 [(.t 10),(.k (.Z (.int .u8 2)))]),⟨(some 3),none,(.h (.alloc (.agg [(.Z (.int .u8 0)),(.Z (.string ⟨#[]⟩)),(.Z (.int .i64 0)),aV]) 25))⟩,iS 4 3 11]) (.seq (.ops [⟨(some 12),none,(.p (.build [(.Z (.int .u8 0)),(.Z (.string ⟨#[]⟩)),(.Z (.int .i64 0)),aV] [(0,1,(.k (.Z (.int .u8 3))))]))⟩,⟨(some 4),none,(.h (.alloc (.agg [(.Z (.int .u8 0)),(.Z (.string ⟨#[]⟩)),(.Z (.int .i64 0)),aV]) 25))⟩,iS 4 4 12]) (.seq (.ops [iM 13 0,⟨(some 14),none,(.h (.call 164 [(.t 13),(.k (.Z (.string ⟨#[40]⟩)))]))⟩]) (.seq (.seq (.ops [iM 15 0,⟨(some 16),none,(.h (.call 165 [(.t 15),(.k (.Z (.string ⟨#[41]⟩)))]))⟩,iP 17 (xN 16),iM 5 17]) (.block 0 (.loop (.seq (.seq (.ops [iM 18 5,iM 19 18,gM 20 19 .true 0,gP 21 19 .true (.aP (.t 20)),gP 22 19 .true (.af 3 (.t 21)),gP 23 19 .true (.af 0 (.t 22)),gH 24 19 .true (yD 1 23),gP 25 19 .true (.az .eql (.t 24) (kI 0)),iP 26 (.pick (.t 19) (.t 25) kF)]) (.cond (.t 26) .skip (.exit 0))) (.block 1 (.seq (.ops [iM 27 0,iH 28 (.call 163 [(.t 27),(.k (.Z (.int .u8 4)))]),⟨(some 6),none,(.h (.alloc (.agg [(.Z (.int .u8 0)),(.Z (.string ⟨#[]⟩)),(.Z (.int .i64 0)),aV]) 25))⟩,iS 4 6 28]) (.seq (.ops [iP 29 (.af 3 (.t 4)),iH 30 (yD 1 29),iH 31 (yA 4 6),⟨(some 32),none,(.h (.dh 4 25 (.agg [(.Z (.int .u8 0)),(.Z (.string ⟨#[]⟩)),(.Z (.int .i64 0)),aV]) 1 [(0,(.t 31))]))⟩,iH 33 (.dD 4 25 (.t 30) (.t 32)),iP 34 (.af 3 (.t 4)),iS 1 34 33]) (.seq (.ops [iM 35 0,⟨(some 36),none,(.h (.call 165 [(.t 35),(.k (.Z (.string ⟨#[44]⟩)))]))⟩,iM 5 36]) (.seq (.ops [iM 37 5]) (.cond (.t 37) (.ops [iM 38 0,iP 39 (.aP (.t 38)),iP 40 (.af 1 (.t 39)),iH 41 (yD 1 40),iP 42 (.az .add (.t 41) (kI 1)),iP 43 (.aP (.t 38)),iP 44 (.af 1 (.t 43)),iS 1 44 42]) .skip)))))))))) (.seq (.ops [iM 45 0,⟨(some 46),none,(.h (.call 166 [(.t 45),(.k (.Z (.string ⟨#[41]⟩)))]))⟩]) (.seq (.ops [iM 47 0,iH 48 (.call 167 [(.t 47)]),⟨(some 7),none,(.h (.alloc (.agg [(.Z (.int .u8 0)),(.Z (.string ⟨#[]⟩)),(.Z (.int .i64 0)),aV]) 25))⟩,iS 4 7 48]) (.seq (.ops [iH 49 (yA 4 4),iH 50 (yA 4 7),⟨(some 51),none,(.h (.dh 4 25 (.agg [(.Z (.int .u8 0)),(.Z (.string ⟨#[]⟩)),(.Z (.int .i64 0)),aV]) 2 [(0,(.t 49)),(1,(.t 50))]))⟩,iP 52 (.af 3 (.t 3)),iS 1 52 51]) (.seq (.ops [iH 53 (yA 4 3),iS 4 2 53]) .ret))))))))))
theorem YH:Dk Tryz.prog 105 M2 [(.c 2 4 .true)] 54:=fun h=>cR (fn:=Tryz.f105) (c:=Tryz.f105.body.getD .skip) (aY:=List.range 200) Tryz.func105 (by kernel_rfl) (by kernel_rfl) (by kernel_rfl) h
def M3:IC:=(.seq (.ops [⟨(some 2),none,(.h (.alloc (.agg [(.Z (.int .u8 0)),(.Z (.string ⟨#[]⟩)),(.Z (.int .i64 0)),aV]) 25))⟩]) (.seq (.ops [⟨(some 5),none,(.p (.build [(.Z (.int .u8 0)),(.Z (.string ⟨#[]⟩)),(.Z (.int .i64 0)),aV] [(0,1,(.k (.Z (.int .u8 5))))]))⟩,⟨(some 3),none,(.h (.alloc (.agg [(.Z (.int .u8 0)),(.Z (.string ⟨#[]⟩)),(.Z (.int .i64 0)),aV]) 25))⟩,iS 4 3 5]) (.seq (.ops [iM 6 0,⟨(some 7),none,(.h (.call 164 [(.t 6),(.k (.Z (.string ⟨#[123]⟩)))]))⟩]) (.seq (.block 0 (.loop (.seq (.seq (.ops [iM 8 0,iP 9 (.aP (.t 8)),iP 10 (.af 3 (.t 9)),iP 11 (.af 0 (.t 10)),iH 12 (yD 1 11),iP 13 (.az .eql (.t 12) (kI 0)),iM 14 13,gM 15 14 .true 0,⟨(some 16),(some (14,.true)),(.h (.call 165 [(.t 15),(.k (.Z (.string ⟨#[125]⟩)))]))⟩,gP 17 14 .true (xN 16),iP 18 (.pick (.t 14) (.t 17) kF)]) (.cond (.t 18) .skip (.exit 0))) (.block 1 (.seq (.ops [iM 19 0,iH 20 (.call 190 [(.t 19)]),⟨(some 4),none,(.h (.alloc (.agg [(.Z (.int .u8 0)),(.Z (.string ⟨#[]⟩)),(.Z (.int .i64 0)),aV]) 25))⟩,iS 4 4 20]) (.ops [iP 21 (.af 3 (.t 3)),iH 22 (yD 1 21),iH 23 (yA 4 4),⟨(some 24),none,(.h (.dh 4 25 (.agg [(.Z (.int .u8 0)),(.Z (.string ⟨#[]⟩)),(.Z (.int .i64 0)),aV]) 1 [(0,(.t 23))]))⟩,iH 25 (.dD 4 25 (.t 22) (.t 24)),iP 26 (.af 3 (.t 3)),iS 1 26 25])))))) (.seq (.ops [iM 27 0,⟨(some 28),none,(.h (.call 166 [(.t 27),(.k (.Z (.string ⟨#[125]⟩)))]))⟩]) (.seq (.ops [iH 29 (yA 4 3),iS 4 2 29]) .ret))))))
theorem YI:Dk Tryz.prog 167 M3 [(.c 2 4 .true)] 30:=fun h=>cR (fn:=Tryz.f167) (c:=Tryz.f167.body.getD .skip) (aY:=List.range 200) Tryz.func167 (by kernel_rfl) (by kernel_rfl) (by kernel_rfl) h
def M4:IC:=(.seq (.ops [⟨(some 2),none,(.h (.alloc (.agg [(.Z (.int .u8 0)),(.Z (.string ⟨#[]⟩)),(.Z (.int .i64 0)),aV]) 25))⟩]) (.seq (.block 0 (.seq (.ops [iM 15 0,⟨(some 16),none,(.h (.call 165 [(.t 15),(.k (.Z (.string ⟨#[118,97,114]⟩)))]))⟩,iM 14 16]) (.cond (.t 14) (.seq (.ops [iM 17 0,iP 18 (.aP (.t 17)),iP 19 (.af 1 (.t 18)),iH 20 (yD 1 19),iP 21 (.az .add (.t 20) (kI 1)),iP 22 (.aP (.t 17)),iP 23 (.af 1 (.t 22)),iS 1 23 21]) (.seq (.ops [iM 24 0,iH 25 (.call 163 [(.t 24),(.k (.Z (.int .u8 6)))]),⟨(some 3),none,(.h (.alloc (.agg [(.Z (.int .u8 0)),(.Z (.string ⟨#[]⟩)),(.Z (.int .i64 0)),aV]) 25))⟩,iS 4 3 25]) (.seq (.ops [iM 26 0,⟨(some 27),none,(.h (.call 162 [(.t 26),(.k (.Z (.string ⟨#[61]⟩)))]))⟩]) (.seq (.ops [iM 28 0,iH 29 (.call 204 [(.t 28)]),⟨(some 4),none,(.h (.alloc (.agg [(.Z (.int .u8 0)),(.Z (.string ⟨#[]⟩)),(.Z (.int .i64 0)),aV]) 25))⟩,iS 4 4 29]) (.seq (.ops [iM 30 0,⟨(some 31),none,(.h (.call 162 [(.t 30),(.k (.Z (.string ⟨#[59]⟩)))]))⟩]) (.seq (.ops [iH 32 (yA 4 4),⟨(some 33),none,(.h (.dh 4 25 (.agg [(.Z (.int .u8 0)),(.Z (.string ⟨#[]⟩)),(.Z (.int .i64 0)),aV]) 1 [(0,(.t 32))]))⟩,iP 34 (.af 3 (.t 3)),iS 1 34 33]) (.seq (.ops [iH 35 (yA 4 3),iS 4 2 35]) .ret))))))) (.seq (.ops [iM 37 0,⟨(some 38),none,(.h (.call 165 [(.t 37),(.k (.Z (.string ⟨#[105,102]⟩)))]))⟩,iM 36 38]) (.cond (.t 36) (.seq (.ops [iM 39 0,iP 40 (.aP (.t 39)),iP 41 (.af 1 (.t 40)),iH 42 (yD 1 41),iP 43 (.az .add (.t 42) (kI 1)),iP 44 (.aP (.t 39)),iP 45 (.af 1 (.t 44)),iS 1 45 43]) (.seq (.ops [iM 46 0,iH 47 (.call 204 [(.t 46)]),⟨(some 5),none,(.h (.alloc (.agg [(.Z (.int .u8 0)),(.Z (.string ⟨#[]⟩)),(.Z (.int .i64 0)),aV]) 25))⟩,iS 4 5 47]) (.seq (.ops [iM 48 0,iH 49 (.call 167 [(.t 48)]),⟨(some 6),none,(.h (.alloc (.agg [(.Z (.int .u8 0)),(.Z (.string ⟨#[]⟩)),(.Z (.int .i64 0)),aV]) 25))⟩,iS 4 6 49]) (.seq (.ops [⟨(some 50),none,(.p (.build [(.Z (.int .u8 0)),(.Z (.string ⟨#[]⟩)),(.Z (.int .i64 0)),aV] [(0,1,(.k (.Z (.int .u8 5))))]))⟩,⟨(some 7),none,(.h (.alloc (.agg [(.Z (.int .u8 0)),(.Z (.string ⟨#[]⟩)),(.Z (.int .i64 0)),aV]) 25))⟩,iS 4 7 50]) (.seq (.seq (.ops [iM 51 0,⟨(some 52),none,(.h (.call 165 [(.t 51),(.k (.Z (.string ⟨#[101,108,115,101]⟩)))]))⟩]) (.cond (.t 52) (.seq (.ops [iM 53 0,iP 54 (.aP (.t 53)),iP 55 (.af 1 (.t 54)),iH 56 (yD 1 55),iP 57 (.az .add (.t 56) (kI 1)),iP 58 (.aP (.t 53)),iP 59 (.af 1 (.t 58)),iS 1 59 57]) (.ops [iM 60 0,iH 61 (.call 167 [(.t 60)]),iS 4 7 61])) .skip)) (.seq (.ops [iH 62 (yA 4 5),iH 63 (yA 4 6),iH 64 (yA 4 7),⟨(some 65),none,(.h (.dh 4 25 (.agg [(.Z (.int .u8 0)),(.Z (.string ⟨#[]⟩)),(.Z (.int .i64 0)),aV]) 3 [(0,(.t 62)),(1,(.t 63)),(2,(.t 64))]))⟩,iH 66 (.call 205 [(.k (.Z (.int .u8 8))),(.t 65)]),iS 4 2 66]) .ret)))))) (.seq (.ops [iM 68 0,⟨(some 69),none,(.h (.call 165 [(.t 68),(.k (.Z (.string ⟨#[119,104,105,108,101]⟩)))]))⟩,iM 67 69]) (.cond (.t 67) (.seq (.ops [iM 70 0,iP 71 (.aP (.t 70)),iP 72 (.af 1 (.t 71)),iH 73 (yD 1 72),iP 74 (.az .add (.t 73) (kI 1)),iP 75 (.aP (.t 70)),iP 76 (.af 1 (.t 75)),iS 1 76 74]) (.seq (.ops [iM 77 0,iH 78 (.call 204 [(.t 77)]),⟨(some 8),none,(.h (.alloc (.agg [(.Z (.int .u8 0)),(.Z (.string ⟨#[]⟩)),(.Z (.int .i64 0)),aV]) 25))⟩,iS 4 8 78]) (.seq (.ops [iM 79 0,iH 80 (.call 167 [(.t 79)]),⟨(some 9),none,(.h (.alloc (.agg [(.Z (.int .u8 0)),(.Z (.string ⟨#[]⟩)),(.Z (.int .i64 0)),aV]) 25))⟩,iS 4 9 80]) (.seq (.ops [iH 81 (yA 4 8),iH 82 (yA 4 9),⟨(some 83),none,(.h (.dh 4 25 (.agg [(.Z (.int .u8 0)),(.Z (.string ⟨#[]⟩)),(.Z (.int .i64 0)),aV]) 2 [(0,(.t 81)),(1,(.t 82))]))⟩,iH 84 (.call 205 [(.k (.Z (.int .u8 9))),(.t 83)]),iS 4 2 84]) .ret)))) (.seq (.ops [iM 86 0,⟨(some 87),none,(.h (.call 165 [(.t 86),(.k (.Z (.string ⟨#[114,101,116,117,114,110]⟩)))]))⟩,iM 85 87]) (.cond (.t 85) (.seq (.ops [iM 88 0,iH 89 (.call 206 [(.t 88),(.k (.Z (.int .u8 10)))]),iS 4 2 89]) .ret) (.seq (.ops [iM 91 0,⟨(some 92),none,(.h (.call 165 [(.t 91),(.k (.Z (.string ⟨#[112,114,105,110,116]⟩)))]))⟩,iM 90 92]) (.cond (.t 90) (.seq (.ops [iM 93 0,iH 94 (.call 206 [(.t 93),(.k (.Z (.int .u8 11)))]),iS 4 2 94]) .ret) (.seq (.ops [iM 96 0,⟨(some 97),none,(.h (.call 165 [(.t 96),(.k (.Z (.string ⟨#[123]⟩)))]))⟩,iM 95 97]) (.cond (.t 95) (.seq (.ops [iM 98 0,iH 99 (.call 167 [(.t 98)]),iS 4 2 99]) .ret) .skip))))))))))))) (.seq (.ops [iM 100 0,iH 101 (.call 163 [(.t 100),(.k (.Z (.int .u8 22)))]),⟨(some 10),none,(.h (.alloc (.agg [(.Z (.int .u8 0)),(.Z (.string ⟨#[]⟩)),(.Z (.int .i64 0)),aV]) 25))⟩,iS 4 10 101]) (.seq (.seq (.ops [iM 102 0,⟨(some 103),none,(.h (.call 165 [(.t 102),(.k (.Z (.string ⟨#[40]⟩)))]))⟩]) (.cond (.t 103) (.seq (.ops [iM 104 0,iP 105 (.af 1 (.t 10)),iH 106 (yD 1 105),iH 107 (yC 207 104 106),⟨(some 11),none,(.h (.alloc (.agg [(.Z (.int .u8 0)),(.Z (.string ⟨#[]⟩)),(.Z (.int .i64 0)),aV]) 25))⟩,iS 4 11 107]) (.seq (.ops [iM 108 0,⟨(some 109),none,(.h (.call 162 [(.t 108),(.k (.Z (.string ⟨#[59]⟩)))]))⟩]) (.seq (.ops [iH 110 (yA 4 11),⟨(some 111),none,(.h (.dh 4 25 (.agg [(.Z (.int .u8 0)),(.Z (.string ⟨#[]⟩)),(.Z (.int .i64 0)),aV]) 1 [(0,(.t 110))]))⟩,iH 112 (.call 205 [(.k (.Z (.int .u8 12))),(.t 111)]),iS 4 2 112]) .ret))) .skip)) (.seq (.seq (.ops [iM 113 0,⟨(some 114),none,(.h (.call 165 [(.t 113),(.k (.Z (.string ⟨#[91]⟩)))]))⟩]) (.cond (.t 114) (.seq (.ops [iM 115 0,⟨(some 116),none,(.h (.call 164 [(.t 115),(.k (.Z (.string ⟨#[91]⟩)))]))⟩]) (.seq (.ops [iM 117 0,iH 118 (.call 204 [(.t 117)]),⟨(some 12),none,(.h (.alloc (.agg [(.Z (.int .u8 0)),(.Z (.string ⟨#[]⟩)),(.Z (.int .i64 0)),aV]) 25))⟩,iS 4 12 118]) (.seq (.ops [iM 119 0,⟨(some 120),none,(.h (.call 166 [(.t 119),(.k (.Z (.string ⟨#[93]⟩)))]))⟩]) (.ops [iH 121 (yA 4 10),iH 122 (yA 4 12),⟨(some 123),none,(.h (.dh 4 25 (.agg [(.Z (.int .u8 0)),(.Z (.string ⟨#[]⟩)),(.Z (.int .i64 0)),aV]) 2 [(0,(.t 121)),(1,(.t 122))]))⟩,iH 124 (.call 205 [(.k (.Z (.int .u8 26))),(.t 123)]),iS 4 10 124])))) .skip)) (.seq (.ops [iM 125 0,⟨(some 126),none,(.h (.call 162 [(.t 125),(.k (.Z (.string ⟨#[61]⟩)))]))⟩]) (.seq (.ops [iM 127 0,iH 128 (.call 204 [(.t 127)]),⟨(some 13),none,(.h (.alloc (.agg [(.Z (.int .u8 0)),(.Z (.string ⟨#[]⟩)),(.Z (.int .i64 0)),aV]) 25))⟩,iS 4 13 128]) (.seq (.ops [iM 129 0,⟨(some 130),none,(.h (.call 162 [(.t 129),(.k (.Z (.string ⟨#[59]⟩)))]))⟩]) (.seq (.ops [iH 131 (yA 4 10),iH 132 (yA 4 13),⟨(some 133),none,(.h (.dh 4 25 (.agg [(.Z (.int .u8 0)),(.Z (.string ⟨#[]⟩)),(.Z (.int .i64 0)),aV]) 2 [(0,(.t 131)),(1,(.t 132))]))⟩,iH 134 (.call 205 [(.k (.Z (.int .u8 7))),(.t 133)]),iS 4 2 134]) .ret)))))))))
theorem YJ:Dk Tryz.prog 190 M4 [(.c 2 4 .true)] 135:=fun h=>cR (fn:=Tryz.f190) (c:=Tryz.f190.body.getD .skip) (aY:=List.range 200) Tryz.func190 (by kernel_rfl) (by kernel_rfl) (by kernel_rfl) h
def M5:IC:=(.seq (.ops [⟨(some 2),none,(.h (.alloc (.agg [(.Z (.int .u8 0)),(.Z (.string ⟨#[]⟩)),(.Z (.int .i64 0)),aV]) 25))⟩]) (.seq (.ops [iM 3 0,⟨(some 4),none,(.h (.dh 1 9 (.Z (.string ⟨#[]⟩)) 1 [(0,(.k (.Z (.string ⟨#[124,124]⟩))))]))⟩,iH 5 (.call 216 [(.t 3),(.t 4),(kI 0)]),iS 4 2 5]) .ret))
theorem YK:Dk Tryz.prog 204 M5 [(.c 2 4 .true)] 6:=fun h=>cR (fn:=Tryz.f204) (c:=Tryz.f204.body.getD .skip) (aY:=List.range 200) Tryz.func204 (by kernel_rfl) (by kernel_rfl) (by kernel_rfl) h
def M6:IC:=(.seq (.ops [⟨(some 6),none,(.h (.alloc (.agg [(.Z (.int .u8 0)),(.Z (.string ⟨#[]⟩)),(.Z (.int .i64 0)),aV]) 25))⟩]) (.seq (.ops [iM 11 0,iM 12 2,iH 13 (yC 218 11 12),⟨(some 7),none,(.h (.alloc (.agg [(.Z (.int .u8 0)),(.Z (.string ⟨#[]⟩)),(.Z (.int .i64 0)),aV]) 25))⟩,iS 4 7 13]) (.seq (.block 0 (.loop (.seq (.seq (.ops [iM 14 0,iP 15 (.aP (.t 14)),iP 16 (.af 3 (.t 15)),iP 17 (.af 0 (.t 16)),iH 18 (yD 1 17),iP 19 (.az .eql (.t 18) (kI 0))]) (.cond (.t 19) .skip (.exit 0))) (.block 1 (.seq (.ops [⟨(some 8),none,(.p (.mv (.k (.Z (.string ⟨#[]⟩)))))⟩]) (.seq (.seq (.ops [iP 9 (xI 0)]) (.block 2 (.loop (.seq (.seq (.ops [iM 20 9,iM 21 1,iP 22 (xL 21),iP 23 (xB .lss 20 22)]) (.cond (.t 23) .skip (.exit 2))) (.seq (.block 3 (.seq (.ops [iM 26 0,iM 27 1,iM 28 9,iP 29 (xA 1 27 28),iH 30 (yD 1 29),iH 31 (yC 165 26 30)]) (.cond (.t 31) (.ops [iM 32 1,iM 33 9,iP 34 (xA 1 32 33),iH 35 (yD 1 34),iM 8 35]) .skip))) (.ops [iM 24 9,iP 25 (.az .add (.t 24) (kI 1)),iM 9 25])))))) (.seq (.seq (.ops [iM 36 8,⟨(some 37),none,(.p (.az .eql (.t 36) (.k (.Z (.string ⟨#[]⟩)))))⟩]) (.cond (.t 37) (.seq (.ops [iH 38 (yA 4 7),iS 4 6 38]) .ret) .skip)) (.seq (.ops [iM 39 0,iP 40 (.aP (.t 39)),iP 41 (.af 1 (.t 40)),iH 42 (yD 1 41),iP 43 (.az .add (.t 42) (kI 1)),iP 44 (.aP (.t 39)),iP 45 (.af 1 (.t 44)),iS 1 45 43]) (.seq (.ops [iM 46 0,iM 47 2,iH 48 (yC 218 46 47),⟨(some 10),none,(.h (.alloc (.agg [(.Z (.int .u8 0)),(.Z (.string ⟨#[]⟩)),(.Z (.int .i64 0)),aV]) 25))⟩,iS 4 10 48]) (.ops [iM 49 8,iH 50 (yA 4 7),iH 51 (yA 4 10),⟨(some 52),none,(.h (.dh 4 25 (.agg [(.Z (.int .u8 0)),(.Z (.string ⟨#[]⟩)),(.Z (.int .i64 0)),aV]) 2 [(0,(.t 50)),(1,(.t 51))]))⟩,⟨(some 53),none,(.p (.build [(.Z (.int .u8 0)),(.Z (.string ⟨#[]⟩)),(.Z (.int .i64 0)),aV] [(0,1,(.k (.Z (.int .u8 24)))),(1,1,(.t 49)),(3,1,(.t 52))]))⟩,iS 4 7 53])))))))))) (.seq (.ops [iH 54 (yA 4 7),iS 4 6 54]) .ret))))
theorem YL:Dk Tryz.prog 216 M6 [(.c 6 4 .true)] 55:=fun h=>cR (fn:=Tryz.f216) (c:=Tryz.f216.body.getD .skip) (aY:=List.range 200) Tryz.func216 (by kernel_rfl) (by kernel_rfl) (by kernel_rfl) h
def M7:IC:=(.seq (.ops [⟨(some 4),none,(.h (.alloc (.agg [(.Z (.int .u8 0)),(.Z (.string ⟨#[]⟩)),(.Z (.int .i64 0)),aV]) 25))⟩]) (.seq (.seq (.ops [iM 5 1]) (.block 0 (.seq (.ops [iP 7 (.az .eql (.t 5) (kI 0)),iM 6 7]) (.cond (.t 6) (.seq (.ops [iM 8 0,⟨(some 9),none,(.h (.dh 1 9 (.Z (.string ⟨#[]⟩)) 1 [(0,(.k (.Z (.string ⟨#[38,38]⟩))))]))⟩,iH 10 (.call 216 [(.t 8),(.t 9),(kI 1)]),iS 4 4 10]) .ret) (.seq (.ops [iP 12 (.az .eql (.t 5) (kI 1)),iM 11 12]) (.cond (.t 11) (.seq (.ops [iM 13 0,⟨(some 14),none,(.h (.dh 1 9 (.Z (.string ⟨#[]⟩)) 6 [(0,(.k (.Z (.string ⟨#[61,61]⟩)))),(1,(.k (.Z (.string ⟨#[33,61]⟩)))),(2,(.k (.Z (.string ⟨#[60]⟩)))),(3,(.k (.Z (.string ⟨#[60,61]⟩)))),(4,(.k (.Z (.string ⟨#[62]⟩)))),(5,(.k (.Z (.string ⟨#[62,61]⟩))))]))⟩,iH 15 (.call 216 [(.t 13),(.t 14),(kI 2)]),iS 4 4 15]) .ret) (.seq (.ops [iP 17 (.az .eql (.t 5) (kI 2)),iM 16 17]) (.cond (.t 16) (.seq (.ops [iM 18 0,⟨(some 19),none,(.h (.dh 1 9 (.Z (.string ⟨#[]⟩)) 2 [(0,(.k (.Z (.string ⟨#[43]⟩)))),(1,(.k (.Z (.string ⟨#[45]⟩))))]))⟩,iH 20 (.call 216 [(.t 18),(.t 19),(kI 3)]),iS 4 4 20]) .ret) (.seq (.ops [iP 22 (.az .eql (.t 5) (kI 3)),iM 21 22]) (.cond (.t 21) (.seq (.ops [iM 23 0,⟨(some 24),none,(.h (.dh 1 9 (.Z (.string ⟨#[]⟩)) 3 [(0,(.k (.Z (.string ⟨#[42]⟩)))),(1,(.k (.Z (.string ⟨#[47]⟩)))),(2,(.k (.Z (.string ⟨#[37]⟩))))]))⟩,iH 25 (.call 216 [(.t 23),(.t 24),(kI 4)]),iS 4 4 25]) .ret) .skip)))))))))) (.seq (.ops [iM 26 0,iH 27 (.call 219 [(.t 26)]),iS 4 4 27]) .ret)))
theorem YM:Dk Tryz.prog 218 M7 [(.c 4 4 .true)] 28:=fun h=>cR (fn:=Tryz.f218) (c:=Tryz.f218.body.getD .skip) (aY:=List.range 200) Tryz.func218 (by kernel_rfl) (by kernel_rfl) (by kernel_rfl) h
def M8:IC:=(.seq (.ops [⟨(some 2),none,(.h (.alloc (.agg [(.Z (.int .u8 0)),(.Z (.string ⟨#[]⟩)),(.Z (.int .i64 0)),aV]) 25))⟩]) (.seq (.seq (.ops [iP 3 (xI 0)]) (.block 0 (.loop (.seq (.seq (.ops [iM 8 3,iP 9 (.az .lss (.t 8) (kI 2))]) (.cond (.t 9) .skip (.exit 0))) (.seq (.block 1 (.seq (.ops [⟨(some 12),none,(.h (.dh 1 9 (.Z (.string ⟨#[]⟩)) 2 [(0,(.k (.Z (.string ⟨#[45]⟩)))),(1,(.k (.Z (.string ⟨#[33]⟩))))]))⟩,iM 13 3,iP 14 (xA 1 12 13),iH 15 (yD 1 14),iM 4 15]) (.seq (.ops [iM 16 0,iM 17 4,iH 18 (yC 165 16 17)]) (.cond (.t 18) (.seq (.ops [iM 19 0,iM 20 4,iH 21 (yC 164 19 20)]) (.seq (.ops [iM 22 0,iH 23 (.call 219 [(.t 22)]),⟨(some 5),none,(.h (.alloc (.agg [(.Z (.int .u8 0)),(.Z (.string ⟨#[]⟩)),(.Z (.int .i64 0)),aV]) 25))⟩,iS 4 5 23]) (.seq (.ops [iM 24 0,iP 25 (.aP (.t 24)),iP 26 (.af 2 (.t 25)),iH 27 (yD 1 26),iP 28 (.az .sub (.t 27) (kI 1)),iP 29 (.aP (.t 24)),iP 30 (.af 2 (.t 29)),iS 1 30 28]) (.seq (.ops [iM 31 4,iH 32 (yA 4 5),⟨(some 33),none,(.h (.dh 4 25 (.agg [(.Z (.int .u8 0)),(.Z (.string ⟨#[]⟩)),(.Z (.int .i64 0)),aV]) 1 [(0,(.t 32))]))⟩,⟨(some 34),none,(.p (.build [(.Z (.int .u8 0)),(.Z (.string ⟨#[]⟩)),(.Z (.int .i64 0)),aV] [(0,1,(.k (.Z (.int .u8 23)))),(1,1,(.t 31)),(3,1,(.t 33))]))⟩,iS 4 2 34]) .ret)))) .skip)))) (.ops [iM 10 3,iP 11 (.az .add (.t 10) (kI 1)),iM 3 11])))))) (.seq (.ops [iM 35 0,iH 36 (.call 220 [(.t 35)]),⟨(some 6),none,(.h (.alloc (.agg [(.Z (.int .u8 0)),(.Z (.string ⟨#[]⟩)),(.Z (.int .i64 0)),aV]) 25))⟩,iS 4 6 36]) (.seq (.block 2 (.loop (.seq (.seq (.ops [iM 37 0,⟨(some 38),none,(.h (.call 165 [(.t 37),(.k (.Z (.string ⟨#[91]⟩)))]))⟩]) (.cond (.t 38) .skip (.exit 2))) (.block 3 (.seq (.ops [iM 39 0,⟨(some 40),none,(.h (.call 164 [(.t 39),(.k (.Z (.string ⟨#[91]⟩)))]))⟩]) (.seq (.ops [iM 41 0,iH 42 (.call 204 [(.t 41)]),⟨(some 7),none,(.h (.alloc (.agg [(.Z (.int .u8 0)),(.Z (.string ⟨#[]⟩)),(.Z (.int .i64 0)),aV]) 25))⟩,iS 4 7 42]) (.seq (.ops [iM 43 0,⟨(some 44),none,(.h (.call 166 [(.t 43),(.k (.Z (.string ⟨#[93]⟩)))]))⟩]) (.ops [iH 45 (yA 4 6),iH 46 (yA 4 7),⟨(some 47),none,(.h (.dh 4 25 (.agg [(.Z (.int .u8 0)),(.Z (.string ⟨#[]⟩)),(.Z (.int .i64 0)),aV]) 2 [(0,(.t 45)),(1,(.t 46))]))⟩,iH 48 (.call 205 [(.k (.Z (.int .u8 26))),(.t 47)]),iS 4 6 48])))))))) (.seq (.ops [iH 49 (yA 4 6),iS 4 2 49]) .ret)))))
theorem YN:Dk Tryz.prog 219 M8 [(.c 2 4 .true)] 50:=fun h=>cR (fn:=Tryz.f219) (c:=Tryz.f219.body.getD .skip) (aY:=List.range 200) Tryz.func219 (by kernel_rfl) (by kernel_rfl) (by kernel_rfl) h
def M9:IC:=(.seq (.ops [⟨(some 2),none,(.h (.alloc (.agg [(.Z (.int .u8 0)),(.Z (.string ⟨#[]⟩)),(.Z (.int .i64 0)),aV]) 25))⟩]) (.seq (.cH [iM 10 0,iP 11 (.aP (.t 10)),iP 12 (.af 0 (.t 11)),iH 13 (yD 1 12),iM 14 0,iP 15 (.aP (.t 14)),iP 16 (.af 1 (.t 15)),iH 17 (yD 1 16),iP 18 (xA 3 13 17),iH 19 (yA 3 18),⟨(some 3),none,(.h (.alloc (.agg [(.Z (.int .u8 0)),(.Z (.string ⟨#[]⟩)),(.Z (.int .i64 0))]) 153))⟩,iS 3 3 19] [[],[0],[1,0],[2,1,0],[],[4],[5,4],[6,5,4],[3,2,1,0,7,6,5,4],[8,3,2,1,0,7,6,5,4],[],[10,9,8,3,2,1,0,7,6,5,4]]) (.seq (.block 0 (.seq (.ops [iM 21 0,iP 22 (.aP (.t 21)),iP 23 (.af 3 (.t 22)),iP 24 (.af 0 (.t 23)),iH 25 (yD 1 24),iP 26 (.az .neq (.t 25) (kI 0)),iM 20 26]) (.cond (.t 20) (.seq (.ops [⟨(some 27),none,(.p (.build [(.Z (.int .u8 0)),(.Z (.string ⟨#[]⟩)),(.Z (.int .i64 0)),aV] []))⟩,iS 4 2 27]) .ret) (.seq (.ops [iP 29 (.af 0 (.t 3)),iH 30 (yD 1 29),iP 31 (.az .eql (.t 30) (.k (.Z (.int .u8 3)))),iM 28 31]) (.cond (.t 28) (.seq (.ops [iM 32 0,iP 33 (.aP (.t 32)),iP 34 (.af 1 (.t 33)),iH 35 (yD 1 34),iP 36 (.az .add (.t 35) (kI 1)),iP 37 (.aP (.t 32)),iP 38 (.af 1 (.t 37)),iS 1 38 36]) (.seq (.ops [iP 40 (.af 1 (.t 3)),iH 41 (yD 1 40),iH 42 (.call 160 [(.t 41)]),iM 39 42,iP 43 (.ext (.t 39) 0),iP 44 (.ext (.t 39) 1),iM 4 43,iM 5 44]) (.seq (.ops [iM 45 4,⟨(some 46),none,(.p (.build [(.Z (.int .u8 0)),(.Z (.string ⟨#[]⟩)),(.Z (.int .i64 0)),aV] [(0,1,(.k (.Z (.int .u8 20)))),(2,1,(.t 45))]))⟩,iS 4 2 46]) .ret))) (.seq (.ops [iP 48 (.af 0 (.t 3)),iH 49 (yD 1 48),iP 50 (.az .eql (.t 49) (.k (.Z (.int .u8 1)))),iM 47 50]) (.cond (.t 47) (.seq (.ops [iM 51 0,iP 52 (.aP (.t 51)),iP 53 (.af 1 (.t 52)),iH 54 (yD 1 53),iP 55 (.az .add (.t 54) (kI 1)),iP 56 (.aP (.t 51)),iP 57 (.af 1 (.t 56)),iS 1 57 55]) (.seq (.seq (.ops [iM 58 0,⟨(some 59),none,(.h (.call 165 [(.t 58),(.k (.Z (.string ⟨#[40]⟩)))]))⟩]) (.cond (.t 59) (.seq (.ops [iM 60 0,iP 61 (.af 1 (.t 3)),iH 62 (yD 1 61),iH 63 (yC 207 60 62),iS 4 2 63]) .ret) .skip)) (.seq (.ops [iP 64 (.af 1 (.t 3)),iH 65 (yD 1 64),⟨(some 66),none,(.p (.build [(.Z (.int .u8 0)),(.Z (.string ⟨#[]⟩)),(.Z (.int .i64 0)),aV] [(0,1,(.k (.Z (.int .u8 22)))),(1,1,(.t 65))]))⟩,iS 4 2 66]) .ret))) (.seq (.ops [iM 68 0,⟨(some 69),none,(.h (.call 165 [(.t 68),(.k (.Z (.string ⟨#[116,114,117,101]⟩)))]))⟩,iM 67 69]) (.cond (.t 67) (.seq (.ops [iM 70 0,iP 71 (.aP (.t 70)),iP 72 (.af 1 (.t 71)),iH 73 (yD 1 72),iP 74 (.az .add (.t 73) (kI 1)),iP 75 (.aP (.t 70)),iP 76 (.af 1 (.t 75)),iS 1 76 74]) (.seq (.ops [⟨(some 77),none,(.p (.build [(.Z (.int .u8 0)),(.Z (.string ⟨#[]⟩)),(.Z (.int .i64 0)),aV] [(0,1,(.k (.Z (.int .u8 21)))),(2,1,(kI 1))]))⟩,iS 4 2 77]) .ret)) (.seq (.ops [iM 79 0,⟨(some 80),none,(.h (.call 165 [(.t 79),(.k (.Z (.string ⟨#[102,97,108,115,101]⟩)))]))⟩,iM 78 80]) (.cond (.t 78) (.seq (.ops [iM 81 0,iP 82 (.aP (.t 81)),iP 83 (.af 1 (.t 82)),iH 84 (yD 1 83),iP 85 (.az .add (.t 84) (kI 1)),iP 86 (.aP (.t 81)),iP 87 (.af 1 (.t 86)),iS 1 87 85]) (.seq (.ops [⟨(some 88),none,(.p (.build [(.Z (.int .u8 0)),(.Z (.string ⟨#[]⟩)),(.Z (.int .i64 0)),aV] [(0,1,(.k (.Z (.int .u8 21))))]))⟩,iS 4 2 88]) .ret)) (.seq (.ops [iM 90 0,⟨(some 91),none,(.h (.call 165 [(.t 90),(.k (.Z (.string ⟨#[91]⟩)))]))⟩,iM 89 91]) (.cond (.t 89) (.seq (.ops [iM 92 0,⟨(some 93),none,(.h (.call 164 [(.t 92),(.k (.Z (.string ⟨#[91]⟩)))]))⟩]) (.seq (.ops [iM 94 0,iH 95 (.call 204 [(.t 94)]),⟨(some 6),none,(.h (.alloc (.agg [(.Z (.int .u8 0)),(.Z (.string ⟨#[]⟩)),(.Z (.int .i64 0)),aV]) 25))⟩,iS 4 6 95]) (.seq (.ops [iM 96 0,⟨(some 97),none,(.h (.call 162 [(.t 96),(.k (.Z (.string ⟨#[59]⟩)))]))⟩]) (.seq (.ops [iM 98 0,iH 99 (.call 204 [(.t 98)]),⟨(some 7),none,(.h (.alloc (.agg [(.Z (.int .u8 0)),(.Z (.string ⟨#[]⟩)),(.Z (.int .i64 0)),aV]) 25))⟩,iS 4 7 99]) (.seq (.ops [iM 100 0,⟨(some 101),none,(.h (.call 166 [(.t 100),(.k (.Z (.string ⟨#[93]⟩)))]))⟩]) (.seq (.ops [iH 102 (yA 4 6),iH 103 (yA 4 7),⟨(some 104),none,(.h (.dh 4 25 (.agg [(.Z (.int .u8 0)),(.Z (.string ⟨#[]⟩)),(.Z (.int .i64 0)),aV]) 2 [(0,(.t 102)),(1,(.t 103))]))⟩,iH 105 (.call 205 [(.k (.Z (.int .u8 27))),(.t 104)]),iS 4 2 105]) .ret)))))) (.seq (.ops [iM 107 0,⟨(some 108),none,(.h (.call 165 [(.t 107),(.k (.Z (.string ⟨#[108,101,110]⟩)))]))⟩,iM 106 108]) (.cond (.t 106) (.seq (.ops [iM 109 0,iP 110 (.aP (.t 109)),iP 111 (.af 1 (.t 110)),iH 112 (yD 1 111),iP 113 (.az .add (.t 112) (kI 1)),iP 114 (.aP (.t 109)),iP 115 (.af 1 (.t 114)),iS 1 115 113]) (.seq (.ops [iM 116 0,⟨(some 117),none,(.h (.call 164 [(.t 116),(.k (.Z (.string ⟨#[40]⟩)))]))⟩]) (.seq (.ops [iM 118 0,iH 119 (.call 204 [(.t 118)]),⟨(some 8),none,(.h (.alloc (.agg [(.Z (.int .u8 0)),(.Z (.string ⟨#[]⟩)),(.Z (.int .i64 0)),aV]) 25))⟩,iS 4 8 119]) (.seq (.ops [iM 120 0,⟨(some 121),none,(.h (.call 166 [(.t 120),(.k (.Z (.string ⟨#[41]⟩)))]))⟩]) (.seq (.ops [iH 122 (yA 4 8),⟨(some 123),none,(.h (.dh 4 25 (.agg [(.Z (.int .u8 0)),(.Z (.string ⟨#[]⟩)),(.Z (.int .i64 0)),aV]) 1 [(0,(.t 122))]))⟩,iH 124 (.call 205 [(.k (.Z (.int .u8 28))),(.t 123)]),iS 4 2 124]) .ret))))) (.seq (.ops [iM 126 0,⟨(some 127),none,(.h (.call 165 [(.t 126),(.k (.Z (.string ⟨#[114,101,97,100]⟩)))]))⟩,iM 125 127]) (.cond (.t 125) (.seq (.ops [iM 128 0,iP 129 (.aP (.t 128)),iP 130 (.af 1 (.t 129)),iH 131 (yD 1 130),iP 132 (.az .add (.t 131) (kI 1)),iP 133 (.aP (.t 128)),iP 134 (.af 1 (.t 133)),iS 1 134 132]) (.seq (.ops [iM 135 0,⟨(some 136),none,(.h (.call 164 [(.t 135),(.k (.Z (.string ⟨#[40]⟩)))]))⟩]) (.seq (.ops [iM 137 0,⟨(some 138),none,(.h (.call 166 [(.t 137),(.k (.Z (.string ⟨#[41]⟩)))]))⟩]) (.seq (.ops [⟨(some 139),none,(.p (.build [(.Z (.int .u8 0)),(.Z (.string ⟨#[]⟩)),(.Z (.int .i64 0)),aV] [(0,1,(.k (.Z (.int .u8 29))))]))⟩,iS 4 2 139]) .ret)))) (.seq (.ops [iM 141 0,⟨(some 142),none,(.h (.call 165 [(.t 141),(.k (.Z (.string ⟨#[40]⟩)))]))⟩,iM 140 142]) (.cond (.t 140) (.seq (.ops [iM 143 0,⟨(some 144),none,(.h (.call 164 [(.t 143),(.k (.Z (.string ⟨#[40]⟩)))]))⟩]) (.seq (.ops [iM 145 0,iH 146 (.call 204 [(.t 145)]),⟨(some 9),none,(.h (.alloc (.agg [(.Z (.int .u8 0)),(.Z (.string ⟨#[]⟩)),(.Z (.int .i64 0)),aV]) 25))⟩,iS 4 9 146]) (.seq (.ops [iM 147 0,⟨(some 148),none,(.h (.call 166 [(.t 147),(.k (.Z (.string ⟨#[41]⟩)))]))⟩]) (.seq (.ops [iH 149 (yA 4 9),iS 4 2 149]) .ret)))) .skip))))))))))))))))))) (.seq (.ops [iM 150 0,iH 151 (.call 188 [(.t 150),(kI 102)])]) (.seq (.ops [⟨(some 152),none,(.p (.build [(.Z (.int .u8 0)),(.Z (.string ⟨#[]⟩)),(.Z (.int .i64 0)),aV] []))⟩,iS 4 2 152]) .ret)))))
theorem YO:Dk Tryz.prog 220 M9 [(.c 2 4 .true)] 153:=fun h=>cR (fn:=Tryz.f220) (c:=Tryz.f220.body.getD .skip) (aY:=List.range 200) Tryz.func220 (by kernel_rfl) (by kernel_rfl) (by kernel_rfl) h
def Na:IC:=(.seq (.ops [⟨(some 4),none,(.h (.alloc (.agg [(.Z (.int .u8 0)),(.Z (.string ⟨#[]⟩)),(.Z (.int .i64 0)),aV]) 25))⟩]) (.seq (.ops [iM 8 1,⟨(some 9),none,(.p (.build [(.Z (.int .u8 0)),(.Z (.string ⟨#[]⟩)),(.Z (.int .i64 0)),aV] [(0,1,(.k (.Z (.int .u8 25)))),(1,1,(.t 8))]))⟩,⟨(some 5),none,(.h (.alloc (.agg [(.Z (.int .u8 0)),(.Z (.string ⟨#[]⟩)),(.Z (.int .i64 0)),aV]) 25))⟩,iS 4 5 9]) (.seq (.ops [iM 10 0,⟨(some 11),none,(.h (.call 164 [(.t 10),(.k (.Z (.string ⟨#[40]⟩)))]))⟩]) (.seq (.seq (.ops [iM 12 0,⟨(some 13),none,(.h (.call 165 [(.t 12),(.k (.Z (.string ⟨#[41]⟩)))]))⟩,iP 14 (xN 13),iM 6 14]) (.block 0 (.loop (.seq (.seq (.ops [iM 15 6,iM 16 15,gM 17 16 .true 0,gP 18 16 .true (.aP (.t 17)),gP 19 16 .true (.af 3 (.t 18)),gP 20 16 .true (.af 0 (.t 19)),gH 21 16 .true (yD 1 20),gP 22 16 .true (.az .eql (.t 21) (kI 0)),iP 23 (.pick (.t 16) (.t 22) kF)]) (.cond (.t 23) .skip (.exit 0))) (.block 1 (.seq (.ops [iM 24 0,iH 25 (.call 204 [(.t 24)]),⟨(some 7),none,(.h (.alloc (.agg [(.Z (.int .u8 0)),(.Z (.string ⟨#[]⟩)),(.Z (.int .i64 0)),aV]) 25))⟩,iS 4 7 25]) (.seq (.ops [iP 26 (.af 3 (.t 5)),iH 27 (yD 1 26),iH 28 (yA 4 7),⟨(some 29),none,(.h (.dh 4 25 (.agg [(.Z (.int .u8 0)),(.Z (.string ⟨#[]⟩)),(.Z (.int .i64 0)),aV]) 1 [(0,(.t 28))]))⟩,iH 30 (.dD 4 25 (.t 27) (.t 29)),iP 31 (.af 3 (.t 5)),iS 1 31 30]) (.seq (.ops [iM 32 0,⟨(some 33),none,(.h (.call 165 [(.t 32),(.k (.Z (.string ⟨#[44]⟩)))]))⟩,iM 6 33]) (.seq (.ops [iM 34 6]) (.cond (.t 34) (.ops [iM 35 0,iP 36 (.aP (.t 35)),iP 37 (.af 1 (.t 36)),iH 38 (yD 1 37),iP 39 (.az .add (.t 38) (kI 1)),iP 40 (.aP (.t 35)),iP 41 (.af 1 (.t 40)),iS 1 41 39]) .skip)))))))))) (.seq (.ops [iM 42 0,⟨(some 43),none,(.h (.call 166 [(.t 42),(.k (.Z (.string ⟨#[41]⟩)))]))⟩]) (.seq (.ops [iH 44 (yA 4 5),iS 4 4 44]) .ret))))))
theorem YP:Dk Tryz.prog 207 Na [(.c 4 4 .true)] 45:=fun h=>cR (fn:=Tryz.f207) (c:=Tryz.f207.body.getD .skip) (aY:=List.range 200) Tryz.func207 (by kernel_rfl) (by kernel_rfl) (by kernel_rfl) h
def Nb:IC:=(.seq (.ops [⟨(some 4),none,(.h (.alloc (.agg [(.Z (.int .u8 0)),(.Z (.string ⟨#[]⟩)),(.Z (.int .i64 0)),aV]) 25))⟩]) (.seq (.ops [iM 6 0,iP 7 (.aP (.t 6)),iP 8 (.af 1 (.t 7)),iH 9 (yD 1 8),iP 10 (.az .add (.t 9) (kI 1)),iP 11 (.aP (.t 6)),iP 12 (.af 1 (.t 11)),iS 1 12 10]) (.seq (.ops [iM 13 0,iH 14 (.call 204 [(.t 13)]),⟨(some 5),none,(.h (.alloc (.agg [(.Z (.int .u8 0)),(.Z (.string ⟨#[]⟩)),(.Z (.int .i64 0)),aV]) 25))⟩,iS 4 5 14]) (.seq (.ops [iM 15 0,⟨(some 16),none,(.h (.call 162 [(.t 15),(.k (.Z (.string ⟨#[59]⟩)))]))⟩]) (.seq (.ops [iM 17 1,iH 18 (yA 4 5),⟨(some 19),none,(.h (.dh 4 25 (.agg [(.Z (.int .u8 0)),(.Z (.string ⟨#[]⟩)),(.Z (.int .i64 0)),aV]) 1 [(0,(.t 18))]))⟩,iH 20 (yC 205 17 19),iS 4 4 20]) .ret)))))
theorem YQ:Dk Tryz.prog 206 Nb [(.c 4 4 .true)] 21:=fun h=>cR (fn:=Tryz.f206) (c:=Tryz.f206.body.getD .skip) (aY:=List.range 200) Tryz.func206 (by kernel_rfl) (by kernel_rfl) (by kernel_rfl) h
def Nc:IC:=(.seq (.ops [iP 2 (.mv (.k aV)),iH 3 (.alloc (.agg [(.Z (.int .i64 0)),(.Z (.int .i64 0))]) 93)]) (.seq (.ops [iP 4 (.mv (.k aV))]) (.seq (.ops [iP 5 (xI 0)]) (.seq (.block 0 (.loop (.seq (.seq (.ops [iM 12 5,iM 13 0,iP 14 (.fW (.t 13)),iP 15 (xB .lss 12 14)]) (.cond (.t 15) .skip (.exit 0))) (.block 1 (.seq (.seq (.ops [iM 16 0,iM 17 5,iP 18 (.fg (.t 16) (.t 17)),iH 19 (.call 158 [(.t 18)])]) (.cond (.t 19) (.seq (.ops [iM 20 5,iP 21 (.az .add (.t 20) (kI 1)),iM 5 21]) (.exit 1)) .skip)) (.seq (.seq (.ops [iM 22 0,iM 23 5,⟨(some 24),none,(.h (.call 159 [(.t 22),(.t 23),(.k (.Z (.string ⟨#[47,47]⟩)))]))⟩]) (.cond (.t 24) (.seq (.block 2 (.loop (.seq (.seq (.ops [iM 25 5,iM 26 0,iP 27 (.fW (.t 26)),iP 28 (xB .lss 25 27),iM 29 28,gM 30 29 .true 0,gM 31 29 .true 5,gP 32 29 .true (.fg (.t 30) (.t 31)),gP 33 29 .true (.az .neq (.t 32) (.k (.Z (.int .u8 10)))),iP 34 (.pick (.t 29) (.t 33) kF)]) (.cond (.t 34) .skip (.exit 2))) (.block 3 (.ops [iM 35 5,iP 36 (.az .add (.t 35) (kI 1)),iM 5 36]))))) (.exit 1)) .skip)) (.seq (.ops [iM 37 5,iM 6 37]) (.seq (.block 4 (.loop (.seq (.seq (.ops [iM 38 6,iM 39 0,iP 40 (.fW (.t 39)),iP 41 (xB .lss 38 40),iM 42 41,gM 43 42 .true 0,gM 44 42 .true 6,gP 45 42 .true (.fg (.t 43) (.t 44)),gH 46 42 .true (.call 78 [(.t 45)]),gM 47 42 .true 46,gM 48 47 .false 0,gM 49 47 .false 6,gP 50 47 .false (.fg (.t 48) (.t 49)),gH 51 47 .false (.call 81 [(.t 50)]),gP 52 42 .true (.pick (.t 47) kT (.t 51)),iP 53 (.pick (.t 42) (.t 52) kF)]) (.cond (.t 53) .skip (.exit 4))) (.block 5 (.ops [iM 54 6,iP 55 (.az .add (.t 54) (kI 1)),iM 6 55]))))) (.seq (.ops [iM 56 0,iM 57 5,iM 58 6,iP 59 (.mW (.t 56) (some (.t 57)) (some (.t 58))),iM 60 5,⟨(some 61),none,(.p (.build [(.Z (.int .u8 0)),(.Z (.string ⟨#[]⟩)),(.Z (.int .i64 0))] [(1,1,(.t 59)),(2,1,(.t 60))]))⟩,⟨(some 7),none,(.h (.alloc (.agg [(.Z (.int .u8 0)),(.Z (.string ⟨#[]⟩)),(.Z (.int .i64 0))]) 153))⟩,iS 3 7 61]) (.seq (.seq (.ops [iM 62 6,iM 63 5,iP 64 (xB .gtr 62 63)]) (.cond (.t 64) (.seq (.ops [iP 66 (.af 1 (.t 7)),iH 67 (yD 1 66),iH 68 (.call 160 [(.t 67)]),iM 65 68,iP 69 (.ext (.t 65) 0),iP 70 (.ext (.t 65) 1),iM 8 69,iM 9 70]) (.seq (.block 6 (.seq (.cH [iP 74 (.af 1 (.t 7)),iH 75 (yD 1 74),iH 76 (.call 80 []),iH 77 (yC 79 75 76),iM 73 77] [[],[0],[],[1,0,2],[3,1,0,2]]) (.cond (.t 73) (.ops [iP 78 (.af 0 (.t 7)),⟨none,none,(.h (.store 1 (.t 78) (.k (.Z (.int .u8 2)))))⟩]) (.seq (.ops [iP 80 (.af 1 (.t 7)),iH 81 (yD 1 80),iH 82 (.call 47 [(.t 81)]),iM 79 82]) (.cond (.t 79) (.ops [iP 83 (.af 0 (.t 7)),⟨none,none,(.h (.store 1 (.t 83) (.k (.Z (.int .u8 1)))))⟩]) (.seq (.ops [iM 85 9,iM 84 85]) (.cond (.t 84) (.ops [iP 86 (.af 0 (.t 7)),⟨none,none,(.h (.store 1 (.t 86) (.k (.Z (.int .u8 3)))))⟩]) (.seq (.ops [iM 71 5,iP 72 (.build [(.Z (.int .i64 0)),(.Z (.int .i64 0))] [(0,1,(kI 101)),(1,1,(.t 71))]),iP 2 (.mv (.k aV)),iS 2 3 72]) .ret)))))))) (.seq (.ops [iM 87 4,iH 88 (yA 3 7),⟨(some 89),none,(.h (.dh 3 153 (.agg [(.Z (.int .u8 0)),(.Z (.string ⟨#[]⟩)),(.Z (.int .i64 0))]) 1 [(0,(.t 88))]))⟩,iH 90 (.dD 3 153 (.t 87) (.t 89)),iM 4 90]) (.seq (.ops [iM 91 6,iM 5 91]) (.exit 1))))) .skip)) (.seq (.ops [iH 92 (.call 161 []),iM 10 92]) (.seq (.seq (.ops [iP 11 (xI 0)]) (.block 7 (.loop (.seq (.seq (.ops [iM 93 11,iM 94 10,iP 95 (xL 94),iP 96 (xB .lss 93 95),iM 97 96,gP 98 97 .true (.af 0 (.t 7)),gH 99 97 .true (yD 1 98),gP 100 97 .true (.az .eql (.t 99) (.k (.Z (.int .u8 0)))),iP 101 (.pick (.t 97) (.t 100) kF)]) (.cond (.t 101) .skip (.exit 7))) (.seq (.block 8 (.seq (.ops [iM 104 0,iM 105 5,iM 106 10,iM 107 11,iP 108 (xA 1 106 107),iH 109 (yD 1 108),iH 110 (.call 159 [(.t 104),(.t 105),(.t 109)])]) (.cond (.t 110) (.seq (.ops [iM 111 10,iM 112 11,iP 113 (xA 1 111 112),iH 114 (yD 1 113),iP 115 (.af 1 (.t 7)),iS 1 115 114]) (.ops [iP 116 (.af 0 (.t 7)),⟨none,none,(.h (.store 1 (.t 116) (.k (.Z (.int .u8 4)))))⟩])) .skip))) (.ops [iM 102 11,iP 103 (.az .add (.t 102) (kI 1)),iM 11 103])))))) (.seq (.seq (.ops [iP 117 (.af 0 (.t 7)),iH 118 (yD 1 117),iP 119 (.az .eql (.t 118) (.k (.Z (.int .u8 0))))]) (.cond (.t 119) (.seq (.ops [iM 120 5,iP 121 (.build [(.Z (.int .i64 0)),(.Z (.int .i64 0))] [(0,1,(kI 100)),(1,1,(.t 120))]),iP 2 (.mv (.k aV)),iS 2 3 121]) .ret) .skip)) (.seq (.ops [iM 122 4,iH 123 (yA 3 7),⟨(some 124),none,(.h (.dh 3 153 (.agg [(.Z (.int .u8 0)),(.Z (.string ⟨#[]⟩)),(.Z (.int .i64 0))]) 1 [(0,(.t 123))]))⟩,iH 125 (.dD 3 153 (.t 122) (.t 124)),iM 4 125]) (.ops [iM 126 5,iP 127 (.af 1 (.t 7)),iH 128 (yD 1 127),iP 129 (.fW (.t 128)),iP 130 (xB .add 126 129),iM 5 130]))))))))))))))) (.seq (.ops [iM 131 4,iM 132 0,iP 133 (.fW (.t 132)),⟨(some 134),none,(.p (.build [(.Z (.int .u8 0)),(.Z (.string ⟨#[]⟩)),(.Z (.int .i64 0))] [(0,1,(.k (.Z (.int .u8 5)))),(2,1,(.t 133))]))⟩,⟨(some 135),none,(.h (.dh 3 153 (.agg [(.Z (.int .u8 0)),(.Z (.string ⟨#[]⟩)),(.Z (.int .i64 0))]) 1 [(0,(.t 134))]))⟩,iH 136 (.dD 3 153 (.t 131) (.t 135)),iP 137 (.build [(.Z (.int .i64 0)),(.Z (.int .i64 0))] []),iM 2 136,iS 2 3 137]) .ret)))))
theorem YR:Dk Tryz.prog 104 Nc [(.t 2),(.c 3 2 .true)] 138:=fun h=>cR (fn:=Tryz.f104) (c:=Tryz.f104.body.getD .skip) (aY:=List.range 200) Tryz.func104 (by kernel_rfl) (by kernel_rfl) (by kernel_rfl) h
def Nf:IC:=(.seq (.ops [iP 0 (.mv (.k aV))]) (.seq (.ops [⟨(some 1),none,(.h (.dh 1 9 (.Z (.string ⟨#[]⟩)) 23 [(0,(.k (.Z (.string ⟨#[61,61]⟩)))),(1,(.k (.Z (.string ⟨#[33,61]⟩)))),(2,(.k (.Z (.string ⟨#[60,61]⟩)))),(3,(.k (.Z (.string ⟨#[62,61]⟩)))),(4,(.k (.Z (.string ⟨#[38,38]⟩)))),(5,(.k (.Z (.string ⟨#[124,124]⟩)))),(6,(.k (.Z (.string ⟨#[40]⟩)))),(7,(.k (.Z (.string ⟨#[41]⟩)))),(8,(.k (.Z (.string ⟨#[123]⟩)))),(9,(.k (.Z (.string ⟨#[125]⟩)))),(10,(.k (.Z (.string ⟨#[91]⟩)))),(11,(.k (.Z (.string ⟨#[93]⟩)))),(12,(.k (.Z (.string ⟨#[44]⟩)))),(13,(.k (.Z (.string ⟨#[59]⟩)))),(14,(.k (.Z (.string ⟨#[61]⟩)))),(15,(.k (.Z (.string ⟨#[60]⟩)))),(16,(.k (.Z (.string ⟨#[62]⟩)))),(17,(.k (.Z (.string ⟨#[43]⟩)))),(18,(.k (.Z (.string ⟨#[45]⟩)))),(19,(.k (.Z (.string ⟨#[42]⟩)))),(20,(.k (.Z (.string ⟨#[47]⟩)))),(21,(.k (.Z (.string ⟨#[37]⟩)))),(22,(.k (.Z (.string ⟨#[33]⟩))))]))⟩,iM 0 1]) .ret))
theorem YS:Dk Tryz.prog 161 Nf [(.t 0)] 2:=fun h=>cR (fn:=Tryz.f161) (c:=Tryz.f161.body.getD .skip) (aY:=List.range 200) Tryz.func161 (by kernel_rfl) (by kernel_rfl) (by kernel_rfl) h
open Go.RowKit
set_option maxRecDepth 100000
set_option linter.unusedVariables false
set_option linter.unusedSimpArgs false
def Bp:xk:=fun f=>match f with
 | 20=>some (aae,[(.c 2 4 .true)],11)
 | 53=>some (VW,[(.c 2 4 .true),(.c 3 2 .true)],69)
 | 46=>some (Ty,[(.t 2)],5)
 | 77=>some (TC,[(.t 4)],125)
 | 133=>some (Kt,[(.t 6)],93)
 | 130=>some (Kw,[(.t 2)],9)
 | 183=>some (Kv,[(.t 2)],13)
 | 131=>some (Ku,[(.t 2)],25)
 | 132=>some (M1,[(.t 2)],42)
 | 47=>some (TF,[(.t 2)],40)
 | 81=>some (TI,[(.t 2)],9)
 | 78=>some (TG,[(.t 2)],21)
 | 79=>some (TH,[(.t 4)],18)
 | 80=>some (VX,[(.t 0)],2)
 | 182=>some (Kx,[(.t 2)],21)
 | 105=>some (M2,[(.c 2 4 .true)],54)
 | 167=>some (M3,[(.c 2 4 .true)],30)
 | 166=>some (VU,[],14)
 | 162=>some (VQ,[],17)
 | 188=>some (VO,[],26)
 | 165=>some (VP,[(.t 4)],38)
 | 190=>some (M4,[(.c 2 4 .true)],135)
 | 205=>some (VN,[(.c 4 4 .true)],8)
 | 204=>some (M5,[(.c 2 4 .true)],6)
 | 216=>some (M6,[(.c 6 4 .true)],55)
 | 218=>some (M7,[(.c 4 4 .true)],28)
 | 219=>some (M8,[(.c 2 4 .true)],50)
 | 164=>some (VT,[],31)
 | 220=>some (M9,[(.c 2 4 .true)],153)
 | 207=>some (Na,[(.c 4 4 .true)],45)
 | 160=>some (VM,[(.t 2),(.t 3)],45)
 | 163=>some (VV,[(.c 4 4 .true)],11)
 | 189=>some (VS,[(.t 4)],37)
 | 206=>some (Nb,[(.c 4 4 .true)],21)
 | 104=>some (Nc,[(.t 2),(.c 3 2 .true)],138)
 | 159=>some (VL,[(.t 6)],25)
 | 161=>some (Nf,[(.t 0)],2)
 | 158=>some (VK,[(.t 2)],17)
 | _=>none
theorem sn:EY Tryz.prog Bp:=by
 intro f c rs n h
 unfold Bp at h
 split at h
 ·obtain ⟨rfl,h2⟩:=Prod.mk.inj (Option.some.inj h)
  obtain ⟨rfl,rfl⟩:=Prod.mk.inj h2
  exact aex
 ·obtain ⟨rfl,h2⟩:=Prod.mk.inj (Option.some.inj h)
  obtain ⟨rfl,rfl⟩:=Prod.mk.inj h2
  exact acr
 ·obtain ⟨rfl,h2⟩:=Prod.mk.inj (Option.some.inj h)
  obtain ⟨rfl,rfl⟩:=Prod.mk.inj h2
  exact Zo
 ·obtain ⟨rfl,h2⟩:=Prod.mk.inj (Option.some.inj h)
  obtain ⟨rfl,rfl⟩:=Prod.mk.inj h2
  exact Zp
 ·obtain ⟨rfl,h2⟩:=Prod.mk.inj (Option.some.inj h)
  obtain ⟨rfl,rfl⟩:=Prod.mk.inj h2
  exact Tx
 ·obtain ⟨rfl,h2⟩:=Prod.mk.inj (Option.some.inj h)
  obtain ⟨rfl,rfl⟩:=Prod.mk.inj h2
  exact TB
 ·obtain ⟨rfl,h2⟩:=Prod.mk.inj (Option.some.inj h)
  obtain ⟨rfl,rfl⟩:=Prod.mk.inj h2
  exact TA
 ·obtain ⟨rfl,h2⟩:=Prod.mk.inj (Option.some.inj h)
  obtain ⟨rfl,rfl⟩:=Prod.mk.inj h2
  exact Tz
 ·obtain ⟨rfl,h2⟩:=Prod.mk.inj (Option.some.inj h)
  obtain ⟨rfl,rfl⟩:=Prod.mk.inj h2
  exact YG
 ·obtain ⟨rfl,h2⟩:=Prod.mk.inj (Option.some.inj h)
  obtain ⟨rfl,rfl⟩:=Prod.mk.inj h2
  exact Zq
 ·obtain ⟨rfl,h2⟩:=Prod.mk.inj (Option.some.inj h)
  obtain ⟨rfl,rfl⟩:=Prod.mk.inj h2
  exact Zu
 ·obtain ⟨rfl,h2⟩:=Prod.mk.inj (Option.some.inj h)
  obtain ⟨rfl,rfl⟩:=Prod.mk.inj h2
  exact Zr
 ·obtain ⟨rfl,h2⟩:=Prod.mk.inj (Option.some.inj h)
  obtain ⟨rfl,rfl⟩:=Prod.mk.inj h2
  exact Zs
 ·obtain ⟨rfl,h2⟩:=Prod.mk.inj (Option.some.inj h)
  obtain ⟨rfl,rfl⟩:=Prod.mk.inj h2
  exact acs
 ·obtain ⟨rfl,h2⟩:=Prod.mk.inj (Option.some.inj h)
  obtain ⟨rfl,rfl⟩:=Prod.mk.inj h2
  exact TE
 ·obtain ⟨rfl,h2⟩:=Prod.mk.inj (Option.some.inj h)
  obtain ⟨rfl,rfl⟩:=Prod.mk.inj h2
  exact YH
 ·obtain ⟨rfl,h2⟩:=Prod.mk.inj (Option.some.inj h)
  obtain ⟨rfl,rfl⟩:=Prod.mk.inj h2
  exact YI
 ·obtain ⟨rfl,h2⟩:=Prod.mk.inj (Option.some.inj h)
  obtain ⟨rfl,rfl⟩:=Prod.mk.inj h2
  exact acp
 ·obtain ⟨rfl,h2⟩:=Prod.mk.inj (Option.some.inj h)
  obtain ⟨rfl,rfl⟩:=Prod.mk.inj h2
  exact acm
 ·obtain ⟨rfl,h2⟩:=Prod.mk.inj (Option.some.inj h)
  obtain ⟨rfl,rfl⟩:=Prod.mk.inj h2
  exact ack
 ·obtain ⟨rfl,h2⟩:=Prod.mk.inj (Option.some.inj h)
  obtain ⟨rfl,rfl⟩:=Prod.mk.inj h2
  exact acl
 ·obtain ⟨rfl,h2⟩:=Prod.mk.inj (Option.some.inj h)
  obtain ⟨rfl,rfl⟩:=Prod.mk.inj h2
  exact YJ
 ·obtain ⟨rfl,h2⟩:=Prod.mk.inj (Option.some.inj h)
  obtain ⟨rfl,rfl⟩:=Prod.mk.inj h2
  exact acj
 ·obtain ⟨rfl,h2⟩:=Prod.mk.inj (Option.some.inj h)
  obtain ⟨rfl,rfl⟩:=Prod.mk.inj h2
  exact YK
 ·obtain ⟨rfl,h2⟩:=Prod.mk.inj (Option.some.inj h)
  obtain ⟨rfl,rfl⟩:=Prod.mk.inj h2
  exact YL
 ·obtain ⟨rfl,h2⟩:=Prod.mk.inj (Option.some.inj h)
  obtain ⟨rfl,rfl⟩:=Prod.mk.inj h2
  exact YM
 ·obtain ⟨rfl,h2⟩:=Prod.mk.inj (Option.some.inj h)
  obtain ⟨rfl,rfl⟩:=Prod.mk.inj h2
  exact YN
 ·obtain ⟨rfl,h2⟩:=Prod.mk.inj (Option.some.inj h)
  obtain ⟨rfl,rfl⟩:=Prod.mk.inj h2
  exact aco
 ·obtain ⟨rfl,h2⟩:=Prod.mk.inj (Option.some.inj h)
  obtain ⟨rfl,rfl⟩:=Prod.mk.inj h2
  exact YO
 ·obtain ⟨rfl,h2⟩:=Prod.mk.inj (Option.some.inj h)
  obtain ⟨rfl,rfl⟩:=Prod.mk.inj h2
  exact YP
 ·obtain ⟨rfl,h2⟩:=Prod.mk.inj (Option.some.inj h)
  obtain ⟨rfl,rfl⟩:=Prod.mk.inj h2
  exact aci
 ·obtain ⟨rfl,h2⟩:=Prod.mk.inj (Option.some.inj h)
  obtain ⟨rfl,rfl⟩:=Prod.mk.inj h2
  exact acq
 ·obtain ⟨rfl,h2⟩:=Prod.mk.inj (Option.some.inj h)
  obtain ⟨rfl,rfl⟩:=Prod.mk.inj h2
  exact acn
 ·obtain ⟨rfl,h2⟩:=Prod.mk.inj (Option.some.inj h)
  obtain ⟨rfl,rfl⟩:=Prod.mk.inj h2
  exact YQ
 ·obtain ⟨rfl,h2⟩:=Prod.mk.inj (Option.some.inj h)
  obtain ⟨rfl,rfl⟩:=Prod.mk.inj h2
  exact YR
 ·obtain ⟨rfl,h2⟩:=Prod.mk.inj (Option.some.inj h)
  obtain ⟨rfl,rfl⟩:=Prod.mk.inj h2
  exact ach
 ·obtain ⟨rfl,h2⟩:=Prod.mk.inj (Option.some.inj h)
  obtain ⟨rfl,rfl⟩:=Prod.mk.inj h2
  exact YS
 ·obtain ⟨rfl,h2⟩:=Prod.mk.inj (Option.some.inj h)
  obtain ⟨rfl,rfl⟩:=Prod.mk.inj h2
  exact acg
 ·cases h
mutual
def Ng(G:Y):Nd→AV→Bool
 | ⟨k,s,n,l⟩,v=>match v with
  | .agg [.Z (.int .u8 k'),.Z (.string s'),.Z (.int .i64 n'),kv]=>(decide (k'=k) && (decide (s'=s) && decide (n'=n))) && (match kv with
   | .an _ xs _=>(match xs with
    | []=>(match l with
     | []=>true
     | _=>false)
    | _=>false)
   | .aE k4 id off m _=>(match yF G.length G id with
    | some blk=>(decide (k4=4) && (decide (blk.k=4) && decide (off+m≤blk.es.length))) && xm G l ((blk.es.drop off).take m)
    | none=>false)
   | _=>false)
  | _=>false
def xm(G:Y):List Nd→List AV→Bool
 | [],[]=>true
 | t::r,x::s=>Ng G t x && xm G r s
 | _,_=>false
end
def VY:Y→Bool
 | []=>true
 | none::r=>VY r
 | some b::r=>AV.nF b.es && VY r
theorem E0:∀{G:Y},VY G=true→Y.op G
 | [],_=>fun id b h=>by simp[Y.find] at h
 | none::r,h=>fun id b hf=>by
  simp only[Y.find] at hf
  split at hf
  ·cases hf
  ·exact E0 (G:=r) h id b hf
 | some x::r,h=>fun id b hf=>by
  simp only[VY,Bool.and_eq_true] at h
  simp only[Y.find] at hf
  split at hf
  ·rw[←Option.some.inj hf]
   exact h.1
  ·exact E0 h.2 id b hf
theorem Dv{n:Nat}:∀(k:Nat)(l:List AV),(AV.kH n l).drop k=AV.kH n (l.drop k)
 | 0,_=>rfl
 | _+1,[]=>rfl
 | k+1,_::r=>Dv k r
theorem Dw{n:Nat}:∀(k:Nat)(l:List AV),(AV.kH n l).take k=AV.kH n (l.take k)
 | 0,_=>by simp[AV.kH]
 | _+1,[]=>rfl
 | k+1,x::r=>congrArg (AV.up n x::·) (Dw k r)
mutual
theorem IA{G H:Y}:∀{t:Nd}{v:AV},Ng G t v=true→Gz (Y.up H.length G++H) H.length [] (v.up H.length) (fH t)
 | ⟨k,s,n,l⟩,v,h=>by
  rw[ki]
  unfold Ng at h
  split at h
  ·rename_i k' s' n' kv
   simp only[Bool.and_eq_true,decide_eq_true_eq] at h
   obtain ⟨⟨rfl,rfl,rfl⟩,h⟩:=h
   simp only[AV.up,AV.kH]
   refine .agg (.cons (.same trivial) (.cons (.same trivial) (.cons (.same trivial) (.cons ?_ .nil))))
   split at h
   ·split at h
    ·split at h
     ·simp only[AV.up]
      exact .nil
     ·cases h
    ·cases h
   ·split at h
    ·rename_i id off m c x blk hf
     rw[lI] at hf
     simp only[Bool.and_eq_true,decide_eq_true_eq] at h
     obtain ⟨⟨rfl,h2,h3⟩,h4⟩:=h
     simp only[AV.up]
     refine .aE (blk:=blk.up H.length) (by unfold cF;rw[if_neg (by omega)];rfl) (by rw[Y.AB,Y.Hv,hf];rfl) h2 (by simpa [aK.up,AV.iK] using h3) ?_
     show de _ _ _ (((AV.kH H.length blk.es).drop off).take m) _
     rw[Dv,Dw]
     exact Dx h4
    ·cases h
   ·cases h
  ·cases h
theorem Dx{G H:Y}:∀{l:List Nd}{xs:List AV},xm G l xs=true→de (Y.up H.length G++H) H.length [] (AV.kH H.length xs) (bC l)
 | [],[],_=>.nil
 | t::r,x::s,h=>by
  simp only[xm,Bool.and_eq_true] at h
  rw[Pc]
  exact .cons (IA h.1) (Dx h.2)
 | [],_::_,h=>by simp[xm] at h
 | _::_,[],h=>by simp[xm] at h
end
def uB(T:xk)(m k:Nat)(f:FuncId)(xs:List AV)(t:Nd):Bool:=match M0 T m k f xs [] with
 | some (v,G)=>v.op && (VY G && Ng G t v)
 | none=>false
theorem pG{P:Program}{T:xk}(hT:EY P T){m k:Nat}{f:FuncId}{xs ys:List AV}{t:Nd}(h:uB T m k f xs t=true){H:Y}(hv:ct H ys xs):D P f ys H (.ret (fH t)) H:=by
 unfold uB at h
 split at h
 ·rename_i v G hr
  simp only[Bool.and_eq_true] at h
  have h1:=Hw hv h.1 (E0 h.2.1) (Iz hT k f xs [] v G hr)
  exact aD (Nat.le_refl _) (h1.dk.mono fun e H1 _ ⟨e1,e2⟩=>by
   subst e1 e2
   exact gj (fun i hi=>Y.bw hi) (IA h.2.2))
 ·cases h
end Go.Proofs.YtnoplgongieehaaGreatDoor
