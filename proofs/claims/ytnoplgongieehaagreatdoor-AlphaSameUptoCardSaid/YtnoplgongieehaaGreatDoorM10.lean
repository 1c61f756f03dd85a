import Derived.Test.YtnoplgongieehaaGreatDoorM5
import Derived.Test.YtnoplgongieehaaGreatDoorM7
import Derived.Test.YtnoplgongieehaaGreatDoorM8
import Derived.Test.YtnoplgongieehaaGreatDoorM9
import Derived.Test.YtnoplgongieehaaGreatDoorProg
import Derived.Test.YtnoplgongieehaaGreatDoorM3
import Derived.KernelRfl
import Derived.Test.YtnoplgongieehaaGreatDoorM4
import Derived.Test.YtnoplgongieehaaGreatDoorRows
import Derived.Lib.LaidTab
namespace Go.Proofs.YtnoplgongieehaaGreatDoor
open Go.RowKit
set_option maxRecDepth 100000
set_option linter.unusedVariables false
set_option linter.unusedSimpArgs false
theorem Dy(n:Nd)(hw:n.wt≤100000)(hs:n.size≤10000)(x:ByteArray)(path:List Int)(hp:path.length≤1000000){H:Y}{v w:AV}(hv:View H v (fH n))(yy:View H w (.an 1 (aI path) none)):D Tryz.prog 14 [v,.Z (.string x),w] H (.ret (.aG [fU (cz n x path).1 H.length,.Z (.int .i64 (cz n x path).2)])) (fQ (cz n x path).1 H.length++H):=by
 have h1:=P5 n hw hs x path hp none
 rw[jN] at h1
 obtain ⟨t,ht⟩:∃t,(cz n x path).1=t:=⟨_,rfl⟩
 obtain ⟨e,he⟩:∃e,(cz n x path).2=e:=⟨_,rfl⟩
 rw[ht,he] at h1 ⊢
 have hop:(AV.aG [fU t 0,.Z (.int .i64 e)]).op=true:=by
  have:=(EO 0 t 0).2.2.1
  simp only[AV.op,AV.nF,this,Bool.and_self]
 have h2:=Hw (.cons hv (.cons .Z (.cons yy .nil))) hop (Ve (EO 0 t 0).2.2.2) h1
 have e1:(AV.aG [fU t 0,.Z (.int .i64 e)]).up H.length = .aG [fU t H.length,.Z (.int .i64 e)]:=by
  simp only[AV.up,AV.kH,(EO H.length t 0).1]
  rfl
 have e2:Y.up H.length (fQ t 0)=fQ t H.length:=(EO H.length t 0).2.1
 rw[e1,e2] at h2
 exact h2
set_option maxHeartbeats 0 in
theorem uC(H:Y):D Tryz.prog 8 [] H (.ret (.Z (.bool true))) H:=by
 have q1:=fun K=>P8 K
 have q2:=fun K=>P9 K
 have q3:=fun K=>LA K
 have q4:=fun K=>Qb K
 have q5:=fun K=>Qc K
 have b1:=nP Ls
 have b2:=nP Lt
 have b3:=nP Iu
 have b4:=nP Lu
 have b5:=nP Lv
 have a1:=Vy
 have a2:=Vz
 have r1:=Lw
 have r2:=Lx
 have r3:=Lz
 have r4:=of_decide_eq_true VA
 obtain ⟨t1,ht1⟩:∃t,qp=t:=⟨_,rfl⟩
 obtain ⟨t2,Pu⟩:∃t,Bj=t:=⟨_,rfl⟩
 obtain ⟨t3,ht3⟩:∃t,vY=t:=⟨_,rfl⟩
 obtain ⟨t4,ht4⟩:∃t,Bk=t:=⟨_,rfl⟩
 obtain ⟨t5,ht5⟩:∃t,Bl=t:=⟨_,rfl⟩
 rw[ht1] at q1 b1 a1 a2 r1 r2 r4
 rw[Pu] at q2 b2 a1
 rw[ht3] at q3 b3 r3
 rw[ht4] at q4 b4 a2
 rw[ht5] at q5 b5 r2
 clear ht1 Pu ht3 ht4 ht5
 unfold Lo at q1
 unfold Lp at q2
 unfold EQ at q3
 unfold Lq at q4
 unfold Lr at q5
 have hp:∀F:Y,View F (.an 1 [.Z (.int .i64 0),.Z (.int .i64 0),.Z (.int .i64 0)] (some [])) (.an 1 (aI [0,0,0]) none):=fun F=>AJ (l:=[0,0,0])
 have k1:=fun F v hv=>Dy t1 (by omega) (by omega) ⟨#[98]⟩ [0,0,0] (by simp) (H:=F) (v:=v) hv (hp F)
 have k3:=fun F v hv=>Dy t3 (by omega) (by omega) ⟨#[98]⟩ [0,0,0] (by simp) (H:=F) (v:=v) hv (hp F)
 rw[r1] at k1
 rw[r3] at k3
 obtain ⟨u1,hu1⟩:∃u,(cz t1 ⟨#[98]⟩ [0,0,0]).1=u:=⟨_,rfl⟩
 obtain ⟨u3,hu3⟩:∃u,(cz t3 ⟨#[98]⟩ [0,0,0]).1=u:=⟨_,rfl⟩
 rw[hu1] at k1 r2 r4
 rw[hu3] at k3
 clear hu1 hu3
 simp only[eU u1] at k1
 simp only[eU u3] at k3
 rw[ki] at q1 q2 q3 q4 q5
 refine aD (Nat.le_refl _) (dk8 (aA ?_))
 simp only[ic8,ux]
 refine ae fun L hL=>?_
 refine aZ ?_
 refine hL _ _ ?_
 clear hL
 refine ae fun L hL=>?_
 refine aZ ?_
 refine ai (q1 _) ?_
 refine aZ ?_
 refine ai (q2 _) ?_
 refine aZ ?_
 refine hL _ _ ?_
 clear hL
 refine ae fun L hL=>?_
 refine aZ ?_
 have v1:∀F:Y,View F (.agg [.Z (.int .u8 t1.kind),.Z (.string t1.text),.Z (.int .i64 t1.num),.an 4 (bC t1.kids) none]) (fH t1):=fun F=>by have:=gG t1 none F;rw[aM] at this;exact this
 have v2:∀F:Y,View F (.agg [.Z (.int .u8 t2.kind),.Z (.string t2.text),.Z (.int .i64 t2.num),.an 4 (bC t2.kids) none]) (fH t2):=fun F=>by have:=gG t2 none F;rw[aM] at this;exact this
 have v3:∀F:Y,View F (.agg [.Z (.int .u8 t3.kind),.Z (.string t3.text),.Z (.int .i64 t3.num),.an 4 (bC t3.kids) none]) (fH t3):=fun F=>by have:=gG t3 none F;rw[aM] at this;exact this
 have v4:∀F:Y,View F (.agg [.Z (.int .u8 t4.kind),.Z (.string t4.text),.Z (.int .i64 t4.num),.an 4 (bC t4.kids) none]) (fH t4):=fun F=>by have:=gG t4 none F;rw[aM] at this;exact this
 have v5:∀F:Y,View F (.agg [.Z (.int .u8 t5.kind),.Z (.string t5.text),.Z (.int .i64 t5.num),.an 4 (bC t5.kids) none]) (fH t5):=fun F=>by have:=gG t5 none F;rw[aM] at this;exact this
 refine ai (k1 _ _ (v1 _)) ?_
 have hG0:=lV (t:=u1) (H:=some ⟨4,[.agg [.Z (.int .u8 t2.kind),.Z (.string t2.text),.Z (.int .i64 t2.num),.an 4 (bC t2.kids) none]],true,25⟩::some ⟨4,[.agg [.Z (.int .u8 t1.kind),.Z (.string t1.text),.Z (.int .i64 t1.num),.an 4 (bC t1.kids) none]],true,25⟩::H)
 have V3:∀i,i<H.length+2→Y.find (fQ u1 (H.length+2)++(some ⟨4,[.agg [.Z (.int .u8 t2.kind),.Z (.string t2.text),.Z (.int .i64 t2.num),.an 4 (bC t2.kids) none]],true,25⟩::some ⟨4,[.agg [.Z (.int .u8 t1.kind),.Z (.string t1.text),.Z (.int .i64 t1.num),.an 4 (bC t1.kids) none]],true,25⟩::H)) i=Y.find (some ⟨4,[.agg [.Z (.int .u8 t2.kind),.Z (.string t2.text),.Z (.int .i64 t2.num),.an 4 (bC t2.kids) none]],true,25⟩::some ⟨4,[.agg [.Z (.int .u8 t1.kind),.Z (.string t1.text),.Z (.int .i64 t1.num),.an 4 (bC t1.kids) none]],true,25⟩::H) i:=fun i hi=>Y.bw (by simp only[List.length_cons];omega)
 have ae6:(fQ u1 (H.length+2)++(some ⟨4,[.agg [.Z (.int .u8 t2.kind),.Z (.string t2.text),.Z (.int .i64 t2.num),.an 4 (bC t2.kids) none]],true,25⟩::some ⟨4,[.agg [.Z (.int .u8 t1.kind),.Z (.string t1.text),.Z (.int .i64 t1.num),.an 4 (bC t1.kids) none]],true,25⟩::H)).length=u1.size+(H.length+2):=by rw[List.length_append,jR];simp
 simp only[List.length_cons,Nat.add_assoc,Nat.reduceAdd] at hG0 ⊢
 generalize fQ u1 (H.length+2)++(some ⟨4,[.agg [.Z (.int .u8 t2.kind),.Z (.string t2.text),.Z (.int .i64 t2.num),.an 4 (bC t2.kids) none]],true,25⟩::some ⟨4,[.agg [.Z (.int .u8 t1.kind),.Z (.string t1.text),.Z (.int .i64 t1.num),.an 4 (bC t1.kids) none]],true,25⟩::H)=G at *
 have g1:Y.find G H.length=some ⟨4,[.agg [.Z (.int .u8 t1.kind),.Z (.string t1.text),.Z (.int .i64 t1.num),.an 4 (bC t1.kids) none]],true,25⟩:=by rw[V3 _ (by omega),aj (by simp),aL rfl]
 have g2:Y.find G (H.length+1)=some ⟨4,[.agg [.Z (.int .u8 t2.kind),.Z (.string t2.text),.Z (.int .i64 t2.num),.an 4 (bC t2.kids) none]],true,25⟩:=by rw[V3 _ (by omega),aL (by simp)]
 have LB:∀i,i<H.length→Y.find G i=Y.find H i:=fun i hi=>by rw[V3 _ (by omega),aj (by simp;omega),aj hi]
 refine aZ ?_
 refine hL _ _ ?_
 clear hL
 refine ae fun L hL=>?_
 refine aZ ?_
 refine ai (q3 _) ?_
 refine aZ ?_
 refine ai (k3 _ _ (v3 _)) ?_
 have IB:∀i,i<G.length+1→Y.find (fQ u3 (G.length+1)++(some ⟨4,[.agg [.Z (.int .u8 u1.kind),.Z (.string u1.text),.Z (.int .i64 u1.num),aX 4 (fN u1.kids (H.length+3)) (H.length+2)]],true,25⟩::G)) i=Y.find (some ⟨4,[.agg [.Z (.int .u8 u1.kind),.Z (.string u1.text),.Z (.int .i64 u1.num),aX 4 (fN u1.kids (H.length+3)) (H.length+2)]],true,25⟩::G) i:=fun i hi=>Y.bw (by simp only[List.length_cons];omega)
 have ae7:(fQ u3 (G.length+1)++(some ⟨4,[.agg [.Z (.int .u8 u1.kind),.Z (.string u1.text),.Z (.int .i64 u1.num),aX 4 (fN u1.kids (H.length+3)) (H.length+2)]],true,25⟩::G)).length=u3.size+(G.length+1):=by rw[List.length_append,jR];simp
 simp only[List.length_cons,Nat.add_assoc,Nat.reduceAdd]
 generalize fQ u3 (G.length+1)++(some ⟨4,[.agg [.Z (.int .u8 u1.kind),.Z (.string u1.text),.Z (.int .i64 u1.num),aX 4 (fN u1.kids (H.length+3)) (H.length+2)]],true,25⟩::G)=K at *
 have gl:=Y.au g2
 have w1:Y.find K H.length=_:=(IB _ (by omega)).trans ((aj (by omega)).trans g1)
 have w2:Y.find K (H.length+1)=_:=(IB _ (by omega)).trans ((aj (by omega)).trans g2)
 have w3:Y.find K G.length=_:=(IB _ (by omega)).trans (aL rfl)
 have hKo:∀i,i<H.length→Y.find K i=Y.find H i:=fun i hi=>(IB i (by omega)).trans ((aj (by omega)).trans (LB i hi))
 have PP:eZ K u1 (H.length+2):=hG0.of fun i h1 h2=>(IB i (by omega)).trans (aj (by omega))
 have fR:(aX 4 (fN u1.kids (H.length+3)) (H.length+2)).cells=[aX 4 (fN u1.kids (H.length+3)) (H.length+2)]:=rL
 refine aZ ?_
 refine hL _ _ ?_
 clear hL
 refine ae fun L hL=>?_
 refine qc @w1 @w2 w3 fR ?_
 have m1:=fun F=>vQ t1 t2 (by omega) (by omega) (by omega) (by omega) (H:=F) (v1 F) (v2 F)
 have m2:=fun F=>vQ t1 t4 (by omega) (by omega) (by omega) (by omega) (H:=F) (v1 F) (v4 F)
 rw[a1] at m1
 rw[a2] at m2
 have m3:∀F:Y,eZ F u1 (H.length+2)→D Tryz.prog 16 [.agg [.Z (.int .u8 u1.kind),.Z (.string u1.text),.Z (.int .i64 u1.num),aX 4 (fN u1.kids (H.length+3)) (H.length+2)],.agg [.Z (.int .u8 t5.kind),.Z (.string t5.text),.Z (.int .i64 t5.num),.an 4 (bC t5.kids) none]] F (.ret (.Z (.bool true))) F:=fun F hF=>by
  have h1:=Dg u1 hF
  rw[eU] at h1
  have h2:=sg u1 (by omega) t5 none none []
  rw[jN,jN,r2] at h2
  exact vn (.cons h1 (.cons (v5 F) .nil)) .Z h2
 refine aJ (m1 _) ?_
 refine qc @w1 @w2 w3 fR ?_
 refine aJ (q4 _) ?_
 refine qc @w1 @w2 w3 fR ?_
 refine aJ (m2 _) ?_
 refine qc @w1 @w2 w3 fR ?_
 refine aJ (q5 _) ?_
 refine qc @w1 @w2 w3 fR ?_
 refine aJ (m3 _ (PP.of fun i h1 h2=>aj (by omega))) ?_
 refine qc @w1 @w2 w3 fR ?_
 refine hL _ _ ?_
 clear hL
 refine aZ ?_
 exact gj (fun i hi=>(aj (by have:=Y.au w3;omega)).trans (hKo i hi)) (.same trivial)
set_option maxRecDepth 1000000
def aag:IC:=(.seq (.ops [iH 1 (.box 4 25 (.t 0)),iP 2 (.mv (.k aV))]) (.seq (.ops [iH 10 (yA 4 1),iH 11 (.call 54 [(.t 10)]),iH 3 (.alloc (.agg [(.Z (.int .i64 0)),(.Z (.int .i64 0))]) 93),iS 2 3 11]) (.seq (.seq (.ops [iP 12 (.af 0 (.t 3)),iH 13 (yD 1 12),iP 14 (.az .neq (.t 13) (kI 0))]) (.cond (.t 14) (.seq (.ops [iP 2 (.mv (.k aV))]) .ret) .skip)) (.seq (.ops [iP 4 (.mv (.k aV))]) (.seq (.ops [iH 15 (yA 4 1),iH 16 (.call 55 [(.t 15)]),iM 5 16]) (.seq (.seq (.ops [iP 6 (xI 0)]) (.block 0 (.loop (.seq (.seq (.ops [iM 17 6,iM 18 5,iP 19 (xL 18),iP 20 (xB .lss 17 19)]) (.cond (.t 20) .skip (.exit 0))) (.seq (.block 1 (.seq (.ops [iM 23 5,iM 24 6,iP 25 (xA 5 23 24),iP 26 (.af 0 (.t 25)),iP 27 (.af 0 (.t 26)),iH 28 (yD 1 27),iM 7 28]) (.seq (.seq (.ops [iM 29 7,iP 30 (.az .neq (.t 29) (.k (.Z (.int .u8 2)))),iM 31 30,gM 32 31 .true 7,gP 33 31 .true (.az .neq (.t 32) (.k (.Z (.int .u8 4)))),iP 34 (.pick (.t 31) (.t 33) kF),iM 35 34,gM 36 35 .true 7,gP 37 35 .true (.az .neq (.t 36) (.k (.Z (.int .u8 6)))),iP 38 (.pick (.t 35) (.t 37) kF)]) (.cond (.t 38) (.exit 1) .skip)) (.seq (.cH [⟨(some 8),none,(.h (.alloc (.agg [aV,(.Z (.string ⟨#[]⟩)),aV]) 47))⟩,iH 39 (.dK 1 3 (.Z (.int .i64 0)) 0 []),iM 40 5,iM 41 6,iP 42 (xA 5 40 41),iP 43 (.af 4 (.t 42)),iH 44 (yD 1 43),iH 45 (.dD 1 3 (.t 39) (.t 44)),iM 46 5,iM 47 6,iP 48 (xA 5 46 47),iP 49 (.af 0 (.t 48)),iP 50 (.af 1 (.t 49)),iH 51 (yD 1 50),⟨(some 52),none,(.p (.build [aV,(.Z (.string ⟨#[]⟩)),aV] [(0,1,(.t 45)),(1,1,(.t 51))]))⟩,iS 3 8 52] [[],[],[],[],[2,3],[4,2,3],[5,4,2,3],[1,6,5,4,2,3],[],[],[8,9],[10,8,9],[11,10,8,9],[12,11,10,8,9],[7,1,6,5,4,2,3,13,12,11,10,8,9],[0,14,7,1,6,5,4,2,3,13,12,11,10,8,9]]) (.seq (.seq (.ops [iP 9 (xI 0)]) (.block 2 (.loop (.seq (.seq (.ops [iM 53 9,iM 54 5,iP 55 (xL 54),iP 56 (xB .lss 53 55)]) (.cond (.t 56) .skip (.exit 2))) (.seq (.block 3 (.seq (.ops [iM 59 5,iM 60 9,iP 61 (xA 5 59 60),iP 62 (.af 0 (.t 61)),iP 63 (.af 0 (.t 62)),iH 64 (yD 1 63),iP 65 (.az .eql (.t 64) (.k (.Z (.int .u8 22)))),iM 66 65,gM 67 66 .false 5,gM 68 66 .false 9,gP 69 66 .false (xA 5 67 68),gP 70 66 .false (.af 0 (.t 69)),gP 71 66 .false (.af 0 (.t 70)),gH 72 66 .false (yD 1 71),gP 73 66 .false (.az .eql (.t 72) (.k (.Z (.int .u8 25)))),iP 74 (.pick (.t 66) kT (.t 73)),iM 75 74,gM 76 75 .true 5,gM 77 75 .true 9,gH 78 75 .true (yC 56 76 77),gM 79 75 .true 6,gP 80 75 .true (xB .eql 78 79),iP 81 (.pick (.t 75) (.t 80) kF)]) (.cond (.t 81) (.cH [iP 82 (.af 2 (.t 8)),iH 83 (yD 1 82),iH 84 (.dK 1 3 (.Z (.int .i64 0)) 0 []),iM 85 5,iM 86 9,iP 87 (xA 5 85 86),iP 88 (.af 4 (.t 87)),iH 89 (yD 1 88),iH 90 (.dD 1 3 (.t 84) (.t 89)),iH 91 (.dK 1 30 aV 1 [(0,(.t 90))]),iH 92 (.dD 1 30 (.t 83) (.t 91)),iP 93 (.af 2 (.t 8)),iS 1 93 92] [[],[0],[],[],[],[3,4],[5,3,4],[6,5,3,4],[2,7,6,5,3,4],[8,2,7,6,5,3,4],[1,0,9,8,2,7,6,5,3,4],[0,1,2,3,4,5,6,7,8,9,10],[11,0,1,2,3,4,5,6,7,8,9,10]]) .skip))) (.ops [iM 57 9,iP 58 (.az .add (.t 57) (kI 1)),iM 9 58])))))) (.ops [iM 94 4,iH 95 (yA 3 8),⟨(some 96),none,(.h (.dK 3 47 (.agg [aV,(.Z (.string ⟨#[]⟩)),aV]) 1 [(0,(.t 95))]))⟩,iH 97 (.dD 3 47 (.t 94) (.t 96)),iM 4 97])))))) (.ops [iM 21 6,iP 22 (.az .add (.t 21) (kI 1)),iM 6 22])))))) (.seq (.ops [iM 98 4,iM 2 98]) .ret)))))))
theorem aey:Dk Tryz.prog 21 aag [(.t 2)] 99:=aO (fn:=Tryz.f21) Tryz.func21 (by kernel_rfl) (by kernel_rfl) (by kernel_rfl)
def aah:IC:=(.seq (.ops [iH 1 (.box 4 25 (.t 0)),iH 2 (.alloc (.agg [(.Z (.int .i64 0)),(.Z (.int .i64 0))]) 93)]) (.seq (.seq (.ops [iP 8 (.af 0 (.t 1)),iH 9 (yD 1 8),iP 10 (.az .neq (.t 9) (.k (.Z (.int .u8 1)))),iM 11 10,gH 12 11 .false (yA 4 1),gH 13 11 .false (.call 46 [(.t 12)]),gP 14 11 .false (xN 13),iP 15 (.pick (.t 11) kT (.t 14))]) (.cond (.t 15) (.seq (.ops [iP 16 (.build [(.Z (.int .i64 0)),(.Z (.int .i64 0))] [(0,1,(kI 4))]),iS 2 2 16]) .ret) .skip)) (.seq (.ops [iH 17 (yA 4 1),iH 18 (.call 55 [(.t 17)]),iM 3 18]) (.seq (.seq (.ops [iP 4 (xI 0)]) (.block 0 (.loop (.seq (.seq (.ops [iM 19 4,iM 20 3,iP 21 (xL 20),iP 22 (xB .lss 19 21)]) (.cond (.t 22) .skip (.exit 0))) (.seq (.block 1 (.seq (.ops [iM 25 3,iM 26 4,iP 27 (xA 5 25 26),iP 28 (.af 0 (.t 27)),iP 29 (.af 0 (.t 28)),iH 30 (yD 1 29),iP 31 (.az .eql (.t 30) (.k (.Z (.int .u8 2)))),iM 32 31,gM 33 32 .true 3,gM 34 32 .true 4,gH 35 32 .true (yC 106 33 34),iP 36 (.pick (.t 32) (.t 35) kF)]) (.cond (.t 36) (.seq (.ops [iM 37 4,iP 38 (.build [(.Z (.int .i64 0)),(.Z (.int .i64 0))] [(0,1,(kI 110)),(1,1,(.t 37))]),iS 2 2 38]) .ret) .skip))) (.ops [iM 23 4,iP 24 (.az .add (.t 23) (kI 1)),iM 4 24])))))) (.seq (.seq (.ops [iP 5 (xI 0)]) (.block 2 (.loop (.seq (.seq (.ops [iM 39 5,iM 40 3,iP 41 (xL 40),iP 42 (xB .lss 39 41)]) (.cond (.t 42) .skip (.exit 2))) (.seq (.block 3 (.seq (.ops [iM 45 3,iM 46 5,iP 47 (xA 5 45 46),iP 48 (.af 0 (.t 47)),iP 49 (.af 0 (.t 48)),iH 50 (yD 1 49),iM 6 50]) (.seq (.seq (.ops [iM 51 6,iP 52 (.az .eql (.t 51) (.k (.Z (.int .u8 4)))),iM 53 52,gM 54 53 .false 6,gP 55 53 .false (.az .eql (.t 54) (.k (.Z (.int .u8 6)))),iP 56 (.pick (.t 53) kT (.t 55)),iM 57 56,gM 58 57 .true 3,gM 59 57 .true 5,gH 60 57 .true (yC 106 58 59),iP 61 (.pick (.t 57) (.t 60) kF)]) (.cond (.t 61) (.seq (.ops [iM 62 5,iP 63 (.build [(.Z (.int .i64 0)),(.Z (.int .i64 0))] [(0,1,(kI 110)),(1,1,(.t 62))]),iS 2 2 63]) .ret) .skip)) (.seq (.seq (.ops [iM 64 6,iP 65 (.az .neq (.t 64) (.k (.Z (.int .u8 22)))),iM 66 65,gM 67 66 .true 6,gP 68 66 .true (.az .neq (.t 67) (.k (.Z (.int .u8 25)))),iP 69 (.pick (.t 66) (.t 68) kF)]) (.cond (.t 69) (.exit 3) .skip)) (.seq (.ops [iM 70 3,iM 71 5,iH 72 (yC 56 70 71),iM 7 72]) (.seq (.seq (.ops [iM 73 7,iP 74 (.az .lss (.t 73) (kI 0))]) (.cond (.t 74) (.seq (.ops [iM 75 5,iP 76 (.build [(.Z (.int .i64 0)),(.Z (.int .i64 0))] [(0,1,(kI 111)),(1,1,(.t 75))]),iS 2 2 76]) .ret) .skip)) (.seq (.cH [iM 77 6,iP 78 (.az .eql (.t 77) (.k (.Z (.int .u8 25)))),iM 79 78,gM 80 79 .true 3,gM 81 79 .true 7,gP 82 79 .true (xA 5 80 81),gP 83 79 .true (.af 0 (.t 82)),gP 84 79 .true (.af 3 (.t 83)),gH 85 79 .true (yD 1 84),gP 86 79 .true (.fC 4 (.t 85) (kI 0)),gP 87 79 .true (.af 3 (.t 86)),gH 88 79 .true (yD 1 87),gP 89 79 .true (xL 88),gM 90 79 .true 3,gM 91 79 .true 5,gP 92 79 .true (xA 5 90 91),gP 93 79 .true (.af 0 (.t 92)),gP 94 79 .true (.af 3 (.t 93)),gH 95 79 .true (yD 1 94),gP 96 79 .true (xL 95),gP 97 79 .true (xB .neq 89 96),iP 98 (.pick (.t 79) (.t 97) kF)] [[],[0],[1,0],[2,1,0],[2,1,0],[3,2,1,0,4],[5,3,2,1,0,4],[6,5,3,2,1,0,4],[7,6,5,3,2,1,0,4],[8,7,6,5,3,2,1,0,4],[9,8,7,6,5,3,2,1,0,4],[10,9,8,7,6,5,3,2,1,0,4],[11,10,9,8,7,6,5,3,2,1,0,4],[2,1,0],[2,1,0],[13,2,1,0,14],[15,13,2,1,0,14],[16,15,13,2,1,0,14],[17,16,15,13,2,1,0,14],[18,17,16,15,13,2,1,0,14],[12,11,10,9,8,7,6,5,3,2,1,0,4,19,18,17,16,15,13,14],[2,1,0,20,12,11,10,9,8,7,6,5,3,4,19,18,17,16,15,13,14]]) (.cond (.t 98) (.seq (.ops [iM 99 5,iP 100 (.build [(.Z (.int .i64 0)),(.Z (.int .i64 0))] [(0,1,(kI 112)),(1,1,(.t 99))]),iS 2 2 100]) .ret) .skip)))))))) (.ops [iM 43 5,iP 44 (.az .add (.t 43) (kI 1)),iM 5 44])))))) (.seq (.ops [iP 101 (.build [(.Z (.int .i64 0)),(.Z (.int .i64 0))] []),iS 2 2 101]) .ret))))))
theorem aez:Dk Tryz.prog 54 aah [(.c 2 2 .true)] 102:=aO (fn:=Tryz.f54) Tryz.func54 (by kernel_rfl) (by kernel_rfl) (by kernel_rfl)
def aai:IC:=(.seq (.ops [iH 1 (.box 4 25 (.t 0)),iP 2 (.mv (.k aV))]) (.seq (.ops [iH 3 (yA 4 1),iH 4 (.call 107 [(.k aV),(.t 3),(.k aV)]),iM 2 4]) .ret))
theorem aeA:Dk Tryz.prog 55 aai [(.t 2)] 5:=aO (fn:=Tryz.f55) Tryz.func55 (by kernel_rfl) (by kernel_rfl) (by kernel_rfl)
def aaj:IC:=(.seq (.ops [iP 4 (xI 0)]) (.seq (.ops [iP 5 (xI (-1))]) (.seq (.seq (.ops [iP 6 (xI 0)]) (.block 0 (.loop (.seq (.seq (.ops [iM 8 6,iM 9 0,iP 10 (xL 9),iP 11 (xB .lss 8 10)]) (.cond (.t 11) .skip (.exit 0))) (.seq (.block 1 (.seq (.ops [iM 14 0,iM 15 6,iP 16 (xA 5 14 15),iP 17 (.af 0 (.t 16)),iP 18 (.af 0 (.t 17)),iH 19 (yD 1 18),iM 7 19]) (.seq (.seq (.cH [iM 20 0,iM 21 6,iP 22 (xA 5 20 21),iP 23 (.af 0 (.t 22)),iP 24 (.af 1 (.t 23)),iH 25 (yD 1 24),iM 26 0,iM 27 1,iP 28 (xA 5 26 27),iP 29 (.af 0 (.t 28)),iP 30 (.af 1 (.t 29)),iH 31 (yD 1 30),iP 32 (xB .neq 25 31)] [[],[],[0,1],[2,0,1],[3,2,0,1],[4,3,2,0,1],[],[],[6,7],[8,6,7],[9,8,6,7],[10,9,8,6,7],[5,4,3,2,0,1,11,10,9,8,6,7]]) (.cond (.t 32) (.exit 1) .skip)) (.seq (.seq (.ops [iM 33 0,iM 34 1,iP 35 (xA 5 33 34),iP 36 (.af 0 (.t 35)),iP 37 (.af 0 (.t 36)),iH 38 (yD 1 37),iP 39 (.az .eql (.t 38) (.k (.Z (.int .u8 25))))]) (.cond (.t 39) (.seq (.seq (.ops [iM 40 7,iP 41 (.az .eql (.t 40) (.k (.Z (.int .u8 2)))),iM 42 41,gM 43 42 .true 5,gP 44 42 .true (.az .lss (.t 43) (kI 0)),iP 45 (.pick (.t 42) (.t 44) kF)]) (.cond (.t 45) (.ops [iM 46 6,iM 5 46]) .skip)) (.exit 1)) .skip)) (.seq (.cH [iM 47 7,iP 48 (.az .eql (.t 47) (.k (.Z (.int .u8 4)))),iM 49 48,gM 50 49 .false 7,gP 51 49 .false (.az .eql (.t 50) (.k (.Z (.int .u8 6)))),iP 52 (.pick (.t 49) kT (.t 51)),iM 53 52,gM 54 53 .true 0,gM 55 53 .true 6,gP 56 53 .true (xA 5 54 55),gH 57 53 .true (yA 5 56),gM 58 53 .true 0,gM 59 53 .true 1,gP 60 53 .true (xA 5 58 59),gP 61 53 .true (.af 4 (.t 60)),gH 62 53 .true (yD 1 61),gH 63 53 .true (yC 108 57 62),iP 64 (.pick (.t 53) (.t 63) kF)] [[],[0],[1,0],[2,1,0],[3,2,1,0],[2,1,0,4,3],[5,2,1,0,4,3],[6,5,2,1,0,4,3],[6,5,2,1,0,4,3],[7,6,5,2,1,0,4,3,8],[9,7,6,5,2,1,0,4,3,8],[6,5,2,1,0,4,3],[6,5,2,1,0,4,3],[11,6,5,2,1,0,4,3,12],[13,11,6,5,2,1,0,4,3,12],[14,13,11,6,5,2,1,0,4,3,12],[10,9,7,6,5,2,1,0,4,3,8,15,14,13,11,12],[6,5,2,1,0,4,3,16,10,9,7,8,15,14,13,11,12]]) (.cond (.t 64) (.ops [iM 65 6,iM 5 65]) .skip)))))) (.ops [iM 12 6,iP 13 (.az .add (.t 12) (kI 1)),iM 6 13])))))) (.seq (.ops [iM 66 5,iM 4 66]) .ret))))
theorem aeB:Dk Tryz.prog 56 aaj [(.t 4)] 67:=aO (fn:=Tryz.f56) Tryz.func56 (by kernel_rfl) (by kernel_rfl) (by kernel_rfl)
def V4:IC:=(.seq (.ops [iP 4 (.mv kF)]) (.seq (.ops [iM 7 0,iM 8 1,iP 9 (xA 5 7 8),iP 10 (.af 4 (.t 9)),iH 11 (yD 1 10),iP 12 (xL 11),iM 5 12]) (.seq (.seq (.ops [iP 6 (xI 0)]) (.block 0 (.loop (.seq (.seq (.ops [iM 13 6,iM 14 1,iP 15 (xB .lss 13 14)]) (.cond (.t 15) .skip (.exit 0))) (.seq (.block 1 (.seq (.cH [iM 18 0,iM 19 6,iP 20 (xA 5 18 19),iP 21 (.af 0 (.t 20)),iP 22 (.af 0 (.t 21)),iH 23 (yD 1 22),iM 24 0,iM 25 1,iP 26 (xA 5 24 25),iP 27 (.af 0 (.t 26)),iP 28 (.af 0 (.t 27)),iH 29 (yD 1 28),iP 30 (xB .eql 23 29),iM 31 30,gM 32 31 .true 0,gM 33 31 .true 6,gP 34 31 .true (xA 5 32 33),gP 35 31 .true (.af 0 (.t 34)),gP 36 31 .true (.af 1 (.t 35)),gH 37 31 .true (yD 1 36),gM 38 31 .true 0,gM 39 31 .true 1,gP 40 31 .true (xA 5 38 39),gP 41 31 .true (.af 0 (.t 40)),gP 42 31 .true (.af 1 (.t 41)),gH 43 31 .true (yD 1 42),gP 44 31 .true (xB .eql 37 43),iP 45 (.pick (.t 31) (.t 44) kF),iM 46 45,gM 47 46 .true 0,gM 48 46 .true 6,gP 49 46 .true (xA 5 47 48),gP 50 46 .true (.af 4 (.t 49)),gH 51 46 .true (yD 1 50),gP 52 46 .true (xL 51),gM 53 46 .true 5,gP 54 46 .true (xB .eql 52 53),iP 55 (.pick (.t 46) (.t 54) kF),iM 56 55,gM 57 56 .true 0,gM 58 56 .true 6,gP 59 56 .true (xA 5 57 58),gP 60 56 .true (.af 4 (.t 59)),gH 61 56 .true (yD 1 60),gM 62 56 .true 0,gM 63 56 .true 1,gP 64 56 .true (xA 5 62 63),gP 65 56 .true (.af 4 (.t 64)),gH 66 56 .true (yD 1 65),gM 67 56 .true 5,gP 68 56 .true (.az .sub (.t 67) (kI 1)),gP 69 56 .true (.qE 1 (.t 66) none (some (.t 68)) none),gH 70 56 .true (yC 168 61 69),iP 71 (.pick (.t 56) (.t 70) kF)] [[],[],[0,1],[2,0,1],[3,2,0,1],[4,3,2,0,1],[],[],[6,7],[8,6,7],[9,8,6,7],[10,9,8,6,7],[5,4,3,2,0,1,11,10,9,8,6,7],[12,5,4,3,2,0,1,11,10,9,8,6,7],[13,12,5,4,3,2,0,1,11,10,9,8,6,7],[13,12,5,4,3,2,0,1,11,10,9,8,6,7],[14,13,12,5,4,3,2,0,1,11,10,9,8,6,7,15],[16,14,13,12,5,4,3,2,0,1,11,10,9,8,6,7,15],[17,16,14,13,12,5,4,3,2,0,1,11,10,9,8,6,7,15],[18,17,16,14,13,12,5,4,3,2,0,1,11,10,9,8,6,7,15],[13,12,5,4,3,2,0,1,11,10,9,8,6,7],[13,12,5,4,3,2,0,1,11,10,9,8,6,7],[20,13,12,5,4,3,2,0,1,11,10,9,8,6,7,21],[22,20,13,12,5,4,3,2,0,1,11,10,9,8,6,7,21],[23,22,20,13,12,5,4,3,2,0,1,11,10,9,8,6,7,21],[24,23,22,20,13,12,5,4,3,2,0,1,11,10,9,8,6,7,21],[19,18,17,16,14,13,12,5,4,3,2,0,1,11,10,9,8,6,7,15,25,24,23,22,20,21],[13,12,5,4,3,2,0,1,11,10,9,8,6,7,26,19,18,17,16,14,15,25,24,23,22,20,21],[27,13,12,5,4,3,2,0,1,11,10,9,8,6,7,26,19,18,17,16,14,15,25,24,23,22,20,21],[28,27,13,12,5,4,3,2,0,1,11,10,9,8,6,7,26,19,18,17,16,14,15,25,24,23,22,20,21],[28,27,13,12,5,4,3,2,0,1,11,10,9,8,6,7,26,19,18,17,16,14,15,25,24,23,22,20,21],[29,28,27,13,12,5,4,3,2,0,1,11,10,9,8,6,7,26,19,18,17,16,14,15,25,24,23,22,20,21,30],[31,29,28,27,13,12,5,4,3,2,0,1,11,10,9,8,6,7,26,19,18,17,16,14,15,25,24,23,22,20,21,30],[32,31,29,28,27,13,12,5,4,3,2,0,1,11,10,9,8,6,7,26,19,18,17,16,14,15,25,24,23,22,20,21,30],[33,32,31,29,28,27,13,12,5,4,3,2,0,1,11,10,9,8,6,7,26,19,18,17,16,14,15,25,24,23,22,20,21,30],[28,27,13,12,5,4,3,2,0,1,11,10,9,8,6,7,26,19,18,17,16,14,15,25,24,23,22,20,21],[34,33,32,31,29,28,27,13,12,5,4,3,2,0,1,11,10,9,8,6,7,26,19,18,17,16,14,15,25,24,23,22,20,21,30,35],[28,27,13,12,5,4,3,2,0,1,11,10,9,8,6,7,26,19,18,17,16,14,15,25,24,23,22,20,21,36,34,33,32,31,29,30,35],[37,28,27,13,12,5,4,3,2,0,1,11,10,9,8,6,7,26,19,18,17,16,14,15,25,24,23,22,20,21,36,34,33,32,31,29,30,35],[38,37,28,27,13,12,5,4,3,2,0,1,11,10,9,8,6,7,26,19,18,17,16,14,15,25,24,23,22,20,21,36,34,33,32,31,29,30,35],[38,37,28,27,13,12,5,4,3,2,0,1,11,10,9,8,6,7,26,19,18,17,16,14,15,25,24,23,22,20,21,36,34,33,32,31,29,30,35],[39,38,37,28,27,13,12,5,4,3,2,0,1,11,10,9,8,6,7,26,19,18,17,16,14,15,25,24,23,22,20,21,36,34,33,32,31,29,30,35,40],[41,39,38,37,28,27,13,12,5,4,3,2,0,1,11,10,9,8,6,7,26,19,18,17,16,14,15,25,24,23,22,20,21,36,34,33,32,31,29,30,35,40],[42,41,39,38,37,28,27,13,12,5,4,3,2,0,1,11,10,9,8,6,7,26,19,18,17,16,14,15,25,24,23,22,20,21,36,34,33,32,31,29,30,35,40],[38,37,28,27,13,12,5,4,3,2,0,1,11,10,9,8,6,7,26,19,18,17,16,14,15,25,24,23,22,20,21,36,34,33,32,31,29,30,35],[38,37,28,27,13,12,5,4,3,2,0,1,11,10,9,8,6,7,26,19,18,17,16,14,15,25,24,23,22,20,21,36,34,33,32,31,29,30,35],[44,38,37,28,27,13,12,5,4,3,2,0,1,11,10,9,8,6,7,26,19,18,17,16,14,15,25,24,23,22,20,21,36,34,33,32,31,29,30,35,45],[46,44,38,37,28,27,13,12,5,4,3,2,0,1,11,10,9,8,6,7,26,19,18,17,16,14,15,25,24,23,22,20,21,36,34,33,32,31,29,30,35,45],[47,46,44,38,37,28,27,13,12,5,4,3,2,0,1,11,10,9,8,6,7,26,19,18,17,16,14,15,25,24,23,22,20,21,36,34,33,32,31,29,30,35,45],[38,37,28,27,13,12,5,4,3,2,0,1,11,10,9,8,6,7,26,19,18,17,16,14,15,25,24,23,22,20,21,36,34,33,32,31,29,30,35],[49,38,37,28,27,13,12,5,4,3,2,0,1,11,10,9,8,6,7,26,19,18,17,16,14,15,25,24,23,22,20,21,36,34,33,32,31,29,30,35],[48,47,46,44,38,37,28,27,13,12,5,4,3,2,0,1,11,10,9,8,6,7,26,19,18,17,16,14,15,25,24,23,22,20,21,36,34,33,32,31,29,30,35,45,50,49],[43,42,41,39,38,37,28,27,13,12,5,4,3,2,0,1,11,10,9,8,6,7,26,19,18,17,16,14,15,25,24,23,22,20,21,36,34,33,32,31,29,30,35,40,51,48,47,46,44,45,50,49],[38,37,28,27,13,12,5,4,3,2,0,1,11,10,9,8,6,7,26,19,18,17,16,14,15,25,24,23,22,20,21,36,34,33,32,31,29,30,35,52,43,42,41,39,40,51,48,47,46,44,45,50,49]]) (.cond (.t 71) (.seq (.ops [iP 4 (.mv kT)]) .ret) .skip))) (.ops [iM 16 6,iP 17 (.az .add (.t 16) (kI 1)),iM 6 17])))))) (.seq (.ops [iP 4 (.mv kF)]) .ret))))
theorem acu:Dk Tryz.prog 106 V4 [(.t 4)] 72:=aO (fn:=Tryz.f106) Tryz.func106 (by kernel_rfl) (by kernel_rfl) (by kernel_rfl)
def V5:IC:=(.seq (.ops [iH 4 (.box 4 25 (.t 1)),iP 6 (.mv (.k aV))]) (.seq (.cH [iM 8 0,iH 9 (yA 4 4),iH 10 (.dK 1 3 (.Z (.int .i64 0)) 0 []),iM 11 2,iH 12 (.dD 1 3 (.t 10) (.t 11)),⟨(some 13),none,(.p (.build [(.Z (.int .u8 0)),(.Z (.string ⟨#[]⟩)),(.Z (.int .i64 0)),aV,aV] [(0,4,(.t 9)),(4,1,(.t 12))]))⟩,⟨(some 14),none,(.h (.dK 5 100 (.agg [(.Z (.int .u8 0)),(.Z (.string ⟨#[]⟩)),(.Z (.int .i64 0)),aV,aV]) 1 [(0,(.t 13))]))⟩,iH 15 (.dD 5 100 (.t 8) (.t 14)),iM 0 15] [[],[],[],[],[2,3],[1,4,2,3],[5,1,4,2,3],[0,6,5,1,4,2,3],[7,0,6,5,1,4,2,3]]) (.seq (.seq (.ops [iP 7 (xI 0)]) (.block 0 (.loop (.seq (.seq (.ops [iM 16 7,iP 17 (.af 3 (.t 4)),iH 18 (yD 1 17),iP 19 (xL 18),iP 20 (xB .lss 16 19)]) (.cond (.t 20) .skip (.exit 0))) (.seq (.block 1 (.cH [iM 23 0,iP 24 (.af 3 (.t 4)),iH 25 (yD 1 24),iM 26 7,iP 27 (xA 4 25 26),iH 28 (yA 4 27),iH 29 (.dK 1 3 (.Z (.int .i64 0)) 0 []),iM 30 2,iH 31 (.dD 1 3 (.t 29) (.t 30)),iM 32 7,iH 33 (.dK 1 3 (.Z (.int .i64 0)) 1 [(0,(.t 32))]),iH 34 (.dD 1 3 (.t 31) (.t 33)),iH 35 (.call 107 [(.t 23),(.t 28),(.t 34)]),iM 0 35] [[],[],[1],[],[2,1,3],[4,2,1,3],[],[],[6,7],[],[9],[8,6,7,10,9],[0,5,4,2,1,3,11,8,6,7,10,9],[12,0,5,4,2,1,3,11,8,6,7,10,9]])) (.ops [iM 21 7,iP 22 (.az .add (.t 21) (kI 1)),iM 7 22])))))) (.seq (.ops [iM 36 0,iM 6 36]) .ret))))
theorem acv:Dk Tryz.prog 107 V5 [(.t 6)] 37:=aO (fn:=Tryz.f107) Tryz.func107 (by kernel_rfl) (by kernel_rfl) (by kernel_rfl)
def LC:IC:=(.seq (.ops [iH 2 (.box 5 100 (.t 0)),iP 4 (.mv kF)]) (.seq (.ops [iP 7 (.af 4 (.t 2)),iH 8 (yD 1 7),iP 9 (xL 8),iM 5 9]) (.seq (.seq (.ops [iP 10 (.af 0 (.t 2)),iP 11 (.af 0 (.t 10)),iH 12 (yD 1 11),iP 13 (.az .eql (.t 12) (.k (.Z (.int .u8 4))))]) (.cond (.t 13) (.seq (.ops [iH 14 (.dK 1 3 (.Z (.int .i64 0)) 0 []),iP 15 (.af 4 (.t 2)),iH 16 (yD 1 15),iM 17 5,iP 18 (.az .sub (.t 17) (kI 2)),iP 19 (.qE 1 (.t 16) none (some (.t 18)) none),iH 20 (.dD 1 3 (.t 14) (.t 19)),iH 21 (.dK 1 3 (.Z (.int .i64 0)) 1 [(0,(kI 1))]),iH 22 (.dD 1 3 (.t 20) (.t 21)),iM 6 22]) (.seq (.ops [iM 23 1,iM 24 6,iH 25 (yC 168 23 24),iM 4 25]) .ret)) .skip)) (.seq (.cH [iM 26 1,iP 27 (xL 26),iM 28 5,iP 29 (xB .geq 27 28),iM 30 29,gM 31 30 .true 1,gP 32 30 .true (.af 4 (.t 2)),gH 33 30 .true (yD 1 32),gM 34 30 .true 5,gP 35 30 .true (.az .sub (.t 34) (kI 1)),gP 36 30 .true (.qE 1 (.t 33) none (some (.t 35)) none),gH 37 30 .true (yC 168 31 36),iP 38 (.pick (.t 30) (.t 37) kF),iM 39 38,gM 40 39 .true 1,gM 41 39 .true 5,gP 42 39 .true (.az .sub (.t 41) (kI 1)),gP 43 39 .true (xA 1 40 42),gH 44 39 .true (yD 1 43),gP 45 39 .true (.af 4 (.t 2)),gH 46 39 .true (yD 1 45),gM 47 39 .true 5,gP 48 39 .true (.az .sub (.t 47) (kI 1)),gP 49 39 .true (xA 1 46 48),gH 50 39 .true (yD 1 49),gP 51 39 .true (xB .gtr 44 50),iP 52 (.pick (.t 39) (.t 51) kF),iM 4 52] [[],[0],[],[1,0,2],[3,1,0,2],[4,3,1,0,2],[4,3,1,0,2],[6,4,3,1,0,2],[4,3,1,0,2],[8,4,3,1,0,2],[7,6,4,3,1,0,2,9,8],[5,4,3,1,0,2,10,7,6,9,8],[4,3,1,0,2,11,5,10,7,6,9,8],[12,4,3,1,0,2,11,5,10,7,6,9,8],[13,12,4,3,1,0,2,11,5,10,7,6,9,8],[13,12,4,3,1,0,2,11,5,10,7,6,9,8],[15,13,12,4,3,1,0,2,11,5,10,7,6,9,8],[14,13,12,4,3,1,0,2,11,5,10,7,6,9,8,16,15],[17,14,13,12,4,3,1,0,2,11,5,10,7,6,9,8,16,15],[13,12,4,3,1,0,2,11,5,10,7,6,9,8],[19,13,12,4,3,1,0,2,11,5,10,7,6,9,8],[13,12,4,3,1,0,2,11,5,10,7,6,9,8],[21,13,12,4,3,1,0,2,11,5,10,7,6,9,8],[20,19,13,12,4,3,1,0,2,11,5,10,7,6,9,8,22,21],[23,20,19,13,12,4,3,1,0,2,11,5,10,7,6,9,8,22,21],[18,17,14,13,12,4,3,1,0,2,11,5,10,7,6,9,8,16,15,24,23,20,19,22,21],[13,12,4,3,1,0,2,11,5,10,7,6,9,8,25,18,17,14,16,15,24,23,20,19,22,21],[26,13,12,4,3,1,0,2,11,5,10,7,6,9,8,25,18,17,14,16,15,24,23,20,19,22,21]]) .ret))))
theorem V6:Dk Tryz.prog 108 LC [(.t 4)] 53:=aO (fn:=Tryz.f108) Tryz.func108 (by kernel_rfl) (by kernel_rfl) (by kernel_rfl)
def V7:IC:=(.seq (.ops [iP 4 (.mv kF)]) (.seq (.ops [iM 5 0,iP 6 (xL 5),iM 7 1,iP 8 (xL 7),iP 9 (xB .geq 6 8),iM 10 9,gM 11 10 .true 0,gM 12 10 .true 1,gP 13 10 .true (xL 12),gP 14 10 .true (.qE 1 (.t 11) none (some (.t 13)) none),gM 15 10 .true 1,gH 16 10 .true (yC 26 14 15),iP 17 (.pick (.t 10) (.t 16) kF),iM 4 17]) .ret))
theorem acw:Dk Tryz.prog 168 V7 [(.t 4)] 18:=aO (fn:=Tryz.f168) Tryz.func168 (by kernel_rfl) (by kernel_rfl) (by kernel_rfl)
set_option maxRecDepth 100000
set_option maxHeartbeats 0 in
theorem xn(p w:List Int)(rp rw:Option (List AV))(hrp:rp=none∨rp=some [])(hp:p.length≤1000000)(hw:w.length≤1000000)(H:Y):D Tryz.prog 168 [.an 1 (aI p) rp,.an 1 (aI w) rw] H (.ret (.Z (.bool (gw p w)))) H:=by
 refine aD (Nat.le_refl _) (acw (aA ?_))
 simp only[V7,ux]
 refine ae fun L hL=>?_
 refine aN ?_
 refine hL _ _ ?_
 clear hL
 by_cases c:w.length≤p.length
 ·have c1:decide (((p.length:Nat):Int)≥(w.length:Nat))=true:=by simp;omega
  have ht:(aI p).take w.length=aI (p.take w.length):=by simp[aI]
  have hb:gw p w=decide (p.take w.length=w):=by unfold gw;simp[c]
  rcases hrp with rfl | rfl
  ·refine qc @aQ c1 c ht ?_
   refine ⟨by omega,ai (ot (p.take w.length) w none rw H (by simp;omega)) ?_⟩
   refine aN ?_
   rw[hb]
   exact bL .refl
  ·refine qc @aQ c1 c ht ?_
   refine ⟨⟨by omega,by omega⟩,ai (ot (p.take w.length) w _ rw H (by simp;omega)) ?_⟩
   refine aN ?_
   rw[hb]
   exact bL .refl
 ·have c1:decide (((p.length:Nat):Int)≥(w.length:Nat))=false:=by simp;omega
  have hb:gw p w=false:=by unfold gw;simp[c]
  refine wT @aQ c1 c ?_
  rw[hb]
  exact bL .refl
def ei(b:Pl):AV:=.agg [.Z (.int .u8 b.n.kind),.Z (.string b.n.text),.Z (.int .i64 b.n.num),.an 4 (bC b.n.kids) none,.an 1 (aI b.p) none]
theorem kE{l:List Pl}{k:Nat}(h:k<l.length):(l.map ei).getD k .top = .agg [.Z (.int .u8 (aq l k).n.kind),.Z (.string (aq l k).n.text),.Z (.int .i64 (aq l k).n.num),.an 4 (bC (aq l k).n.kids) none,.an 1 (aI (aq l k).p) none]:=by
 simp[List.getD,h,aq,ei]
set_option maxHeartbeats 0 in
theorem IE(l:List Pl)(ro:Option (List AV))(hl:l.length≤1000000)(hps:∀k,k<l.length→(aq l k).p.length≤1000000)(j:Nat)(hj:j<l.length)(hne:(aq l j).p≠[])(H:Y):D Tryz.prog 106 [.an 5 (l.map ei) ro,.Z (.int .i64 j)] H (.ret (.Z (.bool (ef l j)))) H:=by
 have sX:=kE hj
 have hpj:=hps j hj
 have hlen:(l.map ei).length=l.length:=by simp
 have hn0:0<(aq l j).p.length:=List.length_pos_iff.2 hne
 refine aD (Nat.le_refl _) (acu (aA ?_))
 simp only[V4,ux]
 refine ae fun L hL=>?_
 refine aZ ?_
 refine hL _ _ ?_
 clear hL
 refine ae fun L hL=>?_
 refine wT sX hlen @aQ ?_
 refine ⟨by omega,?_⟩
 refine hL _ _ ?_
 clear hL
 refine ae fun L hL=>?_
 refine ae fun L hL=>?_
 refine aZ ?_
 refine hL _ _ ?_
 clear hL
 refine bI (fun ts F=>F=H∧∃k:Nat,(k≤j∧((l.take k).any fun a=>twin a (aq l j))=false)∧Fr [some (.an 5 (l.map ei) ro),some (.Z (.int .i64 j)),none,none,some (.Z (.bool false)),some (.Z (.int .i64 (aq l j).p.length)),some (.Z (.int .i64 k)),none,none,none,none,none,none,none,none,none,none,none,none,none,none,none,none,none,none,none,none,none,none,none,none,none,none,none,none,none,none,none,none,none,none,none,none,none,none,none,none,none,none,none,none,none,none,none,none,none,none,none,none,none,none,none,none,none,none,none,none,none,none,none,none,none] ts) (fun ts _=>j - (aU (ts.getD 6 .top)).toNat) ?_ ?_
 ·exact ⟨rfl,0,⟨Nat.zero_le _,rfl⟩,by simp[Fr]⟩
 rintro ts _ ⟨rfl,k,⟨hk,ha⟩,bx⟩ L2 cK
 obtain ⟨js,rfl⟩:=bx.opened
 clear bx
 by_cases hd:k<j
 ·have d1:(k:Int)<j:=by omega
  have mc:k<l.length:=by omega
  have hg:=kE mc
  have htk:(l.take (k+1)).any (fun a=>twin a (aq l j))=twin (aq l k) (aq l j):=by
   rw[List.take_add_one,List.any_append,ha,List.getElem?_eq_getElem mc]
   simp[aq,List.getD,mc]
  have V8:=fun H=>xn (aq l k).p ((aq l j).p.take ((aq l j).p.length - 1)) none none (.inl rfl) (hps k mc) (by simp;omega) H
  have ht:(aI (aq l j).p).take ((aq l j).p.length - 1)=aI ((aq l j).p.take ((aq l j).p.length - 1)):=by simp[aI]
  have i1:(k:Int)<l.length:=by omega
  have i2:(j:Int)<l.length:=by omega
  have hsub:(((aq l j).p.length:Int) - 1).toNat=(aq l j).p.length - 1:=by omega
  have hlt:(aq l j).p.length<(aq l j).p.length+1:=by omega
  have hno:twin (aq l k) (aq l j)=false→(l.take (k+1)).any (fun a=>twin a (aq l j))=false:=fun h=>by rw[htk,h]
  by_cases c1:(aq l k).n.kind=(aq l j).n.kind
  ·by_cases c2:(aq l k).n.text=(aq l j).n.text
   ·by_cases c3:(aq l k).p.length=(aq l j).p.length
    ·have K2:((aq l k).p.length:Int)=(aq l j).p.length:=by omega
     simp -implicitDefEqProofs (maxSteps:=99999999) (disch:=first | omega | (simp only[vl];first | done | omega)) only[mk,vu,vg,d1,hg,sX,hlen,aQ,c1,c2,c3,K2,i1,i2,ht,hsub,va,vg,vs,vw,vk,simprocAttr]
     refine ⟨by omega,by omega,by omega,by omega,by omega,by omega,by omega,⟨by omega,by omega,by omega⟩,aJ (V8 _) ?_⟩
     have rX:twin (aq l k) (aq l j)=gw (aq l k).p ((aq l j).p.take ((aq l j).p.length - 1)):=by simp[twin,c1,c2,c3]
     cases hb:gw (aq l k).p ((aq l j).p.take ((aq l j).p.length - 1)) with
     | true =>
      rw[hb] at rX
      have htt:ef l j=true:=by
       unfold ef
       refine List.any_eq_true.2 ⟨aq l k,?_,rX⟩
       have:aq l k=(l.take j)[k]'(by simp;omega):=by simp[aq,List.getD,mc]
       rw[this]
       exact List.getElem_mem _
      rw[htt]
      refine aZ ?_
      exact bL .refl
     | false =>
      rw[hb] at rX
      refine aZ ?_
      exact cK _ _ ⟨rfl,k+1,⟨by omega,hno rX⟩,by simp[Fr]⟩ (by simp[aU,mk];omega)
    ·have K2:¬((aq l k).p.length:Int)=(aq l j).p.length:=by omega
     have hf:twin (aq l k) (aq l j)=false:=by simp[twin,c3]
     simp -implicitDefEqProofs (maxSteps:=99999999) (disch:=first | omega | (simp only[vl];first | done | omega)) only[mk,vu,vg,d1,hg,sX,hlen,aQ,c1,c2,c3,K2,i1,i2,va,vg,vs,vw,vk,simprocAttr]
     exact ⟨by omega,by omega,by omega,by omega,by omega,cK _ _ ⟨rfl,k+1,⟨by omega,hno hf⟩,by simp[Fr]⟩ (by simp[aU,mk];omega)⟩
   ·have hf:twin (aq l k) (aq l j)=false:=by simp[twin,c2]
    simp -implicitDefEqProofs (maxSteps:=99999999) (disch:=first | omega | (simp only[vl];first | done | omega)) only[mk,vu,vg,d1,hg,sX,hlen,aQ,c1,c2,i1,i2,va,vg,vs,vw,vk,simprocAttr]
    exact ⟨by omega,by omega,by omega,by omega,cK _ _ ⟨rfl,k+1,⟨by omega,hno hf⟩,by simp[Fr]⟩ (by simp[aU,mk];omega)⟩
  ·have hf:twin (aq l k) (aq l j)=false:=by simp[twin,c1]
   simp -implicitDefEqProofs (maxSteps:=99999999) (disch:=first | omega | (simp only[vl];first | done | omega)) only[mk,vu,vg,d1,hg,sX,hlen,aQ,c1,i1,i2,va,vg,vs,vw,vk,simprocAttr]
   exact ⟨by omega,by omega,cK _ _ ⟨rfl,k+1,⟨by omega,hno hf⟩,by simp[Fr]⟩ (by simp[aU,mk];omega)⟩
 ·have d1:¬(k:Int)<j:=by omega
  have hkj:k=j:=by omega
  subst hkj
  simp -implicitDefEqProofs (maxSteps:=99999999) (disch:=first | omega | (simp only[vl];first | done | omega)) only[mk,vu,d1,va,vg,vs,vw,vk,simprocAttr]
  clear cK
  refine hL _ _ ?_
  clear hL
  refine aZ ?_
  have htt:ef l k=false:=ha
  rw[htt]
  exact bL .refl
set_option maxHeartbeats 0 in
theorem V9(b:Pl)(q:List Int)(hne:b.p≠[])(h4:¬b.n.kind=4)(hp:b.p.length≤1000000)(hq:q.length≤1000000)(H:Y):D Tryz.prog 108 [ei b,.an 1 (aI q) none] H (.ret (.Z (.bool (cP b q)))) H:=by
 have hn0:0<b.p.length:=List.length_pos_iff.2 hne
 have hsub:((b.p.length:Int) - 1).toNat=b.p.length - 1:=by omega
 have ht:(aI b.p).take (b.p.length - 1)=aI (b.p.take (b.p.length - 1)):=by simp[aI]
 have V8:=fun H=>xn q (b.p.take (b.p.length - 1)) none none (.inl rfl) hq (by simp;omega) H
 have hr:cP b q=(decide (b.p.length≤q.length) && (gw q (b.p.take (b.p.length - 1)) && decide (q.getD (b.p.length - 1) 0 > b.p.getD (b.p.length - 1) 0))):=by unfold cP;rw[if_neg h4]
 unfold ei
 refine aD (Nat.le_refl _) (V6 (aA ?_))
 simp only[LC,ux]
 refine ae fun L hL=>?_
 refine aZ ?_
 refine hL _ _ ?_
 clear hL
 refine ae fun L hL=>?_
 refine iz @aQ ?_
 refine hL _ _ ?_
 clear hL
 refine ae fun L hL=>?_
 refine iz h4 ?_
 refine hL _ _ ?_
 clear hL
 by_cases c:b.p.length≤q.length
 ·have c1:decide (((q.length:Nat):Int)≥(b.p.length:Nat))=true:=by simp;omega
  have g1:=mU (l:=q) (k:=b.p.length - 1) (by omega)
  have g2:=mU (l:=b.p) (k:=b.p.length - 1) (by omega)
  have i1:((b.p.length:Int) - 1)<q.length:=by omega
  refine BP @aQ c1 hsub ht c ?_
  refine ⟨⟨by omega,by omega,by omega⟩,aJ (V8 _) ?_⟩
  cases hb:gw q (b.p.take (b.p.length - 1)) with
  | true =>
   refine BP @aQ hsub g1 g2 i1 ?_
   have hf:cP b q=decide (px q (b.p.length - 1) > px b.p (b.p.length - 1)):=by rw[hr,hb];simp[c,px]
   rw[hf]
   exact ⟨by omega,⟨by omega,by omega⟩,bL (.cons .refl)⟩
  | false =>
   have hf:cP b q=false:=by rw[hr,hb];simp
   rw[hf]
   refine aZ ?_
   exact bL (.cons .refl)
 ·have c1:decide (((q.length:Nat):Int)≥(b.p.length:Nat))=false:=by simp;omega
  have hf:cP b q=false:=by rw[hr];simp[c]
  rw[hf]
  refine wT @aQ c1 c ?_
  exact bL (.cons .refl)
set_option maxHeartbeats 0 in
theorem Wa(b:Pl)(q:List Int)(hn:2≤b.p.length)(h4:b.n.kind=4)(hp:b.p.length≤1000000)(hq:q.length≤1000000)(H:Y):D Tryz.prog 108 [ei b,.an 1 (aI q) none] H (.ret (.Z (.bool (cP b q)))) H:=by
 have hsub:((b.p.length:Int) - 2).toNat=b.p.length - 2:=by omega
 have ht:(aI b.p).take (b.p.length - 2)=aI (b.p.take (b.p.length - 2)):=by simp[aI]
 have V8:=xn q (b.p.take (b.p.length - 2)++[1]) none none (.inl rfl) hq (by simp;omega) []
 have hr:cP b q=gw q (b.p.take (b.p.length - 2)++[1]):=by unfold cP;rw[if_pos h4]
 rw[hr]
 have key:∀(G:Y)(id:Nat),Y.find G id=some ⟨1,aI (b.p.take (b.p.length - 2))++[.Z (.int .i64 1)],false,3⟩→D Tryz.prog 168 [.an 1 (aI q) none,.aE 1 id 0 (aI (b.p.take (b.p.length - 2))++[AV.Z (.int .i64 1)]).length none] G (.ret (.Z (.bool (gw q (b.p.take (b.p.length - 2)++[1]))))) G:=fun G id hG=>by
  have e:aI (b.p.take (b.p.length - 2))++[AV.Z (.int .i64 1)]=aI (b.p.take (b.p.length - 2)++[1]):=by simp[aI]
  rw[e] at hG ⊢
  have hne:aI (b.p.take (b.p.length - 2)++[1])≠[]:=by simp[aI]
  have hv:View G (aX 1 (aI (b.p.take (b.p.length - 2)++[1])) id) (.an 1 (aI (b.p.take (b.p.length - 2)++[1])) none):=ct.own (ty:=3) (fun _=>by rw[bt hne];exact hG) ct.SU
  rw[nA hne] at hv
  exact vn (.cons AJ (.cons hv .nil)) .Z V8
 unfold ei
 refine aD (Nat.le_refl _) (V6 (aA ?_))
 simp only[LC,ux]
 refine ae fun L hL=>?_
 refine aZ ?_
 refine hL _ _ ?_
 clear hL
 refine ae fun L hL=>?_
 refine iz @aQ ?_
 refine hL _ _ ?_
 clear hL
 refine ae fun L hL=>?_
 by_cases c:b.p.length=2
 ·have uQ:(aI b.p).take 0=[]:=rfl
  have bW:b.p.take (b.p.length - 2)=[]:=by rw[c];rfl
  rw[bW] at key ⊢
  refine qc h4 @aQ hsub c ?_
  refine ai (key _ (H.length+1) (aL (by simp only[List.length_cons]))) ?_
  refine aN ?_
  exact bL (.cons (.cons .refl))
 ·obtain ⟨x,r,hT⟩:∃x r,b.p.take (b.p.length - 2)=x::r:=by
   cases hT:b.p.take (b.p.length - 2) with
   | nil=>have:=congrArg List.length hT;simp at this;omega
   | cons x r=>exact ⟨x,r,rfl⟩
  have NI:r.length+1=b.p.length - 2:=by have:=congrArg List.length hT;simp at this;omega
  rw[hT] at key ht ⊢
  rw[AH] at ht key
  have hnl:(aI r).length=r.length:=aQ r
  refine BP h4 @aQ hsub ht hnl ?_
  have eW:=fun G id hG=>key G id hG
  simp only[List.cons_append,List.length_cons,List.length_append,List.length_nil,hnl,Nat.zero_add,Nat.add_assoc,Nat.reduceAdd] at eW
  refine ⟨⟨by omega,by omega,by omega⟩,by omega,by omega,ai (eW _ (H.length+2) (aL (by simp only[List.length_cons,Y.ah]))) ?_⟩
  refine aN ?_
  exact bL (.cons (.cons (.cons .refl)))
theorem IG(b:Pl)(q:List Int)(hne:b.p≠[])(hn:b.n.kind=4→2≤b.p.length)(hp:b.p.length≤1000000)(hq:q.length≤1000000)(H:Y):D Tryz.prog 108 [ei b,.an 1 (aI q) none] H (.ret (.Z (.bool (cP b q)))) H:=by
 by_cases h4:b.n.kind=4
 ·exact Wa b q (hn h4) h4 hp hq H
 ·exact V9 b q hne h4 hp hq H
def aak(l:List Pl):Prop:=∀k,k<l.length→(aq l k).p.length≤1000000∧(fS (aq l k)=true→(aq l k).p≠[])∧((aq l k).n.kind=4→2≤(aq l k).p.length)
theorem Qd{x:ByteArray}{q:List Int}{l:List Pl}{k:Nat}(h:k<l.length):jF x q (l.take (k+1)) 0 (-1)=if (aq l k).n.text=x∧fS (aq l k)=true∧cP (aq l k) q=true then (k:Int) else jF x q (l.take k) 0 (-1):=by
 rw[List.take_add_one,List.getElem?_eq_getElem h,eK]
 have:aq l k=l[k]:=by simp[aq,List.getD,h]
 simp only[Option.toList_some,jF,this,Nat.zero_add,List.length_take,Nat.min_eq_left (Nat.le_of_lt h)]
theorem Qe{x:ByteArray}{l:List Pl}{k:Nat}(h:k<l.length):gN x (l.take (k+1)) 0 (-1)=if (aq l k).n.text=x∧(aq l k).n.kind=2∧gN x (l.take k) 0 (-1)<0 then (k:Int) else gN x (l.take k) 0 (-1):=by
 rw[List.take_add_one,List.getElem?_eq_getElem h,oo]
 have:aq l k=l[k]:=by simp[aq,List.getD,h]
 simp only[Option.toList_some,gN,this,Nat.zero_add,List.length_take,Nat.min_eq_left (Nat.le_of_lt h)]
def yG(l:List Pl)(u:Pl)(k:Nat):Int:=if u.n.kind=25 then gN u.n.text (l.take k) 0 (-1) else jF u.n.text u.p (l.take k) 0 (-1)
set_option maxHeartbeats 0 in
theorem Dz(l:List Pl)(ro:Option (List AV))(hl:l.length≤1000000)(hok:aak l)(j:Nat)(hj:j<l.length)(H:Y):D Tryz.prog 56 [.an 5 (l.map ei) ro,.Z (.int .i64 j)] H (.ret (.Z (.int .i64 (cL l (aq l j))))) H:=by
 have sX:=kE hj
 have hlen:(l.map ei).length=l.length:=by simp
 have i2:(j:Int)<l.length:=by omega
 refine aD (Nat.le_refl _) (aeB (aA ?_))
 simp only[aaj,ux]
 refine ae fun L hL=>?_
 refine aZ ?_
 refine hL _ _ ?_
 clear hL
 refine ae fun L hL=>?_
 refine aZ ?_
 refine hL _ _ ?_
 clear hL
 refine ae fun L hL=>?_
 refine ae fun L hL=>?_
 refine aZ ?_
 refine hL _ _ ?_
 clear hL
 refine bI (fun ts F=>F=H∧∃k:Nat,k≤l.length∧Fr [some (.an 5 (l.map ei) ro),some (.Z (.int .i64 j)),none,none,none,some (.Z (.int .i64 (yG l (aq l j) k))),some (.Z (.int .i64 k)),none,none,none,none,none,none,none,none,none,none,none,none,none,none,none,none,none,none,none,none,none,none,none,none,none,none,none,none,none,none,none,none,none,none,none,none,none,none,none,none,none,none,none,none,none,none,none,none,none,none,none,none,none,none,none,none,none,none,none,none] ts) (fun ts _=>l.length - (aU (ts.getD 6 .top)).toNat) ?_ ?_
 ·exact ⟨rfl,0,Nat.zero_le _,by simp[Fr,yG,jF,gN]⟩
 rintro ts F ⟨rfl,k,hk,bx⟩ L2 cK
 obtain ⟨js,rfl⟩:=bx.opened
 clear bx
 by_cases hd:k<l.length
 ·have d1:(k:Int)<l.length:=by omega
  have hg:=kE hd
  obtain ⟨o1,o2,o3⟩:=hok k hd
  obtain ⟨u1,-,-⟩:=hok j hj
  have hst:yG l (aq l j) (k+1)=if (aq l k).n.text=(aq l j).n.text then (if (aq l j).n.kind=25 then (if (aq l k).n.kind=2∧yG l (aq l j) k<0 then (k:Int) else yG l (aq l j) k) else (if fS (aq l k)=true∧cP (aq l k) (aq l j).p=true then (k:Int) else yG l (aq l j) k)) else yG l (aq l j) k:=by
   unfold yG
   rw[Qd hd,Qe hd]
   by_cases c:(aq l k).n.text=(aq l j).n.text<;>by_cases c2:(aq l j).n.kind=25<;>simp[c,c2]
  have fin:∀f,yG l (aq l j) (k+1)=f→∀ts',Fr [some (.an 5 (l.map ei) ro),some (.Z (.int .i64 j)),none,none,none,some (.Z (.int .i64 f)),some (.Z (.int .i64 ((k+1:Nat):Int))),none,none,none,none,none,none,none,none,none,none,none,none,none,none,none,none,none,none,none,none,none,none,none,none,none,none,none,none,none,none,none,none,none,none,none,none,none,none,none,none,none,none,none,none,none,none,none,none,none,none,none,none,none,none,none,none,none,none,none,none] ts'→l.length - (aU (ts'.getD 6 .top)).toNat<l.length - k→L2 ts' F:=fun f hf ts' h1 h2=>cK _ _ ⟨rfl,k+1,by omega,by rw[hf];exact h1⟩ (by simpa [aU,mk] using h2)
  by_cases c1:(aq l k).n.text=(aq l j).n.text
  ·rw[if_pos c1] at hst
   by_cases c2:(aq l j).n.kind=25
   ·rw[if_pos c2] at hst
    by_cases c3:(aq l k).n.kind=2
    ·by_cases c4:yG l (aq l j) k<0
     ·rw[if_pos ⟨c3,c4⟩] at hst
      simp -implicitDefEqProofs (maxSteps:=99999999) (disch:=first | omega | (simp only[vl];first | done | omega)) only[mk,vu,vg,d1,i2,hlen,hg,sX,c1,c2,c3,c4,va,vg,vs,vw,vk,simprocAttr]
      exact ⟨by omega,by omega,by omega,by omega,fin _ hst _ (by simp[Fr]) (by simp[aU,mk];omega)⟩
     ·rw[if_neg (fun h=>c4 h.2)] at hst
      simp -implicitDefEqProofs (maxSteps:=99999999) (disch:=first | omega | (simp only[vl];first | done | omega)) only[mk,vu,vg,d1,i2,hlen,hg,sX,c1,c2,c3,c4,va,vg,vs,vw,vk,simprocAttr]
      exact ⟨by omega,by omega,by omega,by omega,fin _ hst _ (by simp[Fr]) (by simp[aU,mk];omega)⟩
    ·rw[if_neg (fun h=>c3 h.1)] at hst
     simp -implicitDefEqProofs (maxSteps:=99999999) (disch:=first | omega | (simp only[vl];first | done | omega)) only[mk,vu,vg,d1,i2,hlen,hg,sX,c1,c2,c3,va,vg,vs,vw,vk,simprocAttr]
     exact ⟨by omega,by omega,by omega,by omega,fin _ hst _ (by simp[Fr]) (by simp[aU,mk];omega)⟩
   ·rw[if_neg c2] at hst
    by_cases c5:(aq l k).n.kind=4
    ·skip
     have hB:fS (aq l k)=true:=by simp[fS,c5]
     have hrd:=fun H=>IG (aq l k) (aq l j).p (o2 hB) o3 o1 u1 H
     unfold ei at hrd
     rw[c5,c1] at hrd
     simp -implicitDefEqProofs (maxSteps:=99999999) (disch:=first | omega | (simp only[vl];first | done | omega)) only[mk,vu,vg,d1,i2,hlen,hg,sX,c1,c2,c5,c5,va,vg,vs,vw,vk,simprocAttr]
     first
      | refine ⟨by omega,by omega,by omega,by omega,by omega,by omega,aJ (hrd _) ?_⟩
      | refine ⟨by omega,by omega,by omega,by omega,by omega,aJ (hrd _) ?_⟩
     cases hb:cP (aq l k) (aq l j).p with
     | true =>
      rw[if_pos ⟨hB,hb⟩] at hst
      refine aZ ?_
      exact fin _ hst _ (by simp[Fr]) (by simp[aU,mk];omega)
     | false =>
      rw[if_neg (fun h=>by rw[hb] at h;simp at h)] at hst
      refine aZ ?_
      exact fin _ hst _ (by simp[Fr]) (by simp[aU,mk];omega)
    ·by_cases c6:(aq l k).n.kind=6
     ·skip
      have hB:fS (aq l k)=true:=by simp[fS,c6]
      have hrd:=fun H=>IG (aq l k) (aq l j).p (o2 hB) o3 o1 u1 H
      unfold ei at hrd
      rw[c6,c1] at hrd
      simp -implicitDefEqProofs (maxSteps:=99999999) (disch:=first | omega | (simp only[vl];first | done | omega)) only[mk,vu,vg,d1,i2,hlen,hg,sX,c1,c2,c5,c6,va,vg,vs,vw,vk,simprocAttr]
      first
       | refine ⟨by omega,by omega,by omega,by omega,by omega,by omega,aJ (hrd _) ?_⟩
       | refine ⟨by omega,by omega,by omega,by omega,by omega,aJ (hrd _) ?_⟩
      cases hb:cP (aq l k) (aq l j).p with
      | true =>
       rw[if_pos ⟨hB,hb⟩] at hst
       refine aZ ?_
       exact fin _ hst _ (by simp[Fr]) (by simp[aU,mk];omega)
      | false =>
       rw[if_neg (fun h=>by rw[hb] at h;simp at h)] at hst
       refine aZ ?_
       exact fin _ hst _ (by simp[Fr]) (by simp[aU,mk];omega)
     ·have hB:fS (aq l k)=false:=by simp[fS,c5,c6]
      rw[if_neg (fun h=>by rw[hB] at h;simp at h)] at hst
      simp -implicitDefEqProofs (maxSteps:=99999999) (disch:=first | omega | (simp only[vl];first | done | omega)) only[mk,vu,vg,d1,i2,hlen,hg,sX,c1,c2,c5,c6,va,vg,vs,vw,vk,simprocAttr]
      exact ⟨by omega,by omega,by omega,by omega,fin _ hst _ (by simp[Fr]) (by simp[aU,mk];omega)⟩
  ·rw[if_neg c1] at hst
   simp -implicitDefEqProofs (maxSteps:=99999999) (disch:=first | omega | (simp only[vl];first | done | omega)) only[mk,vu,vg,d1,i2,hlen,hg,sX,c1,va,vg,vs,vw,vk,simprocAttr]
   exact ⟨by omega,by omega,by omega,fin _ hst _ (by simp[Fr]) (by simp[aU,mk];omega)⟩
 ·have d1:¬(k:Int)<l.length:=by omega
  have BU:l.take k=l:=List.take_of_length_le (by omega)
  have hs:yG l (aq l j) k=cL l (aq l j):=by unfold yG cL;rw[BU]
  rw[hs]
  simp -implicitDefEqProofs (maxSteps:=99999999) (disch:=first | omega | (simp only[vl];first | done | omega)) only[mk,vu,d1,hlen,va,vg,vs,vw,vk,simprocAttr]
  clear cK
  refine hL _ _ ?_
  clear hL
  refine aZ ?_
  exact bL .refl
theorem DA:∀(l:List Nd)(p:List Int)(i k:Nat),k<l.length→bO (l.take (k+1)) p i=bO (l.take k) p i++bJ (aC l k) (p++[((i+k:Nat):Int)])
 | [],_,_,_,h=>by simp at h
 | t::r,p,i,0,_=>by simp[bO,aC]
 | t::r,p,i,k+1,h=>by
  have:=DA r p (i+1) k (by simpa using h)
  rw[show i+1+k=i+(k+1) by omega] at this
  simp only[List.take_succ_cons,bO,List.append_assoc,this]
  simp[aC]
theorem II{ok:Nat→Prop}{a b:List AV}(h:AV.cy ok a)(k:AV.cy ok b):AV.cy ok (a++b):=by
 rw[AV.oS] at *
 intro x hx
 rcases List.mem_append.1 hx with e | e
 ·exact h x e
 ·exact k x e
theorem Qf{ok:Nat→Prop}{a:List AV}{x:AV}{b:List AV}(h:AV.cy ok (a++[x]))(k:AV.cy ok b):AV.cy ok (a++x::b):=by
 have:=II h k
 simpa using this
theorem Qg{ok:Nat→Prop}(l:List Int):AV.cy ok (aI l):=by
 rw[AV.oS]
 intro x hx
 simp only[aI,List.mem_map] at hx
 obtain ⟨i,_,rfl⟩:=hx
 trivial
mutual
theorem Wb{ok:Nat→Prop}:∀t:Nd,(fH t).ids ok
 | ⟨k,s,n,l⟩=>by
  simp only[fH]
  exact ⟨trivial,trivial,trivial,⟨sr l,trivial⟩,trivial⟩
theorem sr{ok:Nat→Prop}:∀l:List Nd,AV.cy ok (bC l)
 | []=>trivial
 | t::r=>by
  simp only[bC]
  exact ⟨Wb t,sr r⟩
end
theorem Wc{ok:Nat→Prop}(b:Pl):(ei b).ids ok:=⟨trivial,trivial,trivial,⟨sr _,trivial⟩,⟨Qg _,trivial⟩,trivial⟩
theorem xp{ok:Nat→Prop}(l:List Pl):AV.cy ok (l.map ei):=by
 rw[AV.oS]
 intro x hx
 obtain ⟨b,_,rfl⟩:=List.mem_map.1 hx
 exact Wc b
theorem wg{F:Y}{n:Nat}{src:List Nat}:∀{a b c d:List AV},de F n src a b→de F n src c d→de F n src (a++c) (b++d)
 | _,_,_,_,.nil,h=>h
 | _,_,_,_,.cons h r,k=>.cons h (wg r k)
theorem pH{F:Y}{n:Nat}{src:List Nat}:∀{a:List AV},AV.cy (fun i=>cF n src i=some i) a→de F n src a a
 | [],_=>.nil
 | _::_,h=>.cons (.same h.1) (pH h.2)
def mr(F:Y)(lo:Nat)(p:List Int)(v:AV):Prop:=(p=[]∧v = .an 1 [] (some []))∨∃id,lo≤id∧v = .aE 1 id 0 p.length none∧Y.find F id=some ⟨1,aI p,false,3⟩
theorem mr.gz{F:Y}{lo:Nat}{p:List Int}{v:AV}(h:mr F lo p v){src:List Nat}(hs:∀id,Y.find F id=some ⟨1,aI p,false,3⟩→id∉src):Gz F lo src v (.an 1 (aI p) none):=by
 rcases h with ⟨rfl,rfl⟩ | ⟨id,h1,rfl,h2⟩
 ·exact .nil
 ·have hid:cF lo src id=none:=by
   unfold cF
   rw[if_neg (by omega)]
   simp only[Option.map_eq_none_iff]
   exact List.idxOf?_eq_none_iff.2 (hs id h2)
  refine .aE (blk:=⟨1,aI p,false,3⟩) hid h2 rfl (by simp[aQ]) ?_
  simp only[List.drop_zero]
  rw[List.take_of_length_le (by simp[aQ])]
  exact py
theorem mr.keep{F G:Y}{lo:Nat}{p:List Int}{v:AV}(h:mr F lo p v)(k:∀id,Y.find F id=some ⟨1,aI p,false,3⟩→Y.find G id=some ⟨1,aI p,false,3⟩):mr G lo p v:=by
 rcases h with h | ⟨id,h1,h2,h3⟩
 ·exact .inl h
 ·exact .inr ⟨id,h1,h2,k id h3⟩
theorem E1(F0:Y)(lo:Nat)(p:List Int)(hlo:lo≤F0.length)(hp:p.length≤1000000):∃pv F1,mr F1 lo p pv∧F0.length≤F1.length∧(∀i,i<F0.length→Y.find F1 i=Y.find F0 i)∧
   fq F0 1 3 (aI p) (.an 1 [] (some []))∧jW F0 1 (aI p) (.an 1 [] (some []))=pv∧ir F0 1 3 (aI p) (.an 1 [] (some []))=F1∧pv.isAgg=false∧pv.bT=false∧pv.ax=1∧pv.cells=[pv]:=by
 cases p with
 | nil =>
  refine ⟨_,F0,.inl ⟨rfl,rfl⟩,Nat.le_refl _,fun _ _=>rfl,?_,?_,?_,rfl,rfl,rfl,rfl⟩
  ·simp[fq,aI]
  ·simp[jW,aI]
  ·simp[ir,aI]
 | cons a r =>
  refine ⟨.aE 1 F0.length 0 (a::r).length none,some ⟨1,aI (a::r),false,3⟩::F0,.inr ⟨_,hlo,rfl,aL rfl⟩,by simp,fun i hi=>aj hi,?_,?_,?_,rfl,rfl,rfl,rfl⟩
  ·simp only[List.length_cons] at hp
   simp[fq,aI];omega
  ·simp[jW,aI]
  ·simp[ir,aI]
theorem acy(F:Y)(p:List Int)(k:Int)(hp:p.length≤1000000):∃pv F1 F2 IJ,(fq F 1 3 (aI p) (.an 1 [] (some []))∧jW F 1 (aI p) (.an 1 [] (some []))=pv∧ir F 1 3 (aI p) (.an 1 [] (some []))=F1)∧
   (fq F1 1 3 [.Z (.int .i64 k)] pv∧jW F1 1 [.Z (.int .i64 k)] pv = .aE 1 IJ 0 (aI (p++[k])).length none∧ir F1 1 3 [.Z (.int .i64 k)] pv=F2)∧Y.find F2 IJ=some ⟨1,aI (p++[k]),false,3⟩∧F.length≤IJ∧IJ<F2.length∧
   (∀i,i<F.length→Y.find F1 i=Y.find F i∧Y.find F2 i=Y.find F i)∧(pv.isAgg=false∧pv.bT=false∧pv.ax=1∧pv.cells=[pv])∧F.length≤F1.length:=by
 obtain ⟨pv,F1,h1,h2,h3,h4,h5,h6,h7,h8,h9,h10⟩:=E1 F 0 p (Nat.zero_le _) hp
 refine ⟨pv,F1,?_⟩
 cases p with
 | nil =>
  rcases h1 with ⟨_,rfl⟩ | ⟨id,_,e,h⟩
  ·have k9:F1=F:=by rw[←h6];simp[ir,aI]
   subst k9
   refine ⟨some ⟨1,aI [k],false,3⟩::F1,F1.length,⟨h4,h5,h6⟩,⟨?_,?_,?_⟩,aL rfl,Nat.le_refl _,by simp,fun i hi=>⟨rfl,aj hi⟩,⟨h7,h8,h9,h10⟩,h2⟩
   ·simp[fq]
   ·simp[jW,aI]
   ·simp[ir,aI]
  ·rw[←h5] at e
   simp[jW,aI] at e
 | cons a r =>
  rcases h1 with ⟨e,_⟩ | ⟨id,_,e,h⟩
  ·simp at e
  ·have hid:F.length≤id:=by
    rw[←h5] at e
    simp[jW,aI] at e
    omega
   have hlt:=Y.au h
   subst e
   refine ⟨some ⟨1,aI (a::r++[k]),false,3⟩::Y.set F1 id none,F1.length,⟨h4,h5,h6⟩,⟨?_,?_,?_⟩,aL (Y.ah ..).symm,h2,by simp[Y.ah],fun i hi=>⟨h3 i hi,?_⟩,⟨h7,h8,h9,h10⟩,h2⟩
   ·simp only[fq,h]
    simp only[List.length_cons] at hp
    simp[aQ];omega
   ·simp[jW,aI]
   ·simp only[ir,h]
    simp[aI]
   ·rw[aj (by rw[Y.ah];omega),Y.ak (by omega),h3 i hi]
def ov(xs ys:List AV)(io:Nat)(H:Y):Y:=bZ 5 100 ys::iv xs io H
theorem IK{H F:Y}{xs ys zs:List AV}{io s:Nat}(hys:ys≠[])(hzs:zs≠[])(hs:H.length≤s)(hF:Y.find F s=bZ 5 100 ys)(hold:∀i,i<H.length→(xs≠[]→i≠io)→Y.find F i=Y.find H i)(hz:de F H.length [s] ys zs) :
  eo H (.ret (aX 5 ys s)) F (.ret (aX 5 zs H.length)) (ov xs zs io H):=by
 refine lh [s] (by simp[ov,av]) (by simp) (by simpa using hs) (fun id k hid hk=>?_) (fun i s' k hs' hk=>?_) ?_
 ·left
  unfold ov at hk
  rw[aj (by rw[av];exact hid)] at hk
  have hne:xs≠[]→id≠io:=fun hx e=>by
   rw[Oz hx,e,Y.aB (by omega)] at hk
   cases hk
  have h1:Y.find H id=some k:=by
   by_cases hx:xs=[]
   ·subst hx;exact hk
   ·rw[iw (hne hx)] at hk;exact hk
  exact ⟨h1,by rw[hold id hid hne];exact h1⟩
 ·cases i with
  | zero =>
   simp only[List.getElem?_cons_zero,Option.some.injEq] at hs'
   subst hs'
   unfold ov at hk
   rw[Nat.add_zero,aL (by rw[av]),bt hzs] at hk
   cases hk
   exact ⟨⟨5,ys,false,100⟩,by rw[hF,bt hys],rfl,rfl,fun h=>by simp at h,hz⟩
  | succ i=>simp at hs'
 ·rw[nA hys,nA hzs]
  show Gz _ _ _ _ _
  rw[show zs.length=ys.length from hz.len]
  exact .CD (JV hs) (.inl rfl)
set_option maxHeartbeats 0 in
theorem LD(t:Nd)(ih:∀u∈t.kids,∀(ro:Option (List AV))(hro:∀ok,AV.fe ok ro)(p:List Int)(xs:List AV)(io:Nat)(H:Y),p.length+u.size≤1000000→xs.length+u.size≤50000000→(xs≠[]→Y.find H io=bZ 5 100 xs)→AV.cy (fun i=>i<H.length) xs→
   D Tryz.prog 107 [aX 5 xs io,dF u ro,.an 1 (aI p) none] H (.ret (aX 5 (xs++(bJ u p).map ei) H.length)) (ov xs (xs++(bJ u p).map ei) io H))
  (ro:Option (List AV))(hro:∀ok,AV.fe ok ro)(p:List Int)(xs:List AV)(io:Nat)(H:Y)(hp:p.length+t.size≤1000000)(tF:xs.length+t.size≤50000000)(hx:xs≠[]→Y.find H io=bZ 5 100 xs)(hid:AV.cy (fun i=>i<H.length) xs) :
  D Tryz.prog 107 [aX 5 xs io,dF t ro,.an 1 (aI p) none] H (.ret (aX 5 (xs++(bJ t p).map ei) H.length)) (ov xs (xs++(bJ t p).map ei) io H):=by
 have IL:xs≠[]→io<H.length:=fun e=>by have:=hx e;rw[bt e] at this;exact Y.au this
 have hsz:=t.size_eq
 refine aD (by simp[ov,av]) (acv (aA ?_))
 rw[aM]
 simp only[V5,ux]
 refine ae fun L hL=>?_
 refine aZ ?_
 refine hL _ _ ?_
 clear hL
 refine ae fun L hL=>?_
 generalize jz:(some ⟨4,[AV.agg [.Z (.int .u8 t.kind),.Z (.string t.text),.Z (.int .i64 t.num),.an 4 (bC t.kids) ro]],true,25⟩:Option aK)::H=F0
 have MI:F0.length=H.length+1:=by rw[←jz];rfl
 have pF:∀i,i<H.length→Y.find F0 i=Y.find H i:=fun i hi=>by rw[←jz];exact aj hi
 have Nh:Y.find F0 H.length=some ⟨4,[.agg [.Z (.int .u8 t.kind),.Z (.string t.text),.Z (.int .i64 t.num),.an 4 (bC t.kids) ro]],true,25⟩:=by rw[←jz];exact aL rfl
 clear jz
 obtain ⟨pv,F1,HK,qH,lQ,q1,q2,q3,q4,q5,q6,q7⟩:=E1 F0 H.length p (by omega) (by omega)
 obtain ⟨io1,F2,p1,p2,p3,p4,p5,p6⟩:=rZ (H:=F1) (k:=5) (ty:=100) (xs:=xs) (ys:=[.agg [.Z (.int .u8 t.kind),.Z (.string t.text),.Z (.int .i64 t.num),.an 4 (bC t.kids) ro,pv]]) (id:=io) (fun e=>by rw[lQ io (by have:=IL e;omega),pF io (IL e),hx e]) (by simp;omega)
 have aeC:xs++[AV.agg [.Z (.int .u8 t.kind),.Z (.string t.text),.Z (.int .i64 t.num),.an 4 (bC t.kids) ro,pv]]≠[]:=by simp
 obtain ⟨xa,PG⟩:=p4 aeC
 simp -implicitDefEqProofs (maxSteps:=99999999) (disch:=first | omega | (simp only[vl];first | done | omega)) only[vu,vg,Nh,q1,q2,q3,q4,q5,q6,q7,p1,p2,p3,va,vg,vs,vw,vk,simprocAttr]
 refine ⟨by rw[lQ _ (by omega)];exact Nh,?_⟩
 refine hL _ _ ?_
 clear hL
 refine ae fun L hL=>?_
 refine ae fun L hL=>?_
 refine aZ ?_
 refine hL _ _ ?_
 clear hL
 have aeD:Y.find F2 H.length=some ⟨4,[.agg [.Z (.int .u8 t.kind),.Z (.string t.text),.Z (.int .i64 t.num),.an 4 (bC t.kids) ro]],true,25⟩:=by
  rw[p6 _ (by omega) (fun e=>by have:=IL e;omega),lQ _ (by omega)]
  exact Nh
 have vX:∀i,i<H.length→(xs≠[]→i≠io)→Y.find F2 i=Y.find H i:=fun i hi hne=>by
  rw[p6 i (by omega) hne,lQ i (by omega),pF i hi]
 have aal:mr F2 H.length p pv:=HK.keep fun id h=>by
  have hlt:=Y.au h
  rw[p6 id hlt fun e e2=>?_]
  ·exact h
  ·rw[e2,lQ io (by have:=IL e;omega),pF io (IL e),hx e,bt e] at h
   cases h
 clear p1 p2 p3 p5 p6 HK q1 q2 q3 Nh pF lQ
 have hgc:∀(G:Y)(s:Nat),mr G H.length p pv→Y.find G s=bZ 5 100 (xs++AV.agg [.Z (.int .u8 t.kind),.Z (.string t.text),.Z (.int .i64 t.num),.an 4 (bC t.kids) ro,pv]::(bO t.kids p 0).map ei)→de G H.length [s] (xs++AV.agg [.Z (.int .u8 t.kind),.Z (.string t.text),.Z (.int .i64 t.num),.an 4 (bC t.kids) ro,pv]::(bO t.kids p 0).map ei) (xs++(bJ t p).map ei):=fun G s h1 h2=>by
  rw[cO,List.map_cons]
  refine wg (pH (AV.dU (fun i hi=>qb hi) _ hid)) (.cons (.agg (.cons (.same trivial) (.cons (.same trivial) (.cons (.same trivial) (.cons (.an (pH (sr _))) (.cons (h1.gz fun id h=>?_) .nil)))))) (pH (xp _)))
  rw[List.mem_singleton]
  rintro rfl
  rw[h2,bt (by simp)] at h
  cases h
 have aeE:∀n,H.length≤n→(∀id,pv = .aE 1 id 0 p.length none→id<n)→AV.cy (fun i=>i<n) (xs++[AV.agg [.Z (.int .u8 t.kind),.Z (.string t.text),.Z (.int .i64 t.num),.an 4 (bC t.kids) ro,pv]]):=fun n hn h=>by
  refine II (AV.dU (fun i hi=>by omega) _ hid) ⟨⟨trivial,trivial,trivial,⟨sr _,hro _⟩,?_,trivial⟩,trivial⟩
  rcases aal with ⟨_,e⟩ | ⟨id,_,e,_⟩
  ·rw[e];exact ⟨trivial,trivial⟩
  ·rw[e];exact h id e
 generalize hcv:(AV.agg [.Z (.int .u8 t.kind),.Z (.string t.text),.Z (.int .i64 t.num),.an 4 (bC t.kids) ro,pv])=cv at *
 clear hcv
 refine bI (fun ts F=>∃(k i1:Nat),(k≤t.kids.length∧H.length<i1∧Y.find F i1=bZ 5 100 (xs++cv::(bO (t.kids.take k) p 0).map ei))∧(mr F H.length p pv∧(∀i,i<H.length→(xs≠[]→i≠io)→Y.find F i=Y.find H i)∧
  Y.find F H.length=some ⟨4,[.agg [.Z (.int .u8 t.kind),.Z (.string t.text),.Z (.int .i64 t.num),.an 4 (bC t.kids) ro]],true,25⟩)∧
  Fr [some (aX 5 (xs++cv::(bO (t.kids.take k) p 0).map ei) i1),none,some (.an 1 (aI p) none),none,some (.ptr 4 H.length 0 0),none,none,some (.Z (.int .i64 k)),none,none,none,none,none,none,none,none,none,none,none,none,none,none,none,none,none,none,none,none,none,none,none,none,none,none,none,none,none] ts) (fun ts _=>t.kids.length - (aU (ts.getD 7 .top)).toNat) ?_ ?_
 ·exact ⟨0,io1,⟨Nat.zero_le _,by omega,by simpa [bO] using xa⟩,⟨aal,vX,aeD⟩,by simp[Fr,bO]⟩
 rintro ts F ⟨k,i1,⟨hk,hi1,hrow⟩,⟨Wd,hold,pI⟩,bx⟩ L2 cK
 obtain ⟨js,rfl⟩:=bx.opened
 clear bx
 have Ni:xs++cv::(bO (t.kids.take k) p 0).map ei≠[]:=by simp
 by_cases hd:k<t.kids.length
 ·have d1:(k:Int)<t.kids.length:=by omega
  have hg:=dm hd
  have mc:=Nd.iZ t.kids
  obtain ⟨pv1,G1,G2,IJ,⟨g1,g2,g3⟩,⟨g4,g5,g6⟩,g7,g8,g9,g10,⟨g11,g12,g13,g14⟩,g15⟩:=acy F p k (by omega)
  have i1l:i1<F.length:=by rw[bt Ni] at hrow;exact Y.au hrow
  have hHl:H.length<F.length:=by omega
  have acz:Y.find G1 H.length=_:=(g10 _ hHl).1.trans pI
  have LF:Y.find G2 H.length=_:=(g10 _ hHl).2.trans pI
  have eJ:=e8 hd
  have MC:=Nd.eN eJ
  have ae8:(bO (t.kids.take k) p 0).length≤Nd.aw t.kids:=by rw[jP];exact EB _ _
  have pV:=iJ hd
  have ZP:=mT t.kids (k+1)
  have hi:=ih _ eJ none (fun _=>trivial) (p++[(k:Int)]) (xs++cv::(bO (t.kids.take k) p 0).map ei) i1 (Y.set G2 IJ none) (by simp;omega) (by simp only[List.length_append,List.length_cons,List.length_map,jP];omega) (fun _=>by rw[Y.ak (by omega),(g10 i1 i1l).2];exact hrow) (Qf (aeE _ (by rw[Y.ah];omega) fun id e=>by
    rw[Y.ah]
    rcases Wd with ⟨_,e2⟩ | ⟨id2,_,e2,h2⟩
    ·rw[e2] at e;cases e
    ·rw[e2] at e
     cases e
     have:=Y.au h2
     omega) (xp _))
  rw[aM,show (xs++cv::(bO (t.kids.take k) p 0).map ei)++(bJ (aC t.kids k) (p++[(k:Int)])).map ei=xs++cv::((bO (t.kids.take k) p 0).map ei++(bJ (aC t.kids k) (p++[(k:Int)])).map ei) by simp] at hi
  have z7:=aaC g7 (.keep (.keep (.aE (k:=1) (off:=0) (n:=(aI (p++[(k:Int)])).length) (c:=none) rfl (by simp) .nil))) (by
   simp only[List.drop_zero,List.take_length]
   exact hi)
  simp -implicitDefEqProofs (maxSteps:=99999999) (disch:=first | omega | (simp only[vl];first | done | omega)) only[mk,vu,vg,d1,hg,aF,pI,acz,LF,g1,g2,g3,g4,g5,g6,g11,g12,g13,g14,va,vg,vs,vw,vk,simprocAttr]
  refine ⟨by omega,lg z7 (fun l hl _=>?_) ?_⟩
  ·simp only[List.mem_singleton] at hl
   subst hl
   show Y.find (ov _ _ _ _) _=Y.find G2 _
   unfold ov
   rw[aj (by rw[av,Y.ah];omega),iw (by omega),Y.ak (by omega)]
  have hrn:xs++cv::(bO (t.kids.take (k+1)) p 0).map ei=xs++cv::((bO (t.kids.take k) p 0).map ei++(bJ (aC t.kids k) (p++[(k:Int)])).map ei):=by
   rw[DA t.kids p 0 k hd,List.map_append,Nat.zero_add]
  refine aZ ?_
  have Bx:∀i,i<F.length→i≠i1→Y.find (ov (xs++cv::(bO (t.kids.take k) p 0).map ei) (xs++cv::((bO (t.kids.take k) p 0).map ei++(bJ (aC t.kids k) (p++[(k:Int)])).map ei)) i1 (Y.set G2 IJ none)) i=Y.find F i:=fun i hi hne=>by
   unfold ov
   rw[aj (by rw[av,Y.ah];omega),iw hne,Y.ak (by omega),(g10 i hi).2]
  refine cK _ _ ⟨k+1,(Y.set G2 IJ none).length,⟨by omega,by rw[Y.ah];omega,?_⟩,⟨Wd.keep fun id h=>?_,fun i hi hne=>?_,?_⟩,?_⟩ (by simp[aU,mk];omega)
  ·rw[hrn]
   unfold ov
   rw[aL (by rw[av])]
  ·rw[Bx id (Y.au h) fun e=>?_]
   ·exact h
   ·rw[e,hrow,bt Ni] at h
    cases h
  ·rw[Bx i (by omega) (by omega)]
   exact hold i hi hne
  ·rw[Bx _ hHl (by omega)]
   exact pI
  ·rw[hrn]
   simp[Fr,Y.ah]
 ·have d1:¬(k:Int)<t.kids.length:=by omega
  have BU:t.kids.take k=t.kids:=List.take_of_length_le (by omega)
  rw[BU] at hrow Ni
  rw[BU]
  simp -implicitDefEqProofs (maxSteps:=99999999) (disch:=first | omega | (simp only[vl];first | done | omega)) only[mk,vu,vg,d1,aF,pI,va,vg,vs,vw,vk,simprocAttr]
  clear cK
  refine hL _ _ ?_
  clear hL
  refine aZ ?_
  exact IK Ni (by rw[cO];simp) (by omega) hrow hold (hgc F i1 Wd hrow)
theorem Qh(t:Nd):∀(ro:Option (List AV))(hro:∀ok,AV.fe ok ro)(p:List Int)(xs:List AV)(io:Nat)(H:Y),p.length+t.size≤1000000→xs.length+t.size≤50000000→(xs≠[]→Y.find H io=bZ 5 100 xs)→AV.cy (fun i=>i<H.length) xs→
  D Tryz.prog 107 [aX 5 xs io,dF t ro,.an 1 (aI p) none] H (.ret (aX 5 (xs++(bJ t p).map ei) H.length)) (ov xs (xs++(bJ t p).map ei) io H):=by
 induction t using Nd.ind with
 | _ t ih=>exact fun ro hro p xs io H h1 h2 h3 h4=>LD t ih ro hro p xs io H h1 h2 h3 h4
set_option maxHeartbeats 0 in
theorem DB(t:Nd)(ro:Option (List AV))(hro:∀ok,AV.fe ok ro)(hz:t.size≤1000000)(H:Y):D Tryz.prog 55 [dF t ro] H (.ret (.an 5 ((bJ t []).map ei) none)) H:=by
 have hp:=fun G=>Qh t ro hro [] [] 0 G (by simp;omega) (by simp;omega) (fun e=>absurd rfl e) trivial
 have hp2:∀G,D Tryz.prog 107 [.an 0 [] (some []),dF t ro,.an 0 [] (some [])] G (.ret (aX 5 ((bJ t []).map ei) G.length)) (bZ 5 100 ((bJ t []).map ei)::G):=fun G=>by
  have h:=Zd (.cons .refl (.cons .refl (.cons (.nil (k:=0) (room:=some [])) .nil))) (hp G)
  simpa [ov,iv,aX] using h
 rw[aM] at hp2 ⊢
 refine aD (Nat.le_refl _) (aeA (aA ?_))
 simp only[aai,ux]
 refine ae fun L hL=>?_
 refine aZ ?_
 refine hL _ _ ?_
 clear hL
 refine ae fun L hL=>?_
 refine aZ ?_
 refine ai (hp2 _) ?_
 refine aZ ?_
 refine hL _ _ ?_
 clear hL
 refine aZ ?_
 refine gj (fun id hid=>?_) (rM (ty:=100) (fun _=>?_) (fun e=>?_) (pH (xp _)))
 ·rw[aj (by simp;omega),aj hid]
 ·unfold cF
  rw[if_neg (by simp)]
  simp
 ·rw[aL (by simp)]
theorem Wg(t:Nd):∀(p:List Int)(b:Pl),b∈bJ t p→b.p.length<p.length+t.size:=by
 induction t using Nd.ind with
 | _ t ih =>
  intro p b hb
  rw[cO] at hb
  rcases List.mem_cons.1 hb with rfl | hb
  ·have:=t.size_pos;simp only;omega
  ·obtain ⟨j,u,⟨_,h2⟩,h3⟩:=eO _ _ _ _ hb
   have hu:=List.mem_of_getElem? h2
   have:=ih u hu _ b h3
   have:=Nd.qd hu
   simp at *
   omega
theorem xq{n:Nd}(hk:n.kind=1)(hR:bB n 40=true){b:Pl}(hb:b∈bJ n []):(b.n.kind=1∧b.p=[])∨(b.n.kind=2∧b.p≠[]∧b.n.kids≠[])∨(b.n.kind≠2∧2≤b.p.length):=by
 rw[cO] at hb
 rcases List.mem_cons.1 hb with rfl | hb
 ·exact .inl ⟨hk,rfl⟩
 ·obtain ⟨j,f,⟨_,h2⟩,h3⟩:=eO _ _ _ _ hb
  have hf:=List.mem_of_getElem? h2
  obtain ⟨P,B,hF⟩:=ph hk hR hf
  rcases T3 hF h3 with rfl | h4
  ·exact .inr (.inl ⟨hF.kind,by simp,by rw[hF.kids];simp⟩)
  ·refine .inr (.inr ⟨h4,?_⟩)
   rcases nD f _ b h3 with rfl | ⟨j',s,e⟩
   ·exact absurd hF.kind h4
   ·rw[e];simp
theorem IM{n:Nd}(hk:n.kind=1)(hR:bB n 40=true)(hs:n.size≤1000000):aak (bJ n []):=fun k mc=>by
 have hm:aq (bJ n []) k∈bJ n []:=by
  have:aq (bJ n []) k=(bJ n [])[k]:=by simp[aq,List.getD,mc]
  rw[this]
  exact List.getElem_mem _
 have h1:=Wg n [] _ hm
 simp at h1
 refine ⟨by omega,fun h=>?_,fun h=>?_⟩
 ·simp only[fS,Bool.or_eq_true,decide_eq_true_eq] at h
  rcases xq hk hR hm with ⟨e,_⟩ | ⟨e,e2,_⟩ | ⟨_,e⟩
  ·omega
  ·exact e2
  ·intro e2;rw[e2] at e;simp at e
 ·rcases xq hk hR hm with ⟨e,_⟩ | ⟨e,e2,_⟩ | ⟨_,e⟩<;>omega
theorem Nj{x:ByteArray}{q:List Int}:∀(a:List Pl)(i:Nat)(f:Int),f<i+a.length→jF x q a i f<i+a.length
 | [],i,f,h=>by simpa [jF] using h
 | b::r,i,f,h=>by
  simp only[jF,List.length_cons] at *
  have:=Nj (x:=x) (q:=q) r (i+1) (if b.n.text=x∧fS b=true∧cP b q=true then i else f) (by split<;>omega)
  omega
theorem Nk{x:ByteArray}:∀(a:List Pl)(i:Nat)(f:Int),f<i+a.length→gN x a i f<i+a.length
 | [],i,f,h=>by simpa [gN] using h
 | b::r,i,f,h=>by
  simp only[gN,List.length_cons] at *
  have:=Nk (x:=x) r (i+1) (if b.n.text=x∧b.n.kind=2∧f<0 then i else f) (by split<;>omega)
  omega
theorem LG{l:List Pl}{u:Pl}(h:0<l.length):cL l u<l.length:=by
 unfold cL
 split
 ·have:=Nk (x:=u.n.text) l 0 (-1) (by omega);omega
 ·have:=Nj (x:=u.n.text) (q:=u.p) l 0 (-1) (by omega);omega
theorem DC{x:ByteArray}:∀(l:List Pl)(i:Nat)(f:Int),(0≤gN x l i f)→gN x l i f=f∨∃j:Nat,gN x l i f=(i+j:Nat)∧j<l.length∧(aq l j).n.kind=2
 | [],i,f,h=>.inl rfl
 | b::r,i,f,h=>by
  simp only[gN] at h ⊢
  rcases DC r (i+1) _ h with e | ⟨j,e,h1,h2⟩
  ·rw[e]
   split
   ·rename_i c
    exact .inr ⟨0,by simp,by simp,by simpa [aq] using c.2.1⟩
   ·exact .inl rfl
  ·exact .inr ⟨j+1,by rw[e];omega,by simpa using h1,by simpa [aq] using h2⟩
theorem LH{l:List Pl}{u:Pl}(hu:u.n.kind=25){j:Nat}(h:cL l u=j):(aq l j).n.kind=2:=by
 unfold cL at h
 rw[if_pos hu] at h
 rcases DC (x:=u.n.text) l 0 (-1) (by omega) with e | ⟨j',e,h1,h2⟩
 ·omega
 ·have:j=j':=by omega
  rw[this]
  exact h2
set_option maxHeartbeats 0 in
theorem DD(n:Nd)(ro:Option (List AV))(hro:∀ok,AV.fe ok ro)(hz:n.size≤1000000)(H:Y):D Tryz.prog 54 [dF n ro] H (.ret (AQ (eh n))) H:=by
 have lP:=fun H=>Di n ro (by omega) H
 have dH:=fun H=>DB n ro hro hz H
 rw[aM] at lP dH ⊢
 refine aD (Nat.le_refl _) (aez (aA ?_))
 simp only[aah,ux]
 have wk:∀(a b:Int),eo H (.ret (.agg [.Z (.int .i64 a),.Z (.int .i64 b)])) (some ⟨2,[.agg [.Z (.int .i64 a),.Z (.int .i64 b)]],true,93⟩::some ⟨4,[.agg [.Z (.int .u8 n.kind),.Z (.string n.text),.Z (.int .i64 n.num),.an 4 (bC n.kids) ro]],true,25⟩::H) (.ret (.agg [.Z (.int .i64 a),.Z (.int .i64 b)])) H:=fun a b=>da (.cons (.cons .refl)) (.same ⟨trivial,trivial,trivial⟩)
 refine ae fun L hL=>?_
 refine aZ ?_
 refine hL _ _ ?_
 clear hL
 refine ae fun L hL=>?_
 by_cases hk:n.kind=1
 case neg =>
  have hc:eh n=(4,0):=by unfold eh;rw[if_neg (fun h=>hk h.1)]
  rw[hc]
  simp -implicitDefEqProofs (maxSteps:=99999999) (disch:=first | omega | (simp only[vl];first | done | omega)) only[vu,vg,hk,va,vg,vs,vw,vk,simprocAttr]
  exact wk 4 0
 rw[hk] at lP dH wk ⊢
 refine aZ ?_
 refine ai (lP _) ?_
 cases hR:bB n 40 with
 | false =>
  have hc:eh n=(4,0):=by unfold eh;rw[if_neg (fun h=>by rw[hR] at h;simp at h)]
  rw[hc]
  refine aZ ?_
  exact wk 4 0
 | true =>
 have hc:eh n=gU (bJ n []):=by unfold eh;rw[if_pos ⟨hk,hR⟩]
 have hok:=IM hk hR hz
 have eF:(bJ n []).length≤1000000:=by rw[dN];exact hz
 have lY:0<(bJ n []).length:=by rw[dN];exact n.size_pos
 have Nl:∀k,k<(bJ n []).length→((aq (bJ n []) k).n.kind=1∧(aq (bJ n []) k).p=[])∨((aq (bJ n []) k).n.kind=2∧(aq (bJ n []) k).p≠[]∧(aq (bJ n []) k).n.kids≠[])∨((aq (bJ n []) k).n.kind≠2∧2≤(aq (bJ n []) k).p.length):=fun k mc=>by
  refine xq hk hR ?_
  have:aq (bJ n []) k=(bJ n [])[k]:=by simp[aq,List.getD,mc]
  rw[this]
  exact List.getElem_mem _
 generalize bJ n []=l at *
 refine aZ ?_
 refine hL _ _ ?_
 clear hL
 refine ae fun L hL=>?_
 refine aZ ?_
 refine ai (dH _) ?_
 have hlen:(l.map ei).length=l.length:=by simp
 refine aZ ?_
 refine hL _ _ ?_
 clear hL
 refine ae fun L hL=>?_
 refine ae fun L hL=>?_
 refine aZ ?_
 refine hL _ _ ?_
 clear hL
 have Yt:∀k,(aq l k).n.kind=2→eg l k=if ef l k=true then some (110,k) else none:=fun k h=>by
  unfold eg
  by_cases c:ef l k=true
  ·rw[if_pos ⟨h,c⟩,if_pos c]
  ·rw[if_neg (fun h2=>c h2.2),if_neg c]
 have hgn:∀k,¬(aq l k).n.kind=2→eg l k=none:=fun k h=>by
  unfold eg
  rw[if_neg (fun h2=>h h2.1)]
 generalize jz:(some ⟨2,[AV.agg [.Z (.int .i64 0),.Z (.int .i64 0)]],true,93⟩:Option aK)::some ⟨4,[AV.agg [.Z (.int .u8 1),.Z (.string n.text),.Z (.int .i64 n.num),.an 4 (bC n.kids) ro]],true,25⟩::H=F0
 have jY:∀x,Y.set F0 (H.length+1) x=x::some ⟨4,[AV.agg [.Z (.int .u8 1),.Z (.string n.text),.Z (.int .i64 n.num),.an 4 (bC n.kids) ro]],true,25⟩::H:=fun x=>by rw[←jz];exact vm (by simp)
 have k9:Y.find F0 (H.length+1)=some ⟨2,[AV.agg [.Z (.int .i64 0),.Z (.int .i64 0)]],true,93⟩:=by rw[←jz];exact aL (by simp)
 clear jz
 refine bI (fun ts F=>F=F0∧∃k:Nat,(k≤l.length∧∀j,j<k→eg l j=none)∧Fr [none,none,some (.ptr 2 (H.length+1) 0 0),some (.an 5 (l.map ei) none),some (.Z (.int .i64 k)),none,none,none,none,none,none,none,none,none,none,none,none,none,none,none,none,none,none,none,none,none,none,none,none,none,none,none,none,none,none,none,none,none,none,none,none,none,none,none,none,none,none,none,none,none,none,none,none,none,none,none,none,none,none,none,none,none,none,none,none,none,none,none,none,none,none,none,none,none,none,none,none,none,none,none,none,none,none,none,none,none,none,none,none,none,none,none,none,none,none,none,none,none,none,none,none,none] ts) (fun ts _=>l.length - (aU (ts.getD 4 .top)).toNat) ?_ ?_
 ·exact ⟨rfl,0,⟨Nat.zero_le _,fun j hj=>absurd hj (Nat.not_lt_zero _)⟩,by simp[Fr]⟩
 ·rintro ts F ⟨EJ,k,⟨mc,hp⟩,bx⟩ L2 cK
  rw[EJ]
  obtain ⟨js,rfl⟩:=bx.opened
  clear bx
  by_cases hd:k<l.length
  ·have d1:(k:Int)<l.length:=by omega
   have hg:=kE hd
   have fin:eg l k=none→∀ts',Fr [none,none,some (.ptr 2 (H.length+1) 0 0),some (.an 5 (l.map ei) none),some (.Z (.int .i64 ((k+1:Nat):Int))),none,none,none,none,none,none,none,none,none,none,none,none,none,none,none,none,none,none,none,none,none,none,none,none,none,none,none,none,none,none,none,none,none,none,none,none,none,none,none,none,none,none,none,none,none,none,none,none,none,none,none,none,none,none,none,none,none,none,none,none,none,none,none,none,none,none,none,none,none,none,none,none,none,none,none,none,none,none,none,none,none,none,none,none,none,none,none,none,none,none,none,none,none,none,none,none,none] ts'→l.length - (aU (ts'.getD 4 .top)).toNat<l.length - k→L2 ts' F0:=fun hn ts' h1 h2=>cK _ _ ⟨rfl,k+1,⟨by omega,fun j hj=>by
    rcases Nat.lt_succ_iff_lt_or_eq.1 hj with h' | rfl
    ·exact hp j h'
    ·exact hn⟩,h1⟩ (by simpa [aU,mk] using h2)
   by_cases c2:(aq l k).n.kind=2
   ·have rX:=fun H=>IE l none eF (fun k hk=>(hok k hk).1) k hd (by
     rcases Nl k hd with ⟨e,_⟩ | ⟨_,e,_⟩ | ⟨e,_⟩
     ·omega
     ·exact e
     ·exact absurd c2 e) H
    have Nn:=Yt k c2
    simp -implicitDefEqProofs (maxSteps:=99999999) (disch:=first | omega | (simp only[vl];first | done | omega)) only[mk,vu,vg,d1,hg,hlen,c2,va,vg,vs,vw,vk,simprocAttr]
    refine ⟨by omega,ai (rX _) ?_⟩
    cases ht:ef l k with
    | true =>
     rw[ht,if_pos rfl] at Nn
     have fR:gU l=(110,k):=by
      unfold gU
      rw[ku l.length 0 k (Nat.zero_le _) (by omega) Nn fun j _ hj=>hp j hj]
     refine yt k9 jY ?_
     rw[hc,fR]
     exact wk 110 k
    | false =>
     rw[ht,if_neg (by simp)] at Nn
     refine aZ ?_
     exact fin Nn _ (by simp[Fr]) (by simp[aU,mk];omega)
   ·simp -implicitDefEqProofs (maxSteps:=99999999) (disch:=first | omega | (simp only[vl];first | done | omega)) only[mk,vu,vg,d1,hg,hlen,c2,va,vg,vs,vw,vk,simprocAttr]
    exact ⟨by omega,fin (hgn k c2) _ (by simp[Fr]) (by simp[aU,mk];omega)⟩
  ·have d1:¬(k:Int)<l.length:=by omega
   have hkk:k=l.length:=by omega
   subst hkk
   have X7:mL (eg l) l.length 0=none:=kr l.length 0 fun m _ hm=>hp m (by omega)
   simp -implicitDefEqProofs (maxSteps:=99999999) (disch:=first | omega | (simp only[vl];first | done | omega)) only[mk,vu,d1,hlen,va,vg,vs,vw,vk,simprocAttr]
   clear cK
   refine hL _ _ ?_
   clear hL
   refine ae fun L hL=>?_
   refine ae fun L hL=>?_
   refine aZ ?_
   refine hL _ _ ?_
   clear hL
   refine bI (fun ts F=>F=F0∧∃k:Nat,(k≤l.length∧∀j,j<k→cG l j=none)∧Fr [none,none,some (.ptr 2 (H.length+1) 0 0),some (.an 5 (l.map ei) none),none,some (.Z (.int .i64 k)),none,none,none,none,none,none,none,none,none,none,none,none,none,none,none,none,none,none,none,none,none,none,none,none,none,none,none,none,none,none,none,none,none,none,none,none,none,none,none,none,none,none,none,none,none,none,none,none,none,none,none,none,none,none,none,none,none,none,none,none,none,none,none,none,none,none,none,none,none,none,none,none,none,none,none,none,none,none,none,none,none,none,none,none,none,none,none,none,none,none,none,none,none,none,none,none] ts) (fun ts _=>l.length - (aU (ts.getD 5 .top)).toNat) ?_ ?_
   ·exact ⟨rfl,0,⟨Nat.zero_le _,fun j hj=>absurd hj (Nat.not_lt_zero _)⟩,by simp[Fr]⟩
   rintro ts F ⟨EJ,k,⟨mc,hp⟩,bx⟩ L2 cK
   rw[EJ]
   obtain ⟨js,rfl⟩:=bx.opened
   clear bx
   by_cases hd:k<l.length
   ·have d1:(k:Int)<l.length:=by omega
    have hg:=kE hd
    have fin:cG l k=none→∀ts',Fr [none,none,some (.ptr 2 (H.length+1) 0 0),some (.an 5 (l.map ei) none),none,some (.Z (.int .i64 ((k+1:Nat):Int))),none,none,none,none,none,none,none,none,none,none,none,none,none,none,none,none,none,none,none,none,none,none,none,none,none,none,none,none,none,none,none,none,none,none,none,none,none,none,none,none,none,none,none,none,none,none,none,none,none,none,none,none,none,none,none,none,none,none,none,none,none,none,none,none,none,none,none,none,none,none,none,none,none,none,none,none,none,none,none,none,none,none,none,none,none,none,none,none,none,none,none,none,none,none,none,none] ts'→l.length - (aU (ts'.getD 5 .top)).toNat<l.length - k→L2 ts' F0:=fun hn ts' h1 h2=>cK _ _ ⟨rfl,k+1,⟨by omega,fun j hj=>by
     rcases Nat.lt_succ_iff_lt_or_eq.1 hj with h' | rfl
     ·exact hp j h'
     ·exact hn⟩,h1⟩ (by simpa [aU,mk] using h2)
    have bad:∀e,cG l k=some e→gU l=e:=fun e h=>by
     unfold gU
     rw[X7]
     simp only
     rw[ku l.length 0 k (Nat.zero_le _) (by omega) h fun j _ hj=>hp j hj]
    by_cases cB:fS (aq l k)=true
    ·have rX:=fun H=>IE l none eF (fun k hk=>(hok k hk).1) k hd ((hok k hd).2.1 cB) H
     have hU:gV (aq l k)=false:=by
      simp only[fS,Bool.or_eq_true,decide_eq_true_eq] at cB
      rcases cB with e | e<;>simp[gV,e]
     have hst:cG l k=if ef l k=true then some (110,k) else none:=by
      unfold cG
      by_cases c:ef l k=true
      ·rw[if_pos ⟨cB,c⟩,if_pos c]
      ·rw[if_neg (fun h=>c h.2),if_pos hU,if_neg c]
     simp only[fS,Bool.or_eq_true,decide_eq_true_eq] at cB
     rcases cB with c4 | c4
     ·simp -implicitDefEqProofs (maxSteps:=99999999) (disch:=first | omega | (simp only[vl];first | done | omega)) only[mk,vu,vg,d1,hg,hlen,c4,va,vg,vs,vw,vk,simprocAttr]
      refine ⟨by omega,ai (rX _) ?_⟩
      cases ht:ef l k with
      | true =>
       rw[ht,if_pos rfl] at hst
       refine yt k9 jY ?_
       rw[hc,bad _ hst]
       exact wk 110 k
      | false =>
       rw[ht,if_neg (by simp)] at hst
       refine aZ ?_
       exact fin hst _ (by simp[Fr]) (by simp[aU,mk];omega)
     ·simp -implicitDefEqProofs (maxSteps:=99999999) (disch:=first | omega | (simp only[vl];first | done | omega)) only[mk,vu,vg,d1,hg,hlen,c4,va,vg,vs,vw,vk,simprocAttr]
      refine ⟨by omega,ai (rX _) ?_⟩
      cases ht:ef l k with
      | true =>
       rw[ht,if_pos rfl] at hst
       refine yt k9 jY ?_
       rw[hc,bad _ hst]
       exact wk 110 k
      | false =>
       rw[ht,if_neg (by simp)] at hst
       refine aZ ?_
       exact fin hst _ (by simp[Fr]) (by simp[aU,mk];omega)
    ·have ow:cG l k=if gV (aq l k)=false then none else if cL l (aq l k)<0 then some (111,k) else if (aq l k).n.kind=25∧¬(aC (aq l (cL l (aq l k)).toNat).n.kids 0).kids.length=(aq l k).n.kids.length then some (112,k) else none:=by
      unfold cG
      rw[if_neg (fun h=>cB h.1)]
     have cB':fS (aq l k)=false:=by simpa using cB
     simp only[fS,Bool.or_eq_false_iff,decide_eq_false_iff_not] at cB'
     obtain ⟨c4,c6⟩:=cB'
     have sW:=fun H=>Dz l none eF hok k hd H
     by_cases cU:gV (aq l k)=true
     ·rw[if_neg (by rw[cU];simp)] at ow
      by_cases cs:cL l (aq l k)<0
      ·rw[if_pos cs] at ow
       simp only[gV,Bool.or_eq_true,decide_eq_true_eq] at cU
       rcases cU with nY | nY
       all_goals
        simp -implicitDefEqProofs (maxSteps:=99999999) (disch:=first | omega | (simp only[vl];first | done | omega)) only[mk,vu,vg,d1,hg,hlen,nY,va,vg,vs,vw,vk,simprocAttr]
        refine ⟨by omega,ai (sW _) ?_⟩
        refine wT k9 jY cs ?_
        rw[hc,bad _ ow]
        exact wk 111 k
      ·rw[if_neg cs] at ow
       obtain ⟨s,hs⟩:∃s:Nat,cL l (aq l k)=s:=⟨(cL l (aq l k)).toNat,by omega⟩
       have pV:s<l.length:=by have:=LG (u:=aq l k) lY;omega
       have hgs:=kE pV
       rw[hs] at ow sW cs
       simp only[gV,Bool.or_eq_true,decide_eq_true_eq] at cU
       rcases cU with nY | nX
       ·rw[if_neg (fun h=>by omega)] at ow
        simp -implicitDefEqProofs (maxSteps:=99999999) (disch:=first | omega | (simp only[vl];first | done | omega)) only[mk,vu,vg,d1,hg,hlen,nY,va,vg,vs,vw,vk,simprocAttr]
        refine ⟨by omega,ai (sW _) ?_⟩
        refine wT k9 jY cs ?_
        exact fin ow _ (by simp[Fr]) (by simp[aU,mk];omega)
       ·have Jd:=LH nX hs
        have aeF:(aq l s).n.kids≠[]:=by
         rcases Nl s pV with ⟨e,_⟩ | ⟨_,_,e⟩ | ⟨e,_⟩
         ·omega
         ·exact e
         ·exact absurd Jd e
        have bW:0<(aq l s).n.kids.length:=List.length_pos_iff.2 aeF
        have vE:=dm bW
        have i2:(s:Int)<l.length:=by omega
        rw[show ((s:Nat):Int).toNat=s by omega] at ow
        by_cases ce:(aC (aq l s).n.kids 0).kids.length=(aq l k).n.kids.length
        ·rw[if_neg (fun h=>h.2 ce)] at ow
         have ce':((aC (aq l s).n.kids 0).kids.length:Int)=(aq l k).n.kids.length:=by omega
         simp -implicitDefEqProofs (maxSteps:=99999999) (disch:=first | omega | (simp only[vl];first | done | omega)) only[mk,vu,vg,d1,hg,hlen,nX,va,vg,vs,vw,vk,simprocAttr]
         refine ⟨by omega,ai (sW _) ?_⟩
         simp -implicitDefEqProofs (maxSteps:=99999999) (disch:=first | omega | (simp only[vl];first | done | omega)) only[vu,vg,k9,jY,cs,hgs,vE,hg,hlen,aF,ce',i2,nX,va,vg,vs,vw,vk,simprocAttr]
         exact ⟨by omega,by omega,⟨by omega,by omega⟩,fin ow _ (by simp[Fr]) (by simp[aU,mk];omega)⟩
        ·rw[if_pos ⟨nX,ce⟩] at ow
         have ce':¬((aC (aq l s).n.kids 0).kids.length:Int)=(aq l k).n.kids.length:=by omega
         simp -implicitDefEqProofs (maxSteps:=99999999) (disch:=first | omega | (simp only[vl];first | done | omega)) only[mk,vu,vg,d1,hg,hlen,nX,va,vg,vs,vw,vk,simprocAttr]
         refine ⟨by omega,ai (sW _) ?_⟩
         simp -implicitDefEqProofs (maxSteps:=99999999) (disch:=first | omega | (simp only[vl];first | done | omega)) only[vu,vg,k9,jY,cs,hgs,vE,hg,hlen,aF,ce',i2,nX,va,vg,vs,vw,vk,simprocAttr]
         rw[hc,bad _ ow]
         exact ⟨by omega,by omega,⟨by omega,by omega⟩,wk 112 k⟩
     ·have Qi:gV (aq l k)=false:=by simpa using cU
      rw[if_pos Qi] at ow
      simp only[gV,Bool.or_eq_false_iff,decide_eq_false_iff_not] at Qi
      obtain ⟨nY,nX⟩:=Qi
      simp -implicitDefEqProofs (maxSteps:=99999999) (disch:=first | omega | (simp only[vl];first | done | omega)) only[mk,vu,vg,d1,hg,hlen,c4,c6,nY,nX,va,vg,vs,vw,vk,simprocAttr]
      exact ⟨by omega,fin ow _ (by simp[Fr]) (by simp[aU,mk];omega)⟩
   ·have d1:¬(k:Int)<l.length:=by omega
    have hkk:k=l.length:=by omega
    subst hkk
    have fR:gU l=(0,0):=by
     unfold gU
     rw[X7,kr l.length 0 fun m _ hm=>hp m (by omega)]
    simp -implicitDefEqProofs (maxSteps:=99999999) (disch:=first | omega | (simp only[vl];first | done | omega)) only[mk,vu,d1,hlen,va,vg,vs,vw,vk,simprocAttr]
    clear cK
    refine hL _ _ ?_
    clear hL
    refine yt k9 jY ?_
    rw[hc,fR]
    exact wk 0 0
theorem IP{l:List Pl}{k i:Nat}(h:k<l.length):fJ l (l.take (k+1)) i=fJ l (l.take k) i++if gV (aq l k)=true∧cL l (aq l k)=(i:Int) then [(aq l k).p] else []:=by
 rw[List.take_add_one,List.getElem?_eq_getElem h]
 have:aq l k=l[k]:=by simp[aq,List.getD,h]
 rw[this]
 exact rU l (l.take k) l[k] i
inductive jB(F:Y)(lo:Nat):List AV→List (List Int)→Prop where
 | nil:jB F lo [] []
 | snoc {vs:List AV}{ps:List (List Int)}{v:AV}{p:List Int}:jB F lo vs ps→mr F lo p v→jB F lo (vs++[v]) (ps++[p])
theorem jB.keep{F G:Y}{lo:Nat}{vs:List AV}{ps:List (List Int)}(h:jB F lo vs ps)(k:∀id p,Y.find F id=some ⟨1,aI p,false,3⟩→Y.find G id=some ⟨1,aI p,false,3⟩):jB G lo vs ps:=by
 induction h with
 | nil=>exact .nil
 | snoc h hv ih=>exact .snoc ih (hv.keep fun id h=>k id _ h)
theorem jB.len{F:Y}{lo:Nat}{vs:List AV}{ps:List (List Int)}(h:jB F lo vs ps):vs.length=ps.length:=by
 induction h with
 | nil=>rfl
 | snoc h hv ih=>simp[ih]
theorem jB.gz{F:Y}{lo:Nat}{vs:List AV}{ps:List (List Int)}(h:jB F lo vs ps):de F lo [] vs (aW ps):=by
 induction h with
 | nil=>exact .nil
 | snoc h hv ih=>rw[nI];exact wg ih (.cons (hv.gz fun _ _=>by simp) .nil)
inductive mu(F:Y)(lo hi:Nat):List AV→List jE→Prop where
 | nil:mu F lo hi [] []
 | snoc {vs:List AV}{bs:List jE}{pv:AV}{us:List AV}{p:List Int}{s:ByteArray}{ps:List (List Int)}{iu:Nat}:mu F lo hi vs bs→mr F lo p pv→jB F lo us ps→(us≠[]→Y.find F iu=bZ 1 30 us∧lo≤iu∧iu<hi)→mu F lo hi (vs++[.agg [pv,.Z (.string s),aX 1 us iu]]) (bs++[(p,s,ps)])
theorem mu.keep{F G:Y}{lo hi hi':Nat}{vs:List AV}{bs:List jE}(h:mu F lo hi vs bs)(hh:hi≤hi')(k:∀id b,Y.find F id=some b→b.k=1→b.exact=false→lo≤id→id<hi→Y.find G id=some b)(kp:∀id p,Y.find F id=some ⟨1,aI p,false,3⟩→Y.find G id=some ⟨1,aI p,false,3⟩):mu G lo hi' vs bs:=by
 induction h with
 | nil=>exact .nil
 | snoc h h1 h2 h3 ih =>
  refine .snoc ih (h1.keep fun id h=>kp id _ h) (h2.keep kp) fun e=>?_
  obtain ⟨g1,g2,g3⟩:=h3 e
  rw[bt e] at g1 ⊢
  exact ⟨k _ _ g1 rfl rfl g2 g3,g2,by omega⟩
theorem mu.len{F:Y}{lo hi:Nat}{vs:List AV}{bs:List jE}(h:mu F lo hi vs bs):vs.length=bs.length:=by
 induction h with
 | nil=>rfl
 | snoc h _ _ _ ih=>simp[ih]
theorem mu.gz{F:Y}{lo hi:Nat}{vs:List AV}{bs:List jE}(h:mu F lo hi vs bs):de F lo [] vs (bs.map fP):=by
 induction h with
 | nil=>exact .nil
 | snoc h h1 h2 h3 ih =>
  rename_i vs bs pv us p s ps iu
  rw[List.map_append]
  refine wg ih (.cons (.agg (.cons (h1.gz fun _ _=>by simp) (.cons (.same trivial) (.cons ?_ .nil)))) .nil)
  have hn:∀e:us≠[],cF lo [] iu=none:=fun e=>by
   unfold cF
   rw[if_neg (by have:=(h3 e).2;omega)]
   simp
  exact rM (ty:=30) hn (fun e=>(h3 e).1) h2.gz
def su(l:List Pl)(k:Nat):List jE:=((List.range k).filter fun i=>jG (aq l i)).map fun i=>((aq l i).p,(aq l i).n.text,fJ l l i)
theorem IQ(l:List Pl)(k:Nat):su l (k+1)=su l k++if jG (aq l k)=true then [((aq l k).p,(aq l k).n.text,fJ l l k)] else []:=by
 unfold su
 rw[List.range_succ,List.filter_append,List.map_append]
 congr 1
 by_cases c:jG (aq l k)=true
 ·simp[c]
 ·simp[c]
theorem LI(l:List Pl)(k:Nat):(su l k).length≤k:=by
 unfold su
 rw[List.length_map]
 exact Nat.le_trans (List.length_filter_le _ _) (by simp)
theorem LJ(l:List Pl)(u k:Nat):(fJ l (l.take u) k).length≤l.length:=by
 unfold fJ
 rw[List.length_map]
 exact Nat.le_trans (List.length_filter_le _ _) (by simp;omega)
set_option maxHeartbeats 0 in
theorem yf(n:Nd)(ro:Option (List AV))(hro:∀ok,AV.fe ok ro)(hz:n.size≤1000000)(H:Y):D Tryz.prog 21 [dF n ro] H (.ret (.an 3 ((dM n).map fP) none)) H:=by
 have iR:=fun H=>DD n ro hro hz H
 have dH:=fun H=>DB n ro hro hz H
 rw[aM] at iR dH ⊢
 unfold AQ at iR
 refine aD (Nat.le_refl _) (aey (aA ?_))
 simp only[aag,ux]
 refine ae fun L hL=>?_
 refine aZ ?_
 refine hL _ _ ?_
 clear hL
 refine ae fun L hL=>?_
 refine aZ ?_
 refine ai (iR _) ?_
 refine aZ ?_
 refine hL _ _ ?_
 clear hL
 refine ae fun L hL=>?_
 by_cases hc0:(eh n).1=0
 case neg =>
  have hb:dM n=[]:=by unfold dM;rw[if_neg hc0]
  rw[hb]
  refine iz hc0 ?_
  exact da (.cons (.cons .refl)) .nil
 have hkR:n.kind=1∧bB n 40=true:=by
  by_cases c:n.kind=1∧bB n 40=true
  ·exact c
  ·unfold eh at hc0
   rw[if_neg c] at hc0
   simp at hc0
 have hb:dM n=((List.range (bJ n []).length).filter fun i=>jG (aq (bJ n []) i)).map fun i=>((aq (bJ n []) i).p,(aq (bJ n []) i).n.text,fJ (bJ n []) (bJ n []) i):=by unfold dM;rw[if_pos hc0]
 have hok:=IM hkR.1 hkR.2 hz
 have eF:(bJ n []).length≤1000000:=by rw[dN];exact hz
 refine iz hc0 ?_
 refine hL _ _ ?_
 clear hL
 refine ae fun L hL=>?_
 refine aZ ?_
 refine hL _ _ ?_
 clear hL
 refine ae fun L hL=>?_
 refine aZ ?_
 refine ai (dH _) ?_
 have hlen:((bJ n []).map ei).length=(bJ n []).length:=by simp
 refine aZ ?_
 refine hL _ _ ?_
 clear hL
 refine ae fun L hL=>?_
 refine ae fun L hL=>?_
 refine aZ ?_
 refine hL _ _ ?_
 clear hL
 generalize hl:bJ n []=l at *
 have hb':dM n=su l l.length:=hb
 clear hl hb
 have hH1:∀i,i<H.length→Y.find (some ⟨2,[AV.agg [.Z (.int .i64 0),.Z (.int .i64 (eh n).2)]],true,93⟩::some ⟨4,[AV.agg [.Z (.int .u8 n.kind),.Z (.string n.text),.Z (.int .i64 n.num),.an 4 (bC n.kids) ro]],true,25⟩::H) i=Y.find H i:=fun i hi=>by
  rw[aj (by simp;omega),aj hi]
 refine bI (fun ts F=>∃(k io:Nat)(xs:List AV),(k≤l.length∧mu F H.length F.length xs (su l k)∧(xs≠[]→Y.find F io=bZ 3 47 xs∧H.length≤io))∧((∀i,i<H.length→Y.find F i=Y.find H i)∧H.length≤F.length)∧
  Fr [none,none,none,none,some (aX 3 xs io),some (.an 5 (l.map ei) none),some (.Z (.int .i64 k)),none,none,none,none,none,none,none,none,none,none,none,none,none,none,none,none,none,none,none,none,none,none,none,none,none,none,none,none,none,none,none,none,none,none,none,none,none,none,none,none,none,none,none,none,none,none,none,none,none,none,none,none,none,none,none,none,none,none,none,none,none,none,none,none,none,none,none,none,none,none,none,none,none,none,none,none,none,none,none,none,none,none,none,none,none,none,none,none,none,none,none,none] ts) (fun ts _=>l.length - (aU (ts.getD 6 .top)).toNat) ?_ ?_
 ·exact ⟨0,0,[],⟨Nat.zero_le _,.nil,fun e=>absurd rfl e⟩,⟨hH1,by simp;omega⟩,by simp[Fr,aX]⟩
 rintro ts F ⟨k,io,xs,⟨hk,ui,Qj⟩,⟨hold,KM⟩,bx⟩ L2 cK
 obtain ⟨js,rfl⟩:=bx.opened
 clear bx
 by_cases hd:k<l.length
 case neg =>
  have d1:¬(k:Int)<l.length:=by omega
  have hkk:k=l.length:=by omega
  subst hkk
  simp -implicitDefEqProofs (maxSteps:=99999999) (disch:=first | omega | (simp only[vl];first | done | omega)) only[mk,vu,d1,hlen,va,vg,vs,vw,vk,simprocAttr]
  clear cK
  refine hL _ _ ?_
  clear hL
  refine aZ ?_
  rw[hb']
  refine gj hold (rM (ty:=47) (fun e=>?_) (fun e=>(Qj e).1) ui.gz)
  unfold cF
  rw[if_neg (by have:=(Qj e).2;omega)]
  simp
 have d1:(k:Int)<l.length:=by omega
 have hg:=kE hd
 have hbk:=IQ l k
 by_cases cD:jG (aq l k)=true
 case neg =>
  rw[if_neg cD,List.append_nil] at hbk
  have cD':jG (aq l k)=false:=by simpa using cD
  simp only[jG,Bool.or_eq_false_iff,decide_eq_false_iff_not] at cD'
  obtain ⟨c2,c4,c6⟩:=cD'
  simp -implicitDefEqProofs (maxSteps:=99999999) (disch:=first | omega | (simp only[vl];first | done | omega)) only[mk,vu,vg,d1,hg,hlen,c2,c4,c6,va,vg,vs,vw,vk,simprocAttr]
  exact ⟨by omega,cK _ _ ⟨k+1,io,xs,⟨by omega,by rw[hbk];exact ui,Qj⟩,⟨hold,KM⟩,by simp[Fr]⟩ (by simp[aU,mk];omega)⟩
 rw[if_pos cD] at hbk
 have hvl:=ui.len
 have il:=LI l k
 obtain ⟨pv,F1,HK,qH,lQ,q1,q2,q3,q4,q5,q6,q7⟩:=E1 (some ⟨3,[.agg [.an 0 [] (some []),.Z (.string ⟨#[]⟩),.an 0 [] (some [])]],true,47⟩::F) H.length (aq l k).p (by simp;omega) ((hok k hd).1)
 have hbx:Y.find F1 F.length=some ⟨3,[.agg [.an 0 [] (some []),.Z (.string ⟨#[]⟩),.an 0 [] (some [])]],true,47⟩:=by rw[lQ _ (by simp)];exact aL rfl
 have hiD:(aq l k).n.kind=2∨(aq l k).n.kind=4∨(aq l k).n.kind=6:=by
  simpa only[jG,Bool.or_eq_true,decide_eq_true_eq] using cD
 simp only[List.length_cons] at qH lQ
 rcases hiD with c2 | c2 | c2
 all_goals
  simp -implicitDefEqProofs (maxSteps:=99999999) (disch:=first | omega | (simp only[vl];first | done | omega)) only[mk,vu,vg,d1,hg,hlen,c2,q1,q2,q3,q4,q5,q6,q7,hbx,va,vg,vs,vw,vk,simprocAttr]
 all_goals
  refine ⟨by omega,by omega,by omega,?_⟩
  have i1:∀e:xs≠[],io<F.length:=fun e=>by have:=(Qj e).1;rw[bt e] at this;exact Y.au this
  have gq:∀i,i<F.length→∀x,Y.find (Y.set F1 F.length x) i=Y.find F i:=fun i hi x=>by
   rw[Y.ak (by omega),lQ i (by omega),aj hi]
  refine bI (fun ts G=>∃(u iu:Nat)(us:List AV),(u≤l.length∧jB G H.length us (fJ l (l.take u) k)∧(us≠[]→Y.find G iu=bZ 1 30 us∧F.length<iu)∧Y.find G F.length=some ⟨3,[.agg [pv,.Z (.string (aq l k).n.text),aX 1 us iu]],true,47⟩)∧
   (mr G H.length (aq l k).p pv∧mu G H.length F.length xs (su l k)∧(xs≠[]→Y.find G io=bZ 3 47 xs)∧(∀i,i<H.length→Y.find G i=Y.find H i)∧F.length<G.length)∧
   Fr [none,none,none,none,some (aX 3 xs io),some (.an 5 (l.map ei) none),some (.Z (.int .i64 k)),none,some (.ptr 3 F.length 0 0),some (.Z (.int .i64 u)),none,none,none,none,none,none,none,none,none,none,none,none,none,none,none,none,none,none,none,none,none,none,none,none,none,none,none,none,none,none,none,none,none,none,none,none,none,none,none,none,none,none,none,none,none,none,none,none,none,none,none,none,none,none,none,none,none,none,none,none,none,none,none,none,none,none,none,none,none,none,none,none,none,none,none,none,none,none,none,none,none,none,none,none,none,none,none,none,none] ts) (fun ts _=>l.length - (aU (ts.getD 9 .top)).toNat) ?_ ?_
  ·refine ⟨0,0,[],⟨Nat.zero_le _,.nil,fun e=>absurd rfl e,Y.aB (by omega)⟩,⟨HK.keep fun id h=>?_,ui.keep (Nat.le_refl _) (fun id b h _ _ _ hlt=>by rw[gq id hlt];exact h) (fun id p h=>by rw[gq id (Y.au h)];exact h),fun e=>by rw[gq io (i1 e)];exact (Qj e).1,fun i hi=>by rw[gq i (by omega)];exact hold i hi,by rw[Y.ah];omega⟩,by simp[Fr,aX]⟩
   rw[Y.ak fun e=>?_]
   ·exact h
   ·rw[e,hbx] at h;cases h
  rintro ts G ⟨u,iu,us,⟨hu,BN,E2,pI⟩,⟨hpG,hbG,Np,LK,Ij⟩,bx⟩ L3 Vx
  obtain ⟨js,rfl⟩:=bx.opened
  clear bx
  by_cases Pz:u<l.length
  case neg =>
   have d2:¬(u:Int)<l.length:=by omega
   have huu:u=l.length:=by omega
   subst huu
   rw[List.take_length] at BN
   have tF:xs.length≤1000000:=by omega
   obtain ⟨KS,G',p1,p2,p3,p4,p5,p6⟩:=rZ (H:=G) (k:=3) (ty:=47) (xs:=xs) (ys:=[.agg [pv,.Z (.string (aq l k).n.text),aX 1 us iu]]) (id:=io) Np (by simp;omega)
   have UR:xs++[AV.agg [pv,.Z (.string (aq l k).n.text),aX 1 us iu]]≠[]:=by simp
   obtain ⟨xa,PG⟩:=p4 UR
   simp -implicitDefEqProofs (maxSteps:=99999999) (disch:=first | omega | (simp only[vl];first | done | omega)) only[mk,vu,vg,d2,hlen,pI,p1,p2,p3,va,vg,vs,vw,vk,simprocAttr]
   have wY:∀id b,Y.find G id=some b→b.k≠3→Y.find G' id=some b:=fun id b h h3=>by
    rw[p6 id (Y.au h) fun e e2=>?_]
    ·exact h
    ·rw[e2,Np e,bt e] at h
     cases h
     exact h3 rfl
   refine cK _ _ ⟨k+1,KS,xs++[.agg [pv,.Z (.string (aq l k).n.text),aX 1 us iu]],⟨by omega,?_,fun _=>⟨xa,by omega⟩⟩,⟨fun i hi=>?_,by omega⟩,by simp[Fr]⟩ (by simp[aU,mk];omega)
   ·rw[hbk]
    refine .snoc (hbG.keep (by omega) (fun id b h h1 _ _ _=>wY id b h (by omega)) fun id p h=>wY id _ h (by simp)) (hpG.keep fun id h=>wY id _ h (by simp)) (BN.keep fun id p h=>wY id _ h (by simp)) fun e=>?_
    obtain ⟨e1,e2⟩:=E2 e
    rw[bt e] at e1 ⊢
    have:=Y.au e1
    exact ⟨wY _ _ e1 (by simp),by omega,by omega⟩
   ·rw[p6 i (by omega) fun e=>by have:=(Qj e).2;omega]
    exact LK i hi
  have d2:(u:Int)<l.length:=by omega
  have Pq:=kE Pz
  have YT:=IP (l:=l) (i:=k) Pz
  have Ez:=BN.len
  have ae9:=LJ l u k
  have sW:=fun H=>Dz l none eF hok u Pz H
  have Wh:¬(gV (aq l u)=true∧cL l (aq l u)=(k:Int))→∀ts',Fr [none,none,none,none,some (aX 3 xs io),some (.an 5 (l.map ei) none),some (.Z (.int .i64 k)),none,some (.ptr 3 F.length 0 0),some (.Z (.int .i64 ((u+1:Nat):Int))),none,none,none,none,none,none,none,none,none,none,none,none,none,none,none,none,none,none,none,none,none,none,none,none,none,none,none,none,none,none,none,none,none,none,none,none,none,none,none,none,none,none,none,none,none,none,none,none,none,none,none,none,none,none,none,none,none,none,none,none,none,none,none,none,none,none,none,none,none,none,none,none,none,none,none,none,none,none,none,none,none,none,none,none,none,none,none,none,none] ts'→l.length - (aU (ts'.getD 9 .top)).toNat<l.length - u→L3 ts' G:=fun hn ts' h1 h2=>by
   rw[if_neg hn,List.append_nil] at YT
   exact Vx _ _ ⟨u+1,iu,us,⟨by omega,by rw[YT];exact BN,E2,pI⟩,⟨hpG,hbG,Np,LK,Ij⟩,h1⟩ (by simpa [aU,mk] using h2)
  by_cases cU:gV (aq l u)=true
  case neg =>
   have Qi:gV (aq l u)=false:=by simpa using cU
   simp only[gV,Bool.or_eq_false_iff,decide_eq_false_iff_not] at Qi
   obtain ⟨nY,nX⟩:=Qi
   simp -implicitDefEqProofs (maxSteps:=99999999) (disch:=first | omega | (simp only[vl];first | done | omega)) only[mk,vu,vg,d2,Pq,hlen,nY,nX,va,vg,vs,vw,vk,simprocAttr]
   exact ⟨by omega,by omega,Wh (fun h=>cU h.1) _ (by simp[Fr]) (by simp[aU,mk];omega)⟩
  have cU2:=cU
  simp only[gV,Bool.or_eq_true,decide_eq_true_eq] at cU2
  by_cases cs:cL l (aq l u)=(k:Int)
  case neg =>
   rcases cU2 with nY | nY
   all_goals
    simp -implicitDefEqProofs (maxSteps:=99999999) (disch:=first | omega | (simp only[vl];first | done | omega)) only[mk,vu,vg,d2,Pq,hlen,nY,va,vg,vs,vw,vk,simprocAttr]
    first
     | refine ⟨by omega,ai (sW _) ?_⟩
     | refine ⟨by omega,by omega,ai (sW _) ?_⟩
    refine iz cs ?_
    exact Wh (fun h=>cs h.2) _ (by simp[Fr]) (by simp[aU,mk];omega)
  rw[cs] at sW
  rw[if_pos ⟨cU,cs⟩] at YT
  obtain ⟨pu,G1,hpu,gl1,LL,r1,r2,r3,r4,r5,r6,r7⟩:=E1 G H.length (aq l u).p (by omega) ((hok u Pz).1)
  obtain ⟨iu',G2,s1,s2,s3,s4,s5,s6⟩:=rZ (H:=G1) (k:=1) (ty:=30) (xs:=us) (ys:=[pu]) (id:=iu) (fun e=>by have e1:=(E2 e).1;rw[LL iu (by rw[bt e] at e1;exact Y.au e1)];exact e1) (by simp;omega)
  obtain ⟨s4a,s4b⟩:=s4 (by simp)
  have LF:Y.find G2 F.length=some ⟨3,[.agg [pv,.Z (.string (aq l k).n.text),aX 1 us iu]],true,47⟩:=by
   rw[s6 _ (by omega) fun e=>by have:=(E2 e).2;omega,LL _ Ij]
   exact pI
  have aeG:∀e:us≠[],iu<G.length:=fun e=>by have e1:=(E2 e).1;rw[bt e] at e1;exact Y.au e1
  have wY:∀(x:Option aK) id b,Y.find G id=some b→(us≠[]→id≠iu)→id≠F.length→Y.find (Y.set G2 F.length x) id=some b:=fun x id b h h3 h4=>by
   have:=Y.au h
   rw[Y.ak h4,s6 id (by omega) h3,LL id this]
   exact h
  have hty:∀id b,Y.find G id=some b→(b.k≠1∨b.ty≠30)→us≠[]→id≠iu:=fun id b h h3 e e2=>by
   have e1:=(E2 e).1
   rw[e2,e1,bt e] at h
   cases h
   simp at h3
  have hnb:∀id b,Y.find G id=some b→(b.k≠3∨b.exact=false)→id≠F.length:=fun id b h h3 e2=>by
   rw[e2,pI] at h
   cases h
   simp at h3
  have aeH:∀ts',Fr [none,none,none,none,some (aX 3 xs io),some (.an 5 (l.map ei) none),some (.Z (.int .i64 k)),none,some (.ptr 3 F.length 0 0),some (.Z (.int .i64 ((u+1:Nat):Int))),none,none,none,none,none,none,none,none,none,none,none,none,none,none,none,none,none,none,none,none,none,none,none,none,none,none,none,none,none,none,none,none,none,none,none,none,none,none,none,none,none,none,none,none,none,none,none,none,none,none,none,none,none,none,none,none,none,none,none,none,none,none,none,none,none,none,none,none,none,none,none,none,none,none,none,none,none,none,none,none,none,none,none,none,none,none,none,none,none] ts'→l.length - (aU (ts'.getD 9 .top)).toNat<l.length - u→L3 ts' (Y.set G2 F.length (some ⟨3,[.agg [pv,.Z (.string (aq l k).n.text),aX 1 (us++[pu]) iu']],true,47⟩)):=fun ts' h1 h2=>by
   refine Vx _ _ ⟨u+1,iu',us++[pu],⟨by omega,?_,fun _=>⟨?_,by omega⟩,Y.aB (by omega)⟩,⟨hpG.keep fun id h=>wY _ id _ h (hty id _ h (by simp)) (hnb id _ h (by simp)),hbG.keep (Nat.le_refl _) (fun id b h b1 b2 b3 b4=>wY _ id _ h (fun e=>by have:=(E2 e).2;omega) (by omega)) (fun id p h=>wY _ id _ h (hty id _ h (by simp)) (hnb id _ h (by simp))),fun e=>?_,fun i hi=>?_,by rw[Y.ah];omega⟩,h1⟩ (by simpa [aU,mk] using h2)
   ·rw[YT]
    refine .snoc (BN.keep fun id p h=>wY _ id _ h (hty id _ h (by simp)) (hnb id _ h (by simp))) (hpu.keep fun id h=>?_)
    have h0:=Y.au h
    have hne:id≠F.length:=fun e=>by
     rw[e,LL _ Ij,pI] at h
     cases h
    rw[Y.ak hne,s6 id h0 fun e e2=>?_]
    ·exact h
    ·have e1:=(E2 e).1
     rw[e2,LL _ (aeG e),e1,bt e] at h
     simp at h
   ·rw[Y.ak (by omega)]
    exact s4a
   ·have e1:=Np e
    rw[bt e] at e1 ⊢
    exact wY _ _ _ e1 (hty _ _ e1 (by simp)) (hnb _ _ e1 (by simp))
   ·have:=(LK i hi)
    rw[Y.ak (by omega),s6 i (by omega) fun e=>by have:=(E2 e).2;omega,LL i (by omega)]
    exact this
  rcases cU2 with nY | nY
  all_goals
   simp -implicitDefEqProofs (maxSteps:=99999999) (disch:=first | omega | (simp only[vl];first | done | omega)) only[mk,vu,vg,d2,Pq,hlen,nY,va,vg,vs,vw,vk,simprocAttr]
   first
    | refine ⟨by omega,ai (sW _) ?_⟩
    | refine ⟨by omega,by omega,ai (sW _) ?_⟩
   simp -implicitDefEqProofs (maxSteps:=99999999) (disch:=first | omega | (simp only[vl];first | done | omega)) only[vu,vg,d2,Pq,hlen,pI,r1,r2,r3,r4,r5,r6,r7,s1,s2,s3,LF,va,vg,vs,vw,vk,simprocAttr]
   exact ⟨by omega,by rw[LL _ Ij];exact pI,aeH _ (by simp[Fr]) (by simp[aU,mk];omega)⟩
set_option maxRecDepth 1000000
def aam:IC:=(.seq (.ops [iH 2 (.box 4 25 (.t 0)),iH 3 (.box 4 25 (.t 1)),iP 4 (.mv kF)]) (.seq (.seq (.ops [iH 8 (yA 4 2),iH 9 (.call 36 [(.t 8)]),iP 10 (xN 9),iM 11 10,gH 12 11 .false (yA 4 3),gH 13 11 .false (.call 36 [(.t 12)]),gP 14 11 .false (xN 13),iP 15 (.pick (.t 11) kT (.t 14)),iM 16 15,gH 17 16 .false (yA 4 2),gH 18 16 .false (yA 4 3),gH 19 16 .false (yC 37 17 18),gP 20 16 .false (xN 19),iP 21 (.pick (.t 16) kT (.t 20))]) (.cond (.t 21) (.seq (.ops [iP 4 (.mv kF)]) .ret) .skip)) (.seq (.cH [iH 22 (yA 4 2),iH 23 (.call 21 [(.t 22)]),iH 24 (yA 4 3),iH 25 (.call 21 [(.t 24)]),iM 5 23,iM 6 25] [[],[0],[],[2,1,0],[1,0,3,2],[3,2,1,0,4]]) (.seq (.seq (.ops [iM 26 5,iP 27 (xL 26),iM 28 6,iP 29 (xL 28),iP 30 (xB .neq 27 29)]) (.cond (.t 30) (.seq (.ops [iP 4 (.mv kF)]) .ret) .skip)) (.seq (.seq (.ops [iP 7 (xI 0)]) (.block 0 (.loop (.seq (.seq (.ops [iM 31 7,iM 32 5,iP 33 (xL 32),iP 34 (xB .lss 31 33)]) (.cond (.t 34) .skip (.exit 0))) (.seq (.block 1 (.seq (.cH [iM 37 5,iM 38 7,iP 39 (xA 3 37 38),iP 40 (.af 0 (.t 39)),iH 41 (yD 1 40),iM 42 6,iM 43 7,iP 44 (xA 3 42 43),iP 45 (.af 0 (.t 44)),iH 46 (yD 1 45),iH 47 (yC 26 41 46),iP 48 (xN 47),iM 49 48,gM 50 49 .false 5,gM 51 49 .false 7,gP 52 49 .false (xA 3 50 51),gP 53 49 .false (.af 2 (.t 52)),gH 54 49 .false (yD 1 53),gM 55 49 .false 6,gM 56 49 .false 7,gP 57 49 .false (xA 3 55 56),gP 58 49 .false (.af 2 (.t 57)),gH 59 49 .false (yD 1 58),gH 60 49 .false (yC 27 54 59),gP 61 49 .false (xN 60),iP 62 (.pick (.t 49) kT (.t 61))] [[],[],[0,1],[2,0,1],[3,2,0,1],[],[],[5,6],[7,5,6],[8,7,5,6],[4,3,2,0,1,9,8,7,5,6],[10,4,3,2,0,1,9,8,7,5,6],[11,10,4,3,2,0,1,9,8,7,5,6],[12,11,10,4,3,2,0,1,9,8,7,5,6],[12,11,10,4,3,2,0,1,9,8,7,5,6],[13,12,11,10,4,3,2,0,1,9,8,7,5,6,14],[15,13,12,11,10,4,3,2,0,1,9,8,7,5,6,14],[16,15,13,12,11,10,4,3,2,0,1,9,8,7,5,6,14],[12,11,10,4,3,2,0,1,9,8,7,5,6],[12,11,10,4,3,2,0,1,9,8,7,5,6],[18,12,11,10,4,3,2,0,1,9,8,7,5,6,19],[20,18,12,11,10,4,3,2,0,1,9,8,7,5,6,19],[21,20,18,12,11,10,4,3,2,0,1,9,8,7,5,6,19],[17,16,15,13,12,11,10,4,3,2,0,1,9,8,7,5,6,14,22,21,20,18,19],[23,17,16,15,13,12,11,10,4,3,2,0,1,9,8,7,5,6,14,22,21,20,18,19],[12,11,10,4,3,2,0,1,9,8,7,5,6,24,23,17,16,15,13,14,22,21,20,18,19]]) (.cond (.t 62) (.seq (.ops [iP 4 (.mv kF)]) .ret) .skip))) (.ops [iM 35 7,iP 36 (.az .add (.t 35) (kI 1)),iM 7 36])))))) (.seq (.ops [iP 4 (.mv kT)]) .ret))))))
theorem aeI:Dk Tryz.prog 11 aam [(.t 4)] 63:=aO (fn:=Tryz.f11) Tryz.func11 (by kernel_rfl) (by kernel_rfl) (by kernel_rfl)
def aan:IC:=(.seq (.ops [iH 2 (.box 4 25 (.t 0)),iH 3 (.box 4 25 (.t 1)),iP 4 (.mv kF)]) (.seq (.seq (.ops [iP 6 (.af 0 (.t 2)),iH 7 (yD 1 6),iP 8 (.af 0 (.t 3)),iH 9 (yD 1 8),iP 10 (xB .neq 7 9),iM 11 10,gP 12 11 .false (.af 2 (.t 2)),gH 13 11 .false (yD 1 12),gP 14 11 .false (.af 2 (.t 3)),gH 15 11 .false (yD 1 14),gP 16 11 .false (xB .neq 13 15),iP 17 (.pick (.t 11) kT (.t 16)),iM 18 17,gP 19 18 .false (.af 1 (.t 2)),gH 20 18 .false (yD 1 19),gP 21 18 .false (.af 1 (.t 3)),gH 22 18 .false (yD 1 21),gP 23 18 .false (xB .neq 20 22),gM 24 18 .false 23,gP 25 24 .true (.af 0 (.t 2)),gH 26 24 .true (yD 1 25),gH 27 24 .true (.call 67 [(.t 26)]),gP 28 24 .true (xN 27),gP 29 18 .false (.pick (.t 24) (.t 28) kF),iP 30 (.pick (.t 18) kT (.t 29)),iM 31 30,gP 32 31 .false (.af 3 (.t 2)),gH 33 31 .false (yD 1 32),gP 34 31 .false (xL 33),gP 35 31 .false (.af 3 (.t 3)),gH 36 31 .false (yD 1 35),gP 37 31 .false (xL 36),gP 38 31 .false (xB .neq 34 37),iP 39 (.pick (.t 31) kT (.t 38))]) (.cond (.t 39) (.seq (.ops [iP 4 (.mv kF)]) .ret) .skip)) (.seq (.seq (.ops [iP 5 (xI 0)]) (.block 0 (.loop (.seq (.seq (.ops [iM 40 5,iP 41 (.af 3 (.t 2)),iH 42 (yD 1 41),iP 43 (xL 42),iP 44 (xB .lss 40 43)]) (.cond (.t 44) .skip (.exit 0))) (.seq (.block 1 (.seq (.cH [iP 47 (.af 3 (.t 2)),iH 48 (yD 1 47),iM 49 5,iP 50 (xA 4 48 49),iH 51 (yA 4 50),iP 52 (.af 3 (.t 3)),iH 53 (yD 1 52),iM 54 5,iP 55 (xA 4 53 54),iH 56 (yA 4 55),iH 57 (yC 37 51 56),iP 58 (xN 57)] [[],[0],[],[1,0,2],[3,1,0,2],[],[5],[],[6,5,7],[8,6,5,7],[4,3,1,0,2,9,8,6,5,7],[10,4,3,1,0,2,9,8,6,5,7]]) (.cond (.t 58) (.seq (.ops [iP 4 (.mv kF)]) .ret) .skip))) (.ops [iM 45 5,iP 46 (.az .add (.t 45) (kI 1)),iM 5 46])))))) (.seq (.ops [iP 4 (.mv kT)]) .ret))))
theorem aeJ:Dk Tryz.prog 37 aan [(.t 4)] 59:=aO (fn:=Tryz.f37) Tryz.func37 (by kernel_rfl) (by kernel_rfl) (by kernel_rfl)
def aao:IC:=(.seq (.ops [iP 2 (.mv kF)]) (.seq (.ops [iM 3 0,iP 4 (.az .eql (.t 3) (.k (.Z (.int .u8 2)))),iM 5 4,gM 6 5 .false 0,gP 7 5 .false (.az .eql (.t 6) (.k (.Z (.int .u8 4)))),iP 8 (.pick (.t 5) kT (.t 7)),iM 9 8,gM 10 9 .false 0,gP 11 9 .false (.az .eql (.t 10) (.k (.Z (.int .u8 6)))),iP 12 (.pick (.t 9) kT (.t 11)),iM 13 12,gM 14 13 .false 0,gP 15 13 .false (.az .eql (.t 14) (.k (.Z (.int .u8 22)))),iP 16 (.pick (.t 13) kT (.t 15)),iM 17 16,gM 18 17 .false 0,gP 19 17 .false (.az .eql (.t 18) (.k (.Z (.int .u8 25)))),iP 20 (.pick (.t 17) kT (.t 19)),iM 2 20]) .ret))
theorem aeK:Dk Tryz.prog 67 aao [(.t 2)] 21:=aO (fn:=Tryz.f67) Tryz.func67 (by kernel_rfl) (by kernel_rfl) (by kernel_rfl)
def aap:IC:=(.seq (.ops [iH 1 (.box 4 25 (.t 0)),iP 2 (.mv kF)]) (.seq (.ops [iP 3 (.af 0 (.t 1)),iH 4 (yD 1 3),iP 5 (.az .eql (.t 4) (.k (.Z (.int .u8 1)))),iM 6 5,gH 7 6 .true (yA 4 1),gH 8 6 .true (.call 46 [(.t 7)]),iP 9 (.pick (.t 6) (.t 8) kF),iM 10 9,gH 11 10 .true (yA 4 1),gH 12 10 .true (.call 54 [(.t 11)]),gP 13 10 .true (.field 0 1 .false (.t 12)),gP 14 10 .true (.az .eql (.t 13) (kI 0)),iP 15 (.pick (.t 10) (.t 14) kF),iM 2 15]) .ret))
theorem aeL:Dk Tryz.prog 36 aap [(.t 2)] 16:=aO (fn:=Tryz.f36) Tryz.func36 (by kernel_rfl) (by kernel_rfl) (by kernel_rfl)
def aaq:IC:=(.seq (.ops [iP 4 (.mv kF)]) (.seq (.seq (.ops [iM 6 0,iP 7 (xL 6),iM 8 1,iP 9 (xL 8),iP 10 (xB .neq 7 9)]) (.cond (.t 10) (.seq (.ops [iP 4 (.mv kF)]) .ret) .skip)) (.seq (.seq (.ops [iP 5 (xI 0)]) (.block 0 (.loop (.seq (.seq (.ops [iM 11 5,iM 12 0,iP 13 (xL 12),iP 14 (xB .lss 11 13)]) (.cond (.t 14) .skip (.exit 0))) (.seq (.block 1 (.seq (.cH [iM 17 0,iM 18 5,iP 19 (xA 1 17 18),iH 20 (yD 1 19),iM 21 1,iM 22 5,iP 23 (xA 1 21 22),iH 24 (yD 1 23),iH 25 (yC 26 20 24),iP 26 (xN 25)] [[],[],[0,1],[2,0,1],[],[],[4,5],[6,4,5],[3,2,0,1,7,6,4,5],[8,3,2,0,1,7,6,4,5]]) (.cond (.t 26) (.seq (.ops [iP 4 (.mv kF)]) .ret) .skip))) (.ops [iM 15 5,iP 16 (.az .add (.t 15) (kI 1)),iM 5 16])))))) (.seq (.ops [iP 4 (.mv kT)]) .ret))))
theorem aeM:Dk Tryz.prog 27 aaq [(.t 4)] 27:=aO (fn:=Tryz.f27) Tryz.func27 (by kernel_rfl) (by kernel_rfl) (by kernel_rfl)
set_option maxRecDepth 100000
set_option maxHeartbeats 0 in
theorem E3(l m:List (List Int))(ro jZ:Option (List AV))(hz:l.length≤1000000)(hp:∀k,k<l.length→(dA l k).length≤1000000)(H:Y):D Tryz.prog 27 [.an 1 (aW l) ro,.an 1 (aW m) jZ] H (.ret (.Z (.bool (decide (l=m))))) H:=by
 refine aD (Nat.le_refl _) (aeM (aA ?_))
 simp only[aaq,ux]
 refine ae fun L hL=>?_
 refine aN ?_
 refine hL _ _ ?_
 clear hL
 refine ae fun L hL=>?_
 by_cases c1:l.length=m.length
 rotate_left
 ·have c2:¬(l.length:Int)=m.length:=by omega
  refine eL @cY c2 ?_
  exact am .refl (by simp;intro e;exact c1 (by rw[e]))
 have c2:(l.length:Int)=m.length:=by omega
 refine eL @cY c2 ?_
 refine hL _ _ ?_
 clear hL
 refine ae fun L hL=>?_
 refine ae fun L hL=>?_
 refine ee @cY ?_
 refine hL _ _ ?_
 clear hL
 refine bI (fun ts F=>∃k:Nat,(k≤l.length∧∀j,j<k→dA l j=dA m j)∧F=H∧Fr [some (.an 1 (aW l) ro),some (.an 1 (aW m) jZ),none,none,some (.Z (.bool false)),some (.Z (.int .i64 k)),none,none,none,none,none,none,none,none,none,none,none,none,none,none,none,none,none,none,none,none,none] ts) (fun ts _=>l.length - (aU (ts.getD 5 .top)).toNat) ?_ ?_
 ·exact ⟨0,⟨Nat.zero_le _,fun j h=>absurd h (Nat.not_lt_zero _)⟩,rfl,by simp[Fr]⟩
 rintro ts F ⟨k,⟨hk,ky⟩,rfl,bx⟩ L2 cK
 obtain ⟨js,rfl⟩:=bx.opened
 clear bx
 by_cases hd:k<l.length
 ·have d1:(k:Int)<l.length:=by omega
  have d2:(k:Int)<m.length:=by omega
  have hg:=nJ hd
  have pA:=nJ (l:=m) (k:=k) (by omega)
  have hi:=fun H=>ot (dA l k) (dA m k) none none H (by have:=hp k hd;omega)
  simp -implicitDefEqProofs (maxSteps:=99999999) (disch:=first | omega | (simp only[vl];first | done | omega)) only[mk,vg,d1,d2,hg,pA,cY,va,vg,vs,vw,vk,simprocAttr]
  refine ⟨by omega,by omega,aJ (hi _) ?_⟩
  by_cases e1:dA l k=dA m k
  ·refine ee e1 ?_
   refine cK _ _ ⟨k+1,⟨by omega,fun j hj=>?_⟩,rfl,by simp[Fr]⟩ (by simp[aU,mk];omega)
   rcases Nat.lt_succ_iff_lt_or_eq.1 hj with h' | rfl
   ·exact ky j h'
   ·exact e1
  ·refine ee e1 ?_
   exact am .refl (by simp;intro e;exact e1 (by rw[e]))
 ·have d1:¬(k:Int)<l.length:=by omega
  simp -implicitDefEqProofs (maxSteps:=99999999) (disch:=first | omega | (simp only[vl];first | done | omega)) only[mk,d1,cY,va,vg,vs,vw,vk,simprocAttr]
  clear cK
  refine hL _ _ ?_
  clear hL
  refine aN ?_
  have DZ:l=m:=Dd c1 fun j hj=>ky j (by omega)
  exact am .refl (by simp[DZ])
theorem Qk(k:Int)(H:Y):D Tryz.prog 67 [.Z (.int .u8 k)] H (.ret (.Z (.bool (eT k)))) H:=by
 refine aD (Nat.le_refl _) (aeK (aA ?_))
 simp only[aao,ux]
 by_cases c2:k=2
 ·subst c2
  refine aN ?_
  exact am .refl rfl
 by_cases c4:k=4
 ·subst c4
  refine aN ?_
  exact am .refl rfl
 by_cases c6:k=6
 ·subst c6
  refine aN ?_
  exact am .refl rfl
 by_cases nY:k=22
 ·subst nY
  refine aN ?_
  exact am .refl rfl
 by_cases nX:k=25
 ·subst nX
  refine aN ?_
  exact am .refl rfl
 ·refine GF c2 c4 c6 nY nX ?_
  exact am .refl (by simp[eT,c2,c4,c6,nY,nX])
set_option maxHeartbeats 0 in
theorem Wi(a:Nd):∀(hz:a.size≤1000000)(b:Nd)(ro jZ:Option (List AV))(H:Y),D Tryz.prog 37 [dF a ro,dF b jZ] H (.ret (.Z (.bool (iG a b)))) H:=by
 induction a using Nd.ind with
 | _ a ih =>
  intro hz b ro jZ H
  have hs:=Nd.size_eq a
  have hl:=Nd.iZ a.kids
  have hq:=CY a b
  rw[aM,aM]
  refine aD (Nat.le_refl _) (aeJ (aA ?_))
  simp only[aan,ux]
  refine ae fun L hL=>?_
  refine aN ?_
  refine hL _ _ ?_
  clear hL
  refine ae fun L hL=>?_
  by_cases c1:a.kind=b.kind
  rotate_left
  ·refine iz c1 ?_
   exact am (.cons (.cons .refl)) (by rw[hq];simp[c1])
  by_cases c3:a.num=b.num
  rotate_left
  ·refine yt c1 c3 ?_
   exact am (.cons (.cons .refl)) (by rw[hq];simp[c3])
  have rest:∀(hnt:(eT a.kind || decide (a.text=b.text))=true),iG a b=iI a.kids b.kids:=fun hnt=>by rw[hq,hnt];simp[c1,c3]
  have fin:∀(ts:List AV)(F0:Y)(a1 a2 a3 b1 b2 b3:AV),a.kids.length=b.kids.length→iG a b=iI a.kids b.kids→Fr [none,none,some (.ptr 4 H.length 0 0),some (.ptr 4 (H.length+1) 0 0),some (.Z (.bool false)),none,none,none,none,none,none,none,none,none,none,none,none,none,none,none,none,none,none,none,none,none,none,none,none,none,none,none,none,none,none,none,none,none,none,none,none,none,none,none,none,none,none,none,none,none,none,none,none,none,none,none,none,none,none] ts→Y.find F0 H.length=some ⟨4,[.agg [a1,a2,a3,.an 4 (bC a.kids) ro]],true,25⟩→Y.find F0 (H.length+1)=some ⟨4,[.agg [b1,b2,b3,.an 4 (bC b.kids) jZ]],true,25⟩→Over H F0→L ts F0:=by
   intro ts F0 a1 a2 a3 b1 b2 b3 c5 jI bx hA hB hO
   obtain ⟨js,rfl⟩:=bx.opened
   clear bx
   refine hL _ _ ?_
   clear hL
   refine ae fun L hL=>?_
   refine ae fun L hL=>?_
   simp -implicitDefEqProofs (maxSteps:=99999999) (disch:=first | omega | (simp only[vl];first | done | omega)) only[mk,vu,vg,va,vg,vs,vw,vk,simprocAttr]
   refine hL _ _ ?_
   clear hL
   refine bI (fun ts F=>∃k:Nat,(k≤a.kids.length∧∀j,j<k→iG (aC a.kids j) (aC b.kids j)=true)∧F=F0∧Fr [none,none,some (.ptr 4 H.length 0 0),some (.ptr 4 (H.length+1) 0 0),some (.Z (.bool false)),some (.Z (.int .i64 k)),none,none,none,none,none,none,none,none,none,none,none,none,none,none,none,none,none,none,none,none,none,none,none,none,none,none,none,none,none,none,none,none,none,none,none,none,none,none,none,none,none,none,none,none,none,none,none,none,none,none,none,none,none] ts) (fun ts _=>a.kids.length - (aU (ts.getD 5 .top)).toNat) ?_ ?_
   ·exact ⟨0,⟨Nat.zero_le _,fun j h=>absurd h (Nat.not_lt_zero _)⟩,rfl,by simp[Fr]⟩
   rintro ts F ⟨k,⟨hk,ky⟩,EJ,bx⟩ L2 cK
   rw[EJ]
   obtain ⟨js,rfl⟩:=bx.opened
   clear bx
   by_cases hd:k<a.kids.length
   ·have d1:(k:Int)<a.kids.length:=by omega
    have d2:(k:Int)<b.kids.length:=by omega
    have hg:=dm hd
    have pA:=dm (l:=b.kids) (k:=k) (by omega)
    have hi:=fun H=>ih _ (e8 hd) (by have:=Nd.eN (e8 hd);omega) (aC b.kids k) none none H
    rw[aM,aM] at hi
    simp -implicitDefEqProofs (maxSteps:=99999999) (disch:=first | omega | (simp only[vl];first | done | omega)) only[mk,vu,vg,d1,d2,hg,pA,hA,hB,aF,va,vg,vs,vw,vk,simprocAttr]
    refine ⟨by omega,by omega,aJ (hi _) ?_⟩
    cases e1:iG (aC a.kids k) (aC b.kids k)
    ·refine aZ ?_
     exact am hO (by rw[jI];exact (Hq c5 hd e1).symm)
    refine aZ ?_
    refine cK _ _ ⟨k+1,⟨by omega,fun j hj=>?_⟩,rfl,by simp[Fr]⟩ (by simp[aU,mk];omega)
    rcases Nat.lt_succ_iff_lt_or_eq.1 hj with h' | rfl
    ·exact ky j h'
    ·exact e1
   ·have d1:¬(k:Int)<a.kids.length:=by omega
    simp -implicitDefEqProofs (maxSteps:=99999999) (disch:=first | omega | (simp only[vl];first | done | omega)) only[mk,vu,vg,d1,hA,hB,aF,va,vg,vs,vw,vk,simprocAttr]
    clear cK
    refine hL _ _ ?_
    clear hL
    refine aN ?_
    exact am hO (by rw[jI];exact (Hr c5 fun j hj=>ky j (by omega)).symm)
  by_cases c2:a.text=b.text
  ·have jI:=rest (by simp[c2])
   by_cases c5:a.kids.length=b.kids.length
   rotate_left
   ·have c6:¬(a.kids.length:Int)=b.kids.length:=by omega
    refine BP c1 c2 c3 c6 @aF ?_
    exact am (.cons (.cons .refl)) (by rw[jI];exact (vJ c5).symm)
   have c6:(a.kids.length:Int)=b.kids.length:=by omega
   refine BP c1 c2 c3 c6 @aF ?_
   exact fin _ _ _ _ _ _ _ _ c5 jI (by simp[Fr]) (by rw[aj (by simp),aL rfl]) (aL (by simp)) (.cons (.cons .refl))
  ·have hnk:=fun H=>Qk b.kind H
   cases cn:eT b.kind
   ·rw[cn] at hnk
    refine wT c1 c2 c3 ?_
    refine ai (hnk _) ?_
    refine aZ ?_
    exact am (.cons (.cons .refl)) (by rw[hq,c1,cn];simp[c2])
   ·rw[cn] at hnk
    have jI:=rest (by rw[c1,cn];simp)
    by_cases c5:a.kids.length=b.kids.length
    rotate_left
    ·have c6:¬(a.kids.length:Int)=b.kids.length:=by omega
     refine BP c1 c2 c3 c6 @aF ?_
     refine ai (hnk _) ?_
     refine yt c6 @aF ?_
     exact am (.cons (.cons .refl)) (by rw[jI];exact (vJ c5).symm)
    have c6:(a.kids.length:Int)=b.kids.length:=by omega
    refine BP c1 c2 c3 c6 @aF ?_
    refine ai (hnk _) ?_
    refine yt c6 @aF ?_
    exact fin _ _ _ _ _ _ _ _ c5 jI (by simp[Fr]) (by rw[aj (by simp),aL rfl]) (aL (by simp)) (.cons (.cons .refl))
set_option maxHeartbeats 0 in
theorem yg(n:Nd)(hs:n.size≤1000000)(ro:Option (List AV))(hro:∀ok,AV.fe ok ro)(H:Y):D Tryz.prog 36 [dF n ro] H (.ret (.Z (.bool (kw n)))) H:=by
 have iR:=fun H=>DD n ro hro hs H
 have lP:=fun H=>Di n ro (by omega) H
 rw[aM] at iR lP ⊢
 unfold AQ at iR
 have ky:kw n=(decide (n.kind=1) && (bB n 40 && decide ((eh n).1=0))):=by
  unfold kw
  rw[xV]
  by_cases c:n.kind=1∧bB n 40=true
  ·simp[c]
  ·have:eh n=(4,0):=by unfold eh;rw[if_neg c]
   rw[this]
   by_cases c1:n.kind=1
   ·have:bB n 40=false:=by
     cases h:bB n 40
     ·rfl
     ·exact absurd ⟨c1,h⟩ c
    simp[this]
   ·simp[c1]
 rw[ky]
 refine aD (Nat.le_refl _) (aeL (aA ?_))
 simp only[aap,ux]
 refine ae fun L hL=>?_
 refine aN ?_
 refine hL _ _ ?_
 clear hL
 refine ae fun L hL=>?_
 by_cases c1:n.kind=1
 rotate_left
 ·refine ee c1 ?_
  refine hL _ _ ?_
  clear hL
  refine aN ?_
  exact am (.cons .refl) (by simp[c1])
 rw[c1] at iR lP
 cases c2:bB n 40
 ·refine ee c1 ?_
  refine ai (lP _) ?_
  rw[c2]
  refine aN ?_
  refine hL _ _ ?_
  clear hL
  refine aN ?_
  exact am (.cons .refl) (by simp[c2])
 refine ee c1 ?_
 refine ai (lP _) ?_
 rw[c2]
 refine aN ?_
 refine ai (iR _) ?_
 refine aN ?_
 refine hL _ _ ?_
 clear hL
 refine aN ?_
 exact am (.cons .refl) (by simp[c1,c2])
set_option maxHeartbeats 0 in
theorem Ql(a b:Nd)(yl:a.size≤1000000)(DV:b.size≤1000000)(ra rb:Option (List AV))(hra:∀ok,AV.fe ok ra)(Lh:∀ok,AV.fe ok rb)(H:Y):D Tryz.prog 11 [dF a ra,dF b rb] H (.ret (.Z (.bool (fx a b)))) H:=by
 have ur:=fun H=>yg a yl ra hra H
 have hpb:=fun H=>yg b DV rb Lh H
 have jI:=fun H=>Wi a yl b ra rb H
 have hba:=fun H=>yf a ra hra yl H
 have FO:=fun H=>yf b rb Lh DV H
 rw[←lG] at hba FO
 have hoa:=AU a yl
 have zO:=sP a
 have hlb:=sP b
 have eF:∀l:List jE,(l.map fP).length=l.length:=fun l=>by simp
 rw[aM] at ur hpb hba FO
 rw[aM,aM] at jI
 rw[aM,aM]
 refine aD (Nat.le_refl _) (aeI (aA ?_))
 simp only[aam,ux]
 refine ae fun L hL=>?_
 refine aN ?_
 refine hL _ _ ?_
 clear hL
 refine ae fun L hL=>?_
 cases c1:kw a
 ·rw[c1] at ur
  refine aZ ?_
  refine ai (ur _) ?_
  refine aZ ?_
  exact am (.cons (.cons .refl)) (by simp[fx,c1])
 rw[c1] at ur
 cases c2:kw b
 ·rw[c2] at hpb
  refine aZ ?_
  refine ai (ur _) ?_
  refine aZ ?_
  refine ai (hpb _) ?_
  refine aZ ?_
  exact am (.cons (.cons .refl)) (by simp[fx,c2])
 rw[c2] at hpb
 cases c3:iG a b
 ·rw[c3] at jI
  refine aZ ?_
  refine ai (ur _) ?_
  refine aZ ?_
  refine ai (hpb _) ?_
  refine aZ ?_
  refine ai (jI _) ?_
  refine aZ ?_
  exact am (.cons (.cons .refl)) (by simp[fx,c3])
 rw[c3] at jI
 have hal:fx a b=gi (cf a) (cf b):=by simp[fx,c1,c2,c3]
 refine aZ ?_
 refine ai (ur _) ?_
 refine aZ ?_
 refine ai (hpb _) ?_
 refine aZ ?_
 refine ai (jI _) ?_
 refine aZ ?_
 refine hL _ _ ?_
 clear hL
 refine ae fun L hL=>?_
 refine aZ ?_
 refine aJ (hba _) ?_
 refine aZ ?_
 refine aJ (FO _) ?_
 refine aZ ?_
 refine hL _ _ ?_
 clear hL
 refine ae fun L hL=>?_
 generalize cf a=l at *
 generalize cf b=m at *
 by_cases c5:l.length=m.length
 rotate_left
 ·have c6:¬(l.length:Int)=m.length:=by omega
  refine yt eF c6 ?_
  exact am (.cons (.cons .refl)) (by rw[hal];exact (xf c5).symm)
 have c6:(l.length:Int)=m.length:=by omega
 refine yt eF c6 ?_
 refine hL _ _ ?_
 clear hL
 refine ae fun L hL=>?_
 refine ae fun L hL=>?_
 refine iz eF ?_
 refine hL _ _ ?_
 clear hL
 refine bI (fun ts F=>∃k:Nat,(k≤l.length∧∀j,j<k→jc (cV l j) (cV m j)=true)∧Over H F∧Fr [none,none,none,none,some (.Z (.bool false)),some (.an 3 (l.map fP) none),some (.an 3 (m.map fP) none),some (.Z (.int .i64 k)),none,none,none,none,none,none,none,none,none,none,none,none,none,none,none,none,none,none,none,none,none,none,none,none,none,none,none,none,none,none,none,none,none,none,none,none,none,none,none,none,none,none,none,none,none,none,none,none,none,none,none,none,none,none,none] ts) (fun ts _=>l.length - (aU (ts.getD 7 .top)).toNat) ?_ ?_
 ·exact ⟨0,⟨Nat.zero_le _,fun j h=>absurd h (Nat.not_lt_zero _)⟩,.cons (.cons .refl),by simp[Fr]⟩
 rintro ts F ⟨k,⟨hk,ky⟩,hO,bx⟩ L2 cK
 obtain ⟨js,rfl⟩:=bx.opened
 clear bx
 by_cases hd:k<l.length
 ·have d1:(k:Int)<l.length:=by omega
  have d2:(k:Int)<m.length:=by omega
  have hg:=mV hd
  have pA:=mV (l:=m) (k:=k) (by omega)
  have hok:=hoa k hd
  have hi:=fun H=>ot (cV l k).1 (cV m k).1 none none H (by have:=hok.1;omega)
  have hj:=fun H=>E3 (cV l k).2.2 (cV m k).2.2 none none hok.2.1 hok.2.2 H
  have Q1:jc (cV l k) (cV m k)=false→gi l m=false:=fun e=>by
   cases h2:gi l m
   ·rfl
   ·rw[(lU c5).1 h2 k hd] at e;cases e
  by_cases e1:(cV l k).1=(cV m k).1
  ·rw[decide_eq_true e1] at hi
   by_cases e2:(cV l k).2.2=(cV m k).2.2
   ·rw[decide_eq_true e2] at hj
    have e3:jc (cV l k) (cV m k)=true:=by simp[jc,e1,e2]
    simp -implicitDefEqProofs (maxSteps:=99999999) (disch:=first | omega | (simp only[vl];first | done | omega)) only[mk,vu,vg,d1,d2,hg,pA,eF,va,vg,vs,vw,vk,simprocAttr]
    refine ⟨by omega,by omega,aJ (hi _) ?_⟩
    simp -implicitDefEqProofs (maxSteps:=99999999) (disch:=first | omega | (simp only[vl];first | done | omega)) only[mk,vu,vg,d1,d2,hg,pA,eF,va,vg,vs,vw,vk,simprocAttr]
    refine ⟨by omega,by omega,aJ (hj _) ?_⟩
    refine aZ ?_
    refine cK _ _ ⟨k+1,⟨by omega,fun j hj=>?_⟩,hO,by simp[Fr]⟩ (by simp[aU,mk];omega)
    rcases Nat.lt_succ_iff_lt_or_eq.1 hj with h' | rfl
    ·exact ky j h'
    ·exact e3
   ·rw[decide_eq_false e2] at hj
    simp -implicitDefEqProofs (maxSteps:=99999999) (disch:=first | omega | (simp only[vl];first | done | omega)) only[mk,vu,vg,d1,d2,hg,pA,eF,va,vg,vs,vw,vk,simprocAttr]
    refine ⟨by omega,by omega,aJ (hi _) ?_⟩
    simp -implicitDefEqProofs (maxSteps:=99999999) (disch:=first | omega | (simp only[vl];first | done | omega)) only[mk,vu,vg,d1,d2,hg,pA,eF,va,vg,vs,vw,vk,simprocAttr]
    refine ⟨by omega,by omega,aJ (hj _) ?_⟩
    refine aZ ?_
    exact am hO (by rw[hal];exact (Q1 (by simp[jc,e2])).symm)
  ·rw[decide_eq_false e1] at hi
   simp -implicitDefEqProofs (maxSteps:=99999999) (disch:=first | omega | (simp only[vl];first | done | omega)) only[mk,vu,vg,d1,d2,hg,pA,eF,va,vg,vs,vw,vk,simprocAttr]
   refine ⟨by omega,by omega,aJ (hi _) ?_⟩
   refine aZ ?_
   exact am hO (by rw[hal];exact (Q1 (by simp[jc,e1])).symm)
 ·have d1:¬(k:Int)<l.length:=by omega
  simp -implicitDefEqProofs (maxSteps:=99999999) (disch:=first | omega | (simp only[vl];first | done | omega)) only[mk,vu,vg,d1,eF,va,vg,vs,vw,vk,simprocAttr]
  clear cK
  refine hL _ _ ?_
  clear hL
  refine aN ?_
  exact am hO (by rw[hal];exact ((lU c5).2 fun j hj=>ky j (by omega)).symm)
theorem IR(t:Nd):∀most,bulk t most≤most→(t.wt:Int)≤8*bulk t most:=by
 induction t using Nd.ind with
 | _ t ih =>
  intro most h
  rw[vK] at h ⊢
  rw[Nd.mh]
  have key:∀(l:List Nd)(c:Int),(∀k∈l,∀most,bulk k most≤most→(k.wt:Int)≤8*bulk k most)→fK l most c≤most→8*c+(Nd.kx l:Int)≤8*fK l most c:=by
   intro l
   induction l with
   | nil=>intro c _ _;simp[fK,Nd.kx]
   | cons x r fI =>
    intro c hx hc
    unfold fK at hc ⊢
    by_cases d:c≤most
    ·rw[if_pos d] at hc ⊢
     have h1:=fI _ (fun k hk=>hx k (by simp[hk])) hc
     have h2:=C2 most r (c+bulk x (most - c))
     have h3:=hx x (by simp) (most - c) (by omega)
     simp only[Nd.kx]
     omega
    ·rw[if_neg d] at hc
     omega
  have:=key t.kids _ ih h
  omega
theorem IU(t:Nd):t.size≤t.wt:=by
 induction t using Nd.ind with
 | _ t ih =>
  rw[Nd.mh,Nd.size_eq]
  have key:∀l:List Nd,(∀k∈l,k.size≤k.wt)→Nd.aw l≤Nd.kx l:=by
   intro l
   induction l with
   | nil=>intro _;simp[Nd.aw]
   | cons x r fI =>
    intro hx
    have h1:=hx x (by simp)
    have h2:=fI fun k hk=>hx k (by simp[hk])
    simp only[Nd.aw,Nd.kx]
    omega
  have:=key t.kids ih
  omega
theorem Bq{t:Nd}{H:Y}:jT (kN t H.length++H) t H.length:=by
 have h:=A4 (l:=t.kids) (H:=H)
 have e:kN t H.length++H=jq t.kids (H.length+1)++(kC (jh t.kids H.length)::H):=by rw[A1,List.append_assoc];rfl
 rw[e]
 intro i xs hx
 rw[nL] at hx
 cases i with
 | zero =>
  simp only[List.getElem?_cons_zero,Option.some.injEq] at hx
  rw[←hx]
  exact h.row
 | succ i =>
  rw[List.getElem?_cons_succ] at hx
  have:=h.kids i xs hx
  rw[show H.length+(i+1)=H.length+1+i by omega]
  exact this
set_option maxHeartbeats 0 in
theorem E4(a b:Nd)(UZ:a.wt≤1900000)(U1:b.wt≤1900000)(H:Y):D Tryz.prog 3 [dF a none,dF b none] H (.ret (.Z (.bool true))) H:=by
 have n1:=fun K=>AA a none 1000 (by omega) (by omega) K
 have n2:=fun K=>AA b none 1000 (by omega) (by omega) K
 rw[aM] at n1 n2
 rw[aM,aM]
 refine aD (Nat.le_refl _) (dk3 (aA ?_))
 simp only[ic3,ux]
 refine ae fun L hL=>?_
 refine aZ ?_
 refine hL _ _ ?_
 clear hL
 refine ae fun L hL=>?_
 refine aZ ?_
 refine ai (n1 _) ?_
 have hold:∀(x y:Option aK) i,i<H.length→Y.find (x::y::H) i=Y.find H i:=fun x y i hi=>by rw[aj (by simp;omega),aj hi]
 by_cases ca:bulk a 1000 > 1000
 ·refine iz ca ?_
  refine ai (uC _) ?_
  refine aZ ?_
  exact gj (hold _ _) (.same trivial)
 refine iz ca ?_
 refine ai (n2 _) ?_
 by_cases cb:bulk b 1000 > 1000
 ·refine iz cb ?_
  refine ai (uC _) ?_
  refine aZ ?_
  exact gj (hold _ _) (.same trivial)
 have wa:=IR a 1000 (by omega)
 have wb:=IR b 1000 (by omega)
 have sa:=IU a
 have sb:=IU b
 refine iz cb ?_
 refine hL _ _ ?_
 clear hL
 refine ae fun L hL=>?_
 refine aZ ?_
 obtain ⟨F,hF⟩:∃F:Y,F=some ⟨4,[.agg [.Z (.int .u8 0),.Z (.string ⟨#[]⟩),.Z (.int .i64 0),.an 0 [] (some [])]],true,25⟩::some ⟨4,[.agg [.Z (.int .u8 0),.Z (.string ⟨#[]⟩),.Z (.int .i64 0),.an 0 [] (some [])]],true,25⟩::some ⟨4,[.agg [.Z (.int .u8 b.kind),.Z (.string b.text),.Z (.int .i64 b.num),.an 4 (bC b.kids) none]],true,25⟩::some ⟨4,[.agg [.Z (.int .u8 a.kind),.Z (.string a.text),.Z (.int .i64 a.num),.an 4 (bC a.kids) none]],true,25⟩::H:=⟨_,rfl⟩
 have KM:F.length=H.length+4:=by rw[hF];rfl
 have f0:Y.find F H.length=some ⟨4,[.agg [.Z (.int .u8 a.kind),.Z (.string a.text),.Z (.int .i64 a.num),.an 4 (bC a.kids) none]],true,25⟩:=by rw[hF,aj (by simp;omega),aj (by simp;omega),aj (by simp),aL rfl]
 have f1:Y.find F (H.length+1)=some ⟨4,[.agg [.Z (.int .u8 b.kind),.Z (.string b.text),.Z (.int .i64 b.num),.an 4 (bC b.kids) none]],true,25⟩:=by rw[hF,aj (by simp),aj (by simp),aL (by simp)]
 have f2:Y.find F (H.length+2)=some ⟨4,[.agg [.Z (.int .u8 0),.Z (.string ⟨#[]⟩),.Z (.int .i64 0),.an 0 [] (some [])]],true,25⟩:=by rw[hF,aj (by simp),aL (by simp)]
 have f3:Y.find F (H.length+3)=some ⟨4,[.agg [.Z (.int .u8 0),.Z (.string ⟨#[]⟩),.Z (.int .i64 0),.an 0 [] (some [])]],true,25⟩:=by rw[hF,aL (by simp)]
 have fo:∀i,i<H.length→Y.find F i=Y.find H i:=fun i hi=>by rw[hF,aj (by simp;omega),aj (by simp;omega),hold _ _ i hi]
 rw[←hF]
 clear hF hold
 have l1:=yb a (by omega) none F
 rw[aM,kz] at l1
 refine lg l1 (Cx (by simp only[List.forall_mem_cons,List.not_mem_nil,false_implies,implies_true,and_true];omega)) ?_
 clear l1
 have hO:=Bq (t:=a) (H:=F)
 have LB:∀i,i<F.length→Y.find (kN a F.length++F) i=Y.find F i:=fun i hi=>Y.bw hi
 have Ij:(kN a F.length++F).length=a.size+F.length:=by rw[List.length_append,mM]
 generalize kN a F.length++F=G at *
 have g0:=(LB H.length (by omega)).trans f0
 have g1:=(LB (H.length+1) (by omega)).trans f1
 have g2:=(LB (H.length+2) (by omega)).trans f2
 have g3:=(LB (H.length+3) (by omega)).trans f3
 refine iz g1 ?_
 have l2:=yb b (by omega) none G
 rw[aM,kz] at l2
 refine ⟨fun _=>f1.symm,lg l2 (Cx (by simp only[List.forall_mem_cons,List.not_mem_nil,false_implies,implies_true,and_true];omega)) ?_⟩
 clear l2
 have hP:=Bq (t:=b) (H:=G)
 have hKo:∀i,i<G.length→Y.find (kN b G.length++G) i=Y.find G i:=fun i hi=>Y.bw hi
 have PP:(kN b G.length++G).length=b.size+G.length:=by rw[List.length_append,mM]
 generalize kN b G.length++G=K at *
 have k0:=(hKo H.length (by omega)).trans g0
 have k1:=(hKo (H.length+1) (by omega)).trans g1
 have k2:=(hKo (H.length+2) (by omega)).trans g2
 have k3:=(hKo (H.length+3) (by omega)).trans g3
 simp -implicitDefEqProofs (maxSteps:=99999999) (disch:=first | omega | (simp only[vl];first | done | omega)) only[vu,vg,k0,k1,k2,k3,va,vg,vs,vw,vk,simprocAttr]
 have hM:∀i,i≠H.length+2→i≠H.length+3→Y.find (Y.set (Y.set K (H.length+2) (some ⟨4,[.agg [.Z (.int .u8 a.kind),.Z (.string a.text),.Z (.int .i64 a.num),.aE 4 F.length 0 a.kids.length (some (a.kids.length+12))]],true,25⟩)) (H.length+3) (some ⟨4,[.agg [.Z (.int .u8 b.kind),.Z (.string b.text),.Z (.int .i64 b.num),.aE 4 G.length 0 b.kids.length (some (b.kids.length+12))]],true,25⟩)) i=Y.find K i:=fun i h1 h2=>by rw[Y.ak h2,Y.ak h1]
 have m2:Y.find (Y.set (Y.set K (H.length+2) (some ⟨4,[.agg [.Z (.int .u8 a.kind),.Z (.string a.text),.Z (.int .i64 a.num),.aE 4 F.length 0 a.kids.length (some (a.kids.length+12))]],true,25⟩)) (H.length+3) (some ⟨4,[.agg [.Z (.int .u8 b.kind),.Z (.string b.text),.Z (.int .i64 b.num),.aE 4 G.length 0 b.kids.length (some (b.kids.length+12))]],true,25⟩)) (H.length+2)=some ⟨4,[.agg [.Z (.int .u8 a.kind),.Z (.string a.text),.Z (.int .i64 a.num),.aE 4 F.length 0 a.kids.length (some (a.kids.length+12))]],true,25⟩:=by rw[Y.ak (by omega),Y.aB (by omega)]
 have m3:Y.find (Y.set (Y.set K (H.length+2) (some ⟨4,[.agg [.Z (.int .u8 a.kind),.Z (.string a.text),.Z (.int .i64 a.num),.aE 4 F.length 0 a.kids.length (some (a.kids.length+12))]],true,25⟩)) (H.length+3) (some ⟨4,[.agg [.Z (.int .u8 b.kind),.Z (.string b.text),.Z (.int .i64 b.num),.aE 4 G.length 0 b.kids.length (some (b.kids.length+12))]],true,25⟩)) (H.length+3)=some ⟨4,[.agg [.Z (.int .u8 b.kind),.Z (.string b.text),.Z (.int .i64 b.num),.aE 4 G.length 0 b.kids.length (some (b.kids.length+12))]],true,25⟩:=Y.aB (by rw[Y.ah];omega)
 generalize Y.set (Y.set K (H.length+2) (some ⟨4,[.agg [.Z (.int .u8 a.kind),.Z (.string a.text),.Z (.int .i64 a.num),.aE 4 F.length 0 a.kids.length (some (a.kids.length+12))]],true,25⟩)) (H.length+3) (some ⟨4,[.agg [.Z (.int .u8 b.kind),.Z (.string b.text),.Z (.int .i64 b.num),.aE 4 G.length 0 b.kids.length (some (b.kids.length+12))]],true,25⟩)=M at *
 have m0:=(hM H.length (by omega) (by omega)).trans k0
 have m1:=(hM (H.length+1) (by omega) (by omega)).trans k1
 have hA:jT M a F.length:=hO.of fun i h1 h2=>(hM i (by omega) (by omega)).trans (hKo i (by omega))
 have hB:jT M b G.length:=hP.of fun i h1 h2=>hM i (by omega) (by omega)
 have hMo:∀i,i<H.length→Y.find M i=Y.find H i:=fun i hi=>by rw[hM i (by omega) (by omega),hKo i (by omega),LB i (by omega),fo i hi]
 have s1:=vQ a b (by omega) (by omega) (by omega) (by omega) (uv a hA) (uv b hB)
 have s2:=Ql a b (by omega) (by omega) none none (fun _=>trivial) (fun _=>trivial) M
 have s3:=ql a (yc _) (by omega) F.length M hA
 have s4:=ql b (yc _) (by omega) G.length M hB
 rw[kz,kz] at s1
 rw[aM,aM] at s2
 rw[aM,kz] at s3 s4
 clear k0 k1 k2 k3 g0 g1 g2 g3 f0 f1 f2 f3 hO hP hM
 refine hL _ _ ?_
 clear hL
 refine ae fun L hL=>?_
 refine qc m0 m1 m2 m3 ?_
 refine aJ s1 ?_
 refine qc m0 m1 m2 m3 ?_
 refine aJ s2 ?_
 refine qc m0 m1 m2 m3 ?_
 refine aJ s3 ?_
 refine qc m0 m1 m2 m3 ?_
 refine aJ s4 ?_
 refine qc m0 m1 m2 m3 ?_
 refine aJ (uC _) ?_
 refine qc m0 m1 m2 m3 ?_
 refine hL _ _ ?_
 clear hL
 refine aZ ?_
 exact gj hMo (.same trivial)
def aar(t:Nd):List AV:=[.Z (.int .u8 t.kind),.Z (.string t.text),.Z (.int .i64 t.num),.an 4 (bC t.kids) none]
theorem YU(l:List Nd):(l.map fun t=>AV.agg (aar t))=bC l:=by
 rw[vt]
 congr 1
 funext t
 rw[ki]
 rfl
theorem IV{Hh:Type}{l:List Nd}{ds:List (DataW Hh)}(h:od (fun (t:Nd) d=>t.wt≤Rows.uptoBulk d) l ds):Nd.kx l≤Rows.uptoBulkAll ds:=by
 induction h with
 | nil=>simp[Nd.kx]
 | cons k _ ih =>
  simp only[Nd.kx,Rows.uptoBulkAll]
  omega
section
variable {Hh:Type}{enc:TypeId×Value→Hh}{w:World}
theorem Wj{n:Nat}:jX enc Tryz.prog w n 9 (fun s:ByteArray=>.Z (.string s)) (fun s d=>s.size+1≤Rows.uptoBulk d) :=
 (jX.str Tryz.underlying9).map id fun a d h=>⟨rfl,by
  subst h
  simp only[Rows.uptoBulk,Array.length_toList]
  exact Nat.le_refl _⟩
theorem Wk{n:Nat}:jX enc Tryz.prog w n 2 (fun i:Int=>.Z (.int .i64 i)) (fun i d=>1≤Rows.uptoBulk d) :=
 (jX.int Tryz.underlying2).map id fun a d h=>⟨rfl,by
  rw[h.1]
  simp only[Rows.uptoBulk]
  exact Nat.le_refl _⟩
theorem Qm{n:Nat}:jX enc Tryz.prog w n 22 (fun i:Int=>.Z (.int .u8 i)) (fun i d=>1≤Rows.uptoBulk d) :=
 (jX.int Tryz.underlying22).map id fun a d h=>⟨rfl,by
  rw[h.1]
  simp only[Rows.uptoBulk]
  exact Nat.le_refl _⟩
theorem IW{n:Nat}:jX enc Tryz.prog w n 25 (fun t:Nd=>.agg (aar t)) (fun t d=>t.wt≤Rows.uptoBulk d):=by
 induction n using Nat.strongRecOn with
 | _ n ih =>
  cases n with
  | zero=>exact jX.zero
  | succ n =>
   have acA:jX enc Tryz.prog w n 23 (fun l:List Nd=>.an 4 (bC l) none) (fun l d=>Nd.kx l≤Rows.uptoBulk d):=by
    cases n with
    | zero=>exact jX.zero
    | succ n =>
     refine (jX.slice Tryz.underlying23 (k:=4) (by kernel_rfl) (by decide) (fun _=>rfl) (ih n (by omega))).map id fun a d h=>⟨by rw[YU];rfl,?_⟩
     rcases h with ⟨rfl,rfl⟩ | ⟨ds,r,rfl,h⟩
     ·exact Nat.zero_le _
     ·have:=IV h
      simp only[Rows.uptoBulk,id]
      omega
   refine (jX.struct Tryz.underlying25 (fun a=>?_) (rH.cons (k:=1) rfl (by kernel_rfl) (fun _=>rfl) Qm (rH.cons (k:=1) rfl (by kernel_rfl) (fun _=>rfl) Wj (rH.cons (k:=1) rfl (by kernel_rfl) (fun _=>rfl) Wk (rH.cons (k:=1) rfl (by kernel_rfl) (fun _=>rfl) acA rH.nil))))).map (fun p=>(⟨p.1,p.2.1,p.2.2.1,p.2.2.2.1⟩:Nd)) fun a d h=>⟨rfl,?_⟩
   ·have:Tryz.prog.cellsOf 25=4:=by kernel_rfl
    rw[this]
    rfl
   ·obtain ⟨_,rfl,d1,_,rfl,h1,d2,_,rfl,h2,d3,_,rfl,h3,d4,_,rfl,h4,rfl⟩:=h
    simp only[Rows.uptoBulk,Rows.uptoBulkAll,Nd.wt]
    omega
end
def Nq:List Int:=(List.range 256).map fun c=>if c=9∨c=10∨c=11∨c=12∨c=13∨c=32 then 1 else 0
theorem LM:(Nq.map fun z=>Value.int .u8 z)=(List.range 256).map fun c=>Value.int .u8 (if c=9∨c=10∨c=11∨c=12∨c=13∨c=32 then 1 else 0):=by
 unfold Nq
 rw[List.map_map]
 rfl
theorem B4{P:Program}{w:World}{x:String×DataW Unit}{r:List (String×DataW Unit)}(h:laidMet P (x::r) w):laidMet P r w:=by
 obtain ⟨ps,⟨g,t,cs,fuel,p,q,h1,h2,h3,h4,h5,h6⟩,hn,hc⟩:=h
 subst h6
 exact ⟨q,h5,(List.nodup_append.1 hn).2.1,fun b off hm=>hc b off (List.mem_append_right _ hm)⟩
theorem B5 {l : List (String × DataW Unit)} {a : String × DataW Unit} {w : World} (hl : l = [a, ("strings.asciiSpace", Lib.tabData .u8 Nq)]) (h : laidMet Tryz.prog l w) : yh fL [] w := by
 subst hl
 have hT := Lib.tabIs_of_head (t := 264) (e := 5) (n := 256) (by kernel_rfl : Tryz.prog.globalNamed "strings.asciiSpace" = some 0) (by kernel_rfl) (by kernel_rfl) (by kernel_rfl) (by kernel_rfl) (by kernel_rfl) (B4 h)
 intro p hp
 refine ⟨?_,qy⟩
 rcases List.mem_cons.1 hp with rfl | hp
 ·unfold Lib.TabIs World.var? at hT
  rw [show Tryz.prog.globalNamed "strings.asciiSpace" = some 0 by kernel_rfl] at hT
  simp only[Option.bind_some] at hT
  split at hT
  ·rename_i cs e fr hh
   refine ⟨e,fr,by rw[hh,Option.some.inj hT,LM]⟩
  ·cases hT
 ·cases hp
end Go.Proofs.YtnoplgongieehaaGreatDoor
