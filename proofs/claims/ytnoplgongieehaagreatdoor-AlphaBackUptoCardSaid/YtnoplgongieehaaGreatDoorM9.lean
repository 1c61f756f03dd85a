import Derived.Test.YtnoplgongieehaaGreatDoorM5
import Derived.Test.YtnoplgongieehaaGreatDoorM6
import Derived.Test.YtnoplgongieehaaGreatDoorM7
import Derived.Test.YtnoplgongieehaaGreatDoorM8
import Derived.Test.YtnoplgongieehaaGreatDoorProg
import Derived.Test.YtnoplgongieehaaGreatDoorM3
import Derived.KernelRfl
import Derived.Test.YtnoplgongieehaaGreatDoorM4
import Derived.Test.YtnoplgongieehaaGreatDoorRows
import Derived.Lib.LaidTab
namespace Go.Proofs.YtnoplgongieehaaGreatDoor
open Go.RowKit
set_option maxRecDepth 100000
set_option linter.unusedVariables false
set_option linter.unusedSimpArgs false
theorem xv(n:Nd)(hw:n.wt≤100000)(hs:n.size≤10000)(x:ByteArray)(path:List Int)(hp:path.length≤1000000){H:Y}{v w:Z}(hv:View H v (fI n))(n9:View H w (.ak 1 (aZ path) none)):D Tryz.prog 14 [v,.sc (.string x),w] H (.ret (.aK [dW (bn n x path).1 H.length,.sc (.int .i64 (bn n x path).2)])) (dD (bn n x path).1 H.length++H):=by
 have h1:=P9 n hw hs x path hp none
 rw[ku] at h1
 obtain ⟨t,ht⟩:∃t,(bn n x path).1=t:=⟨_,rfl⟩
 obtain ⟨e,he⟩:∃e,(bn n x path).2=e:=⟨_,rfl⟩
 rw[ht,he] at h1 ⊢
 have hop:(Z.aK [dW t 0,.sc (.int .i64 e)]).op=true:=by
  have:=(Fa 0 t 0).2.2.1
  simp only[Z.op,Z.mW,this,Bool.and_self]
 have h2:=HU (.cons hv (.cons .sc (.cons n9 .nil))) hop (Vb (Fa 0 t 0).2.2.2) h1
 have e1:(Z.aK [dW t 0,.sc (.int .i64 e)]).up H.length = .aK [dW t H.length,.sc (.int .i64 e)]:=by
  simp only[Z.up,Z.jT,(Fa H.length t 0).1]
  rfl
 have e2:Y.up H.length (dD t 0)=dD t H.length:=(Fa H.length t 0).2.1
 rw[e1,e2] at h2
 exact h2
set_option maxHeartbeats 0 in
theorem L4(H:Y):D Tryz.prog 8 [] H (.ret (.sc (.bool true))) H:=by
 have q1:=fun K=>Qf K
 have q2:=fun K=>Qg K
 have q3:=fun K=>L3 K
 have q4:=fun K=>Qi K
 have q5:=fun K=>Qj K
 have b1:=nj LV
 have b2:=nj LW
 have b3:=nj IW
 have b4:=nj LX
 have b5:=nj LY
 have a1:=Vw
 have a2:=Vx
 have r1:=LZ
 have r2:=L0
 have r3:=L1
 have r4:=of_decide_eq_true Vy
 obtain ⟨t1,ht1⟩:∃t,pW=t:=⟨_,rfl⟩
 obtain ⟨t2,Pv⟩:∃t,Bx=t:=⟨_,rfl⟩
 obtain ⟨t3,ht3⟩:∃t,vL=t:=⟨_,rfl⟩
 obtain ⟨t4,ht4⟩:∃t,Bz=t:=⟨_,rfl⟩
 obtain ⟨t5,ht5⟩:∃t,BA=t:=⟨_,rfl⟩
 rw[ht1] at q1 b1 a1 a2 r1 r2 r4
 rw[Pv] at q2 b2 a1
 rw[ht3] at q3 b3 r3
 rw[ht4] at q4 b4 a2
 rw[ht5] at q5 b5 r2
 clear ht1 Pv ht3 ht4 ht5
 unfold LQ at q1
 unfold LR at q2
 unfold Fe at q3
 unfold LS at q4
 unfold LU at q5
 have hp:∀F:Y,View F (.ak 1 [.sc (.int .i64 0),.sc (.int .i64 0),.sc (.int .i64 0)] (some [])) (.ak 1 (aZ [0,0,0]) none):=fun F=>Ba (l:=[0,0,0])
 have k1:=fun F v hv=>xv t1 (by omega) (by omega) ⟨#[98]⟩ [0,0,0] (by simp) (H:=F) (v:=v) hv (hp F)
 have k3:=fun F v hv=>xv t3 (by omega) (by omega) ⟨#[98]⟩ [0,0,0] (by simp) (H:=F) (v:=v) hv (hp F)
 rw[r1] at k1
 rw[r3] at k3
 obtain ⟨u1,K1⟩:∃u,(bn t1 ⟨#[98]⟩ [0,0,0]).1=u:=⟨_,rfl⟩
 obtain ⟨u3,hu3⟩:∃u,(bn t3 ⟨#[98]⟩ [0,0,0]).1=u:=⟨_,rfl⟩
 rw[K1] at k1 r2 r4
 rw[hu3] at k3
 clear K1 hu3
 simp only[cM u1] at k1
 simp only[cM u3] at k3
 rw[fS] at q1 q2 q3 q4 q5
 refine aF (Nat.le_refl _) (dk8 (aE ?_))
 simp only[ic8,ux]
 refine ae fun L hL=>?_
 refine ax ?_
 refine hL _ _ ?_
 clear hL
 refine ae fun L hL=>?_
 refine ax ?_
 refine af (q1 _) ?_
 refine ax ?_
 refine af (q2 _) ?_
 refine ax ?_
 refine hL _ _ ?_
 clear hL
 refine ae fun L hL=>?_
 refine ax ?_
 have v1:∀F:Y,View F (.agg [.sc (.int .u8 t1.kind),.sc (.string t1.text),.sc (.int .i64 t1.num),.ak 4 (bM t1.kids) none]) (fI t1):=fun F=>by have:=cZ t1 none F;rw[aH] at this;exact this
 have v2:∀F:Y,View F (.agg [.sc (.int .u8 t2.kind),.sc (.string t2.text),.sc (.int .i64 t2.num),.ak 4 (bM t2.kids) none]) (fI t2):=fun F=>by have:=cZ t2 none F;rw[aH] at this;exact this
 have v3:∀F:Y,View F (.agg [.sc (.int .u8 t3.kind),.sc (.string t3.text),.sc (.int .i64 t3.num),.ak 4 (bM t3.kids) none]) (fI t3):=fun F=>by have:=cZ t3 none F;rw[aH] at this;exact this
 have v4:∀F:Y,View F (.agg [.sc (.int .u8 t4.kind),.sc (.string t4.text),.sc (.int .i64 t4.num),.ak 4 (bM t4.kids) none]) (fI t4):=fun F=>by have:=cZ t4 none F;rw[aH] at this;exact this
 have v5:∀F:Y,View F (.agg [.sc (.int .u8 t5.kind),.sc (.string t5.text),.sc (.int .i64 t5.num),.ak 4 (bM t5.kids) none]) (fI t5):=fun F=>by have:=cZ t5 none F;rw[aH] at this;exact this
 refine af (k1 _ _ (v1 _)) ?_
 have hG0:=fp (t:=u1) (H:=some ⟨4,[.agg [.sc (.int .u8 t2.kind),.sc (.string t2.text),.sc (.int .i64 t2.num),.ak 4 (bM t2.kids) none]],true,25⟩::some ⟨4,[.agg [.sc (.int .u8 t1.kind),.sc (.string t1.text),.sc (.int .i64 t1.num),.ak 4 (bM t1.kids) none]],true,25⟩::H)
 have VM:∀i,i<H.length+2→Y.find (dD u1 (H.length+2)++(some ⟨4,[.agg [.sc (.int .u8 t2.kind),.sc (.string t2.text),.sc (.int .i64 t2.num),.ak 4 (bM t2.kids) none]],true,25⟩::some ⟨4,[.agg [.sc (.int .u8 t1.kind),.sc (.string t1.text),.sc (.int .i64 t1.num),.ak 4 (bM t1.kids) none]],true,25⟩::H)) i=Y.find (some ⟨4,[.agg [.sc (.int .u8 t2.kind),.sc (.string t2.text),.sc (.int .i64 t2.num),.ak 4 (bM t2.kids) none]],true,25⟩::some ⟨4,[.agg [.sc (.int .u8 t1.kind),.sc (.string t1.text),.sc (.int .i64 t1.num),.ak 4 (bM t1.kids) none]],true,25⟩::H) i:=fun i hi=>Y.bx (by simp only[List.length_cons];omega)
 have aej:(dD u1 (H.length+2)++(some ⟨4,[.agg [.sc (.int .u8 t2.kind),.sc (.string t2.text),.sc (.int .i64 t2.num),.ak 4 (bM t2.kids) none]],true,25⟩::some ⟨4,[.agg [.sc (.int .u8 t1.kind),.sc (.string t1.text),.sc (.int .i64 t1.num),.ak 4 (bM t1.kids) none]],true,25⟩::H)).length=u1.size+(H.length+2):=by rw[List.length_append,fh];simp
 simp only[List.length_cons,Nat.add_assoc,Nat.reduceAdd] at hG0 ⊢
 generalize dD u1 (H.length+2)++(some ⟨4,[.agg [.sc (.int .u8 t2.kind),.sc (.string t2.text),.sc (.int .i64 t2.num),.ak 4 (bM t2.kids) none]],true,25⟩::some ⟨4,[.agg [.sc (.int .u8 t1.kind),.sc (.string t1.text),.sc (.int .i64 t1.num),.ak 4 (bM t1.kids) none]],true,25⟩::H)=G at *
 have g1:Y.find G H.length=some ⟨4,[.agg [.sc (.int .u8 t1.kind),.sc (.string t1.text),.sc (.int .i64 t1.num),.ak 4 (bM t1.kids) none]],true,25⟩:=by rw[VM _ (by omega),ai (by simp),aN rfl]
 have g2:Y.find G (H.length+1)=some ⟨4,[.agg [.sc (.int .u8 t2.kind),.sc (.string t2.text),.sc (.int .i64 t2.num),.ak 4 (bM t2.kids) none]],true,25⟩:=by rw[VM _ (by omega),aN (by simp)]
 have hGo:∀i,i<H.length→Y.find G i=Y.find H i:=fun i hi=>by rw[VM _ (by omega),ai (by simp;omega),ai hi]
 refine ax ?_
 refine hL _ _ ?_
 clear hL
 refine ae fun L hL=>?_
 refine ax ?_
 refine af (q3 _) ?_
 refine ax ?_
 refine af (k3 _ _ (v3 _)) ?_
 have I3:∀i,i<G.length+1→Y.find (dD u3 (G.length+1)++(some ⟨4,[.agg [.sc (.int .u8 u1.kind),.sc (.string u1.text),.sc (.int .i64 u1.num),aW 4 (eo u1.kids (H.length+3)) (H.length+2)]],true,25⟩::G)) i=Y.find (some ⟨4,[.agg [.sc (.int .u8 u1.kind),.sc (.string u1.text),.sc (.int .i64 u1.num),aW 4 (eo u1.kids (H.length+3)) (H.length+2)]],true,25⟩::G) i:=fun i hi=>Y.bx (by simp only[List.length_cons];omega)
 have aek:(dD u3 (G.length+1)++(some ⟨4,[.agg [.sc (.int .u8 u1.kind),.sc (.string u1.text),.sc (.int .i64 u1.num),aW 4 (eo u1.kids (H.length+3)) (H.length+2)]],true,25⟩::G)).length=u3.size+(G.length+1):=by rw[List.length_append,fh];simp
 simp only[List.length_cons,Nat.add_assoc,Nat.reduceAdd]
 generalize dD u3 (G.length+1)++(some ⟨4,[.agg [.sc (.int .u8 u1.kind),.sc (.string u1.text),.sc (.int .i64 u1.num),aW 4 (eo u1.kids (H.length+3)) (H.length+2)]],true,25⟩::G)=K at *
 have gl:=Y.am g2
 have w1:Y.find K H.length=_:=(I3 _ (by omega)).trans ((ai (by omega)).trans g1)
 have w2:Y.find K (H.length+1)=_:=(I3 _ (by omega)).trans ((ai (by omega)).trans g2)
 have w3:Y.find K G.length=_:=(I3 _ (by omega)).trans (aN rfl)
 have hKo:∀i,i<H.length→Y.find K i=Y.find H i:=fun i hi=>(I3 i (by omega)).trans ((ai (by omega)).trans (hGo i hi))
 have PL:dx K u1 (H.length+2):=hG0.of fun i h1 h2=>(I3 i (by omega)).trans (ai (by omega))
 have fD:(aW 4 (eo u1.kids (H.length+3)) (H.length+2)).cells=[aW 4 (eo u1.kids (H.length+3)) (H.length+2)]:=nC
 refine ax ?_
 refine hL _ _ ?_
 clear hL
 refine ae fun L hL=>?_
 refine sJ @w1 @w2 w3 fD ?_
 have m1:=fun F=>oU t1 t2 (by omega) (by omega) (by omega) (by omega) (H:=F) (v1 F) (v2 F)
 have m2:=fun F=>oU t1 t4 (by omega) (by omega) (by omega) (by omega) (H:=F) (v1 F) (v4 F)
 rw[a1] at m1
 rw[a2] at m2
 have m3:∀F:Y,dx F u1 (H.length+2)→D Tryz.prog 16 [.agg [.sc (.int .u8 u1.kind),.sc (.string u1.text),.sc (.int .i64 u1.num),aW 4 (eo u1.kids (H.length+3)) (H.length+2)],.agg [.sc (.int .u8 t5.kind),.sc (.string t5.text),.sc (.int .i64 t5.num),.ak 4 (bM t5.kids) none]] F (.ret (.sc (.bool true))) F:=fun F hF=>by
  have h1:=sw u1 hF
  rw[cM] at h1
  have h2:=rN u1 (by omega) t5 none none []
  rw[ku,ku,r2] at h2
  exact yS (.cons h1 (.cons (v5 F) .nil)) .sc h2
 refine aP (m1 _) ?_
 refine sJ @w1 @w2 w3 fD ?_
 refine aP (q4 _) ?_
 refine sJ @w1 @w2 w3 fD ?_
 refine aP (m2 _) ?_
 refine sJ @w1 @w2 w3 fD ?_
 refine aP (q5 _) ?_
 refine sJ @w1 @w2 w3 fD ?_
 refine aP (m3 _ (PL.of fun i h1 h2=>ai (by omega))) ?_
 refine sJ @w1 @w2 w3 fD ?_
 refine hL _ _ ?_
 clear hL
 refine ax ?_
 exact pO (fun i hi=>(ai (by have:=Y.am w3;omega)).trans (hKo i hi)) (.same trivial)
set_option maxRecDepth 1000000
def ZW:IC:=(.seq (.ops [iP 4 (.mv kF)]) (.seq (.seq (.ops [iM 6 0,iP 7 (xL 6),iM 8 1,iP 9 (xL 8),iP 10 (xB .neq 7 9)]) (.cond (.t 10) (.seq (.ops [iP 4 (.mv kF)]) .ret) .skip)) (.seq (.seq (.ops [iP 5 (xI 0)]) (.block 0 (.loop (.seq (.seq (.ops [iM 11 5,iM 12 0,iP 13 (xL 12),iP 14 (xB .lss 11 13)]) (.cond (.t 14) .skip (.exit 0))) (.seq (.block 1 (.seq (.dL [iM 17 0,iM 18 5,iP 19 (xA 1 17 18),iH 20 (yD 1 19),iM 21 1,iM 22 5,iP 23 (xA 1 21 22),iH 24 (yD 1 23),iH 25 (yC 26 20 24),iP 26 (xN 25)] [[],[],[0,1],[2,0,1],[],[],[4,5],[6,4,5],[3,2,0,1,7,6,4,5],[8,3,2,0,1,7,6,4,5]]) (.cond (.t 26) (.seq (.ops [iP 4 (.mv kF)]) .ret) .skip))) (.ops [iM 15 5,iP 16 (.bP .add (.t 15) (kI 1)),iM 5 16])))))) (.seq (.ops [iP 4 (.mv kT)]) .ret))))
theorem adV:Dk Tryz.prog 27 ZW [(.t 4)] 27:=bj (fn:=Tryz.f27) Tryz.func27 (by kernel_rfl) (by kernel_rfl) (by kernel_rfl)
def ZX:IC:=(.seq (.ops [iP 4 (xI 0)]) (.seq (.seq (.ops [iM 5 1,iP 6 (.bP .lss (.t 5) (kI 1))]) (.cond (.t 6) (.seq (.ops [iP 4 (xI 0)]) .ret) .skip)) (.seq (.ops [iM 7 0,iM 8 1,iP 9 (xB .rem 7 8),iM 0 9]) (.seq (.seq (.ops [iM 10 0,iP 11 (.bP .lss (.t 10) (kI 0))]) (.cond (.t 11) (.ops [iM 12 0,iM 13 1,iP 14 (xB .add 12 13),iM 0 14]) .skip)) (.seq (.ops [iM 15 0,iM 4 15]) .ret)))))
theorem adW:Dk Tryz.prog 24 ZX [(.t 4)] 16:=bj (fn:=Tryz.f24) Tryz.func24 (by kernel_rfl) (by kernel_rfl) (by kernel_rfl)
set_option maxRecDepth 100000
def lV(x n:Int):Int:=if n<1 then 0 else if x.tmod n<0 then x.tmod n+n else x.tmod n
theorem BI{x n:Int}(h:1≤n):0≤lV x n∧lV x n<n:=by
 unfold lV
 rw[if_neg (by omega)]
 have h1:=Int.tmod_lt_of_pos x (show 0<n by omega)
 have h2 : -n<x.tmod n:=by
  have:=Int.tmod_lt_of_pos (-x) (show 0<n by omega)
  rw[Int.neg_tmod] at this
  omega
 split<;>omega
theorem I4(x n:Int)(hn:1≤n∧n≤1000000000)(H:Y):D Tryz.prog 24 [.sc (.int .i64 x),.sc (.int .i64 n)] H (.ret (.sc (.int .i64 (lV x n)))) H:=by
 refine aF (Nat.le_refl _) (adW (aE ?_))
 have c1:¬n<1:=by omega
 have c2:¬n=0:=by omega
 have h1:=Int.tmod_lt_of_pos x (show 0<n by omega)
 have h2 : -n<x.tmod n:=by
  have:=Int.tmod_lt_of_pos (-x) (show 0<n by omega)
  rw[Int.neg_tmod] at this
  omega
 have hw:IntKind.i64.wrap (x.tmod n)=x.tmod n:=wrap_i64 (by omega) (by omega)
 simp -implicitDefEqProofs (maxSteps:=99999999) (disch:=omega) only[vu,ZX,c1,c2,hw,va,vg,vs,vh,vk,simprocAttr]
 by_cases c3:x.tmod n<0
 ·have hp:lV x n=x.tmod n+n:=by unfold lV;rw[if_neg c1,if_pos c3]
  rw[hp]
  refine zE1 c3 ?_
  exact di .refl (.same trivial)
 ·have hp:lV x n=x.tmod n:=by unfold lV;rw[if_neg c1,if_neg c3]
  rw[hp]
  refine zE1 c3 ?_
  exact di .refl (.same trivial)
theorem L5(n:Nd)(hw:n.wt≤100000)(hs:n.size≤10000)(x:ByteArray)(path:List Int)(hp:path.length≤1000000){H:Y}{v w:Z}(hv:View H v (fI n))(n9:View H w (.ak 1 (aZ path) none)):D Tryz.prog 14 [v,.sc (.string x),w] H (.ret (.aK [fI (bn n x path).1,.sc (.int .i64 (bn n x path).2)])) H :=
 aF (Nat.le_refl _) ((xv n hw hs x path hp hv n9).dk.mono fun e H1 _ ⟨e1,e2⟩=>by
  subst e1 e2
  exact pO (fun i hi=>Y.bx hi) (.aK (.cons (Ut _ (Nat.le_refl _) fp) (.cons (.same trivial) .nil))))
abbrev vP(l:List Nd):Nd:=⟨0,⟨#[]⟩,0,l⟩
theorem L6{H F:Y}{l:List Nd}{xs:List Z}{i1:Nat}{is:List Nat}(h1:xs≠[]→Y.find F i1=cA 4 25 xs)(hO:jv F l xs is)(hn:(i1::is).Nodup)(hge:∀i∈i1::is,H.length≤i)(ho:∀i,i<H.length→Y.find F i=Y.find H i) :
  eJ H (.ret (aW 4 xs i1)) F (.ret (aW 4 (eo l (H.length+1)) H.length)) (dD (vP l) H.length++H):=by
 have hN:∀(k i:Nat),(i1::is)[k]? = some i→dj H.length (i1::is) i=some (H.length+k):=fun k i hi=>pJ hn hi (hge i (List.mem_of_getElem? hi))
 have hW:OW F (vP l) (.agg [.sc (.int .u8 0),.sc (.string ⟨#[]⟩),.sc (.int .i64 0),aW 4 xs i1]) (i1::is):=.mk h1 hO
 obtain ⟨-,g2⟩:=LI (K:=F) (vP l) hW hN
 rw[xb]
 refine AY _ (i1::is) (by rw[OW.E8 _ hW];simp[Ch,eD]) hn hge ho (fun i k s hb hs=>?_) ?_
 ·simp only[Ch,List.getElem?_map,Option.map_eq_some_iff] at hb
  obtain ⟨ys,hy,hk⟩:=hb
  obtain ⟨hne,rfl⟩:=py hk
  obtain ⟨i',xs,e1,e2,e3⟩:=g2 i ys hy
  rw[hs] at e1
  cases e1
  have uD:xs≠[]:=fun e=>hne (by have:=e3.len;rw[e] at this;exact List.length_eq_zero_iff.1 (by simpa using this))
  have e4:=e2 uD
  rw[bC uD] at e4
  exact ⟨_,e4,rfl,rfl,fun h=>h,e3⟩
 ·rw[xc (show (eo l (H.length+1)).length=xs.length by rw[dA,hO.len])]
  exact GQ fun _=>hN 0 i1 rfl
theorem Qk{H F:Y}{T:Nd}{x:Z}{is:List Nat}(hO:OW F T x is)(hn:is.Nodup)(hge:∀i∈is,H.length≤i)(ho:∀i,i<H.length→Y.find F i=Y.find H i):eJ H (.ret x) F (.ret (dW T H.length)) (dD T H.length++H) :=
 pV (pre:=[]) (by simp) hO (by simpa using hn) (by simpa using hge) (fun id k hid hk=>.inl ⟨hk,by rw[ho id hid];exact hk⟩) (fun i s k hs=>by simp at hs)
def BJ(l:List Nd):Prop:=∀(rl:Option (List Z))(H:Y),Nd.aw l≤1000000→D Tryz.prog 61 [.ak 4 (bM l) rl] H (.ret (aW 4 (eo l (H.length+1)) H.length)) (dD (vP l) H.length++H)
set_option maxHeartbeats 0 in
theorem DU(t:Nd)(h:BJ t.kids)(hz:t.size≤1000000)(ro:Option (List Z))(H:Y):D Tryz.prog 28 [eG t ro] H (.ret (dW t H.length)) (dD t H.length++H):=by
 have Ee:=Nd.size_eq t
 have hk:=fun G=>h ro G (by omega)
 rw[aH]
 refine aF (by simp) (adh (aE ?_))
 simp only[Zh,ux]
 refine ae fun L hL=>?_
 refine ax ?_
 refine hL _ _ ?_
 clear hL
 refine ae fun L hL=>?_
 refine ax ?_
 obtain ⟨F,hF⟩:∃F:Y,F=some ⟨4,[.agg [.sc (.int .u8 0),.sc (.string ⟨#[]⟩),.sc (.int .i64 0),.ak 0 [] (some [])]],true,25⟩::some ⟨4,[.agg [.sc (.int .u8 t.kind),.sc (.string t.text),.sc (.int .i64 t.num),.ak 4 (bM t.kids) ro]],true,25⟩::H:=⟨_,rfl⟩
 have f0:Y.find F H.length=some ⟨4,[.agg [.sc (.int .u8 t.kind),.sc (.string t.text),.sc (.int .i64 t.num),.ak 4 (bM t.kids) ro]],true,25⟩:=by rw[hF,ai (by simp),aN rfl]
 have f1:Y.find F (H.length+1)=some ⟨4,[.agg [.sc (.int .u8 0),.sc (.string ⟨#[]⟩),.sc (.int .i64 0),.ak 0 [] (some [])]],true,25⟩:=by rw[hF];exact aN (by simp)
 have fo:∀i,i<H.length→Y.find F i=Y.find H i:=fun i hi=>by rw[hF,ai (by simp;omega),ai hi]
 have fl:F.length=H.length+2:=by rw[hF];rfl
 rw[←hF]
 clear hF
 refine af (hk _) ?_
 have hLi:dx (dD (vP t.kids) F.length++F) t F.length:=by
  have:=fp (t:=vP t.kids) (H:=F)
  cases t
  exact this
 have gF:∀i,i<F.length→Y.find (dD (vP t.kids) F.length++F) i=Y.find F i:=fun i hi=>Y.bx hi
 have gl:(dD (vP t.kids) F.length++F).length=t.size+F.length:=by rw[List.length_append,fh];simp[Nd.size];omega
 generalize dD (vP t.kids) F.length++F=G at *
 have g0:=(gF _ (by omega)).trans f0
 have g1:=(gF _ (by omega)).trans f1
 have fc:∀ys a,(aW 4 ys a).cells=[aW 4 ys a]:=fun _ _=>nC
 refine nY g0 g1 fc ?_
 refine hL _ _ ?_
 clear hL
 refine ae fun L hL=>?_
 refine nY g0 g1 fc ?_
 refine hL _ _ ?_
 clear hL
 refine nY g0 g1 fc ?_
 rw[←cM]
 refine Qk (Bn t (hLi.of fun i h1 h2=>?_)) List.nodup_range' (fun i hi=>?_) fun i hi=>?_
 ·rw[Y.ah (by omega),Y.ah (by omega)]
 ·have:=List.mem_range'_1.1 hi
  omega
 ·rw[Y.ah (by omega),Y.ah (by omega),gF i (by omega),fo i hi]
set_option maxHeartbeats 0 in
theorem BK(l:List Nd)(ih:∀t∈l,BJ t.kids):BJ l:=by
 intro rl H hz
 have hlen:=Nd.kR l
 have eI:=aL l
 refine aF (by simp) (adi (aE ?_))
 simp only[Zi,ux]
 refine ae fun L hL=>?_
 refine tF ?_
 refine hL _ _ ?_
 clear hL
 refine ae fun L hL=>?_
 refine tF ?_
 refine hL _ _ ?_
 clear hL
 refine ae fun L hL=>?_
 refine ae fun L hL=>?_
 refine tF ?_
 refine hL _ _ ?_
 clear hL
 refine cO (fun ts F=>∃(k i1:Nat)(xs:List Z)(is:List Nat),(k≤l.length∧jv F (l.take k) xs is∧is.Nodup∧(∀i∈is,H.length≤i∧i≠i1∧i<F.length)∧H.length≤i1∧(xs≠[]→Y.find F i1=cA 4 25 xs))∧(H.length≤F.length∧∀i,i<H.length→Y.find F i=Y.find H i)∧Fr [some (.ak 4 (bM l) rl),none,none,some (aW 4 xs i1),some (.sc (.int .i64 k)),none,none,none,none,none,none,none,none,none,none,none,none,none,none,none,none,none] ts) (fun ts _=>l.length - (bL (ts.getD 4 .top)).toNat) ?_ ?_
 ·exact ⟨0,H.length,[],[],⟨Nat.zero_le _,by simp only[List.take_zero];exact .nil,by simp,by simp,Nat.le_refl _,fun e=>absurd rfl e⟩,⟨Nat.le_refl _,fun _ _=>rfl⟩,by simp[Fr,aW]⟩
 rintro ts F ⟨k,i1,xs,is,⟨hk,hO,hn,hge,Z3,hrow⟩,⟨T5,hF⟩,cv⟩ L2 dY
 obtain ⟨js,rfl⟩:=cv.opened
 clear cv
 by_cases hd:k<l.length
 ·have d1:(k:Int)<l.length:=by omega
  have hg:=eK hd
  have fM:=eF hd
  have hsz:=Nd.kr fM
  have Ql:=DU (au l k) (ih _ fM) (by omega) none F
  rw[aH] at Ql
  simp only[cM] at Ql
  refine EL d1 hg eI ?_
  refine ⟨by omega,af Ql ?_⟩
  have hLi:=fp (t:=au l k) (H:=F)
  have gF:∀i,i<F.length→Y.find (dD (au l k) F.length++F) i=Y.find F i:=fun i hi=>Y.bx hi
  have gl:(dD (au l k) F.length++F).length=(au l k).size+F.length:=by rw[List.length_append,fh]
  generalize dD (au l k) F.length++F=G at *
  refine zF0 ?_
  obtain ⟨x,hx⟩:∃x,Z.agg [.sc (.int .u8 (au l k).kind),.sc (.string (au l k).text),.sc (.int .i64 (au l k).num),aW 4 (eo (au l k).kids (F.length+1)) F.length]=x:=⟨_,rfl⟩
  have nN:x=dW (au l k) F.length:=by rw[cM,hx]
  rw[hx]
  obtain ⟨G2,YC⟩:∃G2:Y,G2=some ⟨4,[x],true,25⟩::G:=⟨_,rfl⟩
  have h2:∀i,i<G.length→Y.find G2 i=Y.find G i:=fun i hi=>by rw[YC,ai hi]
  have h2l:G2.length=G.length+1:=by rw[YC];rfl
  rw[←YC]
  clear YC
  have Bv:xs≠[]→i1<F.length:=fun e=>by
   have:=hrow e
   rw[bC e] at this
   exact Y.am this
  obtain ⟨i5,F5,u1,u2,u3,u4,u5,u6⟩:=tU (H:=G2) (k:=4) (ty:=25) (xs:=xs) (ys:=[x]) (id:=i1) (fun e=>by rw[h2 _ (by have:=Bv e;omega),gF _ (Bv e)];exact hrow e) (by simp;have:=hO.len;rw[List.length_take] at this;omega)
  obtain ⟨Vp,u4b⟩:=u4 (by simp)
  rw[u2,u3]
  have o5:∀i,i<F.length→i≠i1→Y.find F5 i=Y.find F i:=fun i hi hne=>by rw[u6 i (by omega) fun _=>hne,h2 i (by omega),gF i hi]
  have l5:dx F5 (au l k) F.length:=hLi.of fun i h1 wg=>by rw[u6 i (by omega) fun e=>by have:=Bv e;omega,h2 i (by omega)]
  refine ⟨u1,dY _ _ ⟨k+1,i5,xs++[x],is++(List.range' F.length (au l k).size++[]),⟨by omega,?_,?_,fun i hi=>?_,by omega,fun _=>Vp⟩,⟨by omega,fun i hi=>by rw[o5 i (by omega) (by omega),hF i hi]⟩,by simp[Fr]⟩ (by simp[bL,mk];omega)⟩
  ·rw[←List.take_append_getElem hd,←dM hd,nN]
   exact (hO.xm fun i hi ys e h=>by rw[o5 i (hge i hi).2.2 (hge i hi).2.1];exact h).append (.cons (Bn _ l5) .nil)
  ·rw[List.append_nil]
   exact List.nodup_append.2 ⟨hn,List.nodup_range',fun a ha b hb=>by
    have:=(hge a ha).2.2
    have:=(List.mem_range'_1.1 hb).1
    omega⟩
  ·rw[List.append_nil] at hi
   rcases List.mem_append.1 hi with hi | hi
   ·have:=hge i hi
    omega
   ·have:=List.mem_range'_1.1 hi
    omega
 have d1:¬(k:Int)<l.length:=by omega
 rw[List.take_of_length_le (by omega)] at hO
 clear dY
 refine KF d1 eI ?_
 refine hL _ _ ?_
 clear hL
 refine ae fun L hL=>?_
 refine tF ?_
 refine hL _ _ ?_
 clear hL
 refine tF ?_
 exact L6 hrow hO (List.nodup_cons.2 ⟨fun h=>(hge _ h).2.1 rfl,hn⟩) (fun i hi=>by
  rcases List.mem_cons.1 hi with rfl | hi
  ·exact Z3
  ·exact (hge i hi).1) hF
theorem I5(l:List Nd):BJ l:=by
 have key:∀n:Nat,∀l:List Nd,Nd.aw l≤n→BJ l:=by
  intro n
  induction n with
  | zero =>
   intro l h
   refine BK l fun t ht=>?_
   have:=Nd.kr ht
   have:=t.size_pos
   omega
  | succ n ih =>
   intro l h
   refine BK l fun t ht=>ih _ ?_
   have:=Nd.kr ht
   have:=Nd.size_eq t
   omega
 exact key _ l (Nat.le_refl _)
theorem VN(t:Nd)(hz:t.size≤1000000)(ro:Option (List Z))(H:Y):D Tryz.prog 28 [eG t ro] H (.ret (dW t H.length)) (dD t H.length++H):=DU t (I5 _) hz ro H
set_option maxRecDepth 1000000
set_option maxRecDepth 100000
def BL(F:Y)(lo:Nat)(p:List Int)(v:Z):Prop:=(p=[]∧v = .ak 1 [] (some []))∨∃id,lo≤id∧v = .aB 1 id 0 p.length none∧Y.find F id=some ⟨1,aZ p,false,3⟩
theorem BL.keep{F G:Y}{lo:Nat}{p:List Int}{v:Z}(h:BL F lo p v)(k:∀id,Y.find F id=some ⟨1,aZ p,false,3⟩→Y.find G id=some ⟨1,aZ p,false,3⟩):BL G lo p v:=by
 rcases h with h | ⟨id,h1,h2,h3⟩
 ·exact .inl h
 ·exact .inr ⟨id,h1,h2,k id h3⟩
inductive mj(F:Y)(lo:Nat):List Z→List (List Int)→Prop where
 | nil:mj F lo [] []
 | snoc {vs:List Z}{ps:List (List Int)}{v:Z}{p:List Int}:mj F lo vs ps→BL F lo p v→mj F lo (vs++[v]) (ps++[p])
theorem mj.keep{F G:Y}{lo:Nat}{vs:List Z}{ps:List (List Int)}(h:mj F lo vs ps)(k:∀id p,Y.find F id=some ⟨1,aZ p,false,3⟩→Y.find G id=some ⟨1,aZ p,false,3⟩):mj G lo vs ps:=by
 induction h with
 | nil=>exact .nil
 | snoc h hv ih=>exact .snoc ih (hv.keep fun id h=>k id _ h)
theorem mj.len{F:Y}{lo:Nat}{vs:List Z}{ps:List (List Int)}(h:mj F lo vs ps):vs.length=ps.length:=by
 induction h with
 | nil=>rfl
 | snoc h hv ih=>simp[ih]
inductive rU(F:Y)(lo hi:Nat):List Z→List gv→Prop where
 | nil:rU F lo hi [] []
 | snoc {vs:List Z}{bs:List gv}{pv:Z}{us:List Z}{p:List Int}{s:ByteArray}{ps:List (List Int)}{iu:Nat}:rU F lo hi vs bs→BL F lo p pv→mj F lo us ps→(us≠[]→Y.find F iu=cA 1 30 us∧lo≤iu∧iu<hi)→rU F lo hi (vs++[.agg [pv,.sc (.string s),aW 1 us iu]]) (bs++[(p,s,ps)])
theorem rU.keep{F G:Y}{lo hi hi':Nat}{vs:List Z}{bs:List gv}(h:rU F lo hi vs bs)(hh:hi≤hi')(k:∀id b,Y.find F id=some b→b.k=1→b.exact=false→lo≤id→id<hi→Y.find G id=some b)(kp:∀id p,Y.find F id=some ⟨1,aZ p,false,3⟩→Y.find G id=some ⟨1,aZ p,false,3⟩):rU G lo hi' vs bs:=by
 induction h with
 | nil=>exact .nil
 | snoc h h1 h2 h3 ih =>
  refine .snoc ih (h1.keep fun id h=>kp id _ h) (h2.keep kp) fun e=>?_
  obtain ⟨g1,g2,g3⟩:=h3 e
  rw[bC e] at g1 ⊢
  exact ⟨k _ _ g1 rfl rfl g2 g3,g2,by omega⟩
theorem rU.len{F:Y}{lo hi:Nat}{vs:List Z}{bs:List gv}(h:rU F lo hi vs bs):vs.length=bs.length:=by
 induction h with
 | nil=>rfl
 | snoc h _ _ _ ih=>simp[ih]
set_option maxRecDepth 1000000
set_option maxRecDepth 100000
set_option maxHeartbeats 0 in
theorem Fp(l m:List (List Int))(ro lz:Option (List Z))(hz:l.length≤1000000)(hp:∀k,k<l.length→(c9 l k).length≤1000000)(H:Y):D Tryz.prog 27 [.ak 1 (aJ l) ro,.ak 1 (aJ m) lz] H (.ret (.sc (.bool (decide (l=m))))) H:=by
 refine aF (Nat.le_refl _) (adV (aE ?_))
 simp only[ZW,ux]
 refine ae fun L hL=>?_
 refine ax ?_
 refine hL _ _ ?_
 clear hL
 refine ae fun L hL=>?_
 by_cases c1:l.length=m.length
 rotate_left
 ·have c2:¬(l.length:Int)=m.length:=by omega
  refine fE @cE c2 ?_
  exact az .refl (by simp;intro e;exact c1 (by rw[e]))
 have c2:(l.length:Int)=m.length:=by omega
 refine fE @cE c2 ?_
 refine hL _ _ ?_
 clear hL
 refine ae fun L hL=>?_
 refine ae fun L hL=>?_
 refine de @cE ?_
 refine hL _ _ ?_
 clear hL
 refine cO (fun ts F=>∃k:Nat,(k≤l.length∧∀j,j<k→c9 l j=c9 m j)∧F=H∧Fr [some (.ak 1 (aJ l) ro),some (.ak 1 (aJ m) lz),none,none,some (.sc (.bool false)),some (.sc (.int .i64 k)),none,none,none,none,none,none,none,none,none,none,none,none,none,none,none,none,none,none,none,none,none] ts) (fun ts _=>l.length - (bL (ts.getD 5 .top)).toNat) ?_ ?_
 ·exact ⟨0,⟨Nat.zero_le _,fun j h=>absurd h (Nat.not_lt_zero _)⟩,rfl,by simp[Fr]⟩
 rintro ts F ⟨k,⟨hk,ob⟩,rfl,cv⟩ L2 dY
 obtain ⟨js,rfl⟩:=cv.opened
 clear cv
 by_cases hd:k<l.length
 ·have d1:(k:Int)<l.length:=by omega
  have d2:(k:Int)<m.length:=by omega
  have hg:=kJ hd
  have yG:=kJ (l:=m) (k:=k) (by omega)
  have hi:=fun H=>rJ (c9 l k) (c9 m k) none none H (by have:=hp k hd;omega)
  simp -implicitDefEqProofs (maxSteps:=99999999) (disch:=first | omega | (simp only[vl];first | done | omega)) only[mk,vg,d1,d2,hg,yG,cE,va,vg,vs,vw,vk,simprocAttr]
  refine ⟨by omega,by omega,aP (hi _) ?_⟩
  by_cases e1:c9 l k=c9 m k
  ·refine de e1 ?_
   refine dY _ _ ⟨k+1,⟨by omega,fun j hj=>?_⟩,rfl,by simp[Fr]⟩ (by simp[bL,mk];omega)
   rcases Nat.lt_succ_iff_lt_or_eq.1 hj with h' | rfl
   ·exact ob j h'
   ·exact e1
  ·refine de e1 ?_
   exact az .refl (by simp;intro e;exact e1 (by rw[e]))
 ·have d1:¬(k:Int)<l.length:=by omega
  refine KF d1 @cE ?_
  clear dY
  refine hL _ _ ?_
  clear hL
  refine ax ?_
  have Ed:l=m:=DA c1 fun j hj=>ob j (by omega)
  exact az .refl (by simp[Ed])
theorem VO(t:Nd):∀most,bulk t most≤most→(t.wt:Int)≤8*bulk t most:=by
 induction t using Nd.ind with
 | _ t ih =>
  intro most h
  rw[rH] at h ⊢
  rw[Nd.lP]
  have key:∀(l:List Nd)(c:Int),(∀k∈l,∀most,bulk k most≤most→(k.wt:Int)≤8*bulk k most)→ek l most c≤most→8*c+(Nd.ju l:Int)≤8*ek l most c:=by
   intro l
   induction l with
   | nil=>intro c _ _;simp[ek,Nd.ju]
   | cons x r fA =>
    intro c hx hc
    unfold ek at hc ⊢
    by_cases d:c≤most
    ·rw[if_pos d] at hc ⊢
     have h1:=fA _ (fun k hk=>hx k (by simp[hk])) hc
     have h2:=wX most r (c+bulk x (most - c))
     have h3:=hx x (by simp) (most - c) (by omega)
     simp only[Nd.ju]
     omega
    ·rw[if_neg d] at hc
     omega
  have:=key t.kids _ ih h
  omega
theorem VP{n:Nd}(h:aI n≠[]):dl n=true:=by
 rw[iY] at h
 unfold eS at h
 have h0:(jb n).1=0:=by
  by_cases c:(jb n).1=0
  ·exact c
  ·rw[if_neg c] at h;exact absurd rfl h
 have hk:n.kind=1:=by
  by_cases c:n.kind=1
  ·exact c
  ·unfold jb at h0
   rw[if_neg (fun e=>c e.1)] at h0
   simp at h0
 simp[dl,nH,h0,hk]
theorem BM{n:Nd}(hw:n.wt≤100000)(hs:n.size≤10000)(x:ByteArray)(path:List Int)(hp:path.length≤1000000)(H:Y):D Tryz.prog 14 [eG n none,.sc (.string x),.ak 1 (aZ path) none] H (.ret (.aK [fI (bn n x path).1,.sc (.int .i64 (bn n x path).2)])) H :=
 L5 n hw hs x path hp (cZ n none H) Ba
theorem VQ(n:Nd)(hz:n.size≤1000000)(H:Y):D Tryz.prog 16 [eG n none,eG n none] H (.ret (.sc (.bool true))) H:=by
 have hs:=rN n hz n none none H
 rwa [rr] at hs
theorem YD(H:Y):D Tryz.prog 16 [eG Nd.none none,.agg [.sc (.int .u8 0),.sc (.string ⟨#[]⟩),.sc (.int .i64 0),.ak 0 [] (some [])]] H (.ret (.sc (.bool true))) H:=by
 have hs:=rN Nd.none (by decide) Nd.none none none []
 rw[rr] at hs
 refine yS (.cons (cZ _ none H) (.cons ?_ .nil)) .sc (by rw[ku] at hs;exact hs)
 rw[fS]
 exact .agg (.cons .sc (.cons .sc (.cons .sc (.cons .nil .nil))))
theorem L7(K:Y):Over [] K:=by
 have:∀(A B:Y),Over [] B→Over [] (A++B):=fun A B h=>by
  induction A with
  | nil=>exact h
  | cons x r ih=>exact .cons ih
 have:=this K [] .refl
 rwa [List.append_nil] at this
set_option maxHeartbeats 0 in
theorem Fq(n:Nd)(x:ByteArray)(wh us:Int)(hw:n.wt≤1900000):D Tryz.prog 6 [eG n none,.sc (.string x),.sc (.int .i64 wh),.sc (.int .i64 us)] [] (.ret (.sc (.bool true))) []:=by
 have n1:=fun K=>K9 n none 1000 (by omega) (by omega) K
 rw[aH] at n1
 rw[aH]
 refine aF (Nat.le_refl _) (dk6 (aE ?_))
 simp only[ic6,ux]
 refine ae fun L hL=>?_
 refine ax ?_
 refine hL _ _ ?_
 clear hL
 refine ae fun L hL=>?_
 refine ax ?_
 refine af (L4 _) ?_
 refine ax ?_
 refine hL _ _ ?_
 clear hL
 refine ae fun L hL=>?_
 refine ax ?_
 refine af (n1 _) ?_
 by_cases ca:bulk n 1000 > 1000
 ·refine de ca ?_
  exact cy (.cons .refl)
 by_cases cx:(x.size:Int) > 1000
 ·refine fE ca cx ?_
  exact cy (.cons .refl)
 have wa:=VO n 1000 (by omega)
 have sa:=K8 n 1000 (by omega)
 refine fE ca cx ?_
 refine hL _ _ ?_
 clear hL
 refine ae fun L hL=>?_
 refine ax ?_
 have pQ:∀(a:Z),∀id,id<([some ⟨4,[a],true,25⟩]:Y).length→∃y,Y.find ([some ⟨4,[a],true,25⟩]:Y) id=some y∧nc y:=by
  intro a id hid
  rcases id with _ | id
  ·exact ⟨_,rfl,by simp,by simp,by simp,by simp⟩
  ·simp only[List.length_cons,List.length_nil] at hid;omega
 have b1:=ng n (by omega) (by omega) none (cZ n none) _ (pQ (.agg [.sc (.int .u8 n.kind),.sc (.string n.text),.sc (.int .i64 n.num),.ak 4 (bM n.kids) none]))
 rw[aH] at b1
 refine af b1 ?_
 clear b1
 have eI:((aI n).map fN).length=(aI n).length:=by simp
 refine ax ?_
 refine hL _ _ ?_
 clear hL
 refine ae fun L hL=>?_
 by_cases cl:aI n=[]
 ·rw[cl]
  refine ax ?_
  exact cy (.cons .refl)
 have hpos:0<(aI n).length:=List.length_pos_iff.2 cl
 have cl2:¬((aI n).length:Int)=0:=by omega
 have h:dl n=true:=VP cl
 have gz:=xj n
 have hok:=Bj n (by omega)
 have hpk:=BI (x:=wh) (n:=(aI n).length) (by omega)
 have Qm:=fun H=>I4 wh (aI n).length (by omega) H
 obtain ⟨kk,hkk⟩:∃k:Nat,lV wh (aI n).length=k:=⟨(lV wh (aI n).length).toNat,by omega⟩
 rw[hkk] at hpk Qm
 have hk:kk<(aI n).length:=by omega
 have Qa:=kK hk
 have yw:cS (aI n) kk∈aI n:=by rw[show cS (aI n) kk=(aI n)[kk] by simp[cS,List.getD,hk]];exact List.getElem_mem _
 have VS:=hok kk hk
 have hbp:=IU h yw x
 have Vt:=fun hf q hq=>Qb h yw (x:=x) hf (q:=q) hq
 refine fE eI cl2 ?_
 refine hL _ _ ?_
 clear hL
 refine ae fun L hL=>?_
 refine de eI ?_
 refine af (Qm _) ?_
 refine fE eI Qa ?_
 obtain ⟨l,hl⟩:∃l,aI n=l:=⟨_,rfl⟩
 rw[hl] at gz hok hbp Vt eI hk Qa yw VS hpk ⊢
 clear hpos cl cl2 Qm pQ
 obtain ⟨b,hb⟩:∃b,cS l kk=b:=⟨_,rfl⟩
 rw[hb] at Qa yw VS hbp Vt ⊢
 refine ⟨⟨by omega,by omega⟩,?_⟩
 have hf:=fun H=>Ur n x (by omega) (by omega) H
 have rn:=fun H=>BM (n:=n) (by omega) (by omega) x b.1 VS.1 H
 rw[aH] at hf rn
 rcases hbp with ⟨e,hr,he,cv⟩ | ⟨T,hr,⟨uD,hTs,hTw⟩,abR,⟨hs1,qm,hTp⟩,VT⟩
 ·rw[hr,fS] at rn
  rw[cv] at hf
  have hz:=fun H=>YD H
  rw[aH] at hz
  refine hL _ _ ?_
  clear hL
  refine ae fun L hL=>?_
  refine ax ?_
  refine af (rn _) ?_
  have e0:¬e=0:=by omega
  refine ax ?_
  refine hL _ _ ?_
  clear hL
  refine ae fun L hL=>?_
  rcases he with rfl | rfl
  ·refine ax ?_
   refine af (hf _) ?_
   refine ax ?_
   refine af (hz _) ?_
   refine ax ?_
   exact cy (.cons (.cons (.cons .refl)))
  ·refine ax ?_
   refine af (hf _) ?_
   refine ax ?_
   refine af (hz _) ?_
   refine ax ?_
   exact cy (.cons (.cons (.cons .refl)))
 rw[hr,fS] at rn
 refine hL _ _ ?_
 clear hL
 refine ae fun L hL=>?_
 refine ax ?_
 refine af (rn _) ?_
 refine ax ?_
 refine hL _ _ ?_
 clear hL
 refine ae fun L hL=>?_
 refine ax ?_
 have rb:=fun H=>BM (n:=T) (by omega) (by omega) b.2.1 b.1 VS.1 H
 rw[aH,abR,fS] at rb
 refine hL _ _ ?_
 clear hL
 refine ae fun L hL=>?_
 refine ax ?_
 refine af (rb _) ?_
 refine ax ?_
 have m1:=fun H=>VQ n (by omega) H
 have m2:=fun H=>oU n T (by omega) (by omega) (by omega) (by omega) (cZ n none H) (cZ T none H)
 have m3:=fun H=>oU T n (by omega) (by omega) (by omega) (by omega) (cZ T none H) (cZ n none H)
 rw[hs1] at m2
 rw[qm] at m3
 rw[aH] at m1
 rw[aH,aH] at m2 m3
 refine hL _ _ ?_
 clear hL
 refine ae fun L hL=>?_
 refine ax ?_
 refine af (m1 _) ?_
 refine ax ?_
 refine af (m2 _) ?_
 refine ax ?_
 refine af (m3 _) ?_
 refine ax ?_
 refine hL _ _ ?_
 clear hL
 refine ae fun L hL=>?_
 refine ax ?_
 obtain ⟨F,hF⟩:∃F:Y,F=[some ⟨4,[.agg [.sc (.int .u8 n.kind),.sc (.string n.text),.sc (.int .i64 n.num),.ak 4 (bM n.kids) none]],true,25⟩,some ⟨4,[.agg [.sc (.int .u8 T.kind),.sc (.string T.text),.sc (.int .i64 T.num),.ak 4 (bM T.kids) none]],true,25⟩,some ⟨3,[.agg [.ak 1 (aZ b.1) none,.sc (.string b.2.1),.ak 1 (aJ b.2.2) none]],true,47⟩,some ⟨4,[.agg [.sc (.int .u8 n.kind),.sc (.string n.text),.sc (.int .i64 n.num),.ak 4 (bM n.kids) none]],true,25⟩]:=⟨_,rfl⟩
 have hsf:∀id,id<F.length→∃y,Y.find F id=some y∧nc y:=by
  rw[hF]
  intro id hid
  rcases id with _ | _ | _ | _ | id
  ·exact ⟨_,rfl,by simp,by simp,by simp,by simp⟩
  ·exact ⟨_,rfl,by simp,by simp,by simp,by simp⟩
  ·exact ⟨_,rfl,by simp,by simp,by simp,by simp⟩
  ·exact ⟨_,rfl,by simp,by simp,by simp,by simp⟩
  ·simp only[List.length_cons,List.length_nil] at hid;omega
 have a0:Y.find F 0=some ⟨4,[.agg [.sc (.int .u8 n.kind),.sc (.string n.text),.sc (.int .i64 n.num),.ak 4 (bM n.kids) none]],true,25⟩:=by rw[hF];rfl
 have a1:Y.find F 1=some ⟨3,[.agg [.ak 1 (aZ b.1) none,.sc (.string b.2.1),.ak 1 (aJ b.2.2) none]],true,47⟩:=by rw[hF];rfl
 have al:F.length=4:=by rw[hF];rfl
 have YE:Over [] F:=by rw[hF];exact .cons (.cons (.cons (.cons .refl)))
 rw[←hF]
 clear hF
 have b2:=ng T (by omega) (by omega) none (cZ T none) F hsf
 rw[aH] at b2
 refine af b2 ?_
 clear b2 hsf
 have dz:(aI T).length=l.length:=by rw[VT,List.length_map]
 have yG:∀k,k<l.length→cS (aI T) k=((cS l k).1,if (cS l k).1=b.1 then x else (cS l k).2.1,(cS l k).2.2):=fun k hk=>by rw[VT];simp[cS,List.getD,hk]
 obtain ⟨l2,ZY⟩:∃l2,aI T=l2:=⟨_,rfl⟩
 rw[ZY] at dz yG ⊢
 clear ZY VT
 have BN:(l2.map fN).length=l.length:=by rw[List.length_map,dz]
 have hne:¬((l.length:Int)≠l.length):=fun h=>h rfl
 refine ax ?_
 refine hL _ _ ?_
 clear hL
 refine ae fun L hL=>?_
 refine fE eI BN ?_
 refine hL _ _ ?_
 clear hL
 refine ae fun L hL=>?_
 refine ae fun L hL=>?_
 refine ax ?_
 refine hL _ _ ?_
 clear hL
 refine cO (fun ts G=>∃k:Nat,k≤l.length∧G=F∧Fr [some (.agg [.sc (.int .u8 n.kind),.sc (.string n.text),.sc (.int .i64 n.num),.ak 4 (bM n.kids) none]),some (.sc (.string x)),some (.sc (.int .i64 wh)),some (.sc (.int .i64 us)),some (.ptr 4 0 0 0),none,none,none,some (.sc (.bool false)),some (.ak 3 (l.map fN) none),some (.ptr 3 1 0 0),none,none,none,none,some (.ak 3 (l2.map fN) none),some (.sc (.int .i64 k)),none,none,none,none,none,none,none,none,none,none,none,none,none,none,none,none,none,none,none,none,none,none,none,none,none,none,none,none,none,none,none,none,none,none,none,none,none,none,none,none,none,none,none,none,none,none,none,none,none,none,none,none,none,none,none,none,none,none,none,none,none,none,none,none,none,none,none,none,none,none,none,none,none,none,none,none,none,none,none,none,none,none,none,none,none,none,none,none,none,none,none,none,none,none,none,none,none,none,none,none,none,none,none,none,none,none,none,none,none,none,none,none,none,none,none,none,none,none,none,none,none,none,none,none,none,none,none,none,none,none,none,none,none,none,none,none,none,none,none,none,none,none,none,none,none,none,none,none,none,none,none,none,none,none,none,none,none,none,none,none,none,none,none,none,none,none,none,none,none,none,none,none,none,none,none,none,none,none,none,none,none,none,none,none,none,none,none,none,none] ts) (fun ts _=>l.length - (bL (ts.getD 16 .top)).toNat) ?_ ?_
 ·exact ⟨0,Nat.zero_le _,rfl,by simp[Fr]⟩
 rintro ts G ⟨k,hk,rfl,cv⟩ L2 dY
 obtain ⟨js,rfl⟩:=cv.opened
 clear cv
 by_cases hd:k<l.length
 ·have d1:(k:Int)<l.length:=by omega
  have j0:(0:Int)≤(k:Int):=by omega
  have hg:=kK hd
  have Co:=kK (l:=l2) (k:=k) (by omega)
  rw[yG k hd] at Co
  have I6:=hok k hd
  obtain ⟨c,hc⟩:∃c,cS l k=c:=⟨_,rfl⟩
  rw[hc] at hg Co I6
  have hsi:=fun H=>rJ c.1 b.1 none none H (by have:=I6.1;omega)
  have hsj:=fun H=>rJ c.1 c.1 none none H (by have:=I6.1;omega)
  have hsp:=fun H=>Fp c.2.2 c.2.2 none none I6.2.1 I6.2.2 H
  rw[decide_eq_true rfl] at hsj
  rw[decide_eq_true rfl] at hsp
  by_cases e1:c.1=b.1
  ·rw[decide_eq_true e1] at hsi
   rw[if_pos e1] at Co
   refine KG d1 j0 hg eI a1 ?_
   refine aP (hsi _) ?_
   refine Pe d1 j0 hg eI Co BN ?_
   refine aP (hsj _) ?_
   refine Pe d1 j0 hg eI Co BN ?_
   refine aP (hsp _) ?_
   refine Pe d1 j0 hg eI Co BN ?_
   exact dY _ _ ⟨k+1,by omega,rfl,by simp[Fr]⟩ (by simp[bL,mk];omega)
  ·rw[decide_eq_false e1] at hsi
   rw[if_neg e1] at Co
   refine KG d1 j0 hg eI a1 ?_
   refine aP (hsi _) ?_
   refine Pe d1 j0 hg eI Co BN ?_
   refine aP (hsj _) ?_
   refine Pe d1 j0 hg eI Co BN ?_
   refine aP (hsp _) ?_
   refine Pe d1 j0 hg eI Co BN ?_
   exact dY _ _ ⟨k+1,by omega,rfl,by simp[Fr]⟩ (by simp[bL,mk];omega)
 have d1:¬(k:Int)<l.length:=by omega
 clear dY
 refine KF d1 eI ?_
 have qp:(aJ b.2.2).length=b.2.2.length:=cE _
 refine hL _ _ ?_
 clear hL
 refine ae fun L hL=>?_
 by_cases cu:b.2.2=[]
 ·have YF:(b.2.2.length:Int)=0:=by rw[cu];rfl
  refine nY a1 qp YF ?_
  exact cy YE
 have hup:0<b.2.2.length:=List.length_pos_iff.2 cu
 have YF:¬(b.2.2.length:Int)=0:=by omega
 cases cf:kV n x
 ·rw[cf] at hf
  refine sJ a0 a1 qp YF ?_
  refine af (hf _) ?_
  refine ax ?_
  exact cy YE
 rw[cf] at hf
 have adX:=Vt cf
 refine sJ a0 a1 qp YF ?_
 refine af (hf _) ?_
 refine ax ?_
 have Ql:=VN n (by omega) none G
 rw[aH,cM] at Ql
 refine hL _ _ ?_
 clear hL
 refine ae fun L hL=>?_
 refine de a0 ?_
 refine af Ql ?_
 have kLi:=fp (t:=n) (H:=G)
 have kG:∀i,i<G.length→Y.find (dD n G.length++G) i=Y.find G i:=fun i hi=>Y.bx hi
 have kl:(dD n G.length++G).length=n.size+G.length:=by rw[List.length_append,fh]
 have kov:Over [] (dD n G.length++G):=by
  have:∀(A B:Y),Over [] B→Over [] (A++B):=fun A B h=>by
   induction A with
   | nil=>exact h
   | cons x r ih=>exact .cons ih
  exact this _ _ YE
 generalize dD n G.length++G=K at *
 have k0:=(kG 0 (by omega)).trans a0
 have k1:=(kG 1 (by omega)).trans a1
 refine ax ?_
 obtain ⟨K2,wP⟩:∃K2:Y,K2=some ⟨4,[.agg [.sc (.int .u8 n.kind),.sc (.string n.text),.sc (.int .i64 n.num),aW 4 (eo n.kids (G.length+1)) G.length]],true,25⟩::K:=⟨_,rfl⟩
 have ql:K2.length=K.length+1:=by rw[wP];rfl
 have qo:∀i,i<K.length→Y.find K2 i=Y.find K i:=fun i hi=>by rw[wP,ai hi]
 have qt:Y.find K2 K.length=some ⟨4,[dW n G.length],true,25⟩:=by rw[wP,cM];exact aN rfl
 have qov:Over [] K2:=by rw[wP];exact .cons kov
 rw[←wP]
 clear wP
 have q0:=(qo 0 (by omega)).trans k0
 have q1:=(qo 1 (by omega)).trans k1
 have qL:dx K2 n G.length:=kLi.of fun i h1 h2=>qo i (by omega)
 clear k0 k1 kG kov kLi a0 a1 YE qo hf Vt
 have hpu:=BI (x:=us) (n:=b.2.2.length) (by omega)
 have Qm:=fun H=>I4 us b.2.2.length (by have:=VS.2.1;omega) H
 obtain ⟨uu,huu⟩:∃k:Nat,lV us b.2.2.length=k:=⟨(lV us b.2.2.length).toNat,by omega⟩
 rw[huu] at hpu Qm
 have hu:uu<b.2.2.length:=by omega
 have XI:=kJ hu
 have hum:c9 b.2.2 uu∈b.2.2:=by rw[vG hu];exact List.getElem_mem _
 obtain ⟨-,YG,Bl,Lz,hqz,hqw⟩:=adX _ hum
 obtain ⟨q,hq⟩:∃q,c9 b.2.2 uu=q:=⟨_,rfl⟩
 rw[hq] at XI YG Bl Lz hqz hqw
 have u0:(0:Int)≤(uu:Int):=by omega
 have u1:(uu:Int)<b.2.2.length:=by omega
 refine hL _ _ ?_
 clear hL
 refine ae fun L hL=>?_
 refine ax ?_
 refine hL _ _ ?_
 clear hL
 refine ae fun L hL=>?_
 refine fE q1 qp ?_
 refine aP (Qm _) ?_
 refine Pb q1 qp XI u0 u1 ?_
 have hnq:=bI q
 have hql:=A9 q n YG
 have qn0:=Y.am qt
 rw[cM] at qt
 refine hL _ _ ?_
 clear hL
 refine ae fun L hL=>?_
 refine ae fun L hL=>?_
 refine ax ?_
 refine hL _ _ ?_
 clear hL
 refine cO (fun ts F=>∃(k:Nat)(u:Nd)(id' j' a':Nat)(es':List Z)(Yx:Bool),(k≤q.length∧oV u id' j' a' (q.drop k)=oV n K.length 0 G.length q∧iZ u (q.drop k)=iZ n q∧u.size≤n.size)∧(Y.find K2 id'=some ⟨4,es',Yx,25⟩∧j'<es'.length∧es'.getD j' .top=dW u a'∧dx K2 u a'∧(0<k→Yx=false)∧(id'<a'∨a'+u.size≤id'))∧F=K2∧Fr [none,some (.sc (.string x)),none,none,some (.ptr 4 0 0 0),none,none,none,some (.sc (.bool false)),none,none,none,none,none,none,none,none,none,some (.ptr 4 K.length 0 0),some (.ptr 4 id' j' 0),some (.ak 1 (aZ q) none),some (.sc (.int .i64 k)),none,none,none,none,none,none,none,none,none,none,none,none,none,none,none,none,none,none,none,none,none,none,none,none,none,none,none,none,none,none,none,none,none,none,none,none,none,none,none,none,none,none,none,none,none,none,none,none,none,none,none,none,none,none,none,none,none,none,none,none,none,none,none,none,none,none,none,none,none,none,none,none,none,none,none,none,none,none,none,none,none,none,none,none,none,none,none,none,none,none,none,none,none,none,none,none,none,none,none,none,none,none,none,none,none,none,none,none,none,none,none,none,none,none,none,none,none,none,none,none,none,none,none,none,none,none,none,none,none,none,none,none,none,none,none,none,none,none,none,none,none,none,none,none,none,none,none,none,none,none,none,none,none,none,none,none,none,none,none,none,none,none,none,none,none,none,none,none,none,none,none,none,none,none,none,none,none,none,none,none,none,none,none,none] ts) (fun ts _=>q.length - (bL (ts.getD 21 .top)).toNat) ?_ ?_
 ·exact ⟨0,n,K.length,0,G.length,_,true,⟨Nat.zero_le _,rfl,rfl,Nat.le_refl _⟩,⟨qt,by simp,by rw[cM];rfl,qL,fun h=>absurd h (Nat.lt_irrefl _),.inr (by omega)⟩,rfl,by simp[Fr]⟩
 rintro ts F ⟨k,u,id',j',a',es',Yx,⟨hk,fF,Qn,huz⟩,⟨hf,hj,he,hlu,hex,hout⟩,rfl,cv⟩ L2 dY
 obtain ⟨js,rfl⟩:=cv.opened
 clear cv
 by_cases hd:k<q.length
 ·have d1:(k:Int)<q.length:=by omega
  have j0:(0:Int)≤(k:Int):=by omega
  have hg:=oS hd
  have vQ:=LF (t:=u) (id:=id') (j:=j') (a:=a') hd
  have vR:=Lo (t:=u) hd
  rw[show q.getD k 0=mZ q k from rfl] at vQ vR
  by_cases c:0≤mZ q k∧mZ q k<u.kids.length
  ·rw[if_pos c] at vQ vR
   obtain ⟨m,hm⟩:∃m:Nat,mZ q k=m:=⟨(mZ q k).toNat,by omega⟩
   rw[hm] at hg vQ vR c
   rw[Int.toNat_natCast] at vQ vR
   have hmk:m<u.kids.length:=by omega
   have hne:eo u.kids (a'+1)≠[]:=fun e=>by have:=dA u.kids (a'+1);rw[e] at this;simp at this;omega
   have hhd:=hlu.head
   rw[bC hne] at hhd
   rw[cM,lc hne,dA] at he
   have m0:(0:Int)≤(m:Int):=by omega
   have m1:(m:Int)<u.kids.length:=c.2
   have Ca:=Nd.pz (eF hmk)
   refine zF9 d1 j0 hg hnq hf hj he m0 m1 ?_
   exact dY _ _ ⟨k+1,au u.kids m,a',m,a'+1+Nd.aw (u.kids.take m),_,false,⟨by omega,by rw[←vQ];exact fF,by rw[←vR];exact Qn,by omega⟩,⟨hhd,by rw[dA];exact hmk,P3 hmk,hlu.kids.at_ hmk,fun _=>rfl,.inl (by omega)⟩,rfl,by simp[Fr]⟩ (by simp[bL,mk];omega)
  ·exfalso
   rw[if_neg c] at vR
   rw[vR] at Qn
   rw[←Qn] at YG
   simp at YG
 have d1:¬(k:Int)<q.length:=by omega
 have Wo:k=q.length:=by omega
 rw[Wo,List.drop_length] at fF Qn
 rw[hex (by rw[Wo];exact List.length_pos_iff.2 Bl)] at hf
 have vR:iZ n q=some u:=Qn.symm
 have vQ:oV n K.length 0 G.length q=some (id',j'):=fF.symm
 clear dY fF Qn
 rw[DH q n u vR] at Lz hqz hqw
 obtain ⟨qh,qr,hqe⟩:∃q0 qr,q=q0::qr:=List.exists_cons_of_ne_nil Bl
 have hpi:G.length≤id'∧id'<G.length+n.size:=by rw[hqe] at vQ;exact II vQ
 rw[cM] at he
 refine KF d1 hnq ?_
 refine hL _ _ ?_
 clear hL
 refine ae fun L hL=>?_
 refine EL hf hj he ?_
 obtain ⟨w,n9⟩:∃w:Nd,w=⟨u.kind,x,u.num,u.kids⟩:=⟨_,rfl⟩
 have hcw:dW w a' = .agg [.sc (.int .u8 u.kind),.sc (.string x),.sc (.int .i64 u.num),aW 4 (eo u.kids (a'+1)) a']:=by rw[n9,cM]<;>rfl
 have hwz:w.size=u.size:=by rw[n9,Nd.size_eq,Nd.size_eq]<;>rfl
 have hlw:dx F w a':=by
  rw[n9]
  cases u
  exact hlu
 rw[←n9] at Lz hqz hqw
 rw[←hcw]
 obtain ⟨K3,Iw⟩:∃K3,Y.set F id' (some ⟨4,es'.set j' (dW w a'),false,25⟩)=K3:=⟨_,rfl⟩
 have z0:∀i,i≠id'→Y.find K3 i=Y.find F i:=fun i hi=>by rw[←Iw];exact Y.ah hi
 have z1:Y.find K3 id'=some ⟨4,es'.set j' (dW w a'),false,25⟩:=by rw[←Iw];exact Y.ay (Y.am hf)
 have z2:=(z0 0 (by omega)).trans q0
 have z3:=(z0 K.length (by omega)).trans qt
 have z4:Over [] K3:=L7 K3
 rw[Iw]
 clear Iw hcw
 have U6:View K3 (dW w a') (fI w):=sw w (hlw.of fun i h1 h2=>z0 i (by omega))
 have hch:=U5 (LG (G:=K3)) U6 qr (Nat.zero_le _) qL (by rw[←hqe];exact vQ) hf z1 fun i _ _ hi=>z0 i hi
 rw[←hqe,cM] at hch
 have m5:=oU n (xk n w q) (by omega) (by omega) (by omega) (by omega) (cZ n none K3) hch
 rw[Lz,aH] at m5
 refine hL _ _ ?_
 clear hL
 refine ae fun L hL=>?_
 refine fE z2 z3 ?_
 refine af m5 ?_
 refine ax ?_
 refine hL _ _ ?_
 clear hL
 refine ax ?_
 exact cy z4
theorem VU{Hh:Type}{enc:TypeId×Value→Hh}{w:World}{n:Nat}:gQ enc Tryz.prog w n 9 (fun s:ByteArray=>.sc (.string s)) (fun _ _=>True):=(gQ.str Tryz.underlying9).map id fun _ _ _=>⟨rfl,trivial⟩
def ZZ(t:Nd):List Z:=[.sc (.int .u8 t.kind),.sc (.string t.text),.sc (.int .i64 t.num),.ak 4 (bM t.kids) none]
theorem YH(l:List Nd):(l.map fun t=>Z.agg (ZZ t))=bM l:=by
 rw[uU]
 congr 1
 funext t
 rw[fS]
 rfl
theorem I7{Hh:Type}{l:List Nd}{ds:List (DataW Hh)}(h:nA (fun (t:Nd) d=>t.wt≤Rows.uptoBulk d) l ds):Nd.ju l≤Rows.uptoBulkAll ds:=by
 induction h with
 | nil=>simp[Nd.ju]
 | cons k _ ih =>
  simp only[Nd.ju,Rows.uptoBulkAll]
  omega
section
variable {Hh:Type}{enc:TypeId×Value→Hh}{w:World}
theorem VV{n:Nat}:gQ enc Tryz.prog w n 9 (fun s:ByteArray=>.sc (.string s)) (fun s d=>s.size+1≤Rows.uptoBulk d) :=
 (gQ.str Tryz.underlying9).map id fun a d h=>⟨rfl,by
  subst h
  simp only[Rows.uptoBulk,Array.length_toList]
  exact Nat.le_refl _⟩
theorem VW{n:Nat}:gQ enc Tryz.prog w n 2 (fun i:Int=>.sc (.int .i64 i)) (fun i d=>1≤Rows.uptoBulk d) :=
 (gQ.int Tryz.underlying2).map id fun a d h=>⟨rfl,by
  rw[h.1]
  simp only[Rows.uptoBulk]
  exact Nat.le_refl _⟩
theorem Qo{n:Nat}:gQ enc Tryz.prog w n 22 (fun i:Int=>.sc (.int .u8 i)) (fun i d=>1≤Rows.uptoBulk d) :=
 (gQ.int Tryz.underlying22).map id fun a d h=>⟨rfl,by
  rw[h.1]
  simp only[Rows.uptoBulk]
  exact Nat.le_refl _⟩
theorem I8{n:Nat}:gQ enc Tryz.prog w n 3 (fun i:Int=>.sc (.int .i64 i)) (fun i d=>1≤Rows.uptoBulk d) :=
 (gQ.int Tryz.underlying3).map id fun a d h=>⟨rfl,by
  rw[h.1]
  simp only[Rows.uptoBulk]
  exact Nat.le_refl _⟩
theorem VX{n:Nat}:gQ enc Tryz.prog w n 25 (fun t:Nd=>.agg (ZZ t)) (fun t d=>t.wt≤Rows.uptoBulk d):=by
 induction n using Nat.strongRecOn with
 | _ n ih =>
  cases n with
  | zero=>exact gQ.zero
  | succ n =>
   have abS:gQ enc Tryz.prog w n 23 (fun l:List Nd=>.ak 4 (bM l) none) (fun l d=>Nd.ju l≤Rows.uptoBulk d):=by
    cases n with
    | zero=>exact gQ.zero
    | succ n =>
     refine (gQ.slice Tryz.underlying23 (k:=4) (by kernel_rfl) (by decide) (fun _=>rfl) (ih n (by omega))).map id fun a d h=>⟨by rw[YH];rfl,?_⟩
     rcases h with ⟨rfl,rfl⟩ | ⟨ds,r,rfl,h⟩
     ·exact Nat.zero_le _
     ·have:=I7 h
      simp only[Rows.uptoBulk,id]
      omega
   refine (gQ.struct Tryz.underlying25 (fun a=>?_) (rh.cons (k:=1) rfl (by kernel_rfl) (fun _=>rfl) Qo (rh.cons (k:=1) rfl (by kernel_rfl) (fun _=>rfl) VV (rh.cons (k:=1) rfl (by kernel_rfl) (fun _=>rfl) VW (rh.cons (k:=1) rfl (by kernel_rfl) (fun _=>rfl) abS rh.nil))))).map (fun p=>(⟨p.1,p.2.1,p.2.2.1,p.2.2.2.1⟩:Nd)) fun a d h=>⟨rfl,?_⟩
   ·have:Tryz.prog.cellsOf 25=4:=by kernel_rfl
    rw[this]
    rfl
   ·obtain ⟨_,rfl,d1,_,rfl,h1,d2,_,rfl,h2,d3,_,rfl,h3,d4,_,rfl,h4,rfl⟩:=h
    simp only[Rows.uptoBulk,Rows.uptoBulkAll,Nd.wt]
    omega
end
def Nn:List Int:=(List.range 256).map fun c=>if c=9∨c=10∨c=11∨c=12∨c=13∨c=32 then 1 else 0
theorem L8:(Nn.map fun z=>Value.int .u8 z)=(List.range 256).map fun c=>Value.int .u8 (if c=9∨c=10∨c=11∨c=12∨c=13∨c=32 then 1 else 0):=by
 unfold Nn
 rw[List.map_map]
 rfl
theorem Cq{P:Program}{w:World}{x:String×DataW Unit}{r:List (String×DataW Unit)}(h:laidMet P (x::r) w):laidMet P r w:=by
 obtain ⟨ps,⟨g,t,cs,fuel,p,q,h1,h2,h3,h4,h5,h6⟩,hn,hc⟩:=h
 subst h6
 exact ⟨q,h5,(List.nodup_append.1 hn).2.1,fun b off hm=>hc b off (List.mem_append_right _ hm)⟩
theorem Cr {l : List (String × DataW Unit)} {a : String × DataW Unit} {w : World} (hl : l = [a, ("strings.asciiSpace", Lib.tabData .u8 Nn)]) (h : laidMet Tryz.prog l w) : yp eZ [] w := by
 subst hl
 have hT := Lib.tabIs_of_head (t := 264) (e := 5) (n := 256) (by kernel_rfl : Tryz.prog.globalNamed "strings.asciiSpace" = some 0) (by kernel_rfl) (by kernel_rfl) (by kernel_rfl) (by kernel_rfl) (by kernel_rfl) (Cq h)
 intro p hp
 refine ⟨?_,p9⟩
 rcases List.mem_cons.1 hp with rfl | hp
 ·unfold Lib.TabIs World.var? at hT
  rw [show Tryz.prog.globalNamed "strings.asciiSpace" = some 0 by kernel_rfl] at hT
  simp only[Option.bind_some] at hT
  split at hT
  ·rename_i cs e fr hh
   refine ⟨e,fr,by rw[hh,Option.some.inj hT,L8]⟩
  ·cases hT
 ·cases hp
end Go.Proofs.YtnoplgongieehaaGreatDoor
