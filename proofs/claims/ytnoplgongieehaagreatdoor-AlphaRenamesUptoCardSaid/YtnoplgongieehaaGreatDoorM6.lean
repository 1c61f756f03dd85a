import Derived.Test.YtnoplgongieehaaGreatDoorM5
import Derived.Test.YtnoplgongieehaaGreatDoorM3
import Derived.Test.YtnoplgongieehaaGreatDoorProg
import Derived.KernelRfl
import Derived.Test.YtnoplgongieehaaGreatDoorM4
namespace Go.Proofs.YtnoplgongieehaaGreatDoor
open Go.RowKit
set_option maxHeartbeats 0
set_option maxRecDepth 1000000
set_option linter.unusedVariables false
set_option linter.unusedSimpArgs false
def dV(t:Nd)(p:List Int)(v:AV)(ab:Nat)(H:Y):Y:=if t.kids=[] then H else some ⟨1,aK p,false,3⟩::Y.set (oL (pA v) H) ab (some (nF (.aD 1 H.length 0 p.length none)))
theorem xT{t:Nd}{p:List Int}{v:AV}{ab:Nat}{H:Y}:H.length≤(dV t p v ab H).length∧(dV t p v ab H).length≤H.length+1:=by
 unfold dV
 split
 ·omega
 ·simp only[List.length_cons,Y.af,cT];omega
structure UZ(T:Nd)(n0:Nat)(p:List Int)(ab A0:Nat)(H G:Y):Prop where
 ajs:dP G T n0
 at_:∃A,Y.find G ab=some (nF (.aD 1 A 0 p.length none))∧Y.find G A=some ⟨1,aK p,false,3⟩∧A0≤A∧A<n0
 old:∀i,i<H.length→i≠ab→i≠A0→Y.find G i=Y.find H i
 len:H.length≤n0∧G.length=n0+T.size
theorem Ql{t T:Nd}{p:List Int}{ab A0:Nat}{H:Y}(ha:Y.find H ab=some (nF (.aD 1 A0 0 p.length none)))(hA:Y.find H A0=some ⟨1,aK p,false,3⟩) :
  UZ T (dV t p (.aD 1 A0 0 p.length none) ab H).length p ab A0 H (gd T (dV t p (.aD 1 A0 0 p.length none) ab H).length++dV t p (.aD 1 A0 0 p.length none) ab H):=by
 have hl:=xT (t:=t) (p:=p) (v:=.aD 1 A0 0 p.length none) (ab:=ab) (H:=H)
 have hab:=Y.ax ha
 have hal:=Y.ax hA
 refine ⟨j6,?_,fun i hi h1 h2=>?_,hl.1,by rw[List.length_append,iL];omega⟩
 ·rw[Y.bF (by omega)]
  by_cases c:t.kids=[]
  ·refine ⟨A0,?_,?_,Nat.le_refl _,by omega⟩
   ·unfold dV;rw[if_pos c];exact ha
   ·rw[Y.bF (by omega)]
    unfold dV;rw[if_pos c];exact hA
  ·refine ⟨H.length,?_,?_,by omega,?_⟩
   ·unfold dV
    rw[if_neg c,ai (by rw[Y.af,cT];omega),Y.aC (by rw[cT];omega)]
   ·rw[Y.bF (by unfold dV;rw[if_neg c];simp[Y.af,cT])]
    unfold dV
    rw[if_neg c,aJ (by rw[Y.af,cT])]
   ·unfold dV;rw[if_neg c];simp[Y.af,cT]
 ·rw[Y.bF (by omega)]
  unfold dV
  split
  ·rfl
  ·rw[ai (by rw[Y.af,cT];omega),Y.aj h1,A1 fun a e=>by cases e;exact h2]
theorem EL{H:Y}:∀{l:List (List Int)},cJ H (bc l) (bc l)
 |[]=>.nil
 |p::l=>.cons (.am cJ.Tq) EL
def Qm(ps:List (List Int))(x:ByteArray)(t:Nd):Prop:=∀(ro:Option (List AV))(p:List Int)(cb ab tb oM ee:Nat)(v:AV)(H:Y),p.length+t.size≤1000000→TP cb ab tb oM ee ps x H→Y.find H ab=some (nF v)→EK H p v→
 D Tryz.prog 75 [dZ t ro,.ptr 1 cb 0 0,.ptr 1 ab 0 0,.ptr 1 tb 0 0] H (.ret (fF (bN (bX ps) x t p) (dV t p v ab H).length)) (gd (bN (bX ps) x t p) (dV t p v ab H).length++dV t p v ab H)
def qx:Nat→IC→IC
 |0,.seq a _=>a
 |1,.seq _ (.seq a _)=>a
 |2,.seq _ (.seq _ (.seq a _))=>a
 |3,.seq _ (.seq _ (.seq _ (.seq a _)))=>a
 |4,.seq _ (.seq _ (.seq _ (.seq _ (.seq (.seq a _) _))))=>a
 |5,.seq _ (.seq _ (.seq _ (.seq _ (.seq (.seq _ (.block _ (.loop a))) _))))=>a
 |6,.seq _ (.seq _ (.seq _ (.seq _ (.seq _ a))))=>a
 |_,_=>.skip
theorem U1:jn = .seq (qx 0 jn) (.seq (qx 1 jn) (.seq (qx 2 jn) (.seq (qx 3 jn) (.seq (.seq (qx 4 jn) (.block 0 (.loop (qx 5 jn)))) (qx 6 jn))))):=rfl
theorem Z6(ps:List (List Int))(x:ByteArray)(hz:ps.length≤1000000)(dY:∀k,k<ps.length→(dS ps k).length≤1000000)(t:Nd)(ih:∀u∈t.kids,Qm ps x u):Qm ps x t:=by
 intro ro p cb ab tb oM ee v H hsz hT hab aiP
 have ej:=aiP.v
 have zY:=t.size_eq
 have iG:=Y.ax hT.c
 have pR:=Y.ax hT.s
 have sQ:=Y.ax hT.t
 have aei:=Y.ax hab
 have VO:ab≠tb:=fun e=>by have:=hT.t;rw[←e,hab] at this;simp[nF] at this
 have hbc:ab≠cb:=fun e=>by have:=hT.c;rw[←e,hab] at this;simp[nF] at this
 have xE:ab≠oM:=fun e=>by have:=hT.s;rw[←e,hab] at this;simp[nF] at this
 have ir:bc ps≠[]→ab≠ee:=fun h e=>by have:=hT.l h;rw[←e,hab,bj h] at this;simp[nF] at this
 have Jl:∀a,pA v=some a→a≠ab∧a≠cb∧a≠oM∧a≠tb∧(bc ps≠[]→a≠ee)∧a<H.length:=fun a e=>by
  obtain ⟨es,h1⟩:=ej.at a e
  refine ⟨fun e2=>?_,fun e2=>?_,fun e2=>?_,fun e2=>?_,fun h e2=>?_,Y.ax h1⟩
  ·rw[e2,hab] at h1;simp[nF] at h1
  ·rw[e2,hT.c] at h1;simp at h1
  ·rw[e2,hT.s] at h1;simp at h1
  ·rw[e2,hT.t] at h1;simp at h1
  ·rw[e2,hT.l h,bj h] at h1;simp at h1
 obtain ⟨vf1,vf2,vf3,vf4⟩:=ej.flat
 refine aG (by rw[List.length_append,iL];have:=xT (t:=t) (p:=p) (v:=v) (ab:=ab) (H:=H);omega) (UY (bx:=[]) (fn:=Tryz.f75) (c:=Tryz.f75.body.getD .skip) (ic:=jn) (rs:=[.c 5 4 .true]) Tryz.func75 (by kernel_rfl) (by kernel_rfl) (by kernel_rfl) ?_)
 have hn:Tryz.f75.ntmps=48:=by kernel_rfl
 rw[hn]
 obtain ⟨p0,rR⟩:∃y,y=qx 0 jn:=⟨_,rfl⟩
 obtain ⟨p1,hp1⟩:∃y,y=qx 1 jn:=⟨_,rfl⟩
 obtain ⟨p2,hp2⟩:∃y,y=qx 2 jn:=⟨_,rfl⟩
 obtain ⟨p3,hp3⟩:∃y,y=qx 3 jn:=⟨_,rfl⟩
 obtain ⟨p4,hp4⟩:∃y,y=qx 4 jn:=⟨_,rfl⟩
 obtain ⟨p5,hp5⟩:∃y,y=qx 5 jn:=⟨_,rfl⟩
 obtain ⟨p6,hp6⟩:∃y,y=qx 6 jn:=⟨_,rfl⟩
 rw[U1,←rR,←hp1,←hp2,←hp3,←hp4,←hp5,←hp6,aQ]
 refine SE.seq (SE.mJ ?_)
 rw[rR]
 simp -implicitDefEqProofs (maxSteps:=99999999) (disch:=first|omega|(simp only[vl];first|done|omega)) only[vu,vg,qx,jn,va,vg,vs,vw,vk,simprocAttr]
 have aej:∀(G:Y),(∀i,i<H.length→Y.find G i=Y.find H i)→D Tryz.prog 76 [.ptr 2 oM 0 0,v] G (.ret (.sc (.bool (bX ps p)))) G:=fun G hG=>by
  refine tc (.cons (.ptr (blk:=⟨2,[.agg [aW 1 (bc ps) ee,.sc (.string x)]],true,66⟩) (by rw[hG _ pR];exact hT.s) rfl rfl (by simp) (.agg (.cons (cJ.own (ty:=30) (fun h=>?_) ?_) (.cons .sc .nil)))) (.cons (xS.keep ej fun a e=>hG a (Jl a e).2.2.2.2.2).view .nil)) .sc (agl ps x p hz dY)
  ·have h0:=hT.l h
   rw[bj h] at h0 ⊢
   rw[hG _ (Y.ax h0)]
   exact h0
  ·exact EL
 generalize gT:(some ⟨4,[AV.agg [.sc (.int .u8 0),.sc (.string ⟨#[]⟩),.sc (.int .i64 0),.am 0 [] (some [])]],true,25⟩:Option aP)::some ⟨4,[AV.agg [.sc (.int .u8 t.kind),.sc (.string t.text),.sc (.int .i64 t.num),.am 4 (bh t.kids) ro]],true,25⟩::H=F0
 have RJ:F0.length=H.length+2:=by rw[←gT];rfl
 have sn:∀i,i<H.length→Y.find F0 i=Y.find H i:=fun i hi=>by rw[←gT,ai (by simp;omega),ai hi]
 have Z7:Y.find F0 H.length=some ⟨4,[AV.agg [.sc (.int .u8 t.kind),.sc (.string t.text),.sc (.int .i64 t.num),.am 4 (bh t.kids) ro]],true,25⟩:=by rw[←gT,ai (by simp),aJ rfl]
 have Z8:Y.find F0 (H.length+1)=some ⟨4,[AV.agg [.sc (.int .u8 0),.sc (.string ⟨#[]⟩),.sc (.int .i64 0),.am 0 [] (some [])]],true,25⟩:=by rw[←gT];exact aJ (by simp)
 clear gT
 have f0c:=(sn cb iG).trans hT.c
 have f0s:=(sn oM pR).trans hT.s
 have f0t:=(sn tb sQ).trans hT.t
 have Z9:=(sn ab aei).trans hab
 unfold nF at Z9
 refine SE.seq (SE.mJ ?_)
 rw[hp1]
 have Sj:=aej F0 sn
 obtain ⟨tx,P3⟩:∃tx,tx=if bX ps p=true then x else t.text:=⟨_,rfl⟩
 have hkey:∀(ts:List AV)(F1:Y),Fr (none::some (.ptr 1 cb 0 0)::some (.ptr 1 ab 0 0)::some (.ptr 1 tb 0 0)::some (.ptr 4 H.length 0 0)::some (.ptr 4 (H.length+1) 0 0)::none::none::iv (bf [])) ts→F1.length=H.length+2→(∀i,i<H.length→Y.find F1 i=Y.find H i)→Y.find F1 H.length=some ⟨4,[AV.agg [.sc (.int .u8 t.kind),.sc (.string tx),.sc (.int .i64 t.num),.am 4 (bh t.kids) ro]],true,25⟩→Y.find F1 (H.length+1)=some ⟨4,[AV.agg [.sc (.int .u8 0),.sc (.string ⟨#[]⟩),.sc (.int .i64 0),.am 0 [] (some [])]],true,25⟩→
   SE Tryz.prog [] (p2.seq (p3.seq ((p4.seq (IC.block 0 p5.loop)).seq p6))) (sZ [RV.c 5 4 true] fun e1 H1=>eB H e1 H1 (.ret (fF (bN (bX ps) x t p) (dV t p v ab H).length)) (gd (bN (bX ps) x t p) (dV t p v ab H).length++dV t p v ab H)) ts F1:=by
  intro ts F1 aX fe nT JW V6
  obtain ⟨js,rfl⟩:=aX.opened
  clear aX Sj f0c f0s f0t Z9 RJ sn Z7 Z8 aej
  refine SE.seq (SE.mJ ?_)
  rw[hp2]
  simp -implicitDefEqProofs (maxSteps:=99999999) (disch:=first|omega|(simp only[vl];first|done|omega)) only[mk,vu,vg,JW,qx,jn,va,vg,vs,vw,vk,simprocAttr]
  refine SE.seq (SE.mJ ?_)
  rw[hp3]
  simp -implicitDefEqProofs (maxSteps:=99999999) (disch:=first|omega|(simp only[vl];first|done|omega)) only[mk,vu,vg,JW,qx,jn,va,vg,vs,vw,vk,simprocAttr]
  refine SE.seq (SE.seq (SE.mJ ?_))
  rw[hp4]
  simp -implicitDefEqProofs (maxSteps:=99999999) (disch:=first|omega|(simp only[vl];first|done|omega)) only[mk,vu,vg,JW,aH,qx,jn,va,vg,vs,vw,vk,simprocAttr]
  refine SE.gen fun K hK=>?_
  refine SE.block (SE.agm (fun ts F=>∃(k i1:Nat)(xs:List AV)(is:List Nat)(vq:AV),(k≤t.kids.length∧mR F (dN (bX ps) x (t.kids.take k) p 0) xs is∧is.Nodup∧(∀i∈is,H.length+2≤i∧i≠i1∧i<F.length)∧(xs≠[]→Y.find F i1=bS 4 25 xs∧H.length+2≤i1))∧
   (Y.find F ab=some (nF vq)∧xS F p vq∧(k=0→vq=v∧∀i,i<H.length→Y.find F i=Y.find H i)∧(0<k→∃bB c,vq = .aD 1 bB 0 p.length c∧H.length+2≤bB∧bB∉is))∧
   (Y.find F H.length=some ⟨4,[.agg [.sc (.int .u8 t.kind),.sc (.string tx),.sc (.int .i64 t.num),aW 4 xs i1]],true,25⟩∧Y.find F (H.length+1)=some ⟨4,[AV.agg [.sc (.int .u8 0),.sc (.string ⟨#[]⟩),.sc (.int .i64 0),.am 0 [] (some [])]],true,25⟩∧(∀i,i<H.length→i≠ab→(∀a,pA v=some a→i≠a)→Y.find F i=Y.find H i)∧H.length+2≤F.length)∧
   Fr (none::some (.ptr 1 cb 0 0)::some (.ptr 1 ab 0 0)::some (.ptr 1 tb 0 0)::some (.ptr 4 H.length 0 0)::some (.ptr 4 (H.length+1) 0 0)::dL (some (.am 4 (bh t.kids) ro)::some (.sc (.int .i64 t.kids.length))::some (.sc (.int .i64 k))::none::none::none::fg (dL []))) ts) (fun ts _=>t.kids.length-(aM (ts.getD 24 .top)).toNat) ?_ ?_)
  ·refine ⟨0,H.length,[],[],v,⟨Nat.zero_le _,by simp only[List.take_zero,dN];exact .nil,by simp,by simp,fun e=>absurd rfl e⟩,⟨?_,?_,fun _=>⟨rfl,fun i hi=>by rw[Y.aj (by omega),nT i hi]⟩,fun h=>absurd h (by omega)⟩,⟨?_,by rw[Y.aj (by omega)];exact V6,fun i hi _ _=>by rw[Y.aj (by omega),nT i hi],by rw[Y.af];omega⟩,by simp[Fr]⟩
   ·rw[Y.aj (by omega),nT _ aei];exact hab
   ·exact ej.keep fun a e=>by rw[Y.aj (by have:=(Jl a e).2.2.2.2.2;omega),nT a (Jl a e).2.2.2.2.2]
   ·rw[Y.aC (by omega)]
    rfl
  rintro ts F ⟨k,i1,xs,is,vq,⟨hk,hO,hnd,hge,hrow⟩,⟨hFa,hFv,cE,hkp⟩,⟨hnb,Qf,hold,qj⟩,aX⟩ L2 bM
  obtain ⟨js,rfl⟩:=aX.opened
  clear aX
  by_cases hd:k<t.kids.length
  ·have d1:(k:Int)<t.kids.length:=by omega
   have hg:=dG hd
   have dW:=eJ hd
   have RG:=Nd.de dW
   have mO:=Nd.fZ t.kids
   refine SE.agp hFa hFv fun Fc ve0 hW RU aek haI ki tX hnil=>?_
   have Qn:H.length≠ab:=by omega
   clear hFv
   have aaa:=ki _ _ hnb Qn (by simp)
   have ael:=ki _ _ Qf (by omega) (by simp)
   have EM:∀a,pA ve0=some a→a≠ab∧a≠H.length∧a≠H.length+1∧(0<k→H.length+2≤a∧a∉is)∧(k=0→pA v=some a)∧a<Fc.length:=fun a e=>by
    have h1:=hW.at a e
    refine ⟨fun e2=>by rw[e2,RU] at h1;simp[nF] at h1,fun e2=>by rw[e2,aaa] at h1;simp at h1,fun e2=>by rw[e2,ael] at h1;simp at h1,fun h=>?_,fun h=>?_,Y.ax h1⟩
    ·obtain ⟨bB,c,e3,e4,e5⟩:=hkp h
     rw[haI,e3] at e
     cases e
     exact ⟨e4,e5⟩
    ·rw[haI,(cE h).1] at e;exact e
   have Qo:∀i,i<H.length→i≠ab→(∀a,pA v=some a→i≠a)→Y.find Fc i=Y.find H i:=fun i hi h1 h2=>by
    have h3:∀a,pA vq=some a→i≠a:=fun a e e2=>by
     rw[←haI] at e
     rcases Nat.eq_zero_or_pos k with hz|hz
     ·exact h2 a ((EM a e).2.2.2.2.1 hz) e2
     ·have:=((EM a e).2.2.2.1 hz).1;omega
    rw[tX i h1 h3]
    exact hold i hi h1 h2
   have hOc:mR Fc (dN (bX ps) x (t.kids.take k) p 0) xs is:=hO.keep fun i ys e h=>by
    rw[bj e] at h ⊢
    exact ki i _ h (fun e2=>by rw[e2,hFa] at h;simp[nF] at h) (by simp)
   have EN:xs≠[]→Y.find Fc i1=bS 4 25 xs∧H.length+2≤i1:=fun e=>by
    obtain ⟨h1,h2⟩:=hrow e
    rw[bj e] at h1 ⊢
    exact ⟨ki i1 _ h1 (by omega) (by simp),h2⟩
   clear hO hrow hold hFa hnb Qf cE hkp
   have RX:∀i∈is,H.length+2≤i∧i≠i1∧i<Fc.length:=fun i hi=>by rw[aek];exact hge i hi
   have ajb:H.length+2≤Fc.length:=by omega
   clear hge qj aek ki tX
   have hc2:Y.find Fc cb=_:=(Qo cb iG (Ne.symm hbc) fun a e=>(Jl a e).2.1.symm).trans hT.c
   have Uc:Y.find Fc tb=_:=(Qo tb sQ (Ne.symm VO) fun a e=>(Jl a e).2.2.2.1.symm).trans hT.t
   have qL:=hW.ez (G:=some ⟨4,[.agg [.sc (.int .u8 (aE t.kids k).kind),.sc (.string (aE t.kids k).text),.sc (.int .i64 (aE t.kids k).num),.am 4 (bh (aE t.kids k).kids) none]],true,25⟩::Fc) k (by omega) fun a e=>ai (EM a e).2.2.2.2.2
   obtain ⟨ap1,ap2,ap3⟩:=qL
   simp only[List.length_cons] at ap2
   have aab:=RU
   unfold nF at aab
   obtain ⟨F2,jH⟩:∃F2,F2=some (⟨1,aK (p++[(k:Int)]),false,3⟩:aP)::oL (pA ve0) (some ⟨4,[.agg [.sc (.int .u8 (aE t.kids k).kind),.sc (.string (aE t.kids k).text),.sc (.int .i64 (aE t.kids k).num),.am 4 (bh (aE t.kids k).kids) none]],true,25⟩::Fc):=⟨_,rfl⟩
   rw[←jH] at ap3
   have ajt:F2.length=Fc.length+2:=by rw[jH];simp[cT]
   have zB:∀i,i<Fc.length→(∀a,pA ve0=some a→i≠a)→Y.find F2 i=Y.find Fc i:=fun i hi h=>by
    rw[jH,ai (by rw[cT];simp;omega),A1 h,ai hi]
   have aiQ:Y.find F2 (Fc.length+1)=some ⟨1,aK (p++[(k:Int)]),false,3⟩:=by rw[jH,aJ (by rw[cT];rfl)]
   have aiR:Y.find F2 Fc.length=some ⟨4,[.agg [.sc (.int .u8 (aE t.kids k).kind),.sc (.string (aE t.kids k).text),.sc (.int .i64 (aE t.kids k).num),.am 4 (bh (aE t.kids k).kids) none]],true,25⟩:=by
    rw[jH,ai (by rw[cT];simp),A1 fun a e=>by have:=(EM a e).2.2.2.2.2;omega,aJ rfl]
   have g1:Y.find F2 ab=some ⟨1,[ve0],true,30⟩:=(zB ab (Y.ax RU) fun a e=>(EM a e).1.symm).trans aab
   have g2:=(zB H.length (by omega) fun a e=>(EM a e).2.1.symm).trans aaa
   have g3:=(zB tb (by omega) fun a e=>by
    rcases Nat.eq_zero_or_pos k with hz|hz
    ·exact (Jl a ((EM a e).2.2.2.2.1 hz)).2.2.2.1.symm
    ·have:=((EM a e).2.2.2.1 hz).1;omega).trans Uc
   have RY:∀i,i<H.length→i≠ab→(∀a,pA v=some a→i≠a)→Y.find F2 i=Y.find H i:=fun i hi h1 h2=>by
    rw[zB i (by omega) fun a e e2=>?_,Qo i hi h1 h2]
    rcases Nat.eq_zero_or_pos k with hz|hz
    ·exact h2 a ((EM a e).2.2.2.2.1 hz) e2
    ·have:=((EM a e).2.2.2.1 hz).1;omega
   clear jH
   have cl:cr Tryz.prog 75=true:=by kernel_rfl
   obtain ⟨wf1,wf2,wf3,wf4⟩:=hW.v.flat
   have wf5:=hW.v.lu
   have hlen:(p++[(k:Int)]).length=p.length+1:=by simp
   have MY:∀(y:Option aP) i,i≠ab→Y.find (Y.set F2 ab y) i=Y.find F2 i:=fun y i h=>Y.aj h
   have hTP:TP cb ab tb oM ee ps x (Y.set F2 ab (some (nF (.aD 1 (Fc.length+1) 0 (p++[(k:Int)]).length none)))):=by
    refine ⟨?_,?_,fun h=>?_,?_⟩
    ·rw[MY _ _ hbc.symm,RY cb iG hbc.symm fun a e=>(Jl a e).2.1.symm];exact hT.c
    ·rw[MY _ _ xE.symm,RY oM pR xE.symm fun a e=>(Jl a e).2.2.1.symm];exact hT.s
    ·have h0:=hT.l h
     have h1:=h0
     rw[bj h] at h1
     rw[MY _ _ (ir h).symm,RY ee (Y.ax h1) (ir h).symm fun a e=>((Jl a e).2.2.2.2.1 h).symm];exact h0
    ·rw[MY _ _ VO.symm];exact g3
   have hA3:Y.find (Y.set F2 ab (some (nF (.aD 1 (Fc.length+1) 0 (p++[(k:Int)]).length none)))) (Fc.length+1)=some ⟨1,aK (p++[(k:Int)]),false,3⟩:=by
    rw[MY _ _ (by omega)];exact aiQ
   have hi:=ih _ dW none (p++[(k:Int)]) cb ab tb oM ee (.aD 1 (Fc.length+1) 0 (p++[(k:Int)]).length none) _ (by rw[hlen];omega) hTP (Y.aC (by omega)) (.inr ⟨_,rfl,hA3⟩)
   have xf:=Ql (t:=aE t.kids k) (T:=bN (bX ps) x (aE t.kids k) (p++[(k:Int)])) (Y.aC (H:=F2) (i:=ab) (x:=some (nF (.aD 1 (Fc.length+1) 0 (p++[(k:Int)]).length none))) (by omega)) hA3
   generalize (dV (aE t.kids k) (p++[(k:Int)]) (.aD 1 (Fc.length+1) 0 (p++[(k:Int)]).length none) ab (Y.set F2 ab (some (nF (.aD 1 (Fc.length+1) 0 (p++[(k:Int)]).length none))))).length=n0 at hi xf
   generalize hT':bN (bX ps) x (aE t.kids k) (p++[(k:Int)])=T' at hi xf
   generalize hF4:gd T' n0++dV (aE t.kids k) (p++[(k:Int)]) (.aD 1 (Fc.length+1) 0 (p++[(k:Int)]).length none) ab (Y.set F2 ab (some (nF (.aD 1 (Fc.length+1) 0 (p++[(k:Int)]).length none))))=F4 at hi xf
   clear hF4
   obtain ⟨q1,⟨A,q2,q3,q4,q4b⟩,q5,q6,q7⟩:=xf
   rw[Y.af] at q5 q6
   rw[aQ] at hi
   rw[hlen] at hi q2
   unfold nF at hi q2
   rw[hp5]
   simp only[qx,jn,ux]
   refine SE.seq (SE.mJ ?_)
   refine fB d1 ?_
   refine SE.seq (SE.mJ ?_)
   refine fB d1 ?_
   refine SE.seq (SE.block (SE.seq (SE.mJ ?_)))
   refine fB (gq d1 hg @aH) ?_
   refine ⟨by omega,SE.seq (SE.mJ ?_)⟩
   refine fB (XH wf1 wf2 wf3 wf4 wf5 aab ap1 ap2 ap3 g1) ?_
   refine SE.seq (SE.mJ ?_)
   refine fB (kZ g1 g2 g3 aiR @nr) ?_
   refine ⟨cl,sY hi (fun l hl _=>?_) ?_⟩
   ·simp only[List.mem_cons,List.not_mem_nil,or_false] at hl
    rcases hl with rfl|rfl|rfl
    ·have:=q5 Fc.length (by omega) (by omega) (by omega)
     rw[hlen] at this;exact this
    ·have:=q5 tb (by omega) VO.symm (by omega)
     rw[hlen] at this;exact this
    ·have:=q5 H.length (by omega) (by omega) (by omega)
     rw[hlen] at this;exact this
   have q5':∀i,i<F2.length→i≠ab→i≠Fc.length+1→Y.find F4 i=Y.find F2 i:=fun i h1 h2 h3=>by rw[q5 i h1 h2 h3,Y.aj h2]
   clear q5
   have aac:∀e:xs≠[],i1<Fc.length∧i1≠ab∧(∀a,pA ve0=some a→i1≠a):=fun e=>by
    obtain ⟨r1,r2⟩:=EN e
    rw[bj e] at r1
    refine ⟨Y.ax r1,by omega,fun a ea e2=>?_⟩
    have:=hW.at a ea
    rw[←e2,r1] at this
    cases this
   have aad:xs≠[]→Y.find F4 i1=bS 4 25 xs:=fun e=>by
    obtain ⟨s1,s2,s3⟩:=aac e
    rw[q5' i1 (by omega) s2 (by omega),zB i1 s1 s3]
    exact (EN e).1
   have uv:=hOc.len
   rw[eG,List.length_take] at uv
   obtain ⟨i5,F5,u1,u2,u3,u4,u5,u6⟩:=tt (H:=F4) (k:=4) (ty:=25) (xs:=xs) (ys:=[.agg [.sc (.int .u8 T'.kind),.sc (.string T'.text),.sc (.int .i64 T'.num),aW 4 (eT T'.kids (n0+1)) n0]]) (id:=i1) aad (by simp;omega)
   obtain ⟨u4a,u4b⟩:=u4 (by simp)
   have h5:∀i,i<F4.length→(xs≠[]→i≠i1)→Y.find F5 i=Y.find F4 i:=u6
   have g5:Y.find F5 H.length=some ⟨4,[.agg [.sc (.int .u8 t.kind),.sc (.string tx),.sc (.int .i64 t.num),aW 4 xs i1]],true,25⟩:=by
    rw[h5 _ (by omega) fun e=>by have:=(EN e).2;omega,q5' _ (by omega) (by omega) (by omega)]
    exact g2
   have g6:Y.find F5 ab=some ⟨1,[.aD 1 A 0 (p.length+1) none],true,30⟩:=by
    rw[h5 _ (by omega) fun e=>(aac e).2.1.symm]
    exact q2
   have hsub:(((p.length+1:Nat):Int)-1)=p.length:=by omega
   have agq:(p.length:Int)+1-1=p.length:=by omega
   have hle:p.length≤p.length+1:=by omega
   have f1:∀ys a,(aW 4 ys a).cells=[aW 4 ys a]:=fun _ _=>nU
   refine aI (Ds @ey f1 u1 u2 u3 g5 g6 @nr) ?_
   have g7:∀y,Y.find (Y.set F5 H.length y) ab=some ⟨1,[.aD 1 A 0 (p.length+1) none],true,30⟩:=fun y=>by rw[Y.aj (by omega)];exact g6
   have nQ:(1000001:Nat)≤maxLen:=by decide
   refine SE.ago (g7 _) (by omega) fun m Zo hm2=>SE.mJ ?_
   have hle:∀y,Y.find (Y.set (Y.set F5 H.length y) ab (some ⟨1,[.aD 1 A 0 (p.length+1) (some m)],true,30⟩)) ab=some ⟨1,[.aD 1 A 0 (p.length+1) (some m)],true,30⟩:=fun y=>Y.aC (by rw[Y.af];omega)
   have hm0:0<m:=by omega
   refine aI (kZ hle hsub agq hm0 @Nat.sub_zero) ?_
   refine ⟨⟨by omega,rfl,by omega,by omega⟩,SE.mJ ?_⟩
   refine aw ?_
   have e1:aK (p++[(k:Int)])=aK p++aK [(k:Int)]:=by simp[aK]
   have w0:∀(y z:Option aP) i,i<F5.length→i≠ab→i≠H.length→Y.find (Y.set (Y.set (Y.set F5 H.length y) ab z) ab (some ⟨1,[.aD 1 A 0 p.length (some m)],true,30⟩)) i=Y.find F5 i:=fun y z i _ h1 h2=>by rw[Y.aj h1,Y.aj h1,Y.aj h2]
   have w1:∀(y z:Option aP),Y.find (Y.set (Y.set (Y.set F5 H.length y) ab z) ab (some ⟨1,[.aD 1 A 0 p.length (some m)],true,30⟩)) ab=some ⟨1,[.aD 1 A 0 p.length (some m)],true,30⟩:=fun y z=>Y.aC (by rw[Y.af,Y.af];omega)
   have w2:∀(y z:Option aP),Y.find (Y.set (Y.set (Y.set F5 H.length y) ab z) ab (some ⟨1,[.aD 1 A 0 p.length (some m)],true,30⟩)) H.length=y:=fun y z=>by rw[Y.aj Qn,Y.aj Qn,Y.aC (by omega)]
   have w3:∀(y z:Option aP),(Y.set (Y.set (Y.set F5 H.length y) ab z) ab (some ⟨1,[.aD 1 A 0 p.length (some m)],true,30⟩)).length=F5.length:=fun y z=>by rw[Y.af,Y.af,Y.af]
   have hA1:A≠i1∨xs=[]:=by
    by_cases e:xs=[]
    ·exact .inr e
    ·left
     intro e2
     have:=aad e
     rw[←e2,q3,bj e] at this
     cases this
   have hAF:Y.find F5 A=some ⟨1,aK (p++[(k:Int)]),false,3⟩:=by
    rw[h5 A (by omega) fun e=>by rcases hA1 with h|h;exact h;exact absurd h e]
    exact q3
   have hOt:dN (bX ps) x (t.kids.take (k+1)) p 0=dN (bX ps) x (t.kids.take k) p 0++[T']:=by
    rw[Bw _ _ _ _ _ _ hd,Nat.zero_add,hT']
   have hOF:∀i ys,ys≠[]→Y.find Fc i=bS 4 25 ys→i≠i1→Y.find F5 i=bS 4 25 ys∧i≠ab∧i≠H.length:=fun i ys e h hne=>by
    rw[bj e] at h ⊢
    have qE:=Y.ax h
    have Mf:i≠ab:=fun e2=>by rw[e2,RU] at h;simp[nF] at h
    have Mi:i≠H.length:=fun e2=>by rw[e2,aaa] at h;simp at h
    refine ⟨?_,Mf,Mi⟩
    rw[h5 i (by omega) fun _=>hne,q5' i (by omega) Mf (by omega),zB i qE fun a ea e2=>?_]
    ·exact h
    ·have:=hW.at a ea
     rw[←e2,h] at this
     cases this
   refine bM _ _ ⟨k+1,i5,xs++[fF T' n0],is++List.range' n0 T'.size,.aD 1 A 0 p.length (some m),⟨by omega,?_,?_,fun i hi=>?_,fun _=>⟨?_,by omega⟩⟩,⟨?_,.inr ⟨A,some m,aK (p++[(k:Int)]),rfl,?_,?_⟩,fun h=>by omega,fun _=>⟨A,some m,rfl,by omega,fun h=>?_⟩⟩,⟨?_,?_,fun i hi h1 h2=>?_,?_⟩,by simp[Fr,ey]⟩ (by simp[aM,mk];omega)
   ·rw[hOt]
    have h8:∀G:Y,(∀i,i<F5.length→i≠ab→i≠H.length→Y.find G i=Y.find F5 i)→mR G (dN (bX ps) x (t.kids.take k) p 0++[T']) (xs++[fF T' n0]) (is++List.range' n0 T'.size):=fun G hG=>by
     have h9:=(hOc.EJ (G:=G) fun i hi ys e h=>by
      obtain ⟨z1,z2,z3⟩:=hOF i ys e h (RX i hi).2.1
      rw[hG i (by rw[bj e] at z1;exact Y.ax z1) z2 z3]
      exact z1).append (.cons (Qj T' (q1.of (G:=G) fun i z1 z2=>by
       rw[hG i (by omega) (by omega) (by omega),h5 i (by omega) fun e=>by have:=(aac e).1;omega])) .nil)
     rwa [List.append_nil] at h9
    exact h8 _ fun i z1 z2 z3=>w0 _ _ i z1 z2 z3
   ·refine List.nodup_append.2 ⟨hnd,List.nodup_range',fun a ha b hb e=>?_⟩
    have:=(RX a ha).2.2
    have:=py hb
    omega
   ·rw[w3]
    rcases List.mem_append.1 hi with h|h
    ·have:=RX i h
     exact ⟨this.1,by omega,by omega⟩
    ·have:=py h
     exact ⟨by omega,by omega,by omega⟩
   ·rw[w0 _ _ _ (by rw[bj (by simp)] at u4a;exact Y.ax u4a) (by omega) (by omega),ey]
    exact u4a
   ·exact w1 _ _
   ·rw[w0 _ _ A (by omega) (by omega) (by omega)]
    exact hAF
   ·rw[e1,List.take_left' (aB p)]
   ·rcases List.mem_append.1 h with h|h
    ·have:=(RX A h).2.2;omega
    ·have:=py h;omega
   ·rw[w2,ey]
   ·rw[w0 _ _ _ (by omega) (by omega) (by omega),h5 _ (by omega) fun e=>by have:=(EN e).2;omega,q5' _ (by omega) (by omega) (by omega),zB _ (by omega) fun a e=>(EM a e).2.2.1.symm]
    exact ael
   ·rw[w0 _ _ _ (by omega) h1 (by omega),h5 _ (by omega) fun e=>by have:=(EN e).2;omega,q5' _ (by omega) h1 (by omega)]
    exact RY i hi h1 h2
   ·rw[w3];omega
  ·have d1:¬(k:Int)<t.kids.length:=by omega
   have hkk:k=t.kids.length:=by omega
   refine SE.mJ ?_
   rw[hp5]
   simp -implicitDefEqProofs (maxSteps:=99999999) (disch:=first|omega|(simp only[vl];first|done|omega)) only[vu,vg,mk,d1,qx,jn,va,vg,vs,vw,vk,simprocAttr]
   clear bM
   refine hK _ _ _ ?_
   clear hK
   refine SE.mJ ?_
   rw[hp6]
   simp -implicitDefEqProofs (maxSteps:=99999999) (disch:=first|omega|(simp only[vl];first|done|omega)) only[vu,vg,hnb,Qf,nr,qx,jn,va,vg,vs,vw,vk,simprocAttr]
   have hT2:bN (bX ps) x t p=⟨t.kind,tx,t.num,dN (bX ps) x t.kids p 0⟩:=by rw[iC,P3]
   rw[hkk,List.take_length] at hO
   have uv:=hO.len
   rw[eG] at uv
   have aem:∀i ys,ys≠[]→Y.find F i=bS 4 25 ys→i≠H.length+1:=fun i ys e h e2=>by
    rw[e2,Qf,bj e] at h;cases h
   have gK:∀(y:Option aP) i ys,ys≠[]→Y.find F i=bS 4 25 ys→Y.find (Y.set F (H.length+1) y) i=bS 4 25 ys:=fun y i ys e h=>by
    rw[Y.aj (aem i ys e h)];exact h
   by_cases ck:t.kids=[]
   ·have hx0:xs=[]:=List.length_eq_zero_iff.1 (by rw[uv,ck];rfl)
    subst hx0
    have VL:k=0:=by rw[hkk,ck];rfl
    obtain ⟨rfl,hall⟩:=cE VL
    have hO0:is=[]:=by
     rw[ck] at hO
     simp only[dN] at hO
     cases hO
     rfl
    subst hO0
    have hX:dV t p vq ab H=H:=by unfold dV;rw[if_pos ck]
    rw[hX]
    refine xR (pre:=[]) (is:=H.length::[]) (by simp) ?_ (by simp) (by simp) (fun id b hid hb=>.inl ⟨hb,by rw[Y.aj (by omega),hall id hid];exact hb⟩) (fun i s b hs=>by simp at hs)
    rw[hT2]
    exact .mk (xs:=[]) (i:=H.length) (fun e=>absurd rfl e) (hO.keep (gK _))
   ·have mO:0<t.kids.length:=List.length_pos_iff.2 ck
    have Fg:xs≠[]:=fun e=>by rw[e] at uv;simp at uv;omega
    obtain ⟨r1,r2⟩:=hrow Fg
    obtain ⟨bB,c,rfl,Mf,Mi⟩:=hkp (by omega)
    obtain ⟨es,he,het⟩:∃es,Y.find F bB=some ⟨1,es,false,3⟩∧es.take p.length=aK p:=by
     rcases hFv with ⟨_,e⟩|⟨a,c,es,e,h1,h2⟩
     ·cases e
     ·cases e;exact ⟨es,h1,h2⟩
    have hX:dV t p v ab H=some ⟨1,aK p,false,3⟩::Y.set (oL (pA v) H) ab (some (nF (.aD 1 H.length 0 p.length none))):=by unfold dV;rw[if_neg ck]
    rw[hX]
    refine eB.cut bB p.length ?_
    have tX:∀(y:Option aP) i,i≠bB→i≠H.length+1→Y.find (jo (Y.set F (H.length+1) y) bB p.length) i=Y.find F i:=fun y i h1 h2=>by rw[sy h1,Y.aj h2]
    have hca:∀(y:Option aP),Y.find (jo (Y.set F (H.length+1) y) bB p.length) bB=some ⟨1,aK p,false,3⟩:=fun y=>by
     have:=tE (H:=Y.set F (H.length+1) y) (id:=bB) (n:=p.length) (by rw[Y.aj (by omega)];exact he) (by simp)
     rw[het] at this
     exact this
    have Z5:i1≠bB:=fun e=>by rw[e,he,bj Fg] at r1;cases r1
    refine xR (pre:=[bB]) (is:=i1::is) (by simp[Y.af,cT]) ?_ ?_ ?_ (fun id b hid hb=>?_) (fun i s b hs hb=>?_)
    ·rw[hT2]
     refine .mk (fun _=>?_) (hO.keep fun i ys e h=>?_)
     ·rw[tX _ i1 Z5 (by omega)];exact r1
     ·rw[tX _ i (fun e2=>by rw[e2,he,bj e] at h;cases h) (aem i ys e h)];exact h
    ·simp only[List.cons_append,List.nil_append,List.nodup_cons,List.mem_cons]
     exact ⟨fun h=>by rcases h with h|h;exact Z5 h.symm;exact Mi h,fun h=>(hge i1 h).2.1 rfl,hnd⟩
    ·intro i hi
     simp only[List.cons_append,List.nil_append,List.mem_cons] at hi
     rcases hi with rfl|rfl|hi
     ·omega
     ·omega
     ·have:=(hge i hi).1;omega
    ·rw[ai (by rw[Y.af,cT];exact hid)] at hb
     by_cases ci:id=ab
     ·subst ci
      rw[Y.aC (by rw[cT];exact hid)] at hb
      cases hb
      refine .inr ⟨nF (.aD 1 bB 0 p.length c),by rw[tX _ id (by omega) (by omega)];exact hFa,rfl,rfl,fun h=>h,.cons (.Gw ?_ (.inr rfl)) .nil⟩
      have aiS:(bB::i1::is).Nodup:=List.nodup_cons.2 ⟨fun h=>by rcases List.mem_cons.1 h with h|h;exact Z5 h.symm;exact Mi h,List.nodup_cons.2 ⟨fun h=>(hge i1 h).2.1 rfl,hnd⟩⟩
      have hN:=nB (n0:=H.length) aiS (i:=0) (s:=bB) rfl (by omega)
      exact hN
     ·rw[Y.aj ci] at hb
      obtain ⟨e1,e2⟩:=MX hb
      exact .inl ⟨e1,by rw[tX _ id (by omega) (by omega),hold id hid ci e2];exact e1⟩
    ·cases i with
     |zero =>
      simp only[List.getElem?_cons_zero,Option.some.injEq] at hs
      subst hs
      rw[Nat.add_zero,aJ (by rw[Y.af,cT])] at hb
      cases hb
      exact ⟨_,hca _,rfl,rfl,fun h=>h,sj⟩
     |succ i=>simp at hs
 cases hpf:bX ps p with
 |false =>
  rw[hpf] at Sj P3
  simp -implicitDefEqProofs (maxSteps:=99999999) (disch:=first|omega|(simp only[vl];first|done|omega)) only[vu,vg,vf1,vf2,vf3,vf4,f0c,f0s,Z9,qx,jn,va,vg,vs,vw,vk,simprocAttr]
  refine aL Sj ?_
  refine aw ?_
  refine hkey _ _ (by simp[Fr]) RJ sn ?_ Z8
  rw[P3]
  exact Z7
 |true =>
  rw[hpf] at Sj P3
  simp -implicitDefEqProofs (maxSteps:=99999999) (disch:=first|omega|(simp only[vl];first|done|omega)) only[vu,vg,vf1,vf2,vf3,vf4,f0c,f0s,Z9,qx,jn,va,vg,vs,vw,vk,simprocAttr]
  refine aL Sj ?_
  refine aI (ei f0c f0s Z9 Z7) ?_
  refine hkey _ _ (by simp[Fr]) (by rw[Y.af];exact RJ) (fun i hi=>by rw[Y.aj (by omega)];exact sn i hi) ?_ (by rw[Y.aj (by omega)];exact Z8)
  rw[Y.aC (by omega),P3]
  rfl
theorem aco(ps:List (List Int))(x:ByteArray)(hz:ps.length≤1000000)(dY:∀k,k<ps.length→(dS ps k).length≤1000000)(t:Nd):Qm ps x t:=by
 induction t using Nd.ind with
 |_ t ih=>exact Z6 ps x hz dY t ih
theorem acp(ps:List (List Int))(x:ByteArray)(hz:ps.length≤1000000)(dY:∀k,k<ps.length→(dS ps k).length≤1000000)(t:Nd)(ro:Option (List AV))(hs:t.size≤1000000)(oM ee:Nat)(H:Y)(hc:Y.find H oM=some ⟨2,[.agg [aW 1 (bc ps) ee,.sc (.string x)]],true,66⟩)(hl:bc ps≠[]→Y.find H ee=bS 1 30 (bc ps)) :
  D Tryz.prog 45 [.ptr 2 oM 0 0,dZ t ro] H (.ret (fF (bN (bX ps) x t []) H.length)) (gd (bN (bX ps) x t []) H.length++H):=by
 have iG:=Y.ax hc
 have ef:bc ps≠[]→ee<H.length:=fun h=>by have:=hl h;rw[bj h] at this;exact Y.ax this
 have cl:cr Tryz.prog 75=true:=by kernel_rfl
 refine aG (by rw[List.length_append];omega) (aiC (aA ?_))
 rw[aQ]
 simp only[ad6,ux]
 refine Z fun L hL=>?_
 refine aw ?_
 refine hL _ _ ?_
 clear hL
 refine Z fun L hL=>?_
 refine aw ?_
 refine hL _ _ ?_
 clear hL
 refine Z fun L hL=>?_
 refine aw ?_
 refine hL _ _ ?_
 clear hL
 refine Z fun L hL=>?_
 refine aw ?_
 generalize hF:(some ⟨1,[AV.fn (Fn.func 75) [] [.ptr 1 H.length 0 0,.ptr 1 (H.length+3) 0 0,.ptr 1 (H.length+4) 0 0]],true,28⟩:Option aP)::_=F
 have qj:F.length=H.length+5:=by rw[←hF];rfl
 have hFo:∀i,i<H.length→Y.find F i=Y.find H i:=fun i hi=>by
  rw[←hF,ai (by simp;omega),ai (by simp;omega),ai (by simp;omega),ai (by simp;omega),ai (by omega)]
 have f0:Y.find F H.length=some ⟨1,[.ptr 2 oM 0 0],true,62⟩:=by
  rw[←hF,ai (by simp only[List.length_cons];omega),ai (by simp only[List.length_cons];omega),ai (by simp only[List.length_cons];omega),ai (by simp only[List.length_cons];omega),aJ rfl]
 have f1:Y.find F (H.length+1)=some ⟨4,[.agg [.sc (.int .u8 t.kind),.sc (.string t.text),.sc (.int .i64 t.num),.am 4 (bh t.kids) ro]],true,25⟩:=by
  rw[←hF,ai (by simp only[List.length_cons];omega),ai (by simp only[List.length_cons];omega),ai (by simp only[List.length_cons];omega),aJ (by simp only[List.length_cons])]
 have f2:∃rb,Y.find F (H.length+2)=some ⟨4,[.agg [rb,.sc (.string ⟨#[]⟩),.sc (.int .i64 0),.am 0 [] (some [])]],true,25⟩:=⟨.sc (.int .u8 0),by
  rw[←hF,ai (by simp only[List.length_cons];omega),ai (by simp only[List.length_cons];omega),aJ (by simp only[List.length_cons])]⟩
 have f3:Y.find F (H.length+3)=some (nF (.am 0 [] (some []))):=by
  rw[←hF,ai (by simp only[List.length_cons];omega),aJ (by simp only[List.length_cons])]
  rfl
 have f4:Y.find F (H.length+4)=some ⟨1,[AV.fn (Fn.func 75) [] [.ptr 1 H.length 0 0,.ptr 1 (H.length+3) 0 0,.ptr 1 (H.length+4) 0 0]],true,28⟩:=by
  rw[←hF]
  exact aJ (by simp only[List.length_cons])
 clear hF
 obtain ⟨rb,f2⟩:=f2
 have hT:TP H.length (H.length+3) (H.length+4) oM ee ps x F:=⟨f0,(hFo oM iG).trans hc,fun h=>(hFo ee (ef h)).trans (hl h),f4⟩
 have htd:=aco ps x hz dY t ro [] H.length (H.length+3) (H.length+4) oM ee (.am 0 [] (some [])) F (by simp;omega) hT f3 (.inl ⟨rfl,rfl⟩)
 have hXl:=xT (t:=t) (p:=[]) (v:=.am 0 [] (some [])) (ab:=H.length+3) (H:=F)
 have U4:∀i,i<F.length→i≠H.length+3→Y.find (gd (bN (bX ps) x t []) (dV t [] (.am 0 [] (some [])) (H.length+3) F).length++dV t [] (.am 0 [] (some [])) (H.length+3) F) i=Y.find F i:=fun i hi hne=>by
  rw[Y.bF (by omega)]
  unfold dV
  split
  ·rfl
  ·rw[ai (by rw[Y.af,cT];omega),Y.aj hne]
   rfl
 have hlies:dP (gd (bN (bX ps) x t []) (dV t [] (.am 0 [] (some [])) (H.length+3) F).length++dV t [] (.am 0 [] (some [])) (H.length+3) F) (bN (bX ps) x t []) (dV t [] (.am 0 [] (some [])) (H.length+3) F).length:=j6
 generalize (dV t [] (.am 0 [] (some [])) (H.length+3) F).length=n0 at htd U4 hlies hXl
 generalize hT':bN (bX ps) x t []=T' at htd U4 hlies ⊢
 generalize hG:gd T' n0++dV t [] (.am 0 [] (some [])) (H.length+3) F=G at htd U4 hlies
 have El:n0+T'.size=G.length∨True:=.inr trivial
 rw[aQ] at htd
 have hr:=(U4 (H.length+2) (by omega) (by omega)).trans f2
 have El:F.length≤G.length:=by have:=Y.ax hr;have:=U4 (H.length+4) (by omega) (by omega);rw[f4] at this;have:=Y.ax this;omega
 refine hL _ _ ?_
 clear hL
 refine Z fun L hL=>?_
 simp -implicitDefEqProofs (maxSteps:=99999999) (disch:=first|omega|(simp only[vl];first|done|omega)) only[vu,vg,f0,f1,f4,cl,va,vg,vs,vw,vk,simprocAttr]
 refine ae htd ?_
 refine aI (ak hr @ey) ?_
 refine hL _ _ ?_
 clear hL
 refine aw ?_
 rw[←ey]
 have hend:∀y:Option aP,eB H (.ret (fF T' n0)) (Y.set G (H.length+2) y) (.ret (fF T' H.length)) (gd T' H.length++H):=fun y=>by
  have gK:∀i,i≠H.length+2→Y.find (Y.set G (H.length+2) y) i=Y.find G i:=fun i h=>Y.aj h
  refine xR (pre:=[]) (is:=List.range' n0 T'.size) (by simp) (Qj T' (hlies.of fun i h1 h2=>gK i (by omega))) (by simpa using List.nodup_range') (fun i hi=>?_) (fun id b hid hb=>.inl ⟨hb,?_⟩) (fun i s b hs=>by simp at hs)
  ·have:=py (by simpa using hi:i∈List.range' n0 T'.size)
   omega
  ·rw[gK id (by omega),U4 id (by omega) (by omega),hFo id hid]
   exact hb
 rw[hT']
 exact hend _
theorem FI(a b:List (List Int)):bc (a++b)=bc a++bc b:=by simp[bc]
theorem RZ(ps qs:List (List Int))(x:ByteArray)(ro:Option (List AV))(hne:qs≠[]∨ps≠[])(hl:ps.length+qs.length≤2000000)(oM ee:Nat)(H:Y)(hc:Y.find H oM=some ⟨2,[.agg [aW 1 (bc ps) ee,.sc (.string x)]],true,66⟩)(hli:bc ps≠[]→Y.find H ee=bS 1 30 (bc ps)) :
  D Tryz.prog 44 [.ptr 2 oM 0 0,.am 1 (bc qs) ro] H (.ret (.aO [])) (Y.set (bS 1 30 (bc (ps++qs))::jS (bc ps) ee H) oM (some ⟨2,[.agg [aW 1 (bc (ps++qs)) H.length,.sc (.string x)]],true,66⟩)):=by
 have iG:=Y.ax hc
 have ef:bc ps≠[]→ee<H.length∧oM≠ee:=fun h=>by
  have:=hli h;rw[bj h] at this
  exact ⟨Y.ax this,fun e=>by rw[←e,hc] at this;cases this⟩
 obtain ⟨a1,a2,a3⟩:=XC (H:=H) (k:=1) (ty:=30) (xs:=bc ps) (ys:=bc qs) (id:=ee) hli (by simp[dg];omega)
 have Qh:bc qs≠[]∨bc ps≠[]:=hne.imp (fun h e=>h (by simpa [bc] using e)) fun h e=>h (by simpa [bc] using e)
 obtain ⟨a4,a5⟩:=a2 Qh
 rw[←FI] at a4 a5
 have hk:Y.find (bS 1 30 (bc (ps++qs))::jS (bc ps) ee H) oM=some ⟨2,[.agg [aW 1 (bc ps) ee,.sc (.string x)]],true,66⟩:=by
  rw[ai (by rw[bz];exact iG)]
  by_cases e:bc ps=[]
  ·rw[e] at hc ⊢;exact hc
  ·rw[jT (ef e).2];exact hc
 refine aG (by simp[Y.af,bz]) (aiA (aA ?_))
 simp only[ad4,ux]
 simp -implicitDefEqProofs (maxSteps:=99999999) (disch:=first|omega|(simp only[vl];first|done|omega)) only[vu,vg,hc,a1,a4,a5,hk,nr,va,vg,vs,vw,vk,simprocAttr]
 exact eB.refl _ _ _
def nG(p:List Int):List kz→Nat→Int
 |[],_=>-1
 |q::r,i=>if q.1=p then i else nG p r (i+1)
theorem HC{p:List Int}:∀{l:List kz}{i k:Nat},k<l.length→(∀j,j<k→¬(cS l j).1=p)→(cS l k).1=p→nG p l i=(i+k:Nat)
 |[],_,_,h,_,_=>by simp at h
 |q::r,i,0,_,_,h=>by simp[cS] at h;simp[nG,h]
 |q::r,i,k+1,h,hn,he=>by
  have h0:¬q.1=p:=by simpa [cS] using hn 0 (by omega)
  rw[nG,if_neg h0,HC (i:=i+1) (k:=k) (by simpa using h) (fun j hj=>by simpa [cS] using hn (j+1) (by omega)) (by simpa [cS] using he)]
  omega
theorem BI{p:List Int}:∀{l:List kz}{i:Nat},(∀j,j<l.length→¬(cS l j).1=p)→nG p l i=-1
 |[],_,_=>rfl
 |q::r,i,hn=>by
  have h0:¬q.1=p:=by simpa [cS] using hn 0 (by simp)
  rw[nG,if_neg h0,BI fun j hj=>by simpa [cS] using hn (j+1) (by simpa using hj)]
theorem BJ{p:List Int}:∀{l:List kz}{i:Nat},match l.find? fun b=>decide (b.1=p) with
  |none=>nG p l i=-1
  |some b=>∃k:Nat,nG p l i=(i+k:Nat)∧k<l.length∧cS l k=b
 |[],i=>by simp[nG]
 |q::r,i=>by
  rw[List.find?_cons]
  by_cases c:q.1=p
  ·rw[decide_eq_true c]
   exact ⟨0,by simp[nG,c],by simp,by simp[cS]⟩
  ·rw[decide_eq_false c]
   simp only
   have ih:=BJ (p:=p) (l:=r) (i:=i+1)
   cases h:r.find? fun b=>decide (b.1=p) with
   |none =>
    rw[h] at ih
    simp only at ih ⊢
    rw[nG,if_neg c,ih]
   |some b =>
    rw[h] at ih
    simp only at ih ⊢
    obtain ⟨k,h1,h2,h3⟩:=ih
    exact ⟨k+1,by rw[nG,if_neg c,h1];omega,by simpa using h2,by simpa [cS] using h3⟩
theorem acq(l:List kz)(p:List Int)(ro:Option (List AV))(hz:l.length≤1000000)(hp:∀k,k<l.length→Je (cS l k))(gh:Nat)(H:Y)(hb:Y.find H gh=some ⟨1,[.am 1 (aK p) none],true,30⟩) :
  D Tryz.prog 41 [.am 3 (l.map gB) ro,.fn (.func 42) [] [.ptr 1 gh 0 0]] H (.ret (.sc (.int .i64 (nG p l 0)))) H:=by
 have cl:cr Tryz.prog 42=true:=by kernel_rfl
 have hlt:=Y.ax hb
 have ef:(l.map gB).length=l.length:=by simp
 have hone:∀(b:kz)(hq:b.1.length≤1000000),D Tryz.prog 42 [gB b,.ptr 1 gh 0 0] H (.ret (.sc (.bool (decide (b.1=p))))) H:=fun b hq=>by
  have h1:=fun H=>wj b.1 p none none H (by omega)
  unfold gB
  refine aG (Nat.le_refl _) (aiq (aA ?_))
  simp only[adU,ux]
  refine Z fun L hL=>?_
  refine aw ?_
  refine hL _ _ ?_
  clear hL
  refine Z fun L hL=>?_
  refine aI hb ?_
  refine ae (h1 _) ?_
  refine aw ?_
  refine hL _ _ ?_
  clear hL
  refine aw ?_
  exact aq (.cons .refl) rfl
 refine aG (Nat.le_refl _) (aix (aA ?_))
 simp only[ad1,ux]
 refine Z fun L hL=>?_
 refine aw ?_
 refine hL _ _ ?_
 clear hL
 refine Z fun L hL=>?_
 refine Z fun L hL=>?_
 refine aI ef ?_
 refine hL _ _ ?_
 clear hL
 refine aZ (fun ts F=>∃k:Nat,(k≤l.length∧∀j,j<k→¬(cS l j).1=p)∧F=H∧Fr (some (.am 3 (l.map gB) ro)::some (.fn (.func 42) [] [.ptr 1 gh 0 0])::none::none::some (.sc (.int .i64 0))::none::none::some (.sc (.int .i64 l.length))::some (.sc (.int .i64 k))::none::none::iv []) ts) (fun ts _=>l.length-(aM (ts.getD 8 .top)).toNat) ?_ ?_
 ·exact ⟨0,⟨Nat.zero_le _,fun j h=>absurd h (Nat.not_lt_zero _)⟩,rfl,by simp[Fr]⟩
 rintro ts F ⟨k,⟨hk,j8⟩,Ek,aX⟩ L2 bM
 rw[Ek]
 obtain ⟨js,rfl⟩:=aX.opened
 clear aX
 by_cases hd:k<l.length
 ·have d1:(k:Int)<l.length:=by omega
  have hg:=lZ hd
  have hi:=hone (cS l k) (hp k hd).1
  unfold gB at hi
  by_cases e1:(cS l k).1=p
  ·rw[decide_eq_true e1] at hi
   have Fm:=HC (i:=0) hd j8 e1
   rw[Nat.zero_add] at Fm
   refine df (gq d1 hg ef) ?_
   refine ⟨by omega,cl,ae hi ?_⟩
   refine aw ?_
   rw[Fm]
   exact bL .refl
  ·rw[decide_eq_false e1] at hi
   refine df (gq d1 hg ef) ?_
   refine ⟨by omega,cl,ae hi ?_⟩
   refine aw ?_
   refine bM _ _ ⟨k+1,⟨by omega,fun j hj=>?_⟩,rfl,by simp[Fr]⟩ (by simp[aM,mk];omega)
   rcases Nat.lt_succ_iff_lt_or_eq.1 hj with h'|rfl
   ·exact j8 j h'
   ·exact e1
 ·have d1:¬(k:Int)<l.length:=by omega
  have Fm:=BI (i:=0) fun j hj=>j8 j (by omega)
  refine df d1 ?_
  clear bM
  refine hL _ _ ?_
  clear hL
  refine aw ?_
  rw[Fm]
  exact bL .refl
theorem xU(f:List Int→Bool)(x:ByteArray)(t:Nd):∀p,(bN f x t p).size=t.size:=by
 induction t using Nd.ind with
 |_ t ih =>
  intro p
  have key:∀(l:List Nd),(∀k∈l,∀p,(bN f x k p).size=k.size)→∀i,Nd.ay (dN f x l p i)=Nd.ay l:=by
   intro l
   induction l with
   |nil=>intro _ _;rfl
   |cons k r fC=>intro h i;simp only[dN,Nd.ay,h k (by simp),fC fun k' hk'=>h k' (by simp[hk'])]
  rw[Nd.size_eq,Nd.size_eq t,iC]
  simp only[Nd.kids]
  have:=key t.kids ih 0
  cases t
  simp only[Nd.kids] at *
  rw[this]
theorem aae(f:List Int→Bool)(x:ByteArray)(t:Nd):∀p,(bN f x t p).wt≤t.wt+x.size*t.size:=by
 induction t using Nd.ind with
 |_ t ih =>
  intro p
  have key:∀(l:List Nd),(∀k∈l,∀p,(bN f x k p).wt≤k.wt+x.size*k.size)→∀i,Nd.mB (dN f x l p i)≤Nd.mB l+x.size*Nd.ay l:=by
   intro l
   induction l with
   |nil=>intro _ _;simp[dN,Nd.mB]
   |cons k r fC =>
    intro h i
    have h1:=h k (by simp) (p++[(i:Int)])
    have h2:=fC (fun k' hk'=>h k' (by simp[hk'])) (i+1)
    simp only[dN,Nd.mB,Nd.ay,Nat.mul_add]
    omega
  have h1:=key t.kids ih 0
  have h2:=(bN f x t p).oG
  have h3:=t.oG
  have h4:=t.size_eq
  have e1:(bN f x t p).kids=dN f x t.kids p 0:=by rw[iC];rfl
  have e2:(bN f x t p).text.size≤t.text.size+x.size:=by
   have:(bN f x t p).text=if f p=true then x else t.text:=by rw[iC];rfl
   rw[this]
   split<;>omega
  rw[e1] at h2
  rw[h4,Nat.mul_add,Nat.mul_one]
  omega
theorem Qp(n:Nd):∀b∈bQ n,b.2.2.length≤n.size:=by
 rw[jv]
 intro b hm
 unfold eC at hm
 split at hm
 ·obtain ⟨i,hi,rfl⟩:=List.mem_map.1 hm
  simp only
  unfold e8
  rw[List.length_map]
  refine Nat.le_trans (List.length_filter_le _ _) ?_
  rw[eL]
  exact Nat.le_refl _
 ·simp at hm
theorem aaf(F:Y):OW F Nd.none (.agg [.sc (.int .u8 0),.sc (.string ⟨#[]⟩),.sc (.int .i64 0),.am 0 [] (some [])]) [0]:=.mk (xs:=[]) (i:=0) (fun e=>absurd rfl e) .nil
theorem U5(n:Nd)(hw:n.wt≤100000)(hs:n.size≤10000)(x:ByteArray)(path:List Int)(hp:path.length≤1000000)(ro:Option (List AV)):D Tryz.prog 14 [dZ n ro,.sc (.string x),.am 1 (aK path) none] [] (.ret (.aO [fF (bw n x path).1 0,.sc (.int .i64 (bw n x path).2)])) (gd (bw n x path).1 0):=by
 have lA:=fun H=>GN n ro (by omega) H
 have j8:=fun H=>xK n (by omega) (by omega) ro H
 have oc:=fun H h=>xH n (by omega) (by omega) ro (iE n ro) H h
 have hnm:=fun H=>Rq x H
 have hok:=zC n (by omega)
 have ir:=sw n
 rw[aQ] at lA j8 oc ⊢
 have bad:∀(F:Y)(e:Int),bw n x path=(Nd.none,e)→eB [] (.ret (.aO [.agg [.sc (.int .u8 0),.sc (.string ⟨#[]⟩),.sc (.int .i64 0),.am 0 [] (some [])],.sc (.int .i64 e)])) F (.ret (.aO [fF (bw n x path).1 0,.sc (.int .i64 (bw n x path).2)])) (gd (bw n x path).1 0):=fun F e he=>by
  rw[he]
  have:=MT (H:=[]) (v:=.int .i64 e) (aaf F) (by simp) (by simp) (fun i hi=>by simp at hi)
  simpa using this
 refine aG (by simp) (aip (aA ?_))
 simp only[adT,ux]
 refine Z fun L hL=>?_
 refine aw ?_
 refine hL _ _ ?_
 clear hL
 refine Z fun L hL=>?_
 by_cases c1:n.kind=1
 case neg =>
  have hr:bw n x path=(Nd.none,4):=by unfold bw;rw[if_neg fun h=>c1 h.1]
  refine aI c1 ?_
  exact bad _ 4 hr
 rw[c1] at lA j8 oc ⊢
 cases c2:bH n 40
 ·have hr:bw n x path=(Nd.none,4):=by unfold bw;rw[if_neg fun h=>by rw[c2] at h;simp at h]
  refine aw ?_
  refine ae (lA _) ?_
  rw[c2]
  refine aw ?_
  exact bad _ 4 hr
 cases c3:iB n
 ·have hr:bw n x path=(Nd.none,122):=by unfold bw;rw[if_pos ⟨c1,c2⟩,if_neg (by rw[c3];simp)]
  refine aw ?_
  refine ae (lA _) ?_
  rw[c2]
  refine aw ?_
  refine ae (j8 _) ?_
  rw[c3]
  refine aw ?_
  exact bad _ 122 hr
 refine aw ?_
 refine ae (lA _) ?_
 rw[c2]
 refine aw ?_
 refine ae (j8 _) ?_
 rw[c3]
 refine aw ?_
 refine hL _ _ ?_
 clear hL
 refine Z fun L hL=>?_
 refine aw ?_
 have AU:∀(a b c:AV),∀id,id<([some ⟨4,[a],true,25⟩,some ⟨1,[b],true,30⟩,some ⟨4,[c],true,25⟩]:Y).length→∃y,Y.find ([some ⟨4,[a],true,25⟩,some ⟨1,[b],true,30⟩,some ⟨4,[c],true,25⟩]:Y) id=some y∧tw y:=by
  intro a b c id hid
  rcases id with _|_|_|id
  ·exact ⟨_,rfl,by simp,by simp,by simp,by simp⟩
  ·exact ⟨_,rfl,by simp,by simp,by simp,by simp⟩
  ·exact ⟨_,rfl,by simp,by simp,by simp,by simp⟩
  ·simp only[List.length_cons,List.length_nil] at hid;omega
 refine ae (oc _ (AU _ _ _)) ?_
 refine aw ?_
 refine hL _ _ ?_
 clear hL
 refine Z fun L hL=>?_
 refine aw ?_
 refine ae (acq (bQ n) path none (by omega) hok 1 _ rfl) ?_
 have Fe:=BJ (p:=path) (l:=bQ n) (i:=0)
 cases hf:(bQ n).find? fun b=>decide (b.1=path) with
 |none =>
  rw[hf] at Fe
  have hr:bw n x path=(Nd.none,6):=by unfold bw;rw[if_pos ⟨c1,c2⟩,if_pos c3,hf]
  rw[Fe]
  refine aw ?_
  refine hL _ _ ?_
  clear hL
  refine Z fun L hL=>?_
  refine aw ?_
  exact bad _ 6 hr
 |some b =>
 rw[hf] at Fe
 obtain ⟨k,w7,fx,hk3⟩:=Fe
 rw[Nat.zero_add] at w7
 have HD:=hok k fx
 rw[hk3] at HD
 have hbu:=Qp n b (List.mem_of_find?_eq_some hf)
 have Jb:=lZ fx
 rw[hk3] at Jb
 rw[w7]
 have k0:¬(k:Int)<0:=by omega
 cases c4:ja x
 ·have hr:bw n x path=(Nd.none,2):=by unfold bw;rw[if_pos ⟨c1,c2⟩,if_pos c3,hf];simp only;rw[if_neg (by rw[c4];simp)]
  refine aw ?_
  refine hL _ _ ?_
  clear hL
  refine Z fun L hL=>?_
  refine aI k0 ?_
  refine ae (hnm _) ?_
  rw[c4]
  refine aw ?_
  exact bad _ 2 hr
 refine aw ?_
 refine hL _ _ ?_
 clear hL
 refine Z fun L hL=>?_
 refine aI k0 ?_
 refine ae (hnm _) ?_
 rw[c4]
 refine aw ?_
 refine hL _ _ ?_
 clear hL
 refine Z fun L hL=>?_
 refine aw ?_
 obtain ⟨F0,gT⟩:∃F0:Y,F0=[some ⟨2,[AV.agg [AV.am 0 [] (some []),AV.sc (.string x)]],true,66⟩,some ⟨4,[AV.agg [.sc (.int .u8 0),.sc (.string ⟨#[]⟩),.sc (.int .i64 0),.am 0 [] (some [])]],true,25⟩,some ⟨1,[.am 1 (aK path) none],true,30⟩,some ⟨4,[AV.agg [.sc (.int .u8 1),.sc (.string n.text),.sc (.int .i64 n.num),.am 4 (bh n.kids) ro]],true,25⟩]:=⟨_,rfl⟩
 have a0:Y.find F0 0=some ⟨4,[AV.agg [.sc (.int .u8 1),.sc (.string n.text),.sc (.int .i64 n.num),.am 4 (bh n.kids) ro]],true,25⟩:=by rw[gT];rfl
 have a1:Y.find F0 1=some ⟨1,[.am 1 (aK path) none],true,30⟩:=by rw[gT];rfl
 have a2:Y.find F0 2=some ⟨4,[AV.agg [.sc (.int .u8 0),.sc (.string ⟨#[]⟩),.sc (.int .i64 0),.am 0 [] (some [])]],true,25⟩:=by rw[gT];rfl
 have a3:Y.find F0 3=some ⟨2,[AV.agg [aW 1 (bc []) 0,AV.sc (.string x)]],true,66⟩:=by rw[gT];rfl
 have al:F0.length=4:=by rw[gT];rfl
 rw[←gT]
 clear gT
 have Qq:=RZ [] [path] x (some []) (.inl (by simp)) (by simp) 3 0 F0 a3 (fun e=>absurd rfl e)
 have kY:∃F1,F1=Y.set (bS 1 30 (bc ([]++[path]))::jS (bc []) 0 F0) 3 (some ⟨2,[.agg [aW 1 (bc ([]++[path])) F0.length,.sc (.string x)]],true,66⟩):=⟨_,rfl⟩
 obtain ⟨F1,kY⟩:=kY
 rw[←kY] at Qq
 have b0:Y.find F1 0=Y.find F0 0:=by rw[kY,Y.aj (by omega),ai (by rw[bz];omega)];rfl
 have b1:Y.find F1 1=Y.find F0 1:=by rw[kY,Y.aj (by omega),ai (by rw[bz];omega)];rfl
 have b2:Y.find F1 2=Y.find F0 2:=by rw[kY,Y.aj (by omega),ai (by rw[bz];omega)];rfl
 have b3:Y.find F1 3=some ⟨2,[.agg [aW 1 (bc [path]) 4,.sc (.string x)]],true,66⟩:=by rw[kY,Y.aC (by simp[bz];omega),al];rfl
 have b4:Y.find F1 4=bS 1 30 (bc [path]):=by rw[kY,Y.aj (by omega),aJ (by rw[bz,al])];rfl
 have bl:F1.length=5:=by rw[kY,Y.af];simp[bz,al]
 clear kY
 have hlp:bc [path]=[.am 1 (aK path) none]:=rfl
 rw[hlp] at Qq
 refine hL _ _ ?_
 clear hL
 refine Z fun L hL=>?_
 refine aI (ei a0 a1 a2 a3) ?_
 refine sY Qq (fun l hl _=>?_) ?_
 ·simp only[List.mem_singleton] at hl
  subst hl
  exact b1
 have aag:=RZ [path] b.2.2 x none (.inr (by simp)) (by simp;have:=HD.2.1;omega) 3 4 F1 b3 (fun _=>b4)
 have jH:∃F2,F2=Y.set (bS 1 30 (bc ([path]++b.2.2))::jS (bc [path]) 4 F1) 3 (some ⟨2,[.agg [aW 1 (bc ([path]++b.2.2)) F1.length,.sc (.string x)]],true,66⟩):=⟨_,rfl⟩
 obtain ⟨F2,jH⟩:=jH
 rw[←jH] at aag
 have e0:Y.find F2 0=Y.find F0 0:=by rw[jH,Y.aj (by omega),ai (by rw[bz];omega),jT (by omega),b0]
 have e2:Y.find F2 2=Y.find F0 2:=by rw[jH,Y.aj (by omega),ai (by rw[bz];omega),jT (by omega),b2]
 have e3:Y.find F2 3=some ⟨2,[.agg [aW 1 (bc (path::b.2.2)) 5,.sc (.string x)]],true,66⟩:=by rw[jH,Y.aC (by simp[bz];omega),bl];rfl
 have e5:Y.find F2 5=bS 1 30 (bc (path::b.2.2)):=by rw[jH,Y.aj (by omega),aJ (by rw[bz,bl])];rfl
 have el:F2.length=6:=by rw[jH,Y.af];simp[bz,bl]
 rw[a0] at e0
 rw[a2] at e2
 clear jH
 refine aw ?_
 refine hL _ _ ?_
 clear hL
 refine Z fun L hL=>?_
 refine aI Jb ?_
 refine ⟨⟨by omega,by simpa using fx⟩,sY aag (fun l hl _=>by simp at hl) ?_⟩
 refine aw ?_
 have aah:=acp (path::b.2.2) x (by simp;omega) (fun j hj=>by
  cases j with
  |zero=>simpa [dS] using hp
  | succ j=>have:=HD.2.2 j (by simpa using hj);simpa [dS] using this) n ro (by omega) 3 5 F2 e3 (fun _=>e5)
 rw[aQ,c1] at aah
 have hTs:(bN (bX (path::b.2.2)) x n []).size=n.size:=xU _ _ _ _
 have aiT:x.size≤24:=by
  have:=c4
  simp only[ja,Bool.and_eq_true,decide_eq_true_eq] at this
  exact this.1.1.1.2
 have hTw:(bN (bX (path::b.2.2)) x n []).wt≤500000:=by
  have h1:=aae (bX (path::b.2.2)) x n []
  have h2:x.size*n.size≤24*10000:=Nat.mul_le_mul aiT hs
  omega
 have oV:bw n x path=if gb n (bN (bX (path::b.2.2)) x n [])=true then (bN (bX (path::b.2.2)) x n [],0) else (Nd.none,120):=by
  unfold bw
  rw[if_pos ⟨c1,c2⟩,if_pos c3,hf]
  simp only
  rw[if_pos c4]
 generalize bN (bX (path::b.2.2)) x n []=T at *
 refine hL _ _ ?_
 clear hL
 refine Z fun L hL=>?_
 refine aI e0 ?_
 refine ae aah ?_
 have sr:dP (gd T F2.length++F2) T F2.length:=j6
 have MZ:∀i,i<F2.length→Y.find (gd T F2.length++F2) i=Y.find F2 i:=fun i hi=>Y.bF hi
 have aju:(gd T F2.length++F2).length=F2.length+T.size:=by rw[List.length_append,iL];omega
 generalize gd T F2.length++F2=F3 at *
 refine aI @ey ?_
 refine hL _ _ ?_
 clear hL
 refine Z fun L hL=>?_
 have aiU:dP (some (⟨4,[AV.agg [.sc (.int .u8 T.kind),.sc (.string T.text),.sc (.int .i64 T.num),aW 4 (eT T.kids (F2.length+1)) F2.length]],true,25⟩:aP)::F3) T F2.length:=sr.of fun i h1 h2=>ai (by omega)
 have hal:=Em n T (by omega) (by omega) hTw (by omega) (iE n ro (some (⟨4,[AV.agg [.sc (.int .u8 T.kind),.sc (.string T.text),.sc (.int .i64 T.num),aW 4 (eT T.kids (F2.length+1)) F2.length]],true,25⟩:aP)::F3)) (AH T aiU)
 rw[aQ,c1,ey] at hal
 have f0:=(MZ 0 (by omega)).trans e0
 have f2:=(MZ 2 (by omega)).trans e2
 refine aI f0 ?_
 refine ae hal ?_
 have hend:∀(G:Y),(∀i,F2.length≤i→i<F3.length→Y.find G i=Y.find F3 i)→eB [] (.ret (.aO [fF T F2.length,.sc (.int .i64 0)])) G (.ret (.aO [fF T 0,.sc (.int .i64 0)])) (gd T 0):=fun G hG=>by
  have:=MT (H:=[]) (v:=.int .i64 0) (Qj T (sr.of fun i h1 h2=>hG i h1 (by omega))) List.nodup_range' (by simp) (fun i hi=>by simp at hi)
  simpa using this
 rw[ey] at hend
 cases c5:gb n T with
 |false =>
  rw[c5,if_neg (by simp)] at oV
  refine aI f2 ?_
  exact bad _ 120 oV
 |true =>
  rw[c5,if_pos rfl] at oV
  refine aw ?_
  refine hL _ _ ?_
  clear hL
  refine Z fun L hL=>?_
  refine aI f2 ?_
  refine hL _ _ ?_
  clear hL
  refine aI f2 ?_
  rw[oV]
  exact hend _ fun i h1 h2=>by rw[ai (by rw[Y.af];omega),Y.aj (by omega)]
theorem aai(t:Nd)(hz:t.size≤1000000)(ro:Option (List AV))(H:Y):D Tryz.prog 28 [dZ t ro] H (.ret (eu t)) H :=
 aG (Nat.le_refl _) ((MH t hz ro H).dk.mono fun e H1 _ ⟨e1,e2⟩=>by
  subst e1 e2
  exact nA (fun i hi=>ai hi) (MU t (Nat.le_refl _) (aJ rfl)))
theorem FJ{n:Nd}{x:ByteArray}{path:List Int}(c1:n.kind=1)(c2:bH n 40=true)(c3:iB n=true):bw n x path=match (bQ n).find? (fun b=>decide (b.1=path)) with
  |none=>(Nd.none,6)
  |some b=>if ja x=true then (if gb n (bN (bX (path::b.2.2)) x n [])=true then (bN (bX (path::b.2.2)) x n [],0) else (Nd.none,120)) else (Nd.none,2):=by
 unfold bw
 rw[if_pos ⟨c1,c2⟩,if_pos c3]
 rfl
theorem Qr(n:Nd)(hs:n.size≤10000)(x:ByteArray)(path:List Int)(hp:path.length≤1000000)(H:Y):D Tryz.prog 15 [dZ n none,.sc (.string x),.am 1 (aK path) none] H (.ret (.aO [eu (bw n x path).1,.sc (.int .i64 (bw n x path).2)])) H:=by
 have lA:=fun H=>AQ n none (by omega) H
 have j8:=fun H=>vK n (by omega) none (fun _=>trivial) H
 have oc:=fun H=>vI n none (fun _=>trivial) (by omega) H
 rw[←jv] at oc
 have hnm:=fun H=>Lh x H
 have hcp:=fun H=>aai n (by omega) none H
 have hok:=zC n (by omega)
 have ir:=sw n
 have ef:((bQ n).map gB).length=(bQ n).length:=by simp
 rw[ew] at hcp
 rw[aQ] at lA j8 oc hcp ⊢
 have bad:∀(F:Y)(e:Int),(∀i,i<H.length→Y.find F i=Y.find H i)→bw n x path=(Nd.none,e)→eB H (.ret (.aO [.agg [.sc (.int .u8 0),.sc (.string ⟨#[]⟩),.sc (.int .i64 0),.am 0 [] (some [])],.sc (.int .i64 e)])) F (.ret (.aO [eu (bw n x path).1,.sc (.int .i64 (bw n x path).2)])) H:=fun F e hF he=>by
  rw[he]
  refine nA hF (.aO (.cons ?_ (.cons (.same trivial) .nil)))
  rw[ew]
  exact .agg (.cons (.same trivial) (.cons (.same trivial) (.cons (.same trivial) (.cons .nil .nil))))
 have hold:∀(a b:Option aP) i,i<H.length→Y.find (a::b::H) i=Y.find H i:=fun a b i hi=>by rw[ai (by simp;omega),ai hi]
 refine aG (Nat.le_refl _) (aiE (aA ?_))
 simp only[aea,ux]
 refine Z fun L hL=>?_
 refine aw ?_
 refine hL _ _ ?_
 clear hL
 refine Z fun L hL=>?_
 by_cases c1:n.kind=1
 case neg =>
  have hr:bw n x path=(Nd.none,4):=by unfold bw;rw[if_neg fun h=>c1 h.1]
  refine aI c1 ?_
  exact bad _ 4 (hold _ _) hr
 rw[c1] at lA j8 oc hcp ⊢
 cases c2:bH n 40
 ·have hr:bw n x path=(Nd.none,4):=by unfold bw;rw[if_neg fun h=>by rw[c2] at h;simp at h]
  refine aw ?_
  refine ae (lA _) ?_
  rw[c2]
  refine aw ?_
  exact bad _ 4 (hold _ _) hr
 refine aw ?_
 refine ae (lA _) ?_
 rw[c2]
 cases c3:iB n
 ·have hr:bw n x path=(Nd.none,122):=by unfold bw;rw[if_pos ⟨c1,c2⟩,if_neg (by rw[c3];simp)]
  refine aw ?_
  refine hL _ _ ?_
  clear hL
  refine Z fun L hL=>?_
  refine aw ?_
  refine ae (j8 _) ?_
  rw[c3]
  refine aw ?_
  exact bad _ 122 (hold _ _) hr
 refine aw ?_
 refine hL _ _ ?_
 clear hL
 refine Z fun L hL=>?_
 refine aw ?_
 refine ae (j8 _) ?_
 rw[c3]
 refine aw ?_
 refine hL _ _ ?_
 clear hL
 refine Z fun L hL=>?_
 refine aw ?_
 refine ae (oc _) ?_
 refine aw ?_
 refine hL _ _ ?_
 clear hL
 refine Z fun L hL=>?_
 refine aw ?_
 obtain ⟨F0,gT⟩:∃F0:Y,F0=some ⟨4,[AV.agg [.sc (.int .u8 0),.sc (.string ⟨#[]⟩),.sc (.int .i64 0),.am 0 [] (some [])]],true,25⟩::some ⟨4,[AV.agg [.sc (.int .u8 1),.sc (.string n.text),.sc (.int .i64 n.num),.am 4 (bh n.kids) none]],true,25⟩::H:=⟨_,rfl⟩
 have a0:Y.find F0 H.length=some ⟨4,[AV.agg [.sc (.int .u8 1),.sc (.string n.text),.sc (.int .i64 n.num),.am 4 (bh n.kids) none]],true,25⟩:=by rw[gT,ai (by simp),aJ rfl]
 have a1:Y.find F0 (H.length+1)=some ⟨4,[AV.agg [.sc (.int .u8 0),.sc (.string ⟨#[]⟩),.sc (.int .i64 0),.am 0 [] (some [])]],true,25⟩:=by rw[gT,aJ (by simp)]
 have ah:∀i,i<H.length→Y.find F0 i=Y.find H i:=by rw[gT];exact hold _ _
 have al:F0.length=H.length+2:=by rw[gT];rfl
 rw[←gT]
 clear gT hold
 have hin:=L1 c3
 have hval:=fun b hb=>FB (n:=n) c3 (b:=b) hb
 obtain ⟨l,hl⟩:∃l,bQ n=l:=⟨_,rfl⟩
 have oV:=FJ (x:=x) (path:=path) c1 c2 c3
 rw[hl] at hok ir ef hin hval oV ⊢
 clear hl lA j8 oc
 refine hL _ _ ?_
 clear hL
 refine Z fun L hL=>?_
 refine Z fun L hL=>?_
 refine aw ?_
 refine hL _ _ ?_
 clear hL
 refine aZ (fun ts F=>∃(k:Nat)(v:Int),(k≤l.length∧((v=-1∧∀j,j<k→(cS l j).1≠path)∨∃j,j<k∧v=(j:Nat)∧(cS l j).1=path))∧F=F0∧Fr (some (.agg [.sc (.int .u8 1),.sc (.string n.text),.sc (.int .i64 n.num),.am 4 (bh n.kids) none])::some (.sc (.string x))::some (.am 1 (aK path) none)::some (.ptr 4 H.length 0 0)::none::none::some (.ptr 4 (H.length+1) 0 0)::some (.sc (.int .i64 0))::some (.am 3 (l.map gB) none)::some (.sc (.int .i64 v))::some (.sc (.int .i64 k))::none::none::fg (bf (bf []))) ts) (fun ts _=>l.length-(aM (ts.getD 10 .top)).toNat) ?_ ?_
 ·exact ⟨0,-1,⟨Nat.zero_le _,.inl ⟨rfl,fun j h=>absurd h (Nat.not_lt_zero _)⟩⟩,rfl,by simp[Fr]⟩
 rintro ts F ⟨k,v,⟨hk,hv⟩,Ek,aX⟩ L2 bM
 rw[Ek]
 obtain ⟨js,rfl⟩:=aX.opened
 clear aX
 by_cases hd:k<l.length
 ·have d1:(k:Int)<l.length:=by omega
  have hg:=lZ hd
  have hsi:=fun H=>ob (cS l k).1 path none none H (by have:=(hok k hd).1;omega)
  by_cases e1:(cS l k).1=path
  ·rw[decide_eq_true e1] at hsi
   refine df (gq d1 hg ef) ?_
   refine ⟨by omega,ae (hsi _) ?_⟩
   refine aw ?_
   exact bM _ _ ⟨k+1,k,⟨by omega,.inr ⟨k,by omega,rfl,e1⟩⟩,rfl,by simp[Fr]⟩ (by simp[aM,mk];omega)
  ·rw[decide_eq_false e1] at hsi
   refine df (gq d1 hg ef) ?_
   refine ⟨by omega,ae (hsi _) ?_⟩
   refine aw ?_
   refine bM _ _ ⟨k+1,v,⟨by omega,?_⟩,rfl,by simp[Fr]⟩ (by simp[aM,mk];omega)
   rcases hv with ⟨hv,hn⟩|⟨j,hj,hv,he⟩
   ·refine .inl ⟨hv,fun j hj=>?_⟩
    rcases Nat.lt_succ_iff_lt_or_eq.1 hj with h'|rfl
    ·exact hn j h'
    ·exact e1
   ·exact .inr ⟨j,by omega,hv,he⟩
 have d1:¬(k:Int)<l.length:=by omega
 have NZ:k=l.length:=by omega
 rw[NZ] at hv
 refine df (ak d1 ef) ?_
 clear bM
 rcases hv with ⟨rfl,hn⟩|⟨k,fx,rfl,he⟩
 ·have hr:bw n x path=(Nd.none,6):=by
   rw[oV,List.find?_eq_none.2 fun b hb=>by
    obtain ⟨j,hj,rfl⟩:=List.mem_iff_getElem.1 hb
    have:=hn j hj
    simpa [cS,List.getD,hj] using this]
  refine hL _ _ ?_
  clear hL
  refine Z fun L hL=>?_
  refine aI a1 ?_
  exact bad _ 6 (fun i hi=>by rw[Y.aj (by omega),ah i hi]) hr
 have Fb:cS l k=l[k]:=by simp[cS,List.getD,fx]
 have hf:l.find? (fun b=>decide (b.1=path))=some (cS l k):=by rw[Fb];exact Uv hin fx (by rw[←Fb];exact he)
 rw[hf] at oV
 dsimp only at oV
 have Jb:=lZ fx
 have HD:=hok k fx
 have hvk:=hval (cS l k) (by rw[Fb];exact List.getElem_mem _)
 obtain ⟨b,hb⟩:∃b,cS l k=b:=⟨_,rfl⟩
 rw[hb] at hf oV Jb HD hvk he
 clear hb Fb hf
 have k0:¬(k:Int)<0:=by omega
 refine hL _ _ ?_
 clear hL
 refine Z fun L hL=>?_
 refine aI k0 ?_
 refine hL _ _ ?_
 clear hL
 refine Z fun L hL=>?_
 cases c4:ja x
 ·have hr:bw n x path=(Nd.none,2):=by rw[oV,if_neg (by rw[c4];simp)]
  refine aw ?_
  refine ae (hnm _) ?_
  rw[c4]
  refine aI a1 ?_
  exact bad _ 2 (fun i hi=>by rw[Y.aj (by omega),ah i hi]) hr
 refine aw ?_
 refine ae (hnm _) ?_
 rw[c4]
 refine aw ?_
 refine hL _ _ ?_
 clear hL
 refine Z fun L hL=>?_
 refine aI a0 ?_
 refine ae (hcp _) ?_
 have hw:=fun H=>RS x path n H (by omega) hp (by rw[←he];exact hvk.1)
 rw[Uu (by rw[←he];exact hvk.1),aQ,c1] at hw
 have hTs:∀ps,(bN (bX ps) x n []).size=n.size:=fun ps=>xU _ _ _ _
 have hTk:∀ps,(bN (bX ps) x n []).kind=1:=fun ps=>qh.trans c1
 refine aw ?_
 obtain ⟨T0,hT0⟩:∃T0,bN (bX [path]) x n []=T0:=⟨_,rfl⟩
 have aiV:=hTk [path]
 rw[hT0] at hw aiV
 have uz:=ew T0
 rw[uz] at hw
 refine ae (hw _) ?_
 refine aw ?_
 rw[←uz]
 refine hL _ _ ?_
 clear hL
 refine Z fun L hL=>?_
 refine Z fun L hL=>?_
 refine aw ?_
 refine hL _ _ ?_
 clear hL
 have ua:=HD.2.1
 have yO:(bc b.2.2).length=b.2.2.length:=dg _
 refine aZ (fun ts F=>∃j:Nat,j≤b.2.2.length∧(F.length=F0.length+1∧(∀i,i<F0.length→Y.find F i=Y.find F0 i)∧Y.find F F0.length=some ⟨4,[eu (bN (bX (path::b.2.2.take j)) x n [])],true,25⟩)∧Fr (some (.agg [.sc (.int .u8 1),.sc (.string n.text),.sc (.int .i64 n.num),.am 4 (bh n.kids) none])::some (.sc (.string x))::some (.am 1 (aK path) none)::some (.ptr 4 H.length 0 0)::none::none::some (.ptr 4 (H.length+1) 0 0)::some (.sc (.int .i64 0))::some (.am 3 (l.map gB) none)::some (.sc (.int .i64 k))::none::some (.ptr 4 F0.length 0 0)::some (.sc (.int .i64 j))::fg (bf (bf []))) ts) (fun ts _=>b.2.2.length-(aM (ts.getD 12 .top)).toNat) ?_ ?_
 ·exact ⟨0,Nat.zero_le _,⟨rfl,fun i hi=>ai hi,by rw[List.take_zero,hT0];exact aJ rfl⟩,by simp[Fr]⟩
 rintro ts F ⟨j,hj,⟨f0,f1,f2⟩,aX⟩ L2 bM
 obtain ⟨js2,rfl⟩:=aX.opened
 clear aX
 have g0:=(f1 H.length (by omega)).trans a0
 have g1:=(f1 (H.length+1) (by omega)).trans a1
 have hTj:=hTs (path::b.2.2.take j)
 have aiW:=hTk (path::b.2.2.take j)
 by_cases hd:j<b.2.2.length
 ·have d1:(j:Int)<b.2.2.length:=by omega
  have IV:=nD hd
  have hum:dS b.2.2 j∈b.2.2:=by rw[vJ hd];exact List.getElem_mem _
  have BO:=hvk.2 _ hum
  have hlu:=D9 _ _ BO
  have hw:=fun H=>RS x (dS b.2.2 j) (bN (bX (path::b.2.2.take j)) x n []) H (by omega) (by omega) (by rw[vz];exact BO)
  rw[YV BO,show (path::b.2.2.take j)++[dS b.2.2 j]=path::b.2.2.take (j+1) from by rw[List.cons_append,vJ hd,←List.take_append_getElem hd]] at hw
  generalize bN (bX (path::b.2.2.take j)) x n []=T at *
  obtain ⟨T2,hT2⟩:∃T2,bN (bX (path::b.2.2.take (j+1))) x n []=T2:=⟨_,rfl⟩
  rw[hT2] at hw
  have et:=ew T
  have et2:=ew T2
  rw[aQ,et2] at hw
  rw[et] at f2
  refine df (yR d1 Jb yO IV f2 ef) ?_
  refine ⟨⟨by omega,by omega⟩,⟨by omega,by omega⟩,by omega,aL (hw _) ?_⟩
  refine df (yR d1 Jb yO IV f2 ef) ?_
  rw[←et2,←hT2]
  refine bM _ _ ⟨j+1,by omega,⟨by rw[Y.af];exact f0,fun i hi=>by rw[Y.aj (by omega),f1 i hi],Y.aC (by omega)⟩,by simp[Fr]⟩ (by simp[aM,mk];omega)
 have d1:¬(j:Int)<b.2.2.length:=by omega
 rw[show b.2.2.take j=b.2.2 from List.take_of_length_le (by omega)] at f2 hTj aiW
 clear bM
 have hal:=fun H=>UU n (bN (bX (path::b.2.2)) x n []) (by omega) (by omega) none none (fun _=>trivial) (fun _=>trivial) H
 rw[if_pos c4] at oV
 generalize bN (bX (path::b.2.2)) x n []=T at *
 rw[aQ,aQ,c1] at hal
 rw[ew] at f2
 refine df (ei d1 Jb yO ef) ?_
 refine ⟨⟨by omega,by omega⟩,?_⟩
 refine hL _ _ ?_
 clear hL
 refine Z fun L hL=>?_
 refine aI (ak g0 f2) ?_
 refine ae (hal _) ?_
 have hF:∀i,i<H.length→Y.find F i=Y.find H i:=fun i hi=>(f1 i (by omega)).trans (ah i hi)
 cases c5:gb n T with
 |false =>
  rw[c5,if_neg (by simp)] at oV
  refine aI g1 ?_
  exact bad _ 120 (fun i hi=>by rw[Y.aj (by omega),hF i hi]) oV
 |true =>
  rw[c5,if_pos rfl] at oV
  refine aw ?_
  refine hL _ _ ?_
  clear hL
  refine Z fun L hL=>?_
  refine aI (ak g1 f2) ?_
  refine hL _ _ ?_
  clear hL
  refine aI (ak g1 f2) ?_
  rw[oV]
  refine nA (fun i hi=>by rw[Y.aj (by omega),hF i hi]) (.aO (.cons ?_ (.cons (.same trivial) .nil)))
  have:=acm (F:=Y.set F (H.length+1) (some ⟨4,[.agg [.sc (.int .u8 T.kind),.sc (.string T.text),.sc (.int .i64 T.num),.am 4 (bh T.kids) none]],true,25⟩)) (n0:=H.length) (src:=[]) T none
  rw[aQ] at this
  exact this
def aen:IC:=(.seq (.ops [iH 1 (.box 4 25 (.t 0))]) (.ops [iP 2 (.an 3 (.t 1)),iH 3 (yD 1 2),iH 4 (.call 50 [(.t 3)])]))
theorem aiX:Dk Tryz.prog 18 aen [] 5:=aV Tryz.func18
def aeo:IC:=(.seq (.seq (.ops [iP 2 (xI 0)]) (.block 0 (.loop (.seq (.seq (.ops [iM 5 2,iM 6 0,iP 7 (xL 6),iP 8 (xB .lss 5 7)]) (.cond (.t 8) .skip (.exit 0))) (.seq (.block 1 (.ops [iM 11 0,iM 12 2,iP 13 (xA 4 11 12),iH 14 (yA 4 13),iH 15 (.call 18 [(.t 14)])])) (.ops [iM 9 2,iP 10 (.aN .add (.t 9) (kI 1)),iM 2 10])))))) (.seq (.ops [iM 16 0,iM 17 0,iP 18 (xL 17),iP 19 (.aN .add (.t 18) (kI 12)),iP 20 (.qC 4 (.t 16) none (some (.t 19)) none),iM 3 20]) (.seq (.ops [iP 4 (xI 0)]) (.block 2 (.loop (.seq (.seq (.ops [iM 21 4,iM 22 3,iP 23 (xL 22),iP 24 (xB .lss 21 23)]) (.cond (.t 24) .skip (.exit 2))) (.seq (.block 3 (.ops [iM 27 3,iM 28 4,iM 29 4,iH 30 (.call 62 [(kI 2),(.t 29)]),iP 31 (xA 4 27 28),iS 4 31 30])) (.ops [iM 25 4,iP 26 (.aN .add (.t 25) (kI 1)),iM 4 26]))))))))
theorem aiY:Dk Tryz.prog 50 aeo [] 32:=aV Tryz.func50
def OvQ(H:Y)(a n:Nat)(e:cH)(H':Y):Prop:=∃v,e = .ret v∧(v = .aO []∧H.length≤H'.length∧∀i,i<H.length→(i<a∨a+n≤i)→Y.find H' i=Y.find H i)
def EO(l:List Nd):Prop:=∀(a:Nat)(H:Y),Nd.ay l≤1000000→Ew H l a→DK Tryz.prog 50 [Et l.length a] H (OvQ H a (1+Nd.ay l))
theorem zJ(t:Nd)(h:EO t.kids)(hz:t.size≤1000000)(a:Nat)(H:Y)(hl:iO H t a):DK Tryz.prog 18 [oU t a] H (OvQ H a t.size):=by
 have zY:=Nd.size_eq t
 have hk:=fun G hg=>h a G (by omega) hg
 rw[←zY] at hk
 rw[j9]
 refine aiX (aA ?_)
 simp only[aen,ux]
 refine Z fun L hL=>?_
 refine aw ?_
 refine hL _ _ ?_
 clear hL
 refine aw ?_
 refine gp (hk _ (hl.row.over (.cons .refl))) ?_
 rintro v H' eK ⟨rfl,h1,h2⟩
 refine aw ?_
 simp only[List.length_cons] at h1 h2
 exact ⟨_,rfl,rfl,by omega,fun i hi ho=>by rw[h2 i (by omega) ho,ai hi]⟩
theorem Qs{l:List Nd}{a k:Nat}(hk:k<l.length+12):∃x y z w,(jG l a).getD k .top = .agg [x,y,z,w]:=by
 by_cases c:k<l.length
 ·rw[AY c,j9]
  exact ⟨_,_,_,_,rfl⟩
 ·obtain ⟨t,rfl⟩:∃t,k=l.length+t:=⟨k-l.length,by omega⟩
  rw[Ey (by omega),wo]
  exact ⟨_,_,_,_,rfl⟩
theorem EP(l:List Nd)(ih:∀t∈l,EO t.kids):EO l:=by
 intro a H hz hr
 have hlen:=Nd.fZ l
 have hrow:=hr.row
 refine aiY (aA ?_)
 simp only[aeo,ux]
 obtain ⟨m,hm⟩:∃m,m=l.length+12:=⟨_,rfl⟩
 have Eb:((l.length:Int)+12).toNat=m:=by omega
 have yJ:(jG l a).length=m:=by rw[tB,hm]
 have haH:=Y.ax hrow
 rw[show Et l.length a = .aD 4 a 0 l.length (some m) from by rw[hm]]
 refine Z fun L hL=>?_
 refine Z fun L hL=>?_
 refine fh ?_
 refine hL _ _ ?_
 clear hL
 refine aZ (fun ts F=>∃j:Nat,(j≤l.length∧H.length≤F.length∧∀i,i<H.length→(i<a+1∨a+1+Nd.ay (l.take j)≤i)→Y.find F i=Y.find H i)∧Fr (some (.aD 4 a 0 l.length (some m))::none::some (.sc (.int .i64 j))::none::fg (iv (dL []))) ts) (fun ts _=>l.length-(aM (ts.getD 2 .top)).toNat) ⟨0,⟨Nat.zero_le _,Nat.le_refl _,fun _ _ _=>rfl⟩,by simp[Fr]⟩ ?_
 rintro ts F ⟨j,⟨hj,qj,hF⟩,aX⟩ L2 bM
 obtain ⟨js,rfl⟩:=aX.opened
 clear aX
 have aaj:=(hF a haH (.inl (by omega))).trans hrow
 by_cases c1:j<l.length
 ·have c2:(j:Int)<l.length:=by omega
  have xv:=AY (a:=a) c1
  have dW:=eJ c1
  have hsz:=Nd.de dW
  have htk:=iK c1
  have hkO:=hr.kids.at_ c1
  have hb:∀i,a+1+Nd.ay (l.take j)≤i→i<a+1+Nd.ay (l.take j)+(aE l j).size→i<H.length:=fun i h1 h2=>by
   obtain ⟨xs,hx⟩:∃xs,(mU (aE l j) (a+1+Nd.ay (l.take j)))[i-(a+1+Nd.ay (l.take j))]? = some xs:=⟨_,List.getElem?_eq_getElem (by rw[gf];omega)⟩
   have:=Y.ax (hkO _ _ hx)
   omega
  have hkF:iO F (aE l j) (a+1+Nd.ay (l.take j)):=hkO.of fun i h1 h2=>hF i (hb i h1 h2) (.inr h1)
  have hk:=zJ (aE l j) (ih _ dW) (by omega) _ F hkF
  obtain ⟨q,hq⟩:∃q,a+1+Nd.ay (l.take j)=q:=⟨_,rfl⟩
  rw[hq,j9] at xv hk
  rw[hq] at hF
  refine df (ei aaj yJ c2 xv) ?_
  refine ⟨by omega,by omega,gp hk ?_⟩
  rintro v F2 eK ⟨rfl,h1,h2⟩
  refine yV ?_
  exact bM _ _ ⟨j+1,⟨by omega,by omega,fun i hi ho=>by rw[h2 i (by omega) (by omega),hF i hi (by omega)]⟩,by simp[Fr]⟩ (by simp[aM,mk];omega)
 have c2:¬(j:Int)<l.length:=by omega
 have hje:j=l.length:=by omega
 rw[hje,List.take_length] at hF
 clear bM
 refine df c2 ?_
 refine hL _ _ ?_
 clear hL
 refine Z fun L hL=>?_
 have c0:0<m:=by omega
 refine df (gq Eb c0 @Nat.sub_zero) ?_
 refine ⟨⟨by omega,rfl,by omega,by omega⟩,?_⟩
 refine hL _ _ ?_
 clear hL
 refine Z fun L hL=>?_
 refine fh ?_
 refine hL _ _ ?_
 clear hL
 refine aZ (fun ts G=>∃(k:Nat)(es:List AV),(k≤m∧H.length≤G.length∧∀i,i<H.length→(i<a∨a+1+Nd.ay l≤i)→Y.find G i=Y.find H i)∧(Y.find G a=some ⟨4,es,true,25⟩∧es.length=m∧∀k,k<m→∃x y z w,es.getD k .top = .agg [x,y,z,w])∧Fr (some (.aD 4 a 0 l.length (some m))::none::none::some (.aD 4 a 0 m (some m))::some (.sc (.int .i64 k))::none::none::none::iv (dL [])) ts) (fun ts _=>m-(aM (ts.getD 4 .top)).toNat) ?_ ?_
 ·exact ⟨0,_,⟨Nat.zero_le _,qj,fun i hi ho=>hF i hi (by omega)⟩,⟨aaj,yJ,fun k hk=>Qs (by omega)⟩,by simp[Fr]⟩
 clear hF aaj
 rintro ts G ⟨k,es,⟨hk,El,hG⟩,⟨g1,g2,g3⟩,aX⟩ L2 bM
 obtain ⟨js2,rfl⟩:=aX.opened
 clear aX
 by_cases c1:k<m
 ·have c3:(k:Int)<m:=by omega
  have hmk:=fun H=>qZ 2 k H
  simp only[wo] at hmk
  obtain ⟨x,y,z,w,he⟩:=g3 k c1
  refine df c3 ?_
  refine ae (hmk _) ?_
  refine df (ei c3 g1 g2 he) ?_
  have haG:=Y.ax g1
  refine ⟨by omega,c1,bM _ _ ⟨k+1,_,⟨by omega,by rw[Y.af];exact El,fun i hi ho=>by rw[Y.aj (by omega),hG i hi ho]⟩,⟨Y.aC haG,by rw[List.length_set];exact g2,fun k' hk'=>?_⟩,by simp[Fr]⟩ (by simp[aM,mk];omega)⟩
  by_cases e:k=k'
  ·subst e
   exact ⟨_,_,_,_,by rw[List.getD_eq_getElem?_getD,List.getElem?_set_self (by omega)];rfl⟩
  ·obtain ⟨x',y',z',w',he'⟩:=g3 k' hk'
   exact ⟨x',y',z',w',by rw[←he'];simp[List.getD,List.getElem?_set_ne e]⟩
 have c3:¬(k:Int)<m:=by omega
 clear bM
 refine df c3 ?_
 exact ⟨_,rfl,rfl,El,fun i hi ho=>hG i hi (by omega)⟩
theorem M0(l:List Nd):EO l:=by
 have key:∀n:Nat,∀l:List Nd,Nd.ay l≤n→EO l:=by
  intro n
  induction n with
  |zero =>
   intro l h
   refine EP l fun t ht=>?_
   have:=Nd.de ht
   have:=t.size_pos
   omega
  |succ n ih =>
   intro l h
   refine EP l fun t ht=>ih _ ?_
   have:=Nd.de ht
   have:=Nd.size_eq t
   omega
 exact key _ l (Nat.le_refl _)
theorem M1(t:Nd)(hz:t.size≤1000000)(a:Nat)(H:Y)(hl:iO H t a):DK Tryz.prog 18 [oU t a] H (OvQ H a t.size):=zJ t (M0 _) hz a H hl
def Qt:ByteArray:=⟨#[102,117,110,99,32,102,40,97,41,32,123,32,118,97,114,32,98,32,61,32,97,59,32,125]⟩
def Qu:ByteArray:=⟨#[102,117,110,99,32,103,40,120,41,32,123,32,118,97,114,32,97,32,61,32,120,59,32,125]⟩
def Jm:ByteArray:=⟨#[102,117,110,99,32,102,40,97,41,32,123,32,118,97,114,32,98,32,61,32,97,59,32,112,114,105,110,116,32,97,59,32,125]⟩
def Qv:ByteArray:=⟨#[102,117,110,99,32,103,40,120,41,32,123,32,118,97,114,32,120,32,61,32,120,59,32,125]⟩
def Qw:ByteArray:=⟨#[102,117,110,99,32,102,40,98,41,32,123,32,118,97,114,32,98,32,61,32,98,59,32,125]⟩
def tG:Nd:=⟨1,⟨#[]⟩,0,[⟨2,⟨#[102]⟩,0,[⟨3,⟨#[]⟩,0,[⟨4,⟨#[97]⟩,0,[]⟩]⟩,⟨5,⟨#[]⟩,0,[⟨6,⟨#[98]⟩,0,[⟨22,⟨#[97]⟩,0,[]⟩]⟩]⟩]⟩]⟩
def EQ:Nd:=⟨1,⟨#[]⟩,0,[⟨2,⟨#[103]⟩,0,[⟨3,⟨#[]⟩,0,[⟨4,⟨#[120]⟩,0,[]⟩]⟩,⟨5,⟨#[]⟩,0,[⟨6,⟨#[97]⟩,0,[⟨22,⟨#[120]⟩,0,[]⟩]⟩]⟩]⟩]⟩
def zK:Nd:=⟨1,⟨#[]⟩,0,[⟨2,⟨#[102]⟩,0,[⟨3,⟨#[]⟩,0,[⟨4,⟨#[97]⟩,0,[]⟩]⟩,⟨5,⟨#[]⟩,0,[⟨6,⟨#[98]⟩,0,[⟨22,⟨#[97]⟩,0,[]⟩]⟩,⟨11,⟨#[]⟩,0,[⟨22,⟨#[97]⟩,0,[]⟩]⟩]⟩]⟩]⟩
def ER:Nd:=⟨1,⟨#[]⟩,0,[⟨2,⟨#[103]⟩,0,[⟨3,⟨#[]⟩,0,[⟨4,⟨#[120]⟩,0,[]⟩]⟩,⟨5,⟨#[]⟩,0,[⟨6,⟨#[120]⟩,0,[⟨22,⟨#[120]⟩,0,[]⟩]⟩]⟩]⟩]⟩
def ET:Nd:=⟨1,⟨#[]⟩,0,[⟨2,⟨#[102]⟩,0,[⟨3,⟨#[]⟩,0,[⟨4,⟨#[98]⟩,0,[]⟩]⟩,⟨5,⟨#[]⟩,0,[⟨6,⟨#[98]⟩,0,[⟨22,⟨#[98]⟩,0,[]⟩]⟩]⟩]⟩]⟩
def ic8:IC:=(.seq (.ops [iP 0 (.mv kF)]) (.seq (.ops [⟨(some 7),none,(.h (.call 20 [(.k (.sc (.string ⟨#[102,117,110,99,32,102,40,97,41,32,123,32,118,97,114,32,98,32,61,32,97,59,32,125]⟩)))]))⟩,⟨(some 8),none,(.h (.call 20 [(.k (.sc (.string ⟨#[102,117,110,99,32,103,40,120,41,32,123,32,118,97,114,32,97,32,61,32,120,59,32,125]⟩)))]))⟩,⟨(some 1),none,(.h (.alloc (.agg [(.sc (.int .u8 0)),(.sc (.string ⟨#[]⟩)),(.sc (.int .i64 0)),bG]) 25))⟩,⟨(some 2),none,(.h (.alloc (.agg [(.sc (.int .u8 0)),(.sc (.string ⟨#[]⟩)),(.sc (.int .i64 0)),bG]) 25))⟩,iS 4 1 7,iS 4 2 8]) (.seq (.ops [iH 10 (yA 4 1),iH 11 (.ep 1 3 (.sc (.int .i64 0)) 3 [(0,(kI 0)),(1,(kI 0)),(2,(kI 0))]),⟨(some 12),none,(.h (.call 14 [(.t 10),(.k (.sc (.string ⟨#[98]⟩))),(.t 11)]))⟩,iM 9 12,iP 13 (.ext (.t 9) 0),iP 14 (.ext (.t 9) 1),⟨(some 3),none,(.h (.alloc (.agg [(.sc (.int .u8 0)),(.sc (.string ⟨#[]⟩)),(.sc (.int .i64 0)),bG]) 25))⟩,iS 4 3 13,iM 4 14]) (.seq (.ops [⟨(some 16),none,(.h (.call 20 [(.k (.sc (.string ⟨#[102,117,110,99,32,102,40,97,41,32,123,32,118,97,114,32,98,32,61,32,97,59,32,112,114,105,110,116,32,97,59,32,125]⟩)))]))⟩,iH 17 (.ep 1 3 (.sc (.int .i64 0)) 3 [(0,(kI 0)),(1,(kI 0)),(2,(kI 0))]),⟨(some 18),none,(.h (.call 14 [(.t 16),(.k (.sc (.string ⟨#[98]⟩))),(.t 17)]))⟩,iM 15 18,iP 19 (.ext (.t 15) 0),iP 20 (.ext (.t 15) 1),⟨(some 5),none,(.h (.alloc (.agg [(.sc (.int .u8 0)),(.sc (.string ⟨#[]⟩)),(.sc (.int .i64 0)),bG]) 25))⟩,iS 4 5 19,iM 6 20]) (.seq (.di [iH 21 (yA 4 1),iH 22 (yA 4 2),iH 23 (yC 10 21 22),iM 24 23,gH 25 24 true (yA 4 1),⟨(some 26),(some (24,true)),(.h (.call 20 [(.k (.sc (.string ⟨#[102,117,110,99,32,103,40,120,41,32,123,32,118,97,114,32,120,32,61,32,120,59,32,125]⟩)))]))⟩,gH 27 24 true (yC 10 25 26),iP 28 (.pick (.t 24) (.t 27) kF),iM 29 28,gM 30 29 true 4,gP 31 29 true (.aN .eql (.t 30) (kI 0)),iP 32 (.pick (.t 29) (.t 31) kF),iM 33 32,gH 34 33 true (yA 4 3),⟨(some 35),(some (33,true)),(.h (.call 20 [(.k (.sc (.string ⟨#[102,117,110,99,32,102,40,98,41,32,123,32,118,97,114,32,98,32,61,32,98,59,32,125]⟩)))]))⟩,gH 36 33 true (yC 16 34 35),iP 37 (.pick (.t 33) (.t 36) kF),iM 38 37,gM 39 38 true 6,gP 40 38 true (.aN .eql (.t 39) (kI 120)),iP 41 (.pick (.t 38) (.t 40) kF),iM 0 41] [[],[],[0,1],[2,0,1],[3,2,0,1],[3,2,0,1],[4,3,2,0,1,5],[3,2,0,1,6,4,5],[7,3,2,0,1,6,4,5],[8,7,3,2,0,1,6,4,5],[9,8,7,3,2,0,1,6,4,5],[8,7,3,2,0,1,6,4,5,10,9],[11,8,7,3,2,0,1,6,4,5,10,9],[12,11,8,7,3,2,0,1,6,4,5,10,9],[12,11,8,7,3,2,0,1,6,4,5,10,9],[13,12,11,8,7,3,2,0,1,6,4,5,10,9,14],[12,11,8,7,3,2,0,1,6,4,5,10,9,15,13,14],[16,12,11,8,7,3,2,0,1,6,4,5,10,9,15,13,14],[17,16,12,11,8,7,3,2,0,1,6,4,5,10,9,15,13,14],[18,17,16,12,11,8,7,3,2,0,1,6,4,5,10,9,15,13,14],[17,16,12,11,8,7,3,2,0,1,6,4,5,10,9,15,13,14,19,18],[20,17,16,12,11,8,7,3,2,0,1,6,4,5,10,9,15,13,14,19,18]]) .ret)))))
theorem dk8:Dk Tryz.prog 8 ic8 [(.t 0)] 42:=aV Tryz.func8
def tH(t:Nd):Bool:=decide (t.size≤1000) && decide (t.wt≤10000)
theorem qy{t:Nd}(h:tH t=true):t.size≤1000∧t.wt≤10000:=by
 simpa [tH] using h
theorem Qx:tH tG=true:=by kernel_rfl
theorem Qy:tH EQ=true:=by kernel_rfl
theorem M2:tH zK=true:=by kernel_rfl
theorem Qz:tH ER=true:=by kernel_rfl
theorem QA:tH ET=true:=by kernel_rfl
theorem aak:gb tG EQ=true:=by kernel_rfl
theorem aal:gb tG ER=true:=by kernel_rfl
theorem QB:(bw tG ⟨#[98]⟩ [0,0,0]).2=0:=by kernel_rfl
theorem QC:nt (bw tG ⟨#[98]⟩ [0,0,0]).1 ET=true:=by kernel_rfl
theorem QD:(bw zK ⟨#[98]⟩ [0,0,0]).2=120:=by kernel_rfl
theorem aam:decide ((bw tG ⟨#[98]⟩ [0,0,0]).1.size≤1000)=true:=by kernel_rfl
def R1(x:AV)(f n:Nat)(ag:Bool):Bool:=if ag then decide (f+n≤x.cells.length) else decide (f<x.cells.length)
theorem M3{x:AV}{f n:Nat}{ag:Bool}(h:R1 x f n ag=true):AV.jw x f n ag:=by
 unfold R1 at h
 unfold AV.jw
 cases ag<;>simpa using h
def R2(ev:X→AV):Option X→Bool
 |none=>true
 |some x=>match ev x with
  |.sc (.int _ n)=>decide (0≤n)
  |_=>false
theorem M4{ev:X→AV}{o:Option X}(h:R2 ev o=true):oy ev o:=by
 cases o with
 |none=>trivial
 |some x =>
  simp only[R2] at h
  simp only[oy]
  split at h
  ·rename_i e;rw[e];exact of_decide_eq_true h
  ·cases h
def Jn(ev:X→AV):List AV→List (Nat×Nat×X)→Bool
 |_,[]=>true
 |zs,(off,n,x)::r=>(!(ev x).bT && (decide ((ev x).az=n) && decide (off+n≤zs.length))) && Jn ev (zs.take off++(ev x).cells++zs.drop (off+n)) r
theorem HF{ev:X→AV}:∀{ps:List (Nat×Nat×X)}{zs:List AV},Jn ev zs ps=true→qP ev zs ps
 |[],_,_=>trivial
 |(off,n,x)::r,zs,h=>by
  simp only[Jn,Bool.and_eq_true,Bool.not_eq_true',decide_eq_true_eq] at h
  exact ⟨⟨h.1.1,h.1.2.1,h.1.2.2⟩,HF h.2⟩
def okB(ev:X→AV):PO→Bool
 |.mv _=>true
 |.pick c _ _=>match ev c with
  |.sc (.bool _)=>true
  |_=>false
 |.aN op x y=>match ev x with
  |.sc u=>match ev y with
   |.sc v=>(wD op u v).isSome
   |_=>false
  |_=>false
 |.un op x=>match ev x with
  |.sc u=>(JF op u).isSome
  |_=>false
 |.conv _ x=>match ev x with
  |.sc (.int _ _)=>true
  |_=>false
 |.bV x=>match ev x with
  |.ptr k _ _ f=>decide (0<k)|| decide (0<f)
  |.lp _ _=>true
  |_=>false
 |.an _ x=>match ev x with
  |.ptr k _ _ _=>decide (0<k)
  |.lp _ _=>true
  |_=>false
 |.gm k x i=>match ev i with
  |.sc (.int _ n)=>match ev x with
   |.am k' xs _=>decide (0≤n) && (decide (n<(xs.length:Int)) && decide (k'=k))
   |.aD k' _ _ m _=>decide (0≤n) && (decide (n<(m:Int)) && (decide (k'=k) && decide (0<k)))
   |_=>false
  |_=>false
 |.kN x i=>match ev x with
  |.sc (.string s)=>match ev i with
   |.sc (.int _ n)=>decide (0≤n) && decide (n<(s.size:Int))
   |_=>false
  |_=>false
 |.rM x lo hi=>match ev x with
  |.sc (.string s)=>R2 ev lo && (R2 ev hi && (decide (gN ev 0 lo≤gN ev s.size hi) && decide (gN ev s.size hi≤s.size)))
  |_=>false
 |.len x=>match ev x with
  |.am _ _ _=>true
  |.aD _ _ _ _ _=>true
  |_=>false
 |.nP x=>match ev x with
  |.sc (.string _)=>true
  |_=>false
 |.ext x i=>match ev x with
  |.aO vs=>decide (i<vs.length)
  |_=>false
 |.build zs ps=>Jn ev zs ps
 |_=>false
theorem R3{ev:X→AV}{q:PO}(h:okB ev q=true):q.ok ev:=by
 cases q with
 |mv x=>trivial
 |build zs ps=>exact HF h
 |pick c a b =>
  simp only[okB] at h
  simp only[PO.ok]
  split at h
  ·rename_i e;rw[e];trivial
  ·cases h
 |aN op x y =>
  simp only[okB] at h
  simp only[PO.ok]
  split at h
  ·rename_i e
   split at h
   ·rename_i e2;rw[e,e2];exact h
   ·cases h
  ·cases h
 |un op x =>
  simp only[okB] at h
  simp only[PO.ok]
  split at h
  ·rename_i e;rw[e];exact h
  ·cases h
 |conv k x =>
  simp only[okB] at h
  simp only[PO.ok]
  split at h
  ·rename_i e;rw[e];trivial
  ·cases h
 |bV x =>
  simp only[okB] at h
  simp only[PO.ok]
  split at h
  ·rename_i e;rw[e];simpa [Db] using h
  ·rename_i e;rw[e];trivial
  ·cases h
 |an o x =>
  simp only[okB] at h
  simp only[PO.ok]
  split at h
  ·rename_i e;rw[e];simpa [Dc] using h
  ·rename_i e;rw[e];trivial
  ·cases h
 |gm k x i =>
  simp only[okB] at h
  simp only[PO.ok]
  split at h
  ·rename_i e
   split at h
   ·rename_i e2;rw[e,e2];simpa [uO] using h
   ·rename_i e2;rw[e,e2];simpa [uO] using h
   ·cases h
  ·cases h
 |kN x i =>
  simp only[okB] at h
  simp only[PO.ok]
  split at h
  ·rename_i e
   split at h
   ·rename_i e2;rw[e,e2];simpa [Ci] using h
   ·cases h
  ·cases h
 |rM x lo hi =>
  simp only[okB] at h
  simp only[PO.ok]
  split at h
  ·rename_i e
   simp only[Bool.and_eq_true,decide_eq_true_eq] at h
   rw[e]
   exact ⟨trivial,M4 h.1,M4 h.2.1,h.2.2.1,h.2.2.2⟩
  ·cases h
 |len x =>
  simp only[okB] at h
  simp only[PO.ok]
  split at h
  ·rename_i e;rw[e];trivial
  ·rename_i e;rw[e];trivial
  ·cases h
 |nP x =>
  simp only[okB] at h
  simp only[PO.ok]
  split at h
  ·rename_i e;rw[e];trivial
  ·cases h
 |ext x i =>
  simp only[okB] at h
  simp only[PO.ok]
  split at h
  ·rename_i e;rw[e];simpa [Og] using h
  ·cases h
 |_=>cases h
def B3:Nat→Y→Nat→Option aP
 |_,[],_=>none
 |0,_::_,_=>none
 |n+1,b::r,i=>if i=n then b else B3 n r i
theorem nM:∀{H:Y}{i:Nat},B3 H.length H i=Y.find H i
 |[],_=>rfl
 |b::r,i=>by
  show (if i=r.length then b else B3 r.length r i)=_
  simp only[Y.find,nM (H:=r)]
def stt:Nat→Y→Nat→Option aP→Y
 |_,[],_,_=>[]
 |0,b::r,_,_=>b::r
 |n+1,b::r,i,x=>if i=n then x::r else b::stt n r i x
theorem Jo:∀{H:Y}{i:Nat}{x:Option aP},stt H.length H i x=Y.set H i x
 |[],_,_=>rfl
 |b::r,i,x=>by
  show (if i=r.length then x::r else b::stt r.length r i x)=_
  simp only[Y.set,Jo (H:=r)]
def ldE(H:Y)(n:Nat)(ag:Bool):AV→AV
 |.ptr _ id j f=>match B3 H.length H id with
  |some blk=>AV.sub (blk.es.getD j .top) f n ag
  |none=>.top
 |.lp x f=>AV.sub x f n ag
 |_=>.top
theorem Jp{H:Y}{n:Nat}{ag:Bool}{a:AV}:ldE H n ag a=Fq H n ag a:=by
 cases a<;>simp only[ldE,Fq,nM]<;>rfl
def stE(H:Y):AV→AV→Y
 |.ptr k id j f,x=>match B3 H.length H id with
  |some blk=>stt H.length H id (some { blk with es:=blk.es.set j (AV.lu (blk.es.getD j .top) f x) })
  |none=>H
 |_,_=>H
theorem R4{H:Y}{a x:AV}:stE H a x=yL H a x:=by
 cases a<;>simp only[stE,yL,nM,Jo]<;>rfl
def lsE(H:Y):AV→List AV
 |.am _ ys _=>ys
 |.aD _ id off n _=>match B3 H.length H id with
  |some blk=>(blk.es.drop off).take n
  |none=>[]
 |_=>[]
theorem Jq{H:Y}{a:AV}:lsE H a=pc H a:=by
 cases a<;>simp only[lsE,pc,nM]<;>rfl
def apE(H:Y)(k ty:Nat)(ys:List AV):AV→Y
 |.aD k' id off n none=>match B3 H.length H id with
  |some blk=>some ⟨k,blk.es++ys,false,ty⟩::stt H.length H id none
  |none=>H
 |a=>jy H k ty ys a
theorem acr{H:Y}{k ty:Nat}{ys:List AV}{a:AV}:apE H k ty ys a=jy H k ty ys a:=by
 unfold apE
 split
 ·simp only[jy,nM,Jo]
  rfl
 ·rfl
def R5(ev:X→AV)(H:Y):HO→AV
 |.load n ag a=>ldE H n ag (ev a)
 |.ez k _ s x=>lC H k (lsE H (ev x)) (ev s)
 |q=>q.uQ ev H
theorem oe{ev:X→AV}{H:Y}{q:HO}:R5 ev H q=q.uQ ev H:=by
 cases q<;>simp only[R5,HO.uQ,Jp,Jq]
def Jr(ev:X→AV)(H:Y):HO→Y
 |.store _ a x=>stE H (ev a) (ev x)
 |.ez k ty s x=>apE H k ty (lsE H (ev x)) (ev s)
 |q=>q.pT ev H
theorem l3{ev:X→AV}{H:Y}{q:HO}:Jr ev H q=q.pT ev H:=by
 cases q<;>simp only[Jr,HO.pT,R4,acr,Jq]
def ldB(H:Y)(n:Nat)(ag:Bool):AV→Bool
 |.ptr k id j f=>match B3 H.length H id with
  |some blk=>decide (blk.k=k) && (decide (j<blk.es.length) && (R1 (blk.es.getD j .top) f n ag && decide (0<k)))
  |none=>false
 |.lp x f=>R1 x f n ag
 |_=>false
theorem Js{H:Y}{n:Nat}{ag:Bool}{a:AV}(h:ldB H n ag a=true):wH H n ag a:=by
 cases a with
 |ptr k id j f =>
  simp only[ldB,nM] at h
  simp only[wH]
  split at h
  ·rename_i e
   rw[e]
   simp only[Bool.and_eq_true,decide_eq_true_eq] at h
   exact ⟨h.1,h.2.1,M3 h.2.2.1,h.2.2.2⟩
  ·cases h
 |lp x f=>exact M3 h
 |_=>cases h
def stB(H:Y)(n:Nat):AV→AV→Bool
 |.ptr k id j f,x=>match B3 H.length H id with
  |some blk=>decide (blk.k=k) && (decide (j<blk.es.length) && (!x.bT && (decide (x.az=n) && (decide (f+n≤(blk.es.getD j .top).az) && (((blk.es.getD j .top).isAgg|| !x.isAgg) && decide (0<k))))))
  |none=>false
 |_,_=>false
theorem R6{H:Y}{n:Nat}{a x:AV}(h:stB H n a x=true):Bp H n a x:=by
 cases a with
 |ptr k id j f =>
  simp only[stB,nM] at h
  simp only[Bp]
  split at h
  ·rename_i e
   rw[e]
   simp only[Bool.and_eq_true,Bool.not_eq_true',decide_eq_true_eq] at h
   exact ⟨h.1,h.2.1,h.2.2.1,h.2.2.2.1,h.2.2.2.2.1,h.2.2.2.2.2.1,h.2.2.2.2.2.2⟩
  ·cases h
 |_=>cases h
def HG(ev:X→AV)(k:Nat):List AV→List (Nat×X)→Bool
 |_,[]=>true
 |es,(i,x)::r=>(!(ev x).bT && (decide ((ev x).az=k) && decide (i<es.length))) && HG ev k (es.set i (ev x)) r
theorem zL{ev:X→AV}{k:Nat}:∀{ps:List (Nat×X)}{es:List AV},HG ev k es ps=true→nq ev k es ps
 |[],_,_=>trivial
 |(i,x)::r,es,h=>by
  simp only[HG,Bool.and_eq_true,Bool.not_eq_true',decide_eq_true_eq] at h
  exact ⟨⟨h.1.1,h.1.2.1,h.1.2.2⟩,zL h.2⟩
def lsB(H:Y)(k:Nat):AV→Bool
 |.am k' ys _=>decide (k'=k)|| ys.isEmpty
 |.aD k' id off n _=>match B3 H.length H id with
  |some blk=>decide (k'=k) && (decide (blk.k=k) && decide (off+n≤blk.es.length))
  |none=>false
 |_=>false
theorem acs{H:Y}{k:Nat}{a:AV}(h:lsB H k a=true):wI H k a:=by
 cases a with
 |am k' ys r=>simpa [lsB,wI] using h
 |aD k' id off n c =>
  simp only[lsB,nM] at h
  simp only[wI]
  split at h
  ·rename_i e
   rw[e]
   simpa using h
  ·cases h
 |_=>cases h
def apB(H:Y)(k ty:Nat)(ys:List AV):AV→Bool
 |.am k' xs (some [])=>(decide (k'=k)|| xs.isEmpty) && decide (xs.length+ys.length≤100000000)
 |.aD k' id off n none=>match B3 H.length H id with
  |some blk=>(decide (k'=k) && (decide (blk.k=k) && (decide (blk.ty=ty) && (decide (off=0) && decide (n+ys.length≤100000000))))) && (!blk.exact && decide (n=blk.es.length))
  |none=>false
 |_=>false
theorem acu{H:Y}{k ty:Nat}{ys:List AV}{a:AV}(h:apB H k ty ys a=true):gQ H k ty ys a:=by
 unfold apB at h
 split at h
 ·simpa [gQ] using h
 ·rw[nM] at h
  split at h
  ·rename_i e
   simp only[gQ]
   rw[e]
   simpa using h
  ·cases h
 ·cases h
def Cq:AV→Bool
 |.sc (.int _ _)=>true
 |_=>false
theorem EU{a:AV}(h:Cq a=true):qQ a:=by
 unfold Cq at h
 split at h
 ·trivial
 ·cases h
def U6(ev:X→AV)(H:Y):HO→Bool
 |.load n ag a=>ldB H n ag (ev a)
 |.alloc _ _=>true
 |.box k _ x=>!(ev x).bT && decide ((ev x).az=k)
 |.ep k _ z ln ps=>HG ev k (List.replicate ln z) ps
 |.kO k _ z ln ps=>HG ev k (List.replicate ln z) ps
 |.store n a x=>stB H n (ev a) (ev x)
 |.jN _ _ _ l c=>Cq (ev l) && (Cq (ev c) && (decide (0≤aM (ev l)) && (decide (aM (ev l)≤aM (ev c)) && decide (aM (ev c)≤100000000))))
 |.ez k ty s x=>lsB H k (ev x) && apB H k ty (lsE H (ev x)) (ev s)
 |_=>false
theorem q8{ev:X→AV}{H:Y}{q:HO}(h:U6 ev H q=true):q.Fs ev H:=by
 cases q with
 |load n ag a=>exact Js h
 |alloc z ty=>trivial
 |box k ty x=>simpa [U6,HO.Fs] using h
 |ep k ty z ln ps=>exact zL h
 |kO k ty z ln ps=>exact zL h
 |store n a x=>exact R6 h
 |jN k ty z l c =>
  simp only[U6,Bool.and_eq_true,decide_eq_true_eq] at h
  exact ⟨EU h.1,EU h.2.1,h.2.2.1,h.2.2.2.1,h.2.2.2.2⟩
 |ez k ty s x =>
  simp only[U6,Bool.and_eq_true,Jq] at h
  exact ⟨acs h.1,acu h.2⟩
 |_=>cases h
abbrev oO:=FuncId→List AV→Y→Option (AV×Y)
def zM(P:Program)(call:oO):Prop:=∀f fw H v H',call f fw H=some (v,H')→D P f fw H (.ret v) H'
def HH(ts:List AV):Option (Nat×Bool)→Option Bool
 |none=>some true
 |some (d,want)=>match ts.getD d .top with
  |.sc (.bool b)=>some (b == want)
  |.aO _=>some false
  |_=>none
theorem R7{ts:List AV}{g:Option (Nat×Bool)}{p q:Prop}(h:HH ts g=some true)(hp:p):cI ts p q g:=by
 cases g with
 |none=>exact hp
 |some dw =>
  obtain ⟨d,want⟩:=dw
  simp only[HH] at h
  simp only[cI]
  split at h
  ·rename_i b e
   rw[e]
   have:b=want:=by simpa using h
   exact ⟨fun _=>hp,fun hn=>absurd this hn⟩
  ·cases h
  ·cases h
theorem R8{ts:List AV}{g:Option (Nat×Bool)}{p q:Prop}(h:HH ts g=some false)(hq:q):cI ts p q g:=by
 cases g with
 |none=>cases h
 |some dw =>
  obtain ⟨d,want⟩:=dw
  simp only[HH] at h
  simp only[cI]
  split at h
  ·rename_i b e
   rw[e]
   have:b≠want:=by simpa using h
   exact ⟨fun hn=>absurd hn this,fun _=>hq⟩
  ·rename_i e
   rw[e]
   exact hq
  ·cases h
def EV(call:oO)(ts:List AV)(H:Y):eX→Option (AV×Y)
 |.p q=>if okB (X.ev ts) q then some (q.val (X.ev ts),H) else none
 |.h (.call f fw)=>call f (fw.map (X.ev ts)) H
 |.h q=>if U6 (X.ev ts) H q then some (R5 (X.ev ts) H q,Jr (X.ev ts) H q) else none
theorem acv{P:Program}{call:oO}(hc:zM P call){ts:List AV}{H:Y}{op:eX}{v:AV}{H':Y}(h:EV call ts H op=some (v,H')){C Cp:AV→Y→Prop}(hC:C v H'):Kv P (X.ev ts) H C Cp op:=by
 cases op with
 |p q =>
  simp only[EV] at h
  split at h
  ·rename_i hk
   obtain ⟨rfl,rfl⟩:=Prod.mk.inj (Option.some.inj h)
   exact ⟨R3 hk,hC⟩
  ·cases h
 |h q =>
  cases q with
  |call f fw =>
   exact (hc f _ H v H' h).dk.mono fun e H1 _ ⟨h1,h2⟩=>by subst h1 h2;exact hC
  |load n ag a =>
   simp only[EV] at h
   split at h
   ·rename_i hk
    obtain ⟨rfl,rfl⟩:=Prod.mk.inj (Option.some.inj h)
    rw[oe,l3] at hC
    exact ⟨q8 hk,hC⟩
   ·cases h
  |alloc z ty =>
   simp only[EV] at h
   split at h
   ·rename_i hk
    obtain ⟨rfl,rfl⟩:=Prod.mk.inj (Option.some.inj h)
    rw[oe,l3] at hC
    exact ⟨q8 hk,hC⟩
   ·cases h
  |box k ty x =>
   simp only[EV] at h
   split at h
   ·rename_i hk
    obtain ⟨rfl,rfl⟩:=Prod.mk.inj (Option.some.inj h)
    rw[oe,l3] at hC
    exact ⟨q8 hk,hC⟩
   ·cases h
  |jN k ty z l c =>
   simp only[EV] at h
   split at h
   ·rename_i hk
    obtain ⟨rfl,rfl⟩:=Prod.mk.inj (Option.some.inj h)
    rw[oe,l3] at hC
    exact ⟨q8 hk,hC⟩
   ·cases h
  |ep k ty z ln ps =>
   simp only[EV] at h
   split at h
   ·rename_i hk
    obtain ⟨rfl,rfl⟩:=Prod.mk.inj (Option.some.inj h)
    rw[oe,l3] at hC
    exact ⟨q8 hk,hC⟩
   ·cases h
  |kO k ty z ln ps =>
   simp only[EV] at h
   split at h
   ·rename_i hk
    obtain ⟨rfl,rfl⟩:=Prod.mk.inj (Option.some.inj h)
    rw[oe,l3] at hC
    exact ⟨q8 hk,hC⟩
   ·cases h
  |store n a x =>
   simp only[EV] at h
   split at h
   ·rename_i hk
    obtain ⟨rfl,rfl⟩:=Prod.mk.inj (Option.some.inj h)
    rw[oe,l3] at hC
    exact ⟨q8 hk,hC⟩
   ·cases h
  |ez k ty s x =>
   simp only[EV] at h
   split at h
   ·rename_i hk
    obtain ⟨rfl,rfl⟩:=Prod.mk.inj (Option.some.inj h)
    rw[oe,l3] at hC
    exact ⟨q8 hk,hC⟩
   ·cases h
  |_=>cases h
def eqS:Value→Value→Bool
 |.int k n,.int k' n'=>decide (k=k') && decide (n=n')
 |.bool b,.bool c=>b == c
 |.string x,.string y=>decide (x=y)
 |_,_=>false
theorem R9{u v:Value}(h:eqS u v=true):u=v:=by
 unfold eqS at h
 split at h
 ·simp only[Bool.and_eq_true,decide_eq_true_eq] at h
  rw[h.1,h.2]
 ·rw[eq_of_beq h]
 ·rw[of_decide_eq_true h]
 ·cases h
mutual
def rN:AV→AV→Bool
 |.sc u,.sc v=>eqS u v
 |.am k xs none,.am k' ys none=>decide (k=k') && FK xs ys
 |.am k xs (some []),.am k' ys (some [])=>decide (k=k') && FK xs ys
 |.aD k id off n c,.aD k' id' off' n' c'=>decide (k=k') && (decide (id=id') && (decide (off=off') && (decide (n=n') && decide (c=c'))))
 |.ptr k id j f,.ptr k' id' j' f'=>decide (k=k') && (decide (id=id') && (decide (j=j') && decide (f=f')))
 |.agg xs,.agg ys=>FK xs ys
 |.aO xs,.aO ys=>FK xs ys
 |_,_=>false
def FK:List AV→List AV→Bool
 |[],[]=>true
 |x::r,y::s=>rN x y && FK r s
 |_,_=>false
end
mutual
theorem acw:∀{x y:AV},rN x y=true→x=y
 |.sc u,.sc v,h=>by
  have e:u=v:=R9 (by simpa only[rN] using h)
  rw[e]
 |.am k xs none,.am k' ys none,h=>by
  simp only[rN,Bool.and_eq_true,decide_eq_true_eq] at h
  rw[h.1,nN h.2]
 |.am k xs (some []),.am k' ys (some []),h=>by
  simp only[rN,Bool.and_eq_true,decide_eq_true_eq] at h
  rw[h.1,nN h.2]
 |.aD k id off n c,.aD k' id' off' n' c',h=>by
  simp only[rN,Bool.and_eq_true,decide_eq_true_eq] at h
  rw[h.1,h.2.1,h.2.2.1,h.2.2.2.1,h.2.2.2.2]
 |.ptr k id j f,.ptr k' id' j' f',h=>by
  simp only[rN,Bool.and_eq_true,decide_eq_true_eq] at h
  rw[h.1,h.2.1,h.2.2.1,h.2.2.2]
 |.agg xs,.agg ys,h=>by
  have e:xs=ys:=nN (by simpa only[rN] using h)
  rw[e]
 |.aO xs,.aO ys,h=>by
  have e:xs=ys:=nN (by simpa only[rN] using h)
  rw[e]
 |x,y,h=>by
  unfold rN at h
  split at h
  ·rw[R9 h]
  ·simp only[Bool.and_eq_true,decide_eq_true_eq] at h
   rw[h.1,nN h.2]
  ·simp only[Bool.and_eq_true,decide_eq_true_eq] at h
   rw[h.1,nN h.2]
  ·simp only[Bool.and_eq_true,decide_eq_true_eq] at h
   rw[h.1,h.2.1,h.2.2.1,h.2.2.2.1,h.2.2.2.2]
  ·simp only[Bool.and_eq_true,decide_eq_true_eq] at h
   rw[h.1,h.2.1,h.2.2.1,h.2.2.2]
  ·rw[nN h]
  ·rw[nN h]
  ·cases h
theorem nN:∀{x y:List AV},FK x y=true→x=y
 |[],[],_=>rfl
 |x::r,y::s,h=>by
  simp only[FK,Bool.and_eq_true] at h
  rw[acw h.1,nN h.2]
 |[],_::_,h=>by simp[FK] at h
 |_::_,[],h=>by simp[FK] at h
end
def eqK:Option aP→Option aP→Bool
 |none,none=>true
 |some a,some b=>decide (a.k=b.k) && (FK a.es b.es && ((a.exact == b.exact) && decide (a.ty=b.ty)))
 |_,_=>false
theorem acy:∀{a b:Option aP},eqK a b=true→a=b
 |none,none,_=>rfl
 |some ⟨k,es,ex,ty⟩,some ⟨k',es',ex',ty'⟩,h=>by
  simp only[eqK,Bool.and_eq_true,decide_eq_true_eq] at h
  rw[h.1,nN h.2.1,eq_of_beq h.2.2.1,h.2.2.2]
 |none,some _,h=>by cases h
 |some _,none,h=>by cases h
def M5:Y→Y→List Nat
 |b::r,c::s=>if eqK b c then M5 r s else r.length::M5 r s
 |_,_=>[]
theorem EW:∀{D H:Y},D.length=H.length→∀{j:Nat},j∉M5 D H→Y.find D j=Y.find H j
 |[],[],_,_,_=>rfl
 |b::r,c::s,hl,j,hj=>by
  have E5:r.length=s.length:=by simpa using hl
  simp only[M5] at hj
  simp only[Y.find]
  split at hj
  ·rename_i e
   rw[acy e,EW E5 hj,E5]
  ·simp only[List.mem_cons,not_or] at hj
   rw[if_neg hj.1,if_neg (by rw[←E5];exact hj.1),EW E5 hj.2]
 |[],_::_,hl,_,_=>by simp at hl
 |_::_,[],hl,_,_=>by simp at hl
def chg(H H':Y):List Nat:=M5 (H'.drop (H'.length-H.length)) H
theorem acz{H H':Y}(hl:H.length≤H'.length){j:Nat}(hj:j∉chg H H')(hlt:j<H.length):Y.find H' j=Y.find H j:=by
 have e:H'=H'.take (H'.length-H.length)++H'.drop (H'.length-H.length):=(List.take_append_drop _ _).symm
 have hd:(H'.drop (H'.length-H.length)).length=H.length:=by rw[List.length_drop];omega
 rw[e,Y.bF (by rw[hd];exact hlt)]
 exact EW hd hj
def Sa:AV→Nat
 |.ptr _ id _ _=>id
 |_=>0
def aan(A:List (List Nat))(i:Nat)(hs:List (Nat×List Nat)):AV→Bool
 |.ptr _ id _ _=>hs.all fun c=>!nj A c.1 i|| !c.2.contains id
 |_=>true
def chB(A:List (List Nat))(i:Nat)(ld:List (Nat×Nat))(n:Nat)(ids:List Nat):Bool:=ld.all fun l=>!nj A l.1 i|| (!ids.contains l.2 && decide (l.2<n))
inductive HsR:List (Nat×Y×Y)→List (Nat×List Nat)→Prop where
 | nil:HsR [] []
 | cons {i:Nat}{ids:List Nat}{H H':Y}{l:List (Nat×Y×Y)}{m:List (Nat×List Nat)}:(∀j,j∉ids→j<H.length→Y.find H' j=Y.find H j)→HsR l m→HsR ((i,H,H')::l) ((i,ids)::m)
theorem aao{A:List (List Nat)}{i:Nat}{hs:List (Nat×Y×Y)}{m:List (Nat×List Nat)}(hr:HsR hs m){a:AV}(h:aan A i m a=true):BT A i hs a:=by
 cases a with
 |ptr k id j f =>
  simp only[aan,List.all_eq_true] at h
  intro c hc hu hl
  induction hr with
  |nil=>cases hc
  |cons h1 _ ih =>
   rcases List.mem_cons.1 hc with e|e
   ·subst e
    have:=h _ List.mem_cons_self
    simp only[Bool.or_eq_true,Bool.not_eq_true',List.contains_eq_mem,decide_eq_false_iff_not] at this
    rcases this with t|t
    ·simp only at hu
     rw[t] at hu
     cases hu
    ·exact h1 id t hl
   ·exact ih (fun x hx=>h x (List.mem_cons_of_mem _ hx)) e
 |_=>trivial
theorem Sb{A:List (List Nat)}{i:Nat}{ld:List (Nat×Nat)}{H H':Y}{ids:List Nat}(h:chB A i ld H.length ids=true)(hk:∀j,j∉ids→j<H.length→Y.find H' j=Y.find H j):sX A i ld H H':=by
 intro l hl hu
 simp only[chB,List.all_eq_true] at h
 have:=h l hl
 simp only[Bool.or_eq_true,Bool.and_eq_true,Bool.not_eq_true',List.contains_eq_mem,decide_eq_false_iff_not,decide_eq_true_eq] at this
 rcases this with t|t
 ·rw[t] at hu
  cases hu
 ·exact hk _ t.1 t.2
theorem U7{H:Y}{a x:AV}{n:Nat}(h:stB H n a x=true):∀j,j∉[Sa a]→j<H.length→Y.find (yL H a x) j=Y.find H j:=by
 intro j hj _
 have hj:j≠Sa a:=by simpa using hj
 cases a with
 |ptr k id b f =>
  simp only[yL]
  split
  ·exact Y.aj hj
  ·rfl
 |_=>cases h
inductive Tr where
 | e
 | lf (v:AV)
 | nd (l r:Tr)
noncomputable def Tr.get(t:Tr):Nat→AV:=Tr.rec (motive:=fun _=>Nat→AV) (fun _=>.aO []) (fun v _=>v) (fun _ _ gl gr i=>Bool.rec (gr (Nat.div i 2)) (gl (Nat.div i 2)) (Nat.beq (Nat.mod i 2) 0)) t
noncomputable def Tr.put(k:Nat):Tr→Nat→AV→Tr:=Nat.rec (motive:=fun _=>Tr→Nat→AV→Tr) (fun _ _ v=>.lf v) (fun _ ih t i v=>Tr.rec (motive:=fun _=>Tr) (Bool.rec (.nd .e (ih .e (Nat.div i 2) v)) (.nd (ih .e (Nat.div i 2) v) .e) (Nat.beq (Nat.mod i 2) 0)) (fun _=>Bool.rec (.nd .e (ih .e (Nat.div i 2) v)) (.nd (ih .e (Nat.div i 2) v) .e) (Nat.beq (Nat.mod i 2) 0)) (fun l r _ _=>Bool.rec (.nd l (ih r (Nat.div i 2) v)) (.nd (ih l (Nat.div i 2) v) r) (Nat.beq (Nat.mod i 2) 0)) t) k
theorem EX{α:Sort _}(i:Nat)(x y:α):(Bool.rec y x (Nat.beq (Nat.mod i 2) 0):α)=if i % 2=0 then x else y:=by
 by_cases h:i % 2=0
 ·have h2:Nat.mod i 2=0:=h
  have e:Nat.beq (Nat.mod i 2) 0=true:=by rw[h2];rfl
  rw[e,if_pos h]
 ·have e:Nat.beq (Nat.mod i 2) 0=false:=by
   cases hb:Nat.beq (Nat.mod i 2) 0 with
   |false=>rfl
   |true=>exact absurd (Nat.eq_of_beq_eq_true hb) h
  rw[e,if_neg h]
theorem Tr.Cr(l r:Tr)(i:Nat):(Tr.nd l r).get i=if i % 2=0 then l.get (i / 2) else r.get (i / 2):=EX i _ _
theorem Tr.QE(i:Nat):Tr.e.get i = .aO []:=rfl
theorem Tr.Sc(k:Nat)(l r:Tr)(i:Nat)(v:AV):Tr.put (k+1) (.nd l r) i v=if i % 2=0 then .nd (Tr.put k l (i / 2) v) r else .nd l (Tr.put k r (i / 2) v):=EX i _ _
theorem Tr.aap(k:Nat)(i:Nat)(v:AV):Tr.put (k+1) .e i v=if i % 2=0 then .nd (Tr.put k .e (i / 2) v) .e else .nd .e (Tr.put k .e (i / 2) v):=EX i _ _
inductive Tr.Wf:Nat→Tr→Prop where
 | e {k:Nat}:Tr.Wf k .e
 | lf {v:AV}:Tr.Wf 0 (.lf v)
 | nd {k:Nat}{l r:Tr}:Tr.Wf k l→Tr.Wf k r→Tr.Wf (k+1) (.nd l r)
theorem Tr.zN:∀{k:Nat}{t:Tr}{i:Nat}{v:AV},Tr.Wf k t→Tr.Wf k (Tr.put k t i v)
 |0,_,_,_,_=>.lf
 |k+1,.nd l r,i,v,h=>by
  cases h with
  |nd h1 h2 =>
   rw[Tr.Sc]
   split
   ·exact .nd (Tr.zN h1) h2
   ·exact .nd h1 (Tr.zN h2)
 |k+1,.e,i,v,h=>by
  rw[Tr.aap]
  split
  ·exact .nd (Tr.zN .e) .e
  ·exact .nd .e (Tr.zN .e)
 |k+1,.lf _,i,v,h=>by cases h
theorem Tr.vP:∀{k:Nat}{t:Tr}{i j:Nat}{v:AV},Tr.Wf k t→i<2 ^ k→j<2 ^ k→(Tr.put k t i v).get j=if i=j then v else t.get j
 |0,t,i,j,v,h,hi,hj=>by
  have h1:i=j:=by simp at hi hj;omega
  rw[if_pos h1]
  rfl
 |k+1,.nd l r,i,j,v,h,hi,hj=>by
  rw[Nat.pow_succ] at hi hj
  cases h with
  |nd h1 h2 =>
   rw[Tr.Sc]
   by_cases ci:i % 2=0
   ·rw[if_pos ci]
    simp only[Tr.Cr]
    by_cases cj:j % 2=0
    ·rw[if_pos cj,if_pos cj,Tr.vP h1 (by omega) (by omega)]
     by_cases c:i=j
     ·rw[if_pos c,if_pos (by omega)]
     ·rw[if_neg c,if_neg (by omega)]
    ·rw[if_neg cj,if_neg cj,if_neg (by omega)]
   ·rw[if_neg ci]
    simp only[Tr.Cr]
    by_cases cj:j % 2=0
    ·rw[if_pos cj,if_pos cj,if_neg (by omega)]
    ·rw[if_neg cj,if_neg cj,Tr.vP h2 (by omega) (by omega)]
     by_cases c:i=j
     ·rw[if_pos c,if_pos (by omega)]
     ·rw[if_neg c,if_neg (by omega)]
 |k+1,.e,i,j,v,h,hi,hj=>by
  rw[Nat.pow_succ] at hi hj
  have he:∀n,Tr.e.get n = .aO []:=fun _=>rfl
  rw[Tr.aap]
  by_cases ci:i % 2=0
  ·rw[if_pos ci]
   simp only[Tr.Cr,Tr.QE]
   by_cases cj:j % 2=0
   ·rw[if_pos cj,Tr.vP .e (by omega) (by omega),he]
    by_cases c:i=j
    ·rw[if_pos c,if_pos (by omega)]
    ·rw[if_neg c,if_neg (by omega)]
   ·rw[if_neg cj,if_neg (by omega)]
  ·rw[if_neg ci]
   simp only[Tr.Cr,Tr.QE]
   by_cases cj:j % 2=0
   ·rw[if_pos cj,if_neg (by omega)]
   ·rw[if_neg cj,Tr.vP .e (by omega) (by omega),he]
    by_cases c:i=j
    ·rw[if_pos c,if_pos (by omega)]
    ·rw[if_neg c,if_neg (by omega)]
 |k+1,.lf _,i,j,v,h,hi,hj=>by cases h
structure tI(n:Nat)(t:Tr)(ts:List AV):Prop where
 wf:Tr.Wf 9 t
 len:ts.length=n
 rF:n≤512
 get:∀i,i<n→ts.getD i .top=t.get i
theorem tI.put{n:Nat}{t:Tr}{ts:List AV}(h:tI n t ts){d:Nat}(hd:d<n)(v:AV):tI n (Tr.put 9 t d v) (ts.set d v) where
 wf:=Tr.zN h.wf
 len:=by rw[List.length_set,h.len]
 rF:=h.rF
 get:=fun i hi=>by
  have hn:=h.rF
  rw[Tr.vP h.wf (by omega) (by omega)]
  by_cases c:d=i
  ·subst c
   rw[if_pos rfl]
   simp[List.getD,h.len,hd]
  ·rw[if_neg c,←h.get i hi]
   simp[List.getD,List.getElem?_set_ne c]
noncomputable def qz(n:Nat)(t:Tr):X→AV
 |.t i=>Bool.rec .top (t.get i) (Nat.ble (Nat.succ i) n)
 |.k v=>v
theorem agr(n:Nat)(t:Tr)(i:Nat):qz n t (.t i)=if i<n then t.get i else .top:=by
 show (Bool.rec .top (t.get i) (Nat.ble (Nat.succ i) n):AV)=_
 by_cases h:i<n
 ·rw[Nat.ble_eq_true_of_le h,if_pos h]
 ·have e:Nat.ble (Nat.succ i) n=false:=by
   cases hb:Nat.ble (Nat.succ i) n with
   |false=>rfl
   |true=>exact absurd (Nat.le_of_ble_eq_true hb) h
  rw[e,if_neg h]
theorem tJ{n:Nat}{t:Tr}{ts:List AV}(h:tI n t ts):qz n t=X.ev ts:=by
 funext x
 cases x with
 |t i =>
  simp only[agr,X.ev]
  split
  ·rename_i c
   exact (h.get i c).symm
  ·rename_i c
   have:=h.len
   simp[List.getD,List.getElem?_eq_none (by omega:ts.length≤i)]
 |k v=>rfl
def opT(call:oO)(ev:X→AV)(H:Y):eX→Option (AV×Y)
 |.p q=>if okB ev q then some (q.val ev,H) else none
 |.h (.call f fw)=>call f (fw.map ev) H
 |.h q=>if U6 ev H q then some (R5 ev H q,Jr ev H q) else none
theorem acA{call:oO}{ts:List AV}{H:Y}{op:eX}:opT call (X.ev ts) H op=EV call ts H op:=by
 cases op with
 |p q=>rfl
 |h q=>cases q<;>rfl
noncomputable def Sd(n:Nat)(t:Tr):Option (Nat×Bool)→Option Bool
 |none=>some true
 |some (d,want)=>match qz n t (.t d) with
  |.sc (.bool b)=>some (b == want)
  |.aO _=>some false
  |_=>none
theorem M6{n:Nat}{t:Tr}{ts:List AV}(h:tI n t ts){g:Option (Nat×Bool)}:Sd n t g=HH ts g:=by
 cases g with
 |none=>rfl
 |some g =>
  obtain ⟨d,w⟩:=g
  simp only[Sd,HH,tJ h,X.ev]<;>rfl
noncomputable def qA(n:Nat)(t:Tr)(d:Option Nat)(v:AV):Option Tr:=match d with
 |none=>some t
 |some d=>if d<n then some (Tr.put 9 t d v) else none
theorem kK{n:Nat}{t t':Tr}{ts:List AV}{d:Option Nat}{v:AV}(h:tI n t ts)(hp:qA n t d v=some t'):tI n t' (cz ts d v):=by
 cases d with
 |none =>
  cases hp
  exact h
 |some d =>
  simp only[qA] at hp
  split at hp
  ·rename_i c
   rw[←Option.some.inj hp]
   exact h.put c v
  ·cases hp
noncomputable def runT(call:oO)(n:Nat):List cy→Tr→Y→Option (Tr×Y)
 |[],t,H=>some (t,H)
 |o::r,t,H=>match Sd n t o.guard with
  |some true=>match opT call (qz n t) H o.op with
   |some (v,H')=>match qA n t o.dst v with
    |some t'=>runT call n r t' H'
    |none=>none
   |none=>none
  |some false=>match qA n t o.dst (.aO []) with
   |some t'=>runT call n r t' H
   |none=>none
  |none=>none
theorem EY{P:Program}{call:oO}(hc:zM P call){n:Nat}{K:List AV→Y→Prop}{Kp:AV→List AV→Y→Prop}:∀{l:List cy}{t:Tr}{ts:List AV}{H:Y}{t':Tr}{H':Y},tI n t ts→runT call n l t H=some (t',H')→(∀ts',tI n t' ts'→K ts' H')→dj P K Kp l ts H
 |[],t,ts,H,t',H',hr,h,hK=>by
  obtain ⟨rfl,rfl⟩:=Prod.mk.inj (Option.some.inj h)
  exact hK ts hr
 |o::r,t,ts,H,t',H',hr,h,hK=>by
  simp only[runT,M6 hr] at h
  split at h
  ·rename_i hg
   rw[tJ hr,acA] at h
   split at h
   ·rename_i v H1 ho
    split at h
    ·rename_i t1 hp
     exact R7 hg (acv hc ho (EY hc (kK hr hp) h hK))
    ·cases h
   ·cases h
  ·rename_i hg
   split at h
   ·rename_i t1 hp
    exact R8 hg (EY hc (kK hr hp) h hK)
   ·cases h
  ·cases h
theorem U8{P:Program}{c:IC}{K:Post}{ts:List AV}{H:Y}(I:Nat→List AV→Y→Prop)(n:Nat)(h:∀n ts H,I n ts H→∀L:List AV→Y→Prop,(∀m ts' H',m<n→I m ts' H'→L ts' H')→ES P c (kX L K) ts H)(h0:I n ts H):ES P (.loop c) K ts H:=by
 classical
 have least:∀ts H,(∃n,I n ts H)→∃n,I n ts H∧∀m,I m ts H→n≤m:=fun ts H ⟨n,hn⟩=>by
  induction n using Nat.strongRecOn with
  |_ n ih =>
   by_cases c:∃m,m<n∧I m ts H
   ·obtain ⟨m,h1,h2⟩:=c
    exact ih m h1 h2
   ·exact ⟨n,hn,fun m hm=>Nat.le_of_not_lt fun h=>c ⟨m,h,hm⟩⟩
 let μ:List AV→Y→Nat:=fun ts H=>if h:∃n,I n ts H then Classical.choose (least ts H h) else 0
 have hμ:∀ts H (h:∃n,I n ts H),I (μ ts H) ts H∧∀m,I m ts H→μ ts H≤m:=fun ts H hx=>by
  have e:μ ts H=Classical.choose (least ts H hx):=dif_pos hx
  rw[e]
  exact Classical.choose_spec (least ts H hx)
 refine aZ (fun ts H=>∃n,I n ts H) μ ⟨n,h0⟩ fun ts H hI L hL=>?_
 obtain ⟨h1,h2⟩:=hμ ts H hI
 exact h _ ts H h1 L fun m ts' H' hm Wu=>hL ts' H' ⟨m,Wu⟩ (Nat.lt_of_le_of_lt ((hμ ts' H' ⟨m,Wu⟩).2 m Wu) hm)
abbrev A2:=FuncId→Option (IC×List RV×Nat)
def Jt(P:Program)(T:A2):Prop:=∀f c rs n,T f=some (c,rs,n)→Dk P f c rs n
noncomputable def rI(call:oO)(n:Nat)(A:List (List Nat)):Nat→List cy→Tr→Y→List (Nat×Nat)→List (Nat×List Nat)→Option (Tr×Y)
 |_,[],t,H,_,_=>some (t,H)
 |i,o::r,t,H,ld,hs=>match Sd n t o.guard with
  |some true=>match o.op with
   | .p q=>if okB (qz n t) q then (match qA n t o.dst (q.val (qz n t)) with
    |some t'=>rI call n A (i+1) r t' H ld hs
    | none=>none) else none
   | .h (.load m ag a)=>if aan A i hs (qz n t a) && ldB H m ag (qz n t a) then (match qA n t o.dst (ldE H m ag (qz n t a)) with
    |some t'=>rI call n A (i+1) r t' H (W4 i ld (qz n t a)) hs
    | none=>none) else none
   | .h (.store m a x)=>if stB H m (qz n t a) (qz n t x) && chB A i ld H.length [Sa (qz n t a)] then (match qA n t o.dst .top with
    |some t'=>rI call n A (i+1) r t' (stE H (qz n t a) (qz n t x)) ld ((i,[Sa (qz n t a)])::hs)
    | none=>none) else none
   | .h (.alloc z ty)=>(match qA n t o.dst (.ptr z.az H.length 0 0) with
    |some t'=>rI call n A (i+1) r t' (some ⟨z.az,[z],true,ty⟩::H) ((i,H.length)::ld) hs
    | none=>none)
   | .h (.ep k ty z ln ps)=>if HG (qz n t) k (List.replicate ln z) ps then (match qA n t o.dst (.am k (rU (qz n t) (List.replicate ln z) ps) (some [])) with
    |some t'=>rI call n A (i+1) r t' H ld hs
    | none=>none) else none
   |.h (.call f fw)=>match call f (fw.map (qz n t)) H with
    | some (v,H')=>if decide (H.length≤H'.length) && chB A i ld H.length (chg H H') then (match qA n t o.dst v with
     |some t'=>rI call n A (i+1) r t' H' ld ((i,chg H H')::hs)
     | none=>none) else none
    |none=>none
   |_=>none
  | some false=>(match qA n t o.dst (.aO []) with
   |some t'=>rI call n A (i+1) r t' H ld hs
   | none=>none)
  |none=>none
theorem l4{P:Program}{call:oO}(hc:zM P call){n:Nat}{A:List (List Nat)}{nl:Nat}{K:List AV→Y→Prop}{Kp:AV→Y→Prop}:∀{l:List cy}{i:Nat}{t:Tr}{ts:List AV}{H:Y}{ld:List (Nat×Nat)}{hs:List (Nat×Y×Y)}{m:List (Nat×List Nat)}{t':Tr}{H':Y},tI n t ts→HsR hs m→rI call n A i l t H ld m=some (t',H')→(∀ts',tI n t' ts'→K ts' H')→cY P A nl K Kp i l ts H ld hs
 |[],i,t,ts,H,ld,hs,m,t',H',hp,hr,h,hK=>by
  obtain ⟨rfl,rfl⟩:=Prod.mk.inj (Option.some.inj h)
  exact hK ts hp
 |o::r,i,t,ts,H,ld,hs,m,t',H',hp,hr,h,hK=>by
  simp only[rI,M6 hp,tJ hp] at h
  simp only[cY]
  split at h
  ·rename_i hg
   refine R7 hg ?_
   split at h
   ·rename_i q ho
    rw[ho]
    split at h
    ·rename_i hk
     split at h
     ·rename_i t1 h1
      exact ⟨R3 hk,l4 hc (kK hp h1) hr h hK⟩
     ·cases h
    ·cases h
   ·rename_i m' ag a ho
    rw[ho]
    split at h
    ·rename_i hk
     simp only[Bool.and_eq_true] at hk
     split at h
     ·rename_i t1 h1
      rw[Jp] at h1
      exact ⟨aao hr hk.1,Js hk.2,l4 hc (kK hp h1) hr h hK⟩
     ·cases h
    ·cases h
   ·rename_i m' a x ho
    rw[ho]
    split at h
    ·rename_i hk
     simp only[Bool.and_eq_true] at hk
     have hkp:=U7 hk.1
     split at h
     ·rename_i t1 h1
      rw[R4] at h
      exact ⟨R6 hk.1,Sb hk.2 hkp,l4 hc (kK hp h1) (.cons hkp hr) h hK⟩
     ·cases h
    ·cases h
   ·rename_i z ty ho
    rw[ho]
    split at h
    ·rename_i t1 h1
     exact ⟨trivial,l4 hc (kK hp h1) hr h hK⟩
    ·cases h
   ·rename_i k ty z ln ps ho
    rw[ho]
    split at h
    ·rename_i hk
     split at h
     ·rename_i t1 h1
      exact ⟨zL hk,l4 hc (kK hp h1) hr h hK⟩
     ·cases h
    ·cases h
   ·rename_i f fw ho
    rw[ho]
    split at h
    ·rename_i v H1 hv
     split at h
     ·rename_i hk
      simp only[Bool.and_eq_true,decide_eq_true_eq] at hk
      have hkp:=fun j (h1:j∉chg H H1)(h2:j<H.length)=>acz hk.1 h1 h2
      split at h
      ·rename_i t1 h1
       exact ⟨.ret v,H1,hc _ _ _ _ _ hv,Sb hk.2 hkp,l4 hc (kK hp h1) (.cons hkp hr) h hK⟩
      ·cases h
     ·cases h
    ·cases h
   ·cases h
  ·rename_i hg
   split at h
   ·rename_i t1 h1
    exact R8 hg (l4 hc (kK hp h1) hr h hK)
   ·cases h
  ·cases h
noncomputable def Ju(step:Tr→Y→Option (AX×Tr×Y)):Nat→Tr→Y→Option (AX×Tr×Y)
 |0,_,_=>none
 |n+1,t,H=>match step t H with
  |some (.normal,t',H')=>Ju step n t' H'
  |r=>r
noncomputable def lO(call:oO)(n m:Nat):IC→Tr→Y→Option (AX×Tr×Y)
 |.skip,t,H=>some (.normal,t,H)
 |.ops l,t,H=>match runT call n l t H with
  |some (t',H')=>some (.normal,t',H')
  |none=>none
 |.di l A,t,H=>match rI call n A 0 l t H [] [] with
  |some (t',H')=>some (.normal,t',H')
  |none=>none
 |.seq a b,t,H=>match lO call n m a t H with
  |some (.normal,t',H')=>lO call n m b t' H'
  |r=>r
 |.cond c a b,t,H=>match qz n t c with
  |.sc (.bool true)=>lO call n m a t H
  |.sc (.bool false)=>lO call n m b t H
  |_=>none
 |.block id c,t,H=>match lO call n m c t H with
  |some (.exit i,t',H')=>if i=id then some (.normal,t',H') else some (.exit i,t',H')
  |r=>r
 |.loop c,t,H=>Ju (lO call n m c) m t H
 |.exit id,t,H=>some (.exit id,t,H)
 |.ret,t,H=>some (.ret,t,H)
 |_,_,_=>none
theorem HI{P:Program}{call:oO}(hc:zM P call){n m:Nat}:∀{c:IC}{K:Post}{t:Tr}{ts:List AV}{H:Y}{x:AX}{t':Tr}{H':Y},tI n t ts→lO call n m c t H=some (x,t',H')→(∀ts',tI n t' ts'→K x ts' H')→ES P c K ts H:=by
 intro c
 induction c with
 |skip =>
  intro K t ts H x t' H' hp h hK
  obtain ⟨rfl,h2⟩:=Prod.mk.inj (Option.some.inj h)
  obtain ⟨rfl,rfl⟩:=Prod.mk.inj h2
  exact hK ts hp
 |exit id =>
  intro K t ts H x t' H' hp h hK
  obtain ⟨rfl,h2⟩:=Prod.mk.inj (Option.some.inj h)
  obtain ⟨rfl,rfl⟩:=Prod.mk.inj h2
  exact hK ts hp
 |ret =>
  intro K t ts H x t' H' hp h hK
  obtain ⟨rfl,h2⟩:=Prod.mk.inj (Option.some.inj h)
  obtain ⟨rfl,rfl⟩:=Prod.mk.inj h2
  exact hK ts hp
 |ops l =>
  intro K t ts H x t' H' hp h hK
  simp only[lO] at h
  split at h
  ·rename_i t1 H1 hr
   obtain ⟨rfl,h2⟩:=Prod.mk.inj (Option.some.inj h)
   obtain ⟨rfl,rfl⟩:=Prod.mk.inj h2
   exact EY hc hp hr hK
  ·cases h
 |di l A =>
  intro K t ts H x t' H' hp h hK
  simp only[lO] at h
  split at h
  ·rename_i t1 H1 hr
   obtain ⟨rfl,h2⟩:=Prod.mk.inj (Option.some.inj h)
   obtain ⟨rfl,rfl⟩:=Prod.mk.inj h2
   exact l4 hc hp .nil hr hK
  ·cases h
 |seq a b yM Aj =>
  intro K t ts H x t' H' hp h hK
  simp only[lO] at h
  rw[Rf]
  split at h
  ·rename_i t1 H1 hr
   exact yM hp hr fun ig h1=>Aj h1 h hK
  ·rename_i hn
   refine yM hp h ?_
   cases x with
   |normal=>exact absurd h (hn _ _)
   |_=>exact hK
 |cond c a b yM Aj =>
  intro K t ts H x t' H' hp h hK
  simp only[lO,tJ hp] at h
  rw[KG]
  split at h
  ·rename_i e
   rw[e,KH]
   exact yM hp h hK
  ·rename_i e
   rw[e,KI]
   exact Aj hp h hK
  ·cases h
 |block id c ih =>
  intro K t ts H x t' H' hp h hK
  simp only[lO] at h
  rw[Gr]
  split at h
  ·rename_i i t1 H1 hr
   refine ih hp hr fun ig h1=>?_
   rw[Gs]
   split at h
   ·rename_i e
    obtain ⟨rfl,h2⟩:=Prod.mk.inj (Option.some.inj h)
    obtain ⟨rfl,rfl⟩:=Prod.mk.inj h2
    rw[if_pos e]
    exact hK ig h1
   ·rename_i e
    obtain ⟨rfl,h2⟩:=Prod.mk.inj (Option.some.inj h)
    obtain ⟨rfl,rfl⟩:=Prod.mk.inj h2
    rw[if_neg e]
    exact hK ig h1
  ·rename_i hn
   refine ih hp h ?_
   cases x with
   |exit i=>exact absurd h (hn _ _ _)
   |_=>exact hK
 |loop c ih =>
  intro K t ts H x t' H' hp h hK
  simp only[lO] at h
  refine U8 (fun k ts H=>∃t,tI n t ts∧Ju (lO call n m c) k t H=some (x,t',H')) m (fun k ts H hI L hL=>?_) ⟨t,hp,h⟩
  obtain ⟨t,hp,hI⟩:=hI
  cases k with
  |zero=>cases hI
  |succ k =>
   simp only[Ju] at hI
   split at hI
   ·rename_i t1 H1 hr
    exact ih hp hr fun ig h1=>hL k ig H1 (Nat.lt_succ_self k) ⟨t1,h1,hI⟩
   ·rename_i hn
    refine ih hp hI ?_
    cases x with
    |normal=>exact absurd hI (hn _ _)
    |_=>exact hK
 |_ =>
  intro K t ts H x t' H' hp h hK
  cases h
noncomputable def EZ:List AV→Nat→Tr→Tr
 |[],_,t=>t
 |x::r,i,t=>EZ r (i+1) (Tr.put 9 t i x)
theorem HJ{n:Nat}:∀{fw pre:List AV}{t:Tr},pre.length+fw.length≤n→tI n t (pre++List.replicate (n-pre.length) (.aO []))→tI n (EZ fw pre.length t) (pre++fw++List.replicate (n-(pre++fw).length) (.aO []))
 |[],pre,t,hl,h=>by simpa [EZ] using h
 |x::r,pre,t,hl,h=>by
  simp only[List.length_cons] at hl
  have h1:=h.put (d:=pre.length) (by omega) x
  have e:(pre++List.replicate (n-pre.length) (AV.aO [])).set pre.length x=(pre++[x])++List.replicate (n-(pre++[x]).length) (AV.aO []):=by
   rw[List.set_append_right _ _ (Nat.le_refl _),Nat.sub_self,show n-pre.length=(n-(pre++[x]).length)+1 by simp;omega,List.replicate_succ,List.set_cons_zero,List.append_assoc]
   rfl
  rw[e] at h1
  have h2:=HJ (fw:=r) (pre:=pre++[x]) (by simp;omega) h1
  simp only[EZ]
  simpa using h2
theorem ags{n:Nat}(h:n≤512):tI n .e (List.replicate n (.aO [])) where
 wf:=.e
 len:=List.length_replicate
 rF:=h
 get:=fun i hi=>by simp[List.getD,hi,Tr.QE]
noncomputable def A3(n:Nat)(t:Tr)(H:Y):List RV→Bool
 |[]=>true
 |.t _::r=>A3 n t H r
 | .c a k ag::r=>(match qz n t (.t a) with
  |.ptr k' id j f=>ldB H k ag (.ptr k' id j f)
  | _=>false) && A3 n t H r
noncomputable def xV(n:Nat)(t:Tr)(H:Y):List RV→List AV
 |[]=>[]
 |.t a::r=>qz n t (.t a)::xV n t H r
 |.c a k ag::r=>ldE H k ag (qz n t (.t a))::xV n t H r
theorem wq{n:Nat}{t:Tr}{ts:List AV}{H:Y}(hp:tI n t ts):∀{rs:List RV},A3 n t H rs=true→iZ rs ts H
 |[],_=>trivial
 |.t _::r,h=>wq hp (rs:=r) h
 |.c a k ag::r,h=>by
  simp only[A3,Bool.and_eq_true,tJ hp,X.ev] at h
  refine ⟨?_,wq hp h.2⟩
  have h1:=h.1
  split at h1
  ·rename_i e
   rw[e]
   exact Js h1
  ·cases h1
theorem wu{n:Nat}{t:Tr}{ts:List AV}{H:Y}(hp:tI n t ts):∀{rs:List RV},xV n t H rs=kQ rs ts H
 |[]=>rfl
 |.t a::r=>by simp only[xV,kQ,wu hp (rs:=r),tJ hp,X.ev]
 |.c a k ag::r=>by simp only[xV,kQ,wu hp (rs:=r),tJ hp,X.ev,Jp]
noncomputable def aep(rs:List RV)(n:Nat)(H:Y):Option (AX×Tr×Y)→Option (AV×Y)
 |some (.ret,t,H')=>if A3 n t H' rs && decide (H.length≤H'.length) then some (oneOf (xV n t H' rs),H') else none
 |some (.normal,t,H')=>if A3 n t H' rs && decide (H.length≤H'.length) then some (oneOf (xV n t H' rs),H') else none
 |_=>none
noncomputable def M7(T:A2)(m:Nat):Nat→oO
 |0,_,_,_=>none
 |k+1,f,fw,H=>match T f with
  |some (c,rs,n)=>if decide (fw.length≤n) && decide (n≤512) then aep rs n H (lO (M7 T m k) n m c (EZ fw 0 .e) H) else none
  |none=>none
theorem E0{P:Program}{T:A2}(hT:Jt P T){m:Nat}:∀k,zM P (M7 T m k)
 |0=>fun f fw H v H' h=>by cases h
 |k+1=>fun f fw H v H' h=>by
  have ih:=E0 hT (m:=m) k
  simp only[M7] at h
  split at h
  ·rename_i c rs n ht
   split at h
   ·rename_i hn
    simp only[Bool.and_eq_true,decide_eq_true_eq] at hn
    have rR:=HJ (n:=n) (fw:=fw) (pre:=[]) (by simpa using hn.1) (ags hn.2)
    simp only[List.nil_append,List.length_nil] at rR
    unfold aep at h
    split at h
    ·rename_i t1 H1 hr
     split at h
     ·rename_i hb
      simp only[Bool.and_eq_true,decide_eq_true_eq] at hb
      obtain ⟨rfl,rfl⟩:=Prod.mk.inj (Option.some.inj h)
      refine aG hb.2 (hT f c rs n ht (aA (HI ih rR hr fun ig h1=>⟨wq h1 hb.1,?_⟩)))
      rw[wu h1]
      exact eB.refl _ _ _
     ·cases h
    ·rename_i t1 H1 hr
     split at h
     ·rename_i hb
      simp only[Bool.and_eq_true,decide_eq_true_eq] at hb
      obtain ⟨rfl,rfl⟩:=Prod.mk.inj (Option.some.inj h)
      refine aG hb.2 (hT f c rs n ht (aA (HI ih rR hr fun ig h1=>⟨wq h1 hb.1,?_⟩)))
      rw[wu h1]
      exact eB.refl _ _ _
     ·cases h
    ·cases h
   ·cases h
  ·cases h
def BK(P:Program)(bx:List Nat):A2:=fun f=>match P.funcs[f]? with
 |some fn=>match fn.body with
  |some c=>match dU P bx c with
   |some ic=>match ox P fn.results.toList with
    |some rs=>some (ic,rs,fn.ntmps)
    |none=>none
   |none=>none
  |none=>none
 |none=>none
theorem sB{P:Program}{bx:List Nat}:Jt P (BK P bx):=by
 intro f c rs n h
 unfold BK at h
 split at h
 ·rename_i fn hf
  split at h
  ·rename_i cc hb
   split at h
   ·rename_i ic hc
    split at h
    ·rename_i QF hr
     obtain ⟨rfl,h2⟩:=Prod.mk.inj (Option.some.inj h)
     obtain ⟨rfl,rfl⟩:=Prod.mk.inj h2
     exact fun h=>qO hf hb hc hr h
    ·cases h
   ·cases h
  ·cases h
 ·cases h
mutual
def Se(G:Y):Nd→AV→Bool
 |⟨k,s,n,l⟩,v=>match v with
  | .agg [.sc (.int .u8 k'),.sc (.string s'),.sc (.int .i64 n'),kv]=>(decide (k'=k) && (decide (s'=s) && decide (n'=n))) && (match kv with
   | .am _ xs _=>(match xs with
    | []=>(match l with
     |[]=>true
     | _=>false)
    | _=>false)
   | .aD k4 id off m _=>(match B3 G.length G id with
    |some blk=>(decide (k4=4) && (decide (blk.k=4) && decide (off+m≤blk.es.length))) && A4 G l ((blk.es.drop off).take m)
    | none=>false)
   | _=>false)
  |_=>false
def A4(G:Y):List Nd→List AV→Bool
 |[],[]=>true
 |t::r,x::s=>Se G t x && A4 G r s
 |_,_=>false
end
def opH:Y→Bool
 |[]=>true
 |none::r=>opH r
 |some b::r=>AV.ql b.es && opH r
theorem Jv:∀{G:Y},opH G=true→Y.op G
 |[],_=>fun id b h=>by simp[Y.find] at h
 |none::r,h=>fun id b hf=>by
  simp only[Y.find] at hf
  split at hf
  ·cases hf
  ·exact Jv (G:=r) h id b hf
 |some x::r,h=>fun id b hf=>by
  simp only[opH,Bool.and_eq_true] at h
  simp only[Y.find] at hf
  split at hf
  ·rw[←Option.some.inj hf]
   exact h.1
  ·exact Jv h.2 id b hf
theorem HK{n:Nat}:∀(k:Nat)(l:List AV),(AV.mP n l).drop k=AV.mP n (l.drop k)
 |0,_=>rfl
 |_+1,[]=>rfl
 |k+1,_::r=>HK k r
theorem HL{n:Nat}:∀(k:Nat)(l:List AV),(AV.mP n l).take k=AV.mP n (l.take k)
 |0,_=>by simp[AV.mP]
 |_+1,[]=>rfl
 |k+1,x::r=>congrArg (AV.up n x::·) (HL k r)
mutual
theorem M8{G H:Y}:∀{t:Nd}{v:AV},Se G t v=true→Gz (Y.up H.length G++H) H.length [] (v.up H.length) (eu t)
 |⟨k,s,n,l⟩,v,h=>by
  rw[ew]
  unfold Se at h
  split at h
  ·rename_i k' s' n' kv
   simp only[Bool.and_eq_true,decide_eq_true_eq] at h
   obtain ⟨⟨rfl,rfl,rfl⟩,h⟩:=h
   simp only[AV.up,AV.mP]
   refine .agg (.cons (.same trivial) (.cons (.same trivial) (.cons (.same trivial) (.cons ?_ .nil))))
   split at h
   ·split at h
    ·split at h
     ·simp only[AV.up]
      exact .nil
     ·cases h
    ·cases h
   ·split at h
    ·rename_i id off m c x blk hf
     rw[nM] at hf
     simp only[Bool.and_eq_true,decide_eq_true_eq] at h
     obtain ⟨⟨rfl,h2,h3⟩,h4⟩:=h
     simp only[AV.up]
     refine .aD (blk:=blk.up H.length) (by unfold cP;rw[if_neg (by omega)];rfl) (by rw[Y.D2,Y.LO,hf];rfl) h2 (by simpa [aP.up,AV.j5] using h3) ?_
     show dt _ _ _ (((AV.mP H.length blk.es).drop off).take m) _
     rw[HK,HL]
     exact HM h4
    ·cases h
   ·cases h
  ·cases h
theorem HM{G H:Y}:∀{l:List Nd}{xs:List AV},A4 G l xs=true→dt (Y.up H.length G++H) H.length [] (AV.mP H.length xs) (bh l)
 |[],[],_=>.nil
 |t::r,x::s,h=>by
  simp only[A4,Bool.and_eq_true] at h
  rw[TV]
  exact .cons (M8 h.1) (HM h.2)
 |[],_::_,h=>by simp[A4] at h
 |_::_,[],h=>by simp[A4] at h
end
noncomputable def xW(T:A2)(m k:Nat)(f:FuncId)(xs:List AV)(t:Nd):Bool:=match M7 T m k f xs [] with
 |some (v,G)=>v.op && (opH G && Se G t v)
 |none=>false
theorem sC{P:Program}{T:A2}(hT:Jt P T){m k:Nat}{f:FuncId}{xs ys:List AV}{t:Nd}(h:xW T m k f xs t=true){H:Y}(hv:cJ H ys xs):D P f ys H (.ret (eu t)) H:=by
 unfold xW at h
 split at h
 ·rename_i v G hr
  simp only[Bool.and_eq_true] at h
  have h1:=LP hv h.1 (Jv h.2.1) (E0 hT k f xs [] v G hr)
  exact aG (Nat.le_refl _) (h1.dk.mono fun e H1 _ ⟨e1,e2⟩=>by
   subst e1 e2
   exact px (fun i hi=>Y.bF hi) (M8 h.2.2))
 ·cases h
end Go.Proofs.YtnoplgongieehaaGreatDoor
