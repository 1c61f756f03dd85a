import Derived.Test.YtnoplgongieehaaGreatDoorM5
import Derived.Test.YtnoplgongieehaaGreatDoorM3
import Derived.Test.YtnoplgongieehaaGreatDoorProg
import Derived.KernelRfl
import Derived.Test.YtnoplgongieehaaGreatDoorM4
namespace Go.Proofs.YtnoplgongieehaaGreatDoor
open Go.RowKit
set_option maxHeartbeats 0
set_option maxRecDepth 1000000
set_option linter.unusedVariables false
set_option linter.unusedSimpArgs false
def dV(t:Nd)(p:List Int)(v:AV)(ab:Nat)(H:Y):Y:=if t.kids=[] then H else some ⟨1,aK p,false,3⟩::Y.set (oJ (pz v) H) ab (some (nE (.aD 1 H.length 0 p.length none)))
theorem xS{t:Nd}{p:List Int}{v:AV}{ab:Nat}{H:Y}:H.length≤(dV t p v ab H).length∧(dV t p v ab H).length≤H.length+1:=by
 unfold dV
 split
 ·omega
 ·simp only[List.length_cons,Y.af,cT];omega
structure UU(T:Nd)(n0:Nat)(p:List Int)(ab A0:Nat)(H G:Y):Prop where
 ajn:dP G T n0
 at_:∃A,Y.find G ab=some (nE (.aD 1 A 0 p.length none))∧Y.find G A=some ⟨1,aK p,false,3⟩∧A0≤A∧A<n0
 old:∀i,i<H.length→i≠ab→i≠A0→Y.find G i=Y.find H i
 len:H.length≤n0∧G.length=n0+T.size
theorem Qi{t T:Nd}{p:List Int}{ab A0:Nat}{H:Y}(ha:Y.find H ab=some (nE (.aD 1 A0 0 p.length none)))(hA:Y.find H A0=some ⟨1,aK p,false,3⟩) :
  UU T (dV t p (.aD 1 A0 0 p.length none) ab H).length p ab A0 H (gd T (dV t p (.aD 1 A0 0 p.length none) ab H).length++dV t p (.aD 1 A0 0 p.length none) ab H):=by
 have hl:=xS (t:=t) (p:=p) (v:=.aD 1 A0 0 p.length none) (ab:=ab) (H:=H)
 have hab:=Y.ax ha
 have hal:=Y.ax hA
 refine ⟨j5,?_,fun i hi h1 h2=>?_,hl.1,by rw[List.length_append,iK];omega⟩
 ·rw[Y.bF (by omega)]
  by_cases c:t.kids=[]
  ·refine ⟨A0,?_,?_,Nat.le_refl _,by omega⟩
   ·unfold dV;rw[if_pos c];exact ha
   ·rw[Y.bF (by omega)]
    unfold dV;rw[if_pos c];exact hA
  ·refine ⟨H.length,?_,?_,by omega,?_⟩
   ·unfold dV
    rw[if_neg c,ai (by rw[Y.af,cT];omega),Y.aC (by rw[cT];omega)]
   ·rw[Y.bF (by unfold dV;rw[if_neg c];simp[Y.af,cT])]
    unfold dV
    rw[if_neg c,aJ (by rw[Y.af,cT])]
   ·unfold dV;rw[if_neg c];simp[Y.af,cT]
 ·rw[Y.bF (by omega)]
  unfold dV
  split
  ·rfl
  ·rw[ai (by rw[Y.af,cT];omega),Y.aj h1,AZ fun a e=>by cases e;exact h2]
theorem EJ{H:Y}:∀{l:List (List Int)},cJ H (bc l) (bc l)
 |[]=>.nil
 |p::l=>.cons (.am cJ.Tk) EJ
def Qj(ps:List (List Int))(x:ByteArray)(t:Nd):Prop:=∀(ro:Option (List AV))(p:List Int)(cb ab tb oL ee:Nat)(v:AV)(H:Y),p.length+t.size≤1000000→TP cb ab tb oL ee ps x H→Y.find H ab=some (nE v)→EI H p v→
 D Tryz.prog 75 [dZ t ro,.ptr 1 cb 0 0,.ptr 1 ab 0 0,.ptr 1 tb 0 0] H (.ret (fF (bN (bX ps) x t p) (dV t p v ab H).length)) (gd (bN (bX ps) x t p) (dV t p v ab H).length++dV t p v ab H)
def qw:Nat→IC→IC
 |0,.seq a _=>a
 |1,.seq _ (.seq a _)=>a
 |2,.seq _ (.seq _ (.seq a _))=>a
 |3,.seq _ (.seq _ (.seq _ (.seq a _)))=>a
 |4,.seq _ (.seq _ (.seq _ (.seq _ (.seq (.seq a _) _))))=>a
 |5,.seq _ (.seq _ (.seq _ (.seq _ (.seq (.seq _ (.block _ (.loop a))) _))))=>a
 |6,.seq _ (.seq _ (.seq _ (.seq _ (.seq _ a))))=>a
 |_,_=>.skip
theorem UV:jm = .seq (qw 0 jm) (.seq (qw 1 jm) (.seq (qw 2 jm) (.seq (qw 3 jm) (.seq (.seq (qw 4 jm) (.block 0 (.loop (qw 5 jm)))) (qw 6 jm))))):=rfl
theorem Z1(ps:List (List Int))(x:ByteArray)(hz:ps.length≤1000000)(dY:∀k,k<ps.length→(dS ps k).length≤1000000)(t:Nd)(ih:∀u∈t.kids,Qj ps x u):Qj ps x t:=by
 intro ro p cb ab tb oL ee v H hsz hT hab aiK
 have ej:=aiK.v
 have zX:=t.size_eq
 have iE:=Y.ax hT.c
 have pQ:=Y.ax hT.s
 have sP:=Y.ax hT.t
 have aee:=Y.ax hab
 have VJ:ab≠tb:=fun e=>by have:=hT.t;rw[←e,hab] at this;simp[nE] at this
 have hbc:ab≠cb:=fun e=>by have:=hT.c;rw[←e,hab] at this;simp[nE] at this
 have xD:ab≠oL:=fun e=>by have:=hT.s;rw[←e,hab] at this;simp[nE] at this
 have iq:bc ps≠[]→ab≠ee:=fun h e=>by have:=hT.l h;rw[←e,hab,bj h] at this;simp[nE] at this
 have Ji:∀a,pz v=some a→a≠ab∧a≠cb∧a≠oL∧a≠tb∧(bc ps≠[]→a≠ee)∧a<H.length:=fun a e=>by
  obtain ⟨es,h1⟩:=ej.at a e
  refine ⟨fun e2=>?_,fun e2=>?_,fun e2=>?_,fun e2=>?_,fun h e2=>?_,Y.ax h1⟩
  ·rw[e2,hab] at h1;simp[nE] at h1
  ·rw[e2,hT.c] at h1;simp at h1
  ·rw[e2,hT.s] at h1;simp at h1
  ·rw[e2,hT.t] at h1;simp at h1
  ·rw[e2,hT.l h,bj h] at h1;simp at h1
 obtain ⟨vf1,vf2,vf3,vf4⟩:=ej.flat
 refine aG (by rw[List.length_append,iK];have:=xS (t:=t) (p:=p) (v:=v) (ab:=ab) (H:=H);omega) (UT (bx:=[]) (fn:=Tryz.f75) (c:=Tryz.f75.body.getD .skip) (ic:=jm) (rs:=[.c 5 4 .true]) Tryz.func75 (by kernel_rfl) (by kernel_rfl) (by kernel_rfl) ?_)
 have hn:Tryz.f75.ntmps=48:=by kernel_rfl
 rw[hn]
 obtain ⟨p0,rQ⟩:∃y,y=qw 0 jm:=⟨_,rfl⟩
 obtain ⟨p1,hp1⟩:∃y,y=qw 1 jm:=⟨_,rfl⟩
 obtain ⟨p2,hp2⟩:∃y,y=qw 2 jm:=⟨_,rfl⟩
 obtain ⟨p3,hp3⟩:∃y,y=qw 3 jm:=⟨_,rfl⟩
 obtain ⟨p4,hp4⟩:∃y,y=qw 4 jm:=⟨_,rfl⟩
 obtain ⟨p5,hp5⟩:∃y,y=qw 5 jm:=⟨_,rfl⟩
 obtain ⟨p6,hp6⟩:∃y,y=qw 6 jm:=⟨_,rfl⟩
 rw[UV,←rQ,←hp1,←hp2,←hp3,←hp4,←hp5,←hp6,aQ]
 refine SE.seq (SE.mH ?_)
 rw[rQ]
 simp -implicitDefEqProofs (maxSteps:=99999999) (disch:=first|omega|(simp only[vl]<;>omega)) only[vu,vg,qw,jm,va,vg,vs,vw,vk,simprocAttr]
 have aef:∀(G:Y),(∀i,i<H.length→Y.find G i=Y.find H i)→D Tryz.prog 76 [.ptr 2 oL 0 0,v] G (.ret (.sc (.bool (bX ps p)))) G:=fun G hG=>by
  refine s9 (.cons (.ptr (blk:=⟨2,[.agg [aW 1 (bc ps) ee,.sc (.string x)]],true,66⟩) (by rw[hG _ pQ];exact hT.s) rfl rfl (by simp) (.agg (.cons (cJ.own (ty:=30) (fun h=>?_) ?_) (.cons .sc .nil)))) (.cons (xR.keep ej fun a e=>hG a (Ji a e).2.2.2.2.2).view .nil)) .sc (agh ps x p hz dY)
  ·have h0:=hT.l h
   rw[bj h] at h0 ⊢
   rw[hG _ (Y.ax h0)]
   exact h0
  ·exact EJ
 generalize gS:(some ⟨4,[AV.agg [.sc (.int .u8 0),.sc (.string ⟨#[]⟩),.sc (.int .i64 0),.am 0 [] (some [])]],true,25⟩:Option aP)::some ⟨4,[AV.agg [.sc (.int .u8 t.kind),.sc (.string t.text),.sc (.int .i64 t.num),.am 4 (bh t.kids) ro]],true,25⟩::H=F0
 have RF:F0.length=H.length+2:=by rw[←gS];rfl
 have sm:∀i,i<H.length→Y.find F0 i=Y.find H i:=fun i hi=>by rw[←gS,ai (by simp;omega),ai hi]
 have Z2:Y.find F0 H.length=some ⟨4,[AV.agg [.sc (.int .u8 t.kind),.sc (.string t.text),.sc (.int .i64 t.num),.am 4 (bh t.kids) ro]],true,25⟩:=by rw[←gS,ai (by simp),aJ rfl]
 have Z3:Y.find F0 (H.length+1)=some ⟨4,[AV.agg [.sc (.int .u8 0),.sc (.string ⟨#[]⟩),.sc (.int .i64 0),.am 0 [] (some [])]],true,25⟩:=by rw[←gS];exact aJ (by simp)
 clear gS
 have f0c:=(sm cb iE).trans hT.c
 have f0s:=(sm oL pQ).trans hT.s
 have f0t:=(sm tb sP).trans hT.t
 have Z4:=(sm ab aee).trans hab
 unfold nE at Z4
 refine SE.seq (SE.mH ?_)
 rw[hp1]
 have Se:=aef F0 sm
 obtain ⟨tx,PY⟩:∃tx,tx=if bX ps p=true then x else t.text:=⟨_,rfl⟩
 have hkey:∀(ts:List AV)(F1:Y),Fr (none::some (.ptr 1 cb 0 0)::some (.ptr 1 ab 0 0)::some (.ptr 1 tb 0 0)::some (.ptr 4 H.length 0 0)::some (.ptr 4 (H.length+1) 0 0)::none::none::ir (bf [])) ts→F1.length=H.length+2→(∀i,i<H.length→Y.find F1 i=Y.find H i)→Y.find F1 H.length=some ⟨4,[AV.agg [.sc (.int .u8 t.kind),.sc (.string tx),.sc (.int .i64 t.num),.am 4 (bh t.kids) ro]],true,25⟩→Y.find F1 (H.length+1)=some ⟨4,[AV.agg [.sc (.int .u8 0),.sc (.string ⟨#[]⟩),.sc (.int .i64 0),.am 0 [] (some [])]],true,25⟩→
   SE Tryz.prog [] (p2.seq (p3.seq ((p4.seq (IC.block 0 p5.loop)).seq p6))) (sY [RV.c 5 4 true] fun e1 H1=>eB H e1 H1 (.ret (fF (bN (bX ps) x t p) (dV t p v ab H).length)) (gd (bN (bX ps) x t p) (dV t p v ab H).length++dV t p v ab H)) ts F1:=by
  intro ts F1 aX fe nS JT V1
  obtain ⟨js,rfl⟩:=aX.opened
  clear aX Se f0c f0s f0t Z4 RF sm Z2 Z3 aef
  refine SE.seq (SE.mH ?_)
  rw[hp2]
  simp -implicitDefEqProofs (maxSteps:=99999999) (disch:=first|omega|(simp only[vl]<;>omega)) only[mk,vu,vg,JT,qw,jm,va,vg,vs,vw,vk,simprocAttr]
  refine SE.seq (SE.mH ?_)
  rw[hp3]
  simp -implicitDefEqProofs (maxSteps:=99999999) (disch:=first|omega|(simp only[vl]<;>omega)) only[mk,vu,vg,JT,qw,jm,va,vg,vs,vw,vk,simprocAttr]
  refine SE.seq (SE.seq (SE.mH ?_))
  rw[hp4]
  simp -implicitDefEqProofs (maxSteps:=99999999) (disch:=first|omega|(simp only[vl]<;>omega)) only[mk,vu,vg,JT,aH,qw,jm,va,vg,vs,vw,vk,simprocAttr]
  refine SE.gen fun K hK=>?_
  refine SE.block (SE.agi (fun ts F=>∃(k i1:Nat)(xs:List AV)(is:List Nat)(vq:AV),(k≤t.kids.length∧mQ F (dN (bX ps) x (t.kids.take k) p 0) xs is∧is.Nodup∧(∀i∈is,H.length+2≤i∧i≠i1∧i<F.length)∧(xs≠[]→Y.find F i1=bS 4 25 xs∧H.length+2≤i1))∧
   (Y.find F ab=some (nE vq)∧xR F p vq∧(k=0→vq=v∧∀i,i<H.length→Y.find F i=Y.find H i)∧(0<k→∃bB c,vq = .aD 1 bB 0 p.length c∧H.length+2≤bB∧bB∉is))∧
   (Y.find F H.length=some ⟨4,[.agg [.sc (.int .u8 t.kind),.sc (.string tx),.sc (.int .i64 t.num),aW 4 xs i1]],true,25⟩∧Y.find F (H.length+1)=some ⟨4,[AV.agg [.sc (.int .u8 0),.sc (.string ⟨#[]⟩),.sc (.int .i64 0),.am 0 [] (some [])]],true,25⟩∧(∀i,i<H.length→i≠ab→(∀a,pz v=some a→i≠a)→Y.find F i=Y.find H i)∧H.length+2≤F.length)∧
   Fr (none::some (.ptr 1 cb 0 0)::some (.ptr 1 ab 0 0)::some (.ptr 1 tb 0 0)::some (.ptr 4 H.length 0 0)::some (.ptr 4 (H.length+1) 0 0)::dL (some (.am 4 (bh t.kids) ro)::some (.sc (.int .i64 t.kids.length))::some (.sc (.int .i64 k))::none::none::none::fg (dL []))) ts) (fun ts _=>t.kids.length-(aM (ts.getD 24 .top)).toNat) ?_ ?_)
  ·refine ⟨0,H.length,[],[],v,⟨Nat.zero_le _,by simp only[List.take_zero,dN];exact .nil,by simp,by simp,fun e=>absurd rfl e⟩,⟨?_,?_,fun _=>⟨rfl,fun i hi=>by rw[Y.aj (by omega),nS i hi]⟩,fun h=>absurd h (by omega)⟩,⟨?_,by rw[Y.aj (by omega)];exact V1,fun i hi _ _=>by rw[Y.aj (by omega),nS i hi],by rw[Y.af];omega⟩,by simp[Fr]⟩
   ·rw[Y.aj (by omega),nS _ aee];exact hab
   ·exact ej.keep fun a e=>by rw[Y.aj (by have:=(Ji a e).2.2.2.2.2;omega),nS a (Ji a e).2.2.2.2.2]
   ·rw[Y.aC (by omega)]
    rfl
  rintro ts F ⟨k,i1,xs,is,vq,⟨hk,hO,hnd,hge,hrow⟩,⟨hFa,hFv,cE,hkp⟩,⟨hnb,Qc,hold,qi⟩,aX⟩ L2 bM
  obtain ⟨js,rfl⟩:=aX.opened
  clear aX
  by_cases hd:k<t.kids.length
  ·have d1:(k:Int)<t.kids.length:=by omega
   have hg:=dG hd
   have dW:=eJ hd
   have RB:=Nd.de dW
   have mN:=Nd.fZ t.kids
   refine SE.agl hFa hFv fun Fc Z5 hW RQ aeg haI kg tW hnil=>?_
   have Qk:H.length≠ab:=by omega
   clear hFv
   have Z6:=kg _ _ hnb Qk (by simp)
   have aeh:=kg _ _ Qc (by omega) (by simp)
   have EK:∀a,pz Z5=some a→a≠ab∧a≠H.length∧a≠H.length+1∧(0<k→H.length+2≤a∧a∉is)∧(k=0→pz v=some a)∧a<Fc.length:=fun a e=>by
    have h1:=hW.at a e
    refine ⟨fun e2=>by rw[e2,RQ] at h1;simp[nE] at h1,fun e2=>by rw[e2,Z6] at h1;simp at h1,fun e2=>by rw[e2,aeh] at h1;simp at h1,fun h=>?_,fun h=>?_,Y.ax h1⟩
    ·obtain ⟨bB,c,e3,e4,e5⟩:=hkp h
     rw[haI,e3] at e
     cases e
     exact ⟨e4,e5⟩
    ·rw[haI,(cE h).1] at e;exact e
   have Ql:∀i,i<H.length→i≠ab→(∀a,pz v=some a→i≠a)→Y.find Fc i=Y.find H i:=fun i hi h1 h2=>by
    have h3:∀a,pz vq=some a→i≠a:=fun a e e2=>by
     rw[←haI] at e
     rcases Nat.eq_zero_or_pos k with hz|hz
     ·exact h2 a ((EK a e).2.2.2.2.1 hz) e2
     ·have:=((EK a e).2.2.2.1 hz).1;omega
    rw[tW i h1 h3]
    exact hold i hi h1 h2
   have hOc:mQ Fc (dN (bX ps) x (t.kids.take k) p 0) xs is:=hO.keep fun i ys e h=>by
    rw[bj e] at h ⊢
    exact kg i _ h (fun e2=>by rw[e2,hFa] at h;simp[nE] at h) (by simp)
   have EL:xs≠[]→Y.find Fc i1=bS 4 25 xs∧H.length+2≤i1:=fun e=>by
    obtain ⟨h1,h2⟩:=hrow e
    rw[bj e] at h1 ⊢
    exact ⟨kg i1 _ h1 (by omega) (by simp),h2⟩
   clear hO hrow hold hFa hnb Qc cE hkp
   have RR:∀i∈is,H.length+2≤i∧i≠i1∧i<Fc.length:=fun i hi=>by rw[aeg];exact hge i hi
   have ai6:H.length+2≤Fc.length:=by omega
   clear hge qi aeg kg tW
   have hc2:Y.find Fc cb=_:=(Ql cb iE (Ne.symm hbc) fun a e=>(Ji a e).2.1.symm).trans hT.c
   have T7:Y.find Fc tb=_:=(Ql tb sP (Ne.symm VJ) fun a e=>(Ji a e).2.2.2.1.symm).trans hT.t
   have qK:=hW.ez (G:=some ⟨4,[.agg [.sc (.int .u8 (aE t.kids k).kind),.sc (.string (aE t.kids k).text),.sc (.int .i64 (aE t.kids k).num),.am 4 (bh (aE t.kids k).kids) none]],true,25⟩::Fc) k (by omega) fun a e=>ai (EK a e).2.2.2.2.2
   obtain ⟨ap1,ap2,ap3⟩:=qK
   simp only[List.length_cons] at ap2
   have Z7:=RQ
   unfold nE at Z7
   obtain ⟨F2,jG⟩:∃F2,F2=some (⟨1,aK (p++[(k:Int)]),false,3⟩:aP)::oJ (pz Z5) (some ⟨4,[.agg [.sc (.int .u8 (aE t.kids k).kind),.sc (.string (aE t.kids k).text),.sc (.int .i64 (aE t.kids k).num),.am 4 (bh (aE t.kids k).kids) none]],true,25⟩::Fc):=⟨_,rfl⟩
   rw[←jG] at ap3
   have ajo:F2.length=Fc.length+2:=by rw[jG];simp[cT]
   have zA:∀i,i<Fc.length→(∀a,pz Z5=some a→i≠a)→Y.find F2 i=Y.find Fc i:=fun i hi h=>by
    rw[jG,ai (by rw[cT];simp;omega),AZ h,ai hi]
   have aiL:Y.find F2 (Fc.length+1)=some ⟨1,aK (p++[(k:Int)]),false,3⟩:=by rw[jG,aJ (by rw[cT];rfl)]
   have aiM:Y.find F2 Fc.length=some ⟨4,[.agg [.sc (.int .u8 (aE t.kids k).kind),.sc (.string (aE t.kids k).text),.sc (.int .i64 (aE t.kids k).num),.am 4 (bh (aE t.kids k).kids) none]],true,25⟩:=by
    rw[jG,ai (by rw[cT];simp),AZ fun a e=>by have:=(EK a e).2.2.2.2.2;omega,aJ rfl]
   have g1:Y.find F2 ab=some ⟨1,[Z5],true,30⟩:=(zA ab (Y.ax RQ) fun a e=>(EK a e).1.symm).trans Z7
   have g2:=(zA H.length (by omega) fun a e=>(EK a e).2.1.symm).trans Z6
   have g3:=(zA tb (by omega) fun a e=>by
    rcases Nat.eq_zero_or_pos k with hz|hz
    ·exact (Ji a ((EK a e).2.2.2.2.1 hz)).2.2.2.1.symm
    ·have:=((EK a e).2.2.2.1 hz).1;omega).trans T7
   have RS:∀i,i<H.length→i≠ab→(∀a,pz v=some a→i≠a)→Y.find F2 i=Y.find H i:=fun i hi h1 h2=>by
    rw[zA i (by omega) fun a e e2=>?_,Ql i hi h1 h2]
    rcases Nat.eq_zero_or_pos k with hz|hz
    ·exact h2 a ((EK a e).2.2.2.2.1 hz) e2
    ·have:=((EK a e).2.2.2.1 hz).1;omega
   clear jG
   have cl:cr Tryz.prog 75=true:=by kernel_rfl
   obtain ⟨wf1,wf2,wf3,wf4⟩:=hW.v.flat
   have wf5:=hW.v.lq
   have hlen:(p++[(k:Int)]).length=p.length+1:=by simp
   have MV:∀(y:Option aP) i,i≠ab→Y.find (Y.set F2 ab y) i=Y.find F2 i:=fun y i h=>Y.aj h
   have hTP:TP cb ab tb oL ee ps x (Y.set F2 ab (some (nE (.aD 1 (Fc.length+1) 0 (p++[(k:Int)]).length none)))):=by
    refine ⟨?_,?_,fun h=>?_,?_⟩
    ·rw[MV _ _ hbc.symm,RS cb iE hbc.symm fun a e=>(Ji a e).2.1.symm];exact hT.c
    ·rw[MV _ _ xD.symm,RS oL pQ xD.symm fun a e=>(Ji a e).2.2.1.symm];exact hT.s
    ·have h0:=hT.l h
     have h1:=h0
     rw[bj h] at h1
     rw[MV _ _ (iq h).symm,RS ee (Y.ax h1) (iq h).symm fun a e=>((Ji a e).2.2.2.2.1 h).symm];exact h0
    ·rw[MV _ _ VJ.symm];exact g3
   have hA3:Y.find (Y.set F2 ab (some (nE (.aD 1 (Fc.length+1) 0 (p++[(k:Int)]).length none)))) (Fc.length+1)=some ⟨1,aK (p++[(k:Int)]),false,3⟩:=by
    rw[MV _ _ (by omega)];exact aiL
   have hi:=ih _ dW none (p++[(k:Int)]) cb ab tb oL ee (.aD 1 (Fc.length+1) 0 (p++[(k:Int)]).length none) _ (by rw[hlen];omega) hTP (Y.aC (by omega)) (.inr ⟨_,rfl,hA3⟩)
   have xe:=Qi (t:=aE t.kids k) (T:=bN (bX ps) x (aE t.kids k) (p++[(k:Int)])) (Y.aC (H:=F2) (i:=ab) (x:=some (nE (.aD 1 (Fc.length+1) 0 (p++[(k:Int)]).length none))) (by omega)) hA3
   generalize (dV (aE t.kids k) (p++[(k:Int)]) (.aD 1 (Fc.length+1) 0 (p++[(k:Int)]).length none) ab (Y.set F2 ab (some (nE (.aD 1 (Fc.length+1) 0 (p++[(k:Int)]).length none))))).length=n0 at hi xe
   generalize hT':bN (bX ps) x (aE t.kids k) (p++[(k:Int)])=T' at hi xe
   generalize hF4:gd T' n0++dV (aE t.kids k) (p++[(k:Int)]) (.aD 1 (Fc.length+1) 0 (p++[(k:Int)]).length none) ab (Y.set F2 ab (some (nE (.aD 1 (Fc.length+1) 0 (p++[(k:Int)]).length none))))=F4 at hi xe
   clear hF4
   obtain ⟨q1,⟨A,q2,q3,q4,q4b⟩,q5,q6,q7⟩:=xe
   rw[Y.af] at q5 q6
   rw[aQ] at hi
   rw[hlen] at hi q2
   unfold nE at hi q2
   rw[hp5]
   simp only[qw,jm,ux]
   refine SE.seq (SE.mH ?_)
   refine fB d1 ?_
   refine SE.seq (SE.mH ?_)
   refine fB d1 ?_
   refine SE.seq (SE.block (SE.seq (SE.mH ?_)))
   refine fB (gq d1 hg @aH) ?_
   refine ⟨by omega,SE.seq (SE.mH ?_)⟩
   refine fB (XC wf1 wf2 wf3 wf4 wf5 Z7 ap1 ap2 ap3 g1) ?_
   refine SE.seq (SE.mH ?_)
   refine fB (kY g1 g2 g3 aiM @nq) ?_
   refine ⟨cl,sX hi (fun l hl _=>?_) ?_⟩
   ·simp only[List.mem_cons,List.not_mem_nil,or_false] at hl
    rcases hl with rfl|rfl|rfl
    ·have:=q5 Fc.length (by omega) (by omega) (by omega)
     rw[hlen] at this;exact this
    ·have:=q5 tb (by omega) VJ.symm (by omega)
     rw[hlen] at this;exact this
    ·have:=q5 H.length (by omega) (by omega) (by omega)
     rw[hlen] at this;exact this
   have Z8:∀i,i<F2.length→i≠ab→i≠Fc.length+1→Y.find F4 i=Y.find F2 i:=fun i h1 h2 h3=>by rw[q5 i h1 h2 h3,Y.aj h2]
   clear q5
   have Z9:∀e:xs≠[],i1<Fc.length∧i1≠ab∧(∀a,pz Z5=some a→i1≠a):=fun e=>by
    obtain ⟨r1,r2⟩:=EL e
    rw[bj e] at r1
    refine ⟨Y.ax r1,by omega,fun a ea e2=>?_⟩
    have:=hW.at a ea
    rw[←e2,r1] at this
    cases this
   have aaa:xs≠[]→Y.find F4 i1=bS 4 25 xs:=fun e=>by
    obtain ⟨s1,s2,s3⟩:=Z9 e
    rw[Z8 i1 (by omega) s2 (by omega),zA i1 s1 s3]
    exact (EL e).1
   have uu:=hOc.len
   rw[eG,List.length_take] at uu
   obtain ⟨i5,F5,u1,u2,u3,u4,u5,u6⟩:=tq (H:=F4) (k:=4) (ty:=25) (xs:=xs) (ys:=[.agg [.sc (.int .u8 T'.kind),.sc (.string T'.text),.sc (.int .i64 T'.num),aW 4 (eT T'.kids (n0+1)) n0]]) (id:=i1) aaa (by simp;omega)
   obtain ⟨u4a,u4b⟩:=u4 (by simp)
   have h5:∀i,i<F4.length→(xs≠[]→i≠i1)→Y.find F5 i=Y.find F4 i:=u6
   have g5:Y.find F5 H.length=some ⟨4,[.agg [.sc (.int .u8 t.kind),.sc (.string tx),.sc (.int .i64 t.num),aW 4 xs i1]],true,25⟩:=by
    rw[h5 _ (by omega) fun e=>by have:=(EL e).2;omega,Z8 _ (by omega) (by omega) (by omega)]
    exact g2
   have g6:Y.find F5 ab=some ⟨1,[.aD 1 A 0 (p.length+1) none],true,30⟩:=by
    rw[h5 _ (by omega) fun e=>(Z9 e).2.1.symm]
    exact q2
   have hsub:(((p.length+1:Nat):Int)-1)=p.length:=by omega
   have agm:(p.length:Int)+1-1=p.length:=by omega
   have hle:p.length≤p.length+1:=by omega
   have f1:∀ys a,(aW 4 ys a).cells=[aW 4 ys a]:=fun _ _=>nT
   refine aI (Dq @ey f1 u1 u2 u3 g5 g6 @nq) ?_
   have g7:∀y,Y.find (Y.set F5 H.length y) ab=some ⟨1,[.aD 1 A 0 (p.length+1) none],true,30⟩:=fun y=>by rw[Y.aj (by omega)];exact g6
   have nP:(1000001:Nat)≤maxLen:=by decide
   refine SE.agk (g7 _) (by omega) fun m Zj hm2=>SE.mH ?_
   have hle:∀y,Y.find (Y.set (Y.set F5 H.length y) ab (some ⟨1,[.aD 1 A 0 (p.length+1) (some m)],true,30⟩)) ab=some ⟨1,[.aD 1 A 0 (p.length+1) (some m)],true,30⟩:=fun y=>Y.aC (by rw[Y.af];omega)
   have hm0:0<m:=by omega
   refine aI (kY hle hsub agm hm0 @Nat.sub_zero) ?_
   refine ⟨⟨by omega,rfl,by omega,by omega⟩,SE.mH ?_⟩
   refine aw ?_
   have e1:aK (p++[(k:Int)])=aK p++aK [(k:Int)]:=by simp[aK]
   have w0:∀(y z:Option aP) i,i<F5.length→i≠ab→i≠H.length→Y.find (Y.set (Y.set (Y.set F5 H.length y) ab z) ab (some ⟨1,[.aD 1 A 0 p.length (some m)],true,30⟩)) i=Y.find F5 i:=fun y z i _ h1 h2=>by rw[Y.aj h1,Y.aj h1,Y.aj h2]
   have w1:∀(y z:Option aP),Y.find (Y.set (Y.set (Y.set F5 H.length y) ab z) ab (some ⟨1,[.aD 1 A 0 p.length (some m)],true,30⟩)) ab=some ⟨1,[.aD 1 A 0 p.length (some m)],true,30⟩:=fun y z=>Y.aC (by rw[Y.af,Y.af];omega)
   have w2:∀(y z:Option aP),Y.find (Y.set (Y.set (Y.set F5 H.length y) ab z) ab (some ⟨1,[.aD 1 A 0 p.length (some m)],true,30⟩)) H.length=y:=fun y z=>by rw[Y.aj Qk,Y.aj Qk,Y.aC (by omega)]
   have w3:∀(y z:Option aP),(Y.set (Y.set (Y.set F5 H.length y) ab z) ab (some ⟨1,[.aD 1 A 0 p.length (some m)],true,30⟩)).length=F5.length:=fun y z=>by rw[Y.af,Y.af,Y.af]
   have hA1:A≠i1∨xs=[]:=by
    by_cases e:xs=[]
    ·exact .inr e
    ·left
     intro e2
     have:=aaa e
     rw[←e2,q3,bj e] at this
     cases this
   have hAF:Y.find F5 A=some ⟨1,aK (p++[(k:Int)]),false,3⟩:=by
    rw[h5 A (by omega) fun e=>by rcases hA1 with h|h;exact h;exact absurd h e]
    exact q3
   have hOt:dN (bX ps) x (t.kids.take (k+1)) p 0=dN (bX ps) x (t.kids.take k) p 0++[T']:=by
    rw[Bv _ _ _ _ _ _ hd,Nat.zero_add,hT']
   have hOF:∀i ys,ys≠[]→Y.find Fc i=bS 4 25 ys→i≠i1→Y.find F5 i=bS 4 25 ys∧i≠ab∧i≠H.length:=fun i ys e h hne=>by
    rw[bj e] at h ⊢
    have qD:=Y.ax h
    have Mb:i≠ab:=fun e2=>by rw[e2,RQ] at h;simp[nE] at h
    have Mf:i≠H.length:=fun e2=>by rw[e2,Z6] at h;simp at h
    refine ⟨?_,Mb,Mf⟩
    rw[h5 i (by omega) fun _=>hne,Z8 i (by omega) Mb (by omega),zA i qD fun a ea e2=>?_]
    ·exact h
    ·have:=hW.at a ea
     rw[←e2,h] at this
     cases this
   refine bM _ _ ⟨k+1,i5,xs++[fF T' n0],is++List.range' n0 T'.size,.aD 1 A 0 p.length (some m),⟨by omega,?_,?_,fun i hi=>?_,fun _=>⟨?_,by omega⟩⟩,⟨?_,.inr ⟨A,some m,aK (p++[(k:Int)]),rfl,?_,?_⟩,fun h=>by omega,fun _=>⟨A,some m,rfl,by omega,fun h=>?_⟩⟩,⟨?_,?_,fun i hi h1 h2=>?_,?_⟩,by simp[Fr,ey]⟩ (by simp[aM,mk];omega)
   ·rw[hOt]
    have h8:∀G:Y,(∀i,i<F5.length→i≠ab→i≠H.length→Y.find G i=Y.find F5 i)→mQ G (dN (bX ps) x (t.kids.take k) p 0++[T']) (xs++[fF T' n0]) (is++List.range' n0 T'.size):=fun G hG=>by
     have h9:=(hOc.EH (G:=G) fun i hi ys e h=>by
      obtain ⟨z1,z2,z3⟩:=hOF i ys e h (RR i hi).2.1
      rw[hG i (by rw[bj e] at z1;exact Y.ax z1) z2 z3]
      exact z1).append (.cons (Qg T' (q1.of (G:=G) fun i z1 z2=>by
       rw[hG i (by omega) (by omega) (by omega),h5 i (by omega) fun e=>by have:=(Z9 e).1;omega])) .nil)
     rwa [List.append_nil] at h9
    exact h8 _ fun i z1 z2 z3=>w0 _ _ i z1 z2 z3
   ·refine List.nodup_append.2 ⟨hnd,List.nodup_range',fun a ha b hb e=>?_⟩
    have:=(RR a ha).2.2
    have:=px hb
    omega
   ·rw[w3]
    rcases List.mem_append.1 hi with h|h
    ·have:=RR i h
     exact ⟨this.1,by omega,by omega⟩
    ·have:=px h
     exact ⟨by omega,by omega,by omega⟩
   ·rw[w0 _ _ _ (by rw[bj (by simp)] at u4a;exact Y.ax u4a) (by omega) (by omega),ey]
    exact u4a
   ·exact w1 _ _
   ·rw[w0 _ _ A (by omega) (by omega) (by omega)]
    exact hAF
   ·rw[e1,List.take_left' (aB p)]
   ·rcases List.mem_append.1 h with h|h
    ·have:=(RR A h).2.2;omega
    ·have:=px h;omega
   ·rw[w2,ey]
   ·rw[w0 _ _ _ (by omega) (by omega) (by omega),h5 _ (by omega) fun e=>by have:=(EL e).2;omega,Z8 _ (by omega) (by omega) (by omega),zA _ (by omega) fun a e=>(EK a e).2.2.1.symm]
    exact aeh
   ·rw[w0 _ _ _ (by omega) h1 (by omega),h5 _ (by omega) fun e=>by have:=(EL e).2;omega,Z8 _ (by omega) h1 (by omega)]
    exact RS i hi h1 h2
   ·rw[w3];omega
  ·have d1:¬(k:Int)<t.kids.length:=by omega
   have hkk:k=t.kids.length:=by omega
   refine SE.mH ?_
   rw[hp5]
   simp -implicitDefEqProofs (maxSteps:=99999999) (disch:=first|omega|(simp only[vl]<;>omega)) only[vu,vg,mk,d1,qw,jm,va,vg,vs,vw,vk,simprocAttr]
   clear bM
   refine hK _ _ _ ?_
   clear hK
   refine SE.mH ?_
   rw[hp6]
   simp -implicitDefEqProofs (maxSteps:=99999999) (disch:=first|omega|(simp only[vl]<;>omega)) only[vu,vg,hnb,Qc,nq,qw,jm,va,vg,vs,vw,vk,simprocAttr]
   have hT2:bN (bX ps) x t p=⟨t.kind,tx,t.num,dN (bX ps) x t.kids p 0⟩:=by rw[iB,PY]
   rw[hkk,List.take_length] at hO
   have uu:=hO.len
   rw[eG] at uu
   have aei:∀i ys,ys≠[]→Y.find F i=bS 4 25 ys→i≠H.length+1:=fun i ys e h e2=>by
    rw[e2,Qc,bj e] at h;cases h
   have gJ:∀(y:Option aP) i ys,ys≠[]→Y.find F i=bS 4 25 ys→Y.find (Y.set F (H.length+1) y) i=bS 4 25 ys:=fun y i ys e h=>by
    rw[Y.aj (aei i ys e h)];exact h
   by_cases ck:t.kids=[]
   ·have hx0:xs=[]:=List.length_eq_zero_iff.1 (by rw[uu,ck];rfl)
    subst hx0
    have VG:k=0:=by rw[hkk,ck];rfl
    obtain ⟨rfl,hall⟩:=cE VG
    have hO0:is=[]:=by
     rw[ck] at hO
     simp only[dN] at hO
     cases hO
     rfl
    subst hO0
    have hX:dV t p vq ab H=H:=by unfold dV;rw[if_pos ck]
    rw[hX]
    refine xQ (pre:=[]) (is:=H.length::[]) (by simp) ?_ (by simp) (by simp) (fun id b hid hb=>.inl ⟨hb,by rw[Y.aj (by omega),hall id hid];exact hb⟩) (fun i s b hs=>by simp at hs)
    rw[hT2]
    exact .mk (xs:=[]) (i:=H.length) (fun e=>absurd rfl e) (hO.keep (gJ _))
   ·have mN:0<t.kids.length:=List.length_pos_iff.2 ck
    have Fb:xs≠[]:=fun e=>by rw[e] at uu;simp at uu;omega
    obtain ⟨r1,r2⟩:=hrow Fb
    obtain ⟨bB,c,rfl,Mb,Mf⟩:=hkp (by omega)
    obtain ⟨es,he,het⟩:∃es,Y.find F bB=some ⟨1,es,false,3⟩∧es.take p.length=aK p:=by
     rcases hFv with ⟨_,e⟩|⟨a,c,es,e,h1,h2⟩
     ·cases e
     ·cases e;exact ⟨es,h1,h2⟩
    have hX:dV t p v ab H=some ⟨1,aK p,false,3⟩::Y.set (oJ (pz v) H) ab (some (nE (.aD 1 H.length 0 p.length none))):=by unfold dV;rw[if_neg ck]
    rw[hX]
    refine eB.cut bB p.length ?_
    have tW:∀(y:Option aP) i,i≠bB→i≠H.length+1→Y.find (jn (Y.set F (H.length+1) y) bB p.length) i=Y.find F i:=fun y i h1 h2=>by rw[sx h1,Y.aj h2]
    have hca:∀(y:Option aP),Y.find (jn (Y.set F (H.length+1) y) bB p.length) bB=some ⟨1,aK p,false,3⟩:=fun y=>by
     have:=tD (H:=Y.set F (H.length+1) y) (id:=bB) (n:=p.length) (by rw[Y.aj (by omega)];exact he) (by simp)
     rw[het] at this
     exact this
    have Z0:i1≠bB:=fun e=>by rw[e,he,bj Fb] at r1;cases r1
    refine xQ (pre:=[bB]) (is:=i1::is) (by simp[Y.af,cT]) ?_ ?_ ?_ (fun id b hid hb=>?_) (fun i s b hs hb=>?_)
    ·rw[hT2]
     refine .mk (fun _=>?_) (hO.keep fun i ys e h=>?_)
     ·rw[tW _ i1 Z0 (by omega)];exact r1
     ·rw[tW _ i (fun e2=>by rw[e2,he,bj e] at h;cases h) (aei i ys e h)];exact h
    ·simp only[List.cons_append,List.nil_append,List.nodup_cons,List.mem_cons]
     exact ⟨fun h=>by rcases h with h|h;exact Z0 h.symm;exact Mf h,fun h=>(hge i1 h).2.1 rfl,hnd⟩
    ·intro i hi
     simp only[List.cons_append,List.nil_append,List.mem_cons] at hi
     rcases hi with rfl|rfl|hi
     ·omega
     ·omega
     ·have:=(hge i hi).1;omega
    ·rw[ai (by rw[Y.af,cT];exact hid)] at hb
     by_cases ci:id=ab
     ·subst ci
      rw[Y.aC (by rw[cT];exact hid)] at hb
      cases hb
      refine .inr ⟨nE (.aD 1 bB 0 p.length c),by rw[tW _ id (by omega) (by omega)];exact hFa,rfl,rfl,fun h=>h,.cons (.Gt ?_ (.inr rfl)) .nil⟩
      have aiN:(bB::i1::is).Nodup:=List.nodup_cons.2 ⟨fun h=>by rcases List.mem_cons.1 h with h|h;exact Z0 h.symm;exact Mf h,List.nodup_cons.2 ⟨fun h=>(hge i1 h).2.1 rfl,hnd⟩⟩
      have hN:=nA (n0:=H.length) aiN (i:=0) (s:=bB) rfl (by omega)
      exact hN
     ·rw[Y.aj ci] at hb
      obtain ⟨e1,e2⟩:=MU hb
      exact .inl ⟨e1,by rw[tW _ id (by omega) (by omega),hold id hid ci e2];exact e1⟩
    ·cases i with
     |zero =>
      simp only[List.getElem?_cons_zero,Option.some.injEq] at hs
      subst hs
      rw[Nat.add_zero,aJ (by rw[Y.af,cT])] at hb
      cases hb
      exact ⟨_,hca _,rfl,rfl,fun h=>h,si⟩
     |succ i=>simp at hs
 cases hpf:bX ps p with
 |false =>
  rw[hpf] at Se PY
  simp -implicitDefEqProofs (maxSteps:=99999999) (disch:=first|omega|(simp only[vl]<;>omega)) only[vu,vg,vf1,vf2,vf3,vf4,f0c,f0s,Z4,qw,jm,va,vg,vs,vw,vk,simprocAttr]
  refine aL Se ?_
  refine aw ?_
  refine hkey _ _ (by simp[Fr]) RF sm ?_ Z3
  rw[PY]
  exact Z2
 |true =>
  rw[hpf] at Se PY
  simp -implicitDefEqProofs (maxSteps:=99999999) (disch:=first|omega|(simp only[vl]<;>omega)) only[vu,vg,vf1,vf2,vf3,vf4,f0c,f0s,Z4,qw,jm,va,vg,vs,vw,vk,simprocAttr]
  refine aL Se ?_
  refine aI (ei f0c f0s Z4 Z2) ?_
  refine hkey _ _ (by simp[Fr]) (by rw[Y.af];exact RF) (fun i hi=>by rw[Y.aj (by omega)];exact sm i hi) ?_ (by rw[Y.aj (by omega)];exact Z3)
  rw[Y.aC (by omega),PY]
  rfl
theorem ack(ps:List (List Int))(x:ByteArray)(hz:ps.length≤1000000)(dY:∀k,k<ps.length→(dS ps k).length≤1000000)(t:Nd):Qj ps x t:=by
 induction t using Nd.ind with
 |_ t ih=>exact Z1 ps x hz dY t ih
theorem acl(ps:List (List Int))(x:ByteArray)(hz:ps.length≤1000000)(dY:∀k,k<ps.length→(dS ps k).length≤1000000)(t:Nd)(ro:Option (List AV))(hs:t.size≤1000000)(oL ee:Nat)(H:Y)(hc:Y.find H oL=some ⟨2,[.agg [aW 1 (bc ps) ee,.sc (.string x)]],true,66⟩)(hl:bc ps≠[]→Y.find H ee=bS 1 30 (bc ps)) :
  D Tryz.prog 45 [.ptr 2 oL 0 0,dZ t ro] H (.ret (fF (bN (bX ps) x t []) H.length)) (gd (bN (bX ps) x t []) H.length++H):=by
 have iE:=Y.ax hc
 have ef:bc ps≠[]→ee<H.length:=fun h=>by have:=hl h;rw[bj h] at this;exact Y.ax this
 have cl:cr Tryz.prog 75=true:=by kernel_rfl
 refine aG (by rw[List.length_append];omega) (aix (aA ?_))
 rw[aQ]
 simp only[ad2,ux]
 refine Z fun L hL=>?_
 refine aw ?_
 refine hL _ _ ?_
 clear hL
 refine Z fun L hL=>?_
 refine aw ?_
 refine hL _ _ ?_
 clear hL
 refine Z fun L hL=>?_
 refine aw ?_
 refine hL _ _ ?_
 clear hL
 refine Z fun L hL=>?_
 refine aw ?_
 generalize hF:(some ⟨1,[AV.fn (Fn.func 75) [] [.ptr 1 H.length 0 0,.ptr 1 (H.length+3) 0 0,.ptr 1 (H.length+4) 0 0]],true,28⟩:Option aP)::_=F
 have qi:F.length=H.length+5:=by rw[←hF];rfl
 have hFo:∀i,i<H.length→Y.find F i=Y.find H i:=fun i hi=>by
  rw[←hF,ai (by simp;omega),ai (by simp;omega),ai (by simp;omega),ai (by simp;omega),ai (by omega)]
 have f0:Y.find F H.length=some ⟨1,[.ptr 2 oL 0 0],true,62⟩:=by
  rw[←hF,ai (by simp only[List.length_cons];omega),ai (by simp only[List.length_cons];omega),ai (by simp only[List.length_cons];omega),ai (by simp only[List.length_cons];omega),aJ rfl]
 have f1:Y.find F (H.length+1)=some ⟨4,[.agg [.sc (.int .u8 t.kind),.sc (.string t.text),.sc (.int .i64 t.num),.am 4 (bh t.kids) ro]],true,25⟩:=by
  rw[←hF,ai (by simp only[List.length_cons];omega),ai (by simp only[List.length_cons];omega),ai (by simp only[List.length_cons];omega),aJ (by simp only[List.length_cons])]
 have f2:∃rb,Y.find F (H.length+2)=some ⟨4,[.agg [rb,.sc (.string ⟨#[]⟩),.sc (.int .i64 0),.am 0 [] (some [])]],true,25⟩:=⟨.sc (.int .u8 0),by
  rw[←hF,ai (by simp only[List.length_cons];omega),ai (by simp only[List.length_cons];omega),aJ (by simp only[List.length_cons])]⟩
 have f3:Y.find F (H.length+3)=some (nE (.am 0 [] (some []))):=by
  rw[←hF,ai (by simp only[List.length_cons];omega),aJ (by simp only[List.length_cons])]
  rfl
 have f4:Y.find F (H.length+4)=some ⟨1,[AV.fn (Fn.func 75) [] [.ptr 1 H.length 0 0,.ptr 1 (H.length+3) 0 0,.ptr 1 (H.length+4) 0 0]],true,28⟩:=by
  rw[←hF]
  exact aJ (by simp only[List.length_cons])
 clear hF
 obtain ⟨rb,f2⟩:=f2
 have hT:TP H.length (H.length+3) (H.length+4) oL ee ps x F:=⟨f0,(hFo oL iE).trans hc,fun h=>(hFo ee (ef h)).trans (hl h),f4⟩
 have htd:=ack ps x hz dY t ro [] H.length (H.length+3) (H.length+4) oL ee (.am 0 [] (some [])) F (by simp;omega) hT f3 (.inl ⟨rfl,rfl⟩)
 have hXl:=xS (t:=t) (p:=[]) (v:=.am 0 [] (some [])) (ab:=H.length+3) (H:=F)
 have UW:∀i,i<F.length→i≠H.length+3→Y.find (gd (bN (bX ps) x t []) (dV t [] (.am 0 [] (some [])) (H.length+3) F).length++dV t [] (.am 0 [] (some [])) (H.length+3) F) i=Y.find F i:=fun i hi hne=>by
  rw[Y.bF (by omega)]
  unfold dV
  split
  ·rfl
  ·rw[ai (by rw[Y.af,cT];omega),Y.aj hne]
   rfl
 have hlies:dP (gd (bN (bX ps) x t []) (dV t [] (.am 0 [] (some [])) (H.length+3) F).length++dV t [] (.am 0 [] (some [])) (H.length+3) F) (bN (bX ps) x t []) (dV t [] (.am 0 [] (some [])) (H.length+3) F).length:=j5
 generalize (dV t [] (.am 0 [] (some [])) (H.length+3) F).length=n0 at htd UW hlies hXl
 generalize hT':bN (bX ps) x t []=T' at htd UW hlies ⊢
 generalize hG:gd T' n0++dV t [] (.am 0 [] (some [])) (H.length+3) F=G at htd UW hlies
 have Ej:n0+T'.size=G.length∨True:=.inr trivial
 rw[aQ] at htd
 have hr:=(UW (H.length+2) (by omega) (by omega)).trans f2
 have Ej:F.length≤G.length:=by have:=Y.ax hr;have:=UW (H.length+4) (by omega) (by omega);rw[f4] at this;have:=Y.ax this;omega
 refine hL _ _ ?_
 clear hL
 refine Z fun L hL=>?_
 simp -implicitDefEqProofs (maxSteps:=99999999) (disch:=first|omega|(simp only[vl]<;>omega)) only[vu,vg,f0,f1,f4,cl,va,vg,vs,vw,vk,simprocAttr]
 refine ae htd ?_
 refine aI (ak hr @ey) ?_
 refine hL _ _ ?_
 clear hL
 refine aw ?_
 rw[←ey]
 have hend:∀y:Option aP,eB H (.ret (fF T' n0)) (Y.set G (H.length+2) y) (.ret (fF T' H.length)) (gd T' H.length++H):=fun y=>by
  have gJ:∀i,i≠H.length+2→Y.find (Y.set G (H.length+2) y) i=Y.find G i:=fun i h=>Y.aj h
  refine xQ (pre:=[]) (is:=List.range' n0 T'.size) (by simp) (Qg T' (hlies.of fun i h1 h2=>gJ i (by omega))) (by simpa using List.nodup_range') (fun i hi=>?_) (fun id b hid hb=>.inl ⟨hb,?_⟩) (fun i s b hs=>by simp at hs)
  ·have:=px (by simpa using hi:i∈List.range' n0 T'.size)
   omega
  ·rw[gJ id (by omega),UW id (by omega) (by omega),hFo id hid]
   exact hb
 rw[hT']
 exact hend _
theorem FF(a b:List (List Int)):bc (a++b)=bc a++bc b:=by simp[bc]
theorem RT(ps qs:List (List Int))(x:ByteArray)(ro:Option (List AV))(hne:qs≠[]∨ps≠[])(hl:ps.length+qs.length≤2000000)(oL ee:Nat)(H:Y)(hc:Y.find H oL=some ⟨2,[.agg [aW 1 (bc ps) ee,.sc (.string x)]],true,66⟩)(hli:bc ps≠[]→Y.find H ee=bS 1 30 (bc ps)) :
  D Tryz.prog 44 [.ptr 2 oL 0 0,.am 1 (bc qs) ro] H (.ret (.aO [])) (Y.set (bS 1 30 (bc (ps++qs))::jR (bc ps) ee H) oL (some ⟨2,[.agg [aW 1 (bc (ps++qs)) H.length,.sc (.string x)]],true,66⟩)):=by
 have iE:=Y.ax hc
 have ef:bc ps≠[]→ee<H.length∧oL≠ee:=fun h=>by
  have:=hli h;rw[bj h] at this
  exact ⟨Y.ax this,fun e=>by rw[←e,hc] at this;cases this⟩
 obtain ⟨a1,a2,a3⟩:=Xx (H:=H) (k:=1) (ty:=30) (xs:=bc ps) (ys:=bc qs) (id:=ee) hli (by simp[dg];omega)
 have Qe:bc qs≠[]∨bc ps≠[]:=hne.imp (fun h e=>h (by simpa [bc] using e)) fun h e=>h (by simpa [bc] using e)
 obtain ⟨a4,a5⟩:=a2 Qe
 rw[←FF] at a4 a5
 have hk:Y.find (bS 1 30 (bc (ps++qs))::jR (bc ps) ee H) oL=some ⟨2,[.agg [aW 1 (bc ps) ee,.sc (.string x)]],true,66⟩:=by
  rw[ai (by rw[bz];exact iE)]
  by_cases e:bc ps=[]
  ·rw[e] at hc ⊢;exact hc
  ·rw[jS (ef e).2];exact hc
 refine aG (by simp[Y.af,bz]) (aiv (aA ?_))
 simp only[ad0,ux]
 simp -implicitDefEqProofs (maxSteps:=99999999) (disch:=first|omega|(simp only[vl]<;>omega)) only[vu,vg,hc,a1,a4,a5,hk,nq,va,vg,vs,vw,vk,simprocAttr]
 exact eB.refl _ _ _
def nF(p:List Int):List ky→Nat→Int
 |[],_=>-1
 |q::r,i=>if q.1=p then i else nF p r (i+1)
theorem Hz{p:List Int}:∀{l:List ky}{i k:Nat},k<l.length→(∀j,j<k→¬(cS l j).1=p)→(cS l k).1=p→nF p l i=(i+k:Nat)
 |[],_,_,h,_,_=>by simp at h
 |q::r,i,0,_,_,h=>by simp[cS] at h;simp[nF,h]
 |q::r,i,k+1,h,hn,he=>by
  have h0:¬q.1=p:=by simpa [cS] using hn 0 (by omega)
  rw[nF,if_neg h0,Hz (i:=i+1) (k:=k) (by simpa using h) (fun j hj=>by simpa [cS] using hn (j+1) (by omega)) (by simpa [cS] using he)]
  omega
theorem BH{p:List Int}:∀{l:List ky}{i:Nat},(∀j,j<l.length→¬(cS l j).1=p)→nF p l i=-1
 |[],_,_=>rfl
 |q::r,i,hn=>by
  have h0:¬q.1=p:=by simpa [cS] using hn 0 (by simp)
  rw[nF,if_neg h0,BH fun j hj=>by simpa [cS] using hn (j+1) (by simpa using hj)]
theorem BI{p:List Int}:∀{l:List ky}{i:Nat},match l.find? fun b=>decide (b.1=p) with
  |none=>nF p l i=-1
  |some b=>∃k:Nat,nF p l i=(i+k:Nat)∧k<l.length∧cS l k=b
 |[],i=>by simp[nF]
 |q::r,i=>by
  rw[List.find?_cons]
  by_cases c:q.1=p
  ·rw[decide_eq_true c]
   exact ⟨0,by simp[nF,c],by simp,by simp[cS]⟩
  ·rw[decide_eq_false c]
   simp only
   have ih:=BI (p:=p) (l:=r) (i:=i+1)
   cases h:r.find? fun b=>decide (b.1=p) with
   |none =>
    rw[h] at ih
    simp only at ih ⊢
    rw[nF,if_neg c,ih]
   |some b =>
    rw[h] at ih
    simp only at ih ⊢
    obtain ⟨k,h1,h2,h3⟩:=ih
    exact ⟨k+1,by rw[nF,if_neg c,h1];omega,by simpa using h2,by simpa [cS] using h3⟩
theorem acm(l:List ky)(p:List Int)(ro:Option (List AV))(hz:l.length≤1000000)(hp:∀k,k<l.length→Jb (cS l k))(gh:Nat)(H:Y)(hb:Y.find H gh=some ⟨1,[.am 1 (aK p) none],true,30⟩) :
  D Tryz.prog 41 [.am 3 (l.map gy) ro,.fn (.func 42) [] [.ptr 1 gh 0 0]] H (.ret (.sc (.int .i64 (nF p l 0)))) H:=by
 have cl:cr Tryz.prog 42=true:=by kernel_rfl
 have hlt:=Y.ax hb
 have ef:(l.map gy).length=l.length:=by simp
 have hone:∀(b:ky)(hq:b.1.length≤1000000),D Tryz.prog 42 [gy b,.ptr 1 gh 0 0] H (.ret (.sc (.bool (decide (b.1=p))))) H:=fun b hq=>by
  have h1:=fun H=>wi b.1 p none none H (by omega)
  unfold gy
  refine aG (Nat.le_refl _) (ail (aA ?_))
  simp only[adQ,ux]
  refine Z fun L hL=>?_
  refine aw ?_
  refine hL _ _ ?_
  clear hL
  refine Z fun L hL=>?_
  refine aI hb ?_
  refine ae (h1 _) ?_
  refine aw ?_
  refine hL _ _ ?_
  clear hL
  refine aw ?_
  exact aq (.cons .refl) rfl
 refine aG (Nat.le_refl _) (ais (aA ?_))
 simp only[adX,ux]
 refine Z fun L hL=>?_
 refine aw ?_
 refine hL _ _ ?_
 clear hL
 refine Z fun L hL=>?_
 refine Z fun L hL=>?_
 refine aI ef ?_
 refine hL _ _ ?_
 clear hL
 refine aZ (fun ts F=>∃k:Nat,(k≤l.length∧∀j,j<k→¬(cS l j).1=p)∧F=H∧Fr (some (.am 3 (l.map gy) ro)::some (.fn (.func 42) [] [.ptr 1 gh 0 0])::none::none::some (.sc (.int .i64 0))::none::none::some (.sc (.int .i64 l.length))::some (.sc (.int .i64 k))::none::none::ir []) ts) (fun ts _=>l.length-(aM (ts.getD 8 .top)).toNat) ?_ ?_
 ·exact ⟨0,⟨Nat.zero_le _,fun j h=>absurd h (Nat.not_lt_zero _)⟩,rfl,by simp[Fr]⟩
 rintro ts F ⟨k,⟨hk,j7⟩,Ei,aX⟩ L2 bM
 rw[Ei]
 obtain ⟨js,rfl⟩:=aX.opened
 clear aX
 by_cases hd:k<l.length
 ·have d1:(k:Int)<l.length:=by omega
  have hg:=lY hd
  have hi:=hone (cS l k) (hp k hd).1
  unfold gy at hi
  by_cases e1:(cS l k).1=p
  ·rw[decide_eq_true e1] at hi
   have Fj:=Hz (i:=0) hd j7 e1
   rw[Nat.zero_add] at Fj
   refine df (gq d1 hg ef) ?_
   refine ⟨by omega,cl,ae hi ?_⟩
   refine aw ?_
   rw[Fj]
   exact bL .refl
  ·rw[decide_eq_false e1] at hi
   refine df (gq d1 hg ef) ?_
   refine ⟨by omega,cl,ae hi ?_⟩
   refine aw ?_
   refine bM _ _ ⟨k+1,⟨by omega,fun j hj=>?_⟩,rfl,by simp[Fr]⟩ (by simp[aM,mk];omega)
   rcases Nat.lt_succ_iff_lt_or_eq.1 hj with h'|rfl
   ·exact j7 j h'
   ·exact e1
 ·have d1:¬(k:Int)<l.length:=by omega
  have Fj:=BH (i:=0) fun j hj=>j7 j (by omega)
  refine df d1 ?_
  clear bM
  refine hL _ _ ?_
  clear hL
  refine aw ?_
  rw[Fj]
  exact bL .refl
theorem xT(f:List Int→Bool)(x:ByteArray)(t:Nd):∀p,(bN f x t p).size=t.size:=by
 induction t using Nd.ind with
 |_ t ih =>
  intro p
  have key:∀(l:List Nd),(∀k∈l,∀p,(bN f x k p).size=k.size)→∀i,Nd.ay (dN f x l p i)=Nd.ay l:=by
   intro l
   induction l with
   |nil=>intro _ _;rfl
   |cons k r fC=>intro h i;simp only[dN,Nd.ay,h k (by simp),fC fun k' hk'=>h k' (by simp[hk'])]
  rw[Nd.size_eq,Nd.size_eq t,iB]
  simp only[Nd.kids]
  have:=key t.kids ih 0
  cases t
  simp only[Nd.kids] at *
  rw[this]
theorem aab(f:List Int→Bool)(x:ByteArray)(t:Nd):∀p,(bN f x t p).wt≤t.wt+x.size*t.size:=by
 induction t using Nd.ind with
 |_ t ih =>
  intro p
  have key:∀(l:List Nd),(∀k∈l,∀p,(bN f x k p).wt≤k.wt+x.size*k.size)→∀i,Nd.mA (dN f x l p i)≤Nd.mA l+x.size*Nd.ay l:=by
   intro l
   induction l with
   |nil=>intro _ _;simp[dN,Nd.mA]
   |cons k r fC =>
    intro h i
    have h1:=h k (by simp) (p++[(i:Int)])
    have h2:=fC (fun k' hk'=>h k' (by simp[hk'])) (i+1)
    simp only[dN,Nd.mA,Nd.ay,Nat.mul_add]
    omega
  have h1:=key t.kids ih 0
  have h2:=(bN f x t p).oD
  have h3:=t.oD
  have h4:=t.size_eq
  have e1:(bN f x t p).kids=dN f x t.kids p 0:=by rw[iB];rfl
  have e2:(bN f x t p).text.size≤t.text.size+x.size:=by
   have:(bN f x t p).text=if f p=true then x else t.text:=by rw[iB];rfl
   rw[this]
   split<;>omega
  rw[e1] at h2
  rw[h4,Nat.mul_add,Nat.mul_one]
  omega
theorem Qm(n:Nd):∀b∈bQ n,b.2.2.length≤n.size:=by
 rw[ju]
 intro b hm
 unfold eC at hm
 split at hm
 ·obtain ⟨i,hi,rfl⟩:=List.mem_map.1 hm
  simp only
  unfold e8
  rw[List.length_map]
  refine Nat.le_trans (List.length_filter_le _ _) ?_
  rw[eL]
  exact Nat.le_refl _
 ·simp at hm
theorem aac(F:Y):OW F Nd.none (.agg [.sc (.int .u8 0),.sc (.string ⟨#[]⟩),.sc (.int .i64 0),.am 0 [] (some [])]) [0]:=.mk (xs:=[]) (i:=0) (fun e=>absurd rfl e) .nil
theorem UX(n:Nd)(hw:n.wt≤100000)(hs:n.size≤10000)(x:ByteArray)(path:List Int)(hp:path.length≤1000000)(ro:Option (List AV)):D Tryz.prog 14 [dZ n ro,.sc (.string x),.am 1 (aK path) none] [] (.ret (.aO [fF (bw n x path).1 0,.sc (.int .i64 (bw n x path).2)])) (gd (bw n x path).1 0):=by
 have lz:=fun H=>GK n ro (by omega) H
 have j7:=fun H=>xJ n (by omega) (by omega) ro H
 have ob:=fun H h=>xG n (by omega) (by omega) ro (iC n ro) H h
 have hnm:=fun H=>Rk x H
 have hok:=zB n (by omega)
 have iq:=su n
 rw[aQ] at lz j7 ob ⊢
 have bad:∀(F:Y)(e:Int),bw n x path=(Nd.none,e)→eB [] (.ret (.aO [.agg [.sc (.int .u8 0),.sc (.string ⟨#[]⟩),.sc (.int .i64 0),.am 0 [] (some [])],.sc (.int .i64 e)])) F (.ret (.aO [fF (bw n x path).1 0,.sc (.int .i64 (bw n x path).2)])) (gd (bw n x path).1 0):=fun F e he=>by
  rw[he]
  have:=MQ (H:=[]) (v:=.int .i64 e) (aac F) (by simp) (by simp) (fun i hi=>by simp at hi)
  simpa using this
 refine aG (by simp) (aik (aA ?_))
 simp only[adP,ux]
 refine Z fun L hL=>?_
 refine aw ?_
 refine hL _ _ ?_
 clear hL
 refine Z fun L hL=>?_
 by_cases c1:n.kind=1
 case neg =>
  have hr:bw n x path=(Nd.none,4):=by unfold bw;rw[if_neg fun h=>c1 h.1]
  refine aI c1 ?_
  exact bad _ 4 hr
 rw[c1] at lz j7 ob ⊢
 cases c2:bH n 40
 ·have hr:bw n x path=(Nd.none,4):=by unfold bw;rw[if_neg fun h=>by rw[c2] at h;simp at h]
  refine aw ?_
  refine ae (lz _) ?_
  rw[c2]
  refine aw ?_
  exact bad _ 4 hr
 cases c3:iA n
 ·have hr:bw n x path=(Nd.none,122):=by unfold bw;rw[if_pos ⟨c1,c2⟩,if_neg (by rw[c3];simp)]
  refine aw ?_
  refine ae (lz _) ?_
  rw[c2]
  refine aw ?_
  refine ae (j7 _) ?_
  rw[c3]
  refine aw ?_
  exact bad _ 122 hr
 refine aw ?_
 refine ae (lz _) ?_
 rw[c2]
 refine aw ?_
 refine ae (j7 _) ?_
 rw[c3]
 refine aw ?_
 refine hL _ _ ?_
 clear hL
 refine Z fun L hL=>?_
 refine aw ?_
 have AR:∀(a b c:AV),∀id,id<([some ⟨4,[a],true,25⟩,some ⟨1,[b],true,30⟩,some ⟨4,[c],true,25⟩]:Y).length→∃y,Y.find ([some ⟨4,[a],true,25⟩,some ⟨1,[b],true,30⟩,some ⟨4,[c],true,25⟩]:Y) id=some y∧tv y:=by
  intro a b c id hid
  rcases id with _|_|_|id
  ·exact ⟨_,rfl,by simp,by simp,by simp,by simp⟩
  ·exact ⟨_,rfl,by simp,by simp,by simp,by simp⟩
  ·exact ⟨_,rfl,by simp,by simp,by simp,by simp⟩
  ·simp only[List.length_cons,List.length_nil] at hid;omega
 refine ae (ob _ (AR _ _ _)) ?_
 refine aw ?_
 refine hL _ _ ?_
 clear hL
 refine Z fun L hL=>?_
 refine aw ?_
 refine ae (acm (bQ n) path none (by omega) hok 1 _ rfl) ?_
 have E9:=BI (p:=path) (l:=bQ n) (i:=0)
 cases hf:(bQ n).find? fun b=>decide (b.1=path) with
 |none =>
  rw[hf] at E9
  have hr:bw n x path=(Nd.none,6):=by unfold bw;rw[if_pos ⟨c1,c2⟩,if_pos c3,hf]
  rw[E9]
  refine aw ?_
  refine hL _ _ ?_
  clear hL
  refine Z fun L hL=>?_
  refine aw ?_
  exact bad _ 6 hr
 |some b =>
 rw[hf] at E9
 obtain ⟨k,w6,fx,hk3⟩:=E9
 rw[Nat.zero_add] at w6
 have HA:=hok k fx
 rw[hk3] at HA
 have hbu:=Qm n b (List.mem_of_find?_eq_some hf)
 have I8:=lY fx
 rw[hk3] at I8
 rw[w6]
 have k0:¬(k:Int)<0:=by omega
 cases c4:iZ x
 ·have hr:bw n x path=(Nd.none,2):=by unfold bw;rw[if_pos ⟨c1,c2⟩,if_pos c3,hf];simp only;rw[if_neg (by rw[c4];simp)]
  refine aw ?_
  refine hL _ _ ?_
  clear hL
  refine Z fun L hL=>?_
  refine aI k0 ?_
  refine ae (hnm _) ?_
  rw[c4]
  refine aw ?_
  exact bad _ 2 hr
 refine aw ?_
 refine hL _ _ ?_
 clear hL
 refine Z fun L hL=>?_
 refine aI k0 ?_
 refine ae (hnm _) ?_
 rw[c4]
 refine aw ?_
 refine hL _ _ ?_
 clear hL
 refine Z fun L hL=>?_
 refine aw ?_
 obtain ⟨F0,gS⟩:∃F0:Y,F0=[some ⟨2,[AV.agg [AV.am 0 [] (some []),AV.sc (.string x)]],true,66⟩,some ⟨4,[AV.agg [.sc (.int .u8 0),.sc (.string ⟨#[]⟩),.sc (.int .i64 0),.am 0 [] (some [])]],true,25⟩,some ⟨1,[.am 1 (aK path) none],true,30⟩,some ⟨4,[AV.agg [.sc (.int .u8 1),.sc (.string n.text),.sc (.int .i64 n.num),.am 4 (bh n.kids) ro]],true,25⟩]:=⟨_,rfl⟩
 have a0:Y.find F0 0=some ⟨4,[AV.agg [.sc (.int .u8 1),.sc (.string n.text),.sc (.int .i64 n.num),.am 4 (bh n.kids) ro]],true,25⟩:=by rw[gS];rfl
 have a1:Y.find F0 1=some ⟨1,[.am 1 (aK path) none],true,30⟩:=by rw[gS];rfl
 have a2:Y.find F0 2=some ⟨4,[AV.agg [.sc (.int .u8 0),.sc (.string ⟨#[]⟩),.sc (.int .i64 0),.am 0 [] (some [])]],true,25⟩:=by rw[gS];rfl
 have a3:Y.find F0 3=some ⟨2,[AV.agg [aW 1 (bc []) 0,AV.sc (.string x)]],true,66⟩:=by rw[gS];rfl
 have al:F0.length=4:=by rw[gS];rfl
 rw[←gS]
 clear gS
 have Qn:=RT [] [path] x (some []) (.inl (by simp)) (by simp) 3 0 F0 a3 (fun e=>absurd rfl e)
 have kX:∃F1,F1=Y.set (bS 1 30 (bc ([]++[path]))::jR (bc []) 0 F0) 3 (some ⟨2,[.agg [aW 1 (bc ([]++[path])) F0.length,.sc (.string x)]],true,66⟩):=⟨_,rfl⟩
 obtain ⟨F1,kX⟩:=kX
 rw[←kX] at Qn
 have b0:Y.find F1 0=Y.find F0 0:=by rw[kX,Y.aj (by omega),ai (by rw[bz];omega)];rfl
 have b1:Y.find F1 1=Y.find F0 1:=by rw[kX,Y.aj (by omega),ai (by rw[bz];omega)];rfl
 have b2:Y.find F1 2=Y.find F0 2:=by rw[kX,Y.aj (by omega),ai (by rw[bz];omega)];rfl
 have b3:Y.find F1 3=some ⟨2,[.agg [aW 1 (bc [path]) 4,.sc (.string x)]],true,66⟩:=by rw[kX,Y.aC (by simp[bz];omega),al];rfl
 have b4:Y.find F1 4=bS 1 30 (bc [path]):=by rw[kX,Y.aj (by omega),aJ (by rw[bz,al])];rfl
 have bl:F1.length=5:=by rw[kX,Y.af];simp[bz,al]
 clear kX
 have hlp:bc [path]=[.am 1 (aK path) none]:=rfl
 rw[hlp] at Qn
 refine hL _ _ ?_
 clear hL
 refine Z fun L hL=>?_
 refine aI (ei a0 a1 a2 a3) ?_
 refine sX Qn (fun l hl _=>?_) ?_
 ·simp only[List.mem_singleton] at hl
  subst hl
  exact b1
 have aad:=RT [path] b.2.2 x none (.inr (by simp)) (by simp;have:=HA.2.1;omega) 3 4 F1 b3 (fun _=>b4)
 have jG:∃F2,F2=Y.set (bS 1 30 (bc ([path]++b.2.2))::jR (bc [path]) 4 F1) 3 (some ⟨2,[.agg [aW 1 (bc ([path]++b.2.2)) F1.length,.sc (.string x)]],true,66⟩):=⟨_,rfl⟩
 obtain ⟨F2,jG⟩:=jG
 rw[←jG] at aad
 have e0:Y.find F2 0=Y.find F0 0:=by rw[jG,Y.aj (by omega),ai (by rw[bz];omega),jS (by omega),b0]
 have e2:Y.find F2 2=Y.find F0 2:=by rw[jG,Y.aj (by omega),ai (by rw[bz];omega),jS (by omega),b2]
 have e3:Y.find F2 3=some ⟨2,[.agg [aW 1 (bc (path::b.2.2)) 5,.sc (.string x)]],true,66⟩:=by rw[jG,Y.aC (by simp[bz];omega),bl];rfl
 have e5:Y.find F2 5=bS 1 30 (bc (path::b.2.2)):=by rw[jG,Y.aj (by omega),aJ (by rw[bz,bl])];rfl
 have el:F2.length=6:=by rw[jG,Y.af];simp[bz,bl]
 rw[a0] at e0
 rw[a2] at e2
 clear jG
 refine aw ?_
 refine hL _ _ ?_
 clear hL
 refine Z fun L hL=>?_
 refine aI I8 ?_
 refine ⟨⟨by omega,by simpa using fx⟩,sX aad (fun l hl _=>by simp at hl) ?_⟩
 refine aw ?_
 have aae:=acl (path::b.2.2) x (by simp;omega) (fun j hj=>by
  cases j with
  |zero=>simpa [dS] using hp
  | succ j=>have:=HA.2.2 j (by simpa using hj);simpa [dS] using this) n ro (by omega) 3 5 F2 e3 (fun _=>e5)
 rw[aQ,c1] at aae
 have hTs:(bN (bX (path::b.2.2)) x n []).size=n.size:=xT _ _ _ _
 have aiO:x.size≤24:=by
  have:=c4
  simp only[iZ,Bool.and_eq_true,decide_eq_true_eq] at this
  exact this.1.1.1.2
 have hTw:(bN (bX (path::b.2.2)) x n []).wt≤500000:=by
  have h1:=aab (bX (path::b.2.2)) x n []
  have h2:x.size*n.size≤24*10000:=Nat.mul_le_mul aiO hs
  omega
 have oU:bw n x path=if gb n (bN (bX (path::b.2.2)) x n [])=true then (bN (bX (path::b.2.2)) x n [],0) else (Nd.none,120):=by
  unfold bw
  rw[if_pos ⟨c1,c2⟩,if_pos c3,hf]
  simp only
  rw[if_pos c4]
 generalize bN (bX (path::b.2.2)) x n []=T at *
 refine hL _ _ ?_
 clear hL
 refine Z fun L hL=>?_
 refine aI e0 ?_
 refine ae aae ?_
 have sn:dP (gd T F2.length++F2) T F2.length:=j5
 have MW:∀i,i<F2.length→Y.find (gd T F2.length++F2) i=Y.find F2 i:=fun i hi=>Y.bF hi
 have ajp:(gd T F2.length++F2).length=F2.length+T.size:=by rw[List.length_append,iK];omega
 generalize gd T F2.length++F2=F3 at *
 refine aI @ey ?_
 refine hL _ _ ?_
 clear hL
 refine Z fun L hL=>?_
 have aiP:dP (some (⟨4,[AV.agg [.sc (.int .u8 T.kind),.sc (.string T.text),.sc (.int .i64 T.num),aW 4 (eT T.kids (F2.length+1)) F2.length]],true,25⟩:aP)::F3) T F2.length:=sn.of fun i h1 h2=>ai (by omega)
 have hal:=Ek n T (by omega) (by omega) hTw (by omega) (iC n ro (some (⟨4,[AV.agg [.sc (.int .u8 T.kind),.sc (.string T.text),.sc (.int .i64 T.num),aW 4 (eT T.kids (F2.length+1)) F2.length]],true,25⟩:aP)::F3)) (AG T aiP)
 rw[aQ,c1,ey] at hal
 have f0:=(MW 0 (by omega)).trans e0
 have f2:=(MW 2 (by omega)).trans e2
 refine aI f0 ?_
 refine ae hal ?_
 have hend:∀(G:Y),(∀i,F2.length≤i→i<F3.length→Y.find G i=Y.find F3 i)→eB [] (.ret (.aO [fF T F2.length,.sc (.int .i64 0)])) G (.ret (.aO [fF T 0,.sc (.int .i64 0)])) (gd T 0):=fun G hG=>by
  have:=MQ (H:=[]) (v:=.int .i64 0) (Qg T (sn.of fun i h1 h2=>hG i h1 (by omega))) List.nodup_range' (by simp) (fun i hi=>by simp at hi)
  simpa using this
 rw[ey] at hend
 cases c5:gb n T with
 |false =>
  rw[c5,if_neg (by simp)] at oU
  refine aI f2 ?_
  exact bad _ 120 oU
 |true =>
  rw[c5,if_pos rfl] at oU
  refine aw ?_
  refine hL _ _ ?_
  clear hL
  refine Z fun L hL=>?_
  refine aI f2 ?_
  refine hL _ _ ?_
  clear hL
  refine aI f2 ?_
  rw[oU]
  exact hend _ fun i h1 h2=>by rw[ai (by rw[Y.af];omega),Y.aj (by omega)]
theorem aaf(t:Nd)(hz:t.size≤1000000)(ro:Option (List AV))(H:Y):D Tryz.prog 28 [dZ t ro] H (.ret (eu t)) H :=
 aG (Nat.le_refl _) ((MC t hz ro H).dk.mono fun e H1 _ ⟨e1,e2⟩=>by
  subst e1 e2
  exact ny (fun i hi=>ai hi) (MR t (Nat.le_refl _) (aJ rfl)))
theorem FG{n:Nd}{x:ByteArray}{path:List Int}(c1:n.kind=1)(c2:bH n 40=true)(c3:iA n=true):bw n x path=match (bQ n).find? (fun b=>decide (b.1=path)) with
  |none=>(Nd.none,6)
  |some b=>if iZ x=true then (if gb n (bN (bX (path::b.2.2)) x n [])=true then (bN (bX (path::b.2.2)) x n [],0) else (Nd.none,120)) else (Nd.none,2):=by
 unfold bw
 rw[if_pos ⟨c1,c2⟩,if_pos c3]
 rfl
theorem Qo(n:Nd)(hs:n.size≤10000)(x:ByteArray)(path:List Int)(hp:path.length≤1000000)(H:Y):D Tryz.prog 15 [dZ n none,.sc (.string x),.am 1 (aK path) none] H (.ret (.aO [eu (bw n x path).1,.sc (.int .i64 (bw n x path).2)])) H:=by
 have lz:=fun H=>AP n none (by omega) H
 have j7:=fun H=>vJ n (by omega) none (fun _=>trivial) H
 have ob:=fun H=>vH n none (fun _=>trivial) (by omega) H
 rw[←ju] at ob
 have hnm:=fun H=>Ld x H
 have hcp:=fun H=>aaf n (by omega) none H
 have hok:=zB n (by omega)
 have iq:=su n
 have ef:((bQ n).map gy).length=(bQ n).length:=by simp
 rw[ew] at hcp
 rw[aQ] at lz j7 ob hcp ⊢
 have bad:∀(F:Y)(e:Int),(∀i,i<H.length→Y.find F i=Y.find H i)→bw n x path=(Nd.none,e)→eB H (.ret (.aO [.agg [.sc (.int .u8 0),.sc (.string ⟨#[]⟩),.sc (.int .i64 0),.am 0 [] (some [])],.sc (.int .i64 e)])) F (.ret (.aO [eu (bw n x path).1,.sc (.int .i64 (bw n x path).2)])) H:=fun F e hF he=>by
  rw[he]
  refine ny hF (.aO (.cons ?_ (.cons (.same trivial) .nil)))
  rw[ew]
  exact .agg (.cons (.same trivial) (.cons (.same trivial) (.cons (.same trivial) (.cons .nil .nil))))
 have hold:∀(a b:Option aP) i,i<H.length→Y.find (a::b::H) i=Y.find H i:=fun a b i hi=>by rw[ai (by simp;omega),ai hi]
 refine aG (Nat.le_refl _) (aiz (aA ?_))
 simp only[ad6,ux]
 refine Z fun L hL=>?_
 refine aw ?_
 refine hL _ _ ?_
 clear hL
 refine Z fun L hL=>?_
 by_cases c1:n.kind=1
 case neg =>
  have hr:bw n x path=(Nd.none,4):=by unfold bw;rw[if_neg fun h=>c1 h.1]
  refine aI c1 ?_
  exact bad _ 4 (hold _ _) hr
 rw[c1] at lz j7 ob hcp ⊢
 cases c2:bH n 40
 ·have hr:bw n x path=(Nd.none,4):=by unfold bw;rw[if_neg fun h=>by rw[c2] at h;simp at h]
  refine aw ?_
  refine ae (lz _) ?_
  rw[c2]
  refine aw ?_
  exact bad _ 4 (hold _ _) hr
 refine aw ?_
 refine ae (lz _) ?_
 rw[c2]
 cases c3:iA n
 ·have hr:bw n x path=(Nd.none,122):=by unfold bw;rw[if_pos ⟨c1,c2⟩,if_neg (by rw[c3];simp)]
  refine aw ?_
  refine hL _ _ ?_
  clear hL
  refine Z fun L hL=>?_
  refine aw ?_
  refine ae (j7 _) ?_
  rw[c3]
  refine aw ?_
  exact bad _ 122 (hold _ _) hr
 refine aw ?_
 refine hL _ _ ?_
 clear hL
 refine Z fun L hL=>?_
 refine aw ?_
 refine ae (j7 _) ?_
 rw[c3]
 refine aw ?_
 refine hL _ _ ?_
 clear hL
 refine Z fun L hL=>?_
 refine aw ?_
 refine ae (ob _) ?_
 refine aw ?_
 refine hL _ _ ?_
 clear hL
 refine Z fun L hL=>?_
 refine aw ?_
 obtain ⟨F0,gS⟩:∃F0:Y,F0=some ⟨4,[AV.agg [.sc (.int .u8 0),.sc (.string ⟨#[]⟩),.sc (.int .i64 0),.am 0 [] (some [])]],true,25⟩::some ⟨4,[AV.agg [.sc (.int .u8 1),.sc (.string n.text),.sc (.int .i64 n.num),.am 4 (bh n.kids) none]],true,25⟩::H:=⟨_,rfl⟩
 have a0:Y.find F0 H.length=some ⟨4,[AV.agg [.sc (.int .u8 1),.sc (.string n.text),.sc (.int .i64 n.num),.am 4 (bh n.kids) none]],true,25⟩:=by rw[gS,ai (by simp),aJ rfl]
 have a1:Y.find F0 (H.length+1)=some ⟨4,[AV.agg [.sc (.int .u8 0),.sc (.string ⟨#[]⟩),.sc (.int .i64 0),.am 0 [] (some [])]],true,25⟩:=by rw[gS,aJ (by simp)]
 have ah:∀i,i<H.length→Y.find F0 i=Y.find H i:=by rw[gS];exact hold _ _
 have al:F0.length=H.length+2:=by rw[gS];rfl
 rw[←gS]
 clear gS hold
 have hin:=LY c3
 have hval:=fun b hb=>Fx (n:=n) c3 (b:=b) hb
 obtain ⟨l,hl⟩:∃l,bQ n=l:=⟨_,rfl⟩
 have oU:=FG (x:=x) (path:=path) c1 c2 c3
 rw[hl] at hok iq ef hin hval oU ⊢
 clear hl lz j7 ob
 refine hL _ _ ?_
 clear hL
 refine Z fun L hL=>?_
 refine Z fun L hL=>?_
 refine aw ?_
 refine hL _ _ ?_
 clear hL
 refine aZ (fun ts F=>∃(k:Nat)(v:Int),(k≤l.length∧((v=-1∧∀j,j<k→(cS l j).1≠path)∨∃j,j<k∧v=(j:Nat)∧(cS l j).1=path))∧F=F0∧Fr (some (.agg [.sc (.int .u8 1),.sc (.string n.text),.sc (.int .i64 n.num),.am 4 (bh n.kids) none])::some (.sc (.string x))::some (.am 1 (aK path) none)::some (.ptr 4 H.length 0 0)::none::none::some (.ptr 4 (H.length+1) 0 0)::some (.sc (.int .i64 0))::some (.am 3 (l.map gy) none)::some (.sc (.int .i64 v))::some (.sc (.int .i64 k))::none::none::fg (bf (bf []))) ts) (fun ts _=>l.length-(aM (ts.getD 10 .top)).toNat) ?_ ?_
 ·exact ⟨0,-1,⟨Nat.zero_le _,.inl ⟨rfl,fun j h=>absurd h (Nat.not_lt_zero _)⟩⟩,rfl,by simp[Fr]⟩
 rintro ts F ⟨k,v,⟨hk,hv⟩,Ei,aX⟩ L2 bM
 rw[Ei]
 obtain ⟨js,rfl⟩:=aX.opened
 clear aX
 by_cases hd:k<l.length
 ·have d1:(k:Int)<l.length:=by omega
  have hg:=lY hd
  have hsi:=fun H=>oa (cS l k).1 path none none H (by have:=(hok k hd).1;omega)
  by_cases e1:(cS l k).1=path
  ·rw[decide_eq_true e1] at hsi
   refine df (gq d1 hg ef) ?_
   refine ⟨by omega,ae (hsi _) ?_⟩
   refine aw ?_
   exact bM _ _ ⟨k+1,k,⟨by omega,.inr ⟨k,by omega,rfl,e1⟩⟩,rfl,by simp[Fr]⟩ (by simp[aM,mk];omega)
  ·rw[decide_eq_false e1] at hsi
   refine df (gq d1 hg ef) ?_
   refine ⟨by omega,ae (hsi _) ?_⟩
   refine aw ?_
   refine bM _ _ ⟨k+1,v,⟨by omega,?_⟩,rfl,by simp[Fr]⟩ (by simp[aM,mk];omega)
   rcases hv with ⟨hv,hn⟩|⟨j,hj,hv,he⟩
   ·refine .inl ⟨hv,fun j hj=>?_⟩
    rcases Nat.lt_succ_iff_lt_or_eq.1 hj with h'|rfl
    ·exact hn j h'
    ·exact e1
   ·exact .inr ⟨j,by omega,hv,he⟩
 have d1:¬(k:Int)<l.length:=by omega
 have NW:k=l.length:=by omega
 rw[NW] at hv
 refine df (ak d1 ef) ?_
 clear bM
 rcases hv with ⟨rfl,hn⟩|⟨k,fx,rfl,he⟩
 ·have hr:bw n x path=(Nd.none,6):=by
   rw[oU,List.find?_eq_none.2 fun b hb=>by
    obtain ⟨j,hj,rfl⟩:=List.mem_iff_getElem.1 hb
    have:=hn j hj
    simpa [cS,List.getD,hj] using this]
  refine hL _ _ ?_
  clear hL
  refine Z fun L hL=>?_
  refine aI a1 ?_
  exact bad _ 6 (fun i hi=>by rw[Y.aj (by omega),ah i hi]) hr
 have E8:cS l k=l[k]:=by simp[cS,List.getD,fx]
 have hf:l.find? (fun b=>decide (b.1=path))=some (cS l k):=by rw[E8];exact Uo hin fx (by rw[←E8];exact he)
 rw[hf] at oU
 dsimp only at oU
 have I8:=lY fx
 have HA:=hok k fx
 have hvk:=hval (cS l k) (by rw[E8];exact List.getElem_mem _)
 obtain ⟨b,hb⟩:∃b,cS l k=b:=⟨_,rfl⟩
 rw[hb] at hf oU I8 HA hvk he
 clear hb E8 hf
 have k0:¬(k:Int)<0:=by omega
 refine hL _ _ ?_
 clear hL
 refine Z fun L hL=>?_
 refine aI k0 ?_
 refine hL _ _ ?_
 clear hL
 refine Z fun L hL=>?_
 cases c4:iZ x
 ·have hr:bw n x path=(Nd.none,2):=by rw[oU,if_neg (by rw[c4];simp)]
  refine aw ?_
  refine ae (hnm _) ?_
  rw[c4]
  refine aI a1 ?_
  exact bad _ 2 (fun i hi=>by rw[Y.aj (by omega),ah i hi]) hr
 refine aw ?_
 refine ae (hnm _) ?_
 rw[c4]
 refine aw ?_
 refine hL _ _ ?_
 clear hL
 refine Z fun L hL=>?_
 refine aI a0 ?_
 refine ae (hcp _) ?_
 have hw:=fun H=>RO x path n H (by omega) hp (by rw[←he];exact hvk.1)
 rw[Un (by rw[←he];exact hvk.1),aQ,c1] at hw
 have hTs:∀ps,(bN (bX ps) x n []).size=n.size:=fun ps=>xT _ _ _ _
 have hTk:∀ps,(bN (bX ps) x n []).kind=1:=fun ps=>qg.trans c1
 refine aw ?_
 obtain ⟨T0,hT0⟩:∃T0,bN (bX [path]) x n []=T0:=⟨_,rfl⟩
 have aiQ:=hTk [path]
 rw[hT0] at hw aiQ
 have uy:=ew T0
 rw[uy] at hw
 refine ae (hw _) ?_
 refine aw ?_
 rw[←uy]
 refine hL _ _ ?_
 clear hL
 refine Z fun L hL=>?_
 refine Z fun L hL=>?_
 refine aw ?_
 refine hL _ _ ?_
 clear hL
 have tZ:=HA.2.1
 have yN:(bc b.2.2).length=b.2.2.length:=dg _
 refine aZ (fun ts F=>∃j:Nat,j≤b.2.2.length∧(F.length=F0.length+1∧(∀i,i<F0.length→Y.find F i=Y.find F0 i)∧Y.find F F0.length=some ⟨4,[eu (bN (bX (path::b.2.2.take j)) x n [])],true,25⟩)∧Fr (some (.agg [.sc (.int .u8 1),.sc (.string n.text),.sc (.int .i64 n.num),.am 4 (bh n.kids) none])::some (.sc (.string x))::some (.am 1 (aK path) none)::some (.ptr 4 H.length 0 0)::none::none::some (.ptr 4 (H.length+1) 0 0)::some (.sc (.int .i64 0))::some (.am 3 (l.map gy) none)::some (.sc (.int .i64 k))::none::some (.ptr 4 F0.length 0 0)::some (.sc (.int .i64 j))::fg (bf (bf []))) ts) (fun ts _=>b.2.2.length-(aM (ts.getD 12 .top)).toNat) ?_ ?_
 ·exact ⟨0,Nat.zero_le _,⟨rfl,fun i hi=>ai hi,by rw[List.take_zero,hT0];exact aJ rfl⟩,by simp[Fr]⟩
 rintro ts F ⟨j,hj,⟨f0,f1,f2⟩,aX⟩ L2 bM
 obtain ⟨js2,rfl⟩:=aX.opened
 clear aX
 have g0:=(f1 H.length (by omega)).trans a0
 have g1:=(f1 (H.length+1) (by omega)).trans a1
 have hTj:=hTs (path::b.2.2.take j)
 have aiR:=hTk (path::b.2.2.take j)
 by_cases hd:j<b.2.2.length
 ·have d1:(j:Int)<b.2.2.length:=by omega
  have IQ:=nC hd
  have hum:dS b.2.2 j∈b.2.2:=by rw[vI hd];exact List.getElem_mem _
  have BN:=hvk.2 _ hum
  have hlu:=D7 _ _ BN
  have hw:=fun H=>RO x (dS b.2.2 j) (bN (bX (path::b.2.2.take j)) x n []) H (by omega) (by omega) (by rw[vy];exact BN)
  rw[YQ BN,show (path::b.2.2.take j)++[dS b.2.2 j]=path::b.2.2.take (j+1) from by rw[List.cons_append,vI hd,←List.take_append_getElem hd]] at hw
  generalize bN (bX (path::b.2.2.take j)) x n []=T at *
  obtain ⟨T2,hT2⟩:∃T2,bN (bX (path::b.2.2.take (j+1))) x n []=T2:=⟨_,rfl⟩
  rw[hT2] at hw
  have et:=ew T
  have et2:=ew T2
  rw[aQ,et2] at hw
  rw[et] at f2
  refine df (yQ d1 I8 yN IQ f2 ef) ?_
  refine ⟨⟨by omega,by omega⟩,⟨by omega,by omega⟩,by omega,aL (hw _) ?_⟩
  refine df (yQ d1 I8 yN IQ f2 ef) ?_
  rw[←et2,←hT2]
  refine bM _ _ ⟨j+1,by omega,⟨by rw[Y.af];exact f0,fun i hi=>by rw[Y.aj (by omega),f1 i hi],Y.aC (by omega)⟩,by simp[Fr]⟩ (by simp[aM,mk];omega)
 have d1:¬(j:Int)<b.2.2.length:=by omega
 rw[show b.2.2.take j=b.2.2 from List.take_of_length_le (by omega)] at f2 hTj aiR
 clear bM
 have hal:=fun H=>UN n (bN (bX (path::b.2.2)) x n []) (by omega) (by omega) none none (fun _=>trivial) (fun _=>trivial) H
 rw[if_pos c4] at oU
 generalize bN (bX (path::b.2.2)) x n []=T at *
 rw[aQ,aQ,c1] at hal
 rw[ew] at f2
 refine df (ei d1 I8 yN ef) ?_
 refine ⟨⟨by omega,by omega⟩,?_⟩
 refine hL _ _ ?_
 clear hL
 refine Z fun L hL=>?_
 refine aI (ak g0 f2) ?_
 refine ae (hal _) ?_
 have hF:∀i,i<H.length→Y.find F i=Y.find H i:=fun i hi=>(f1 i (by omega)).trans (ah i hi)
 cases c5:gb n T with
 |false =>
  rw[c5,if_neg (by simp)] at oU
  refine aI g1 ?_
  exact bad _ 120 (fun i hi=>by rw[Y.aj (by omega),hF i hi]) oU
 |true =>
  rw[c5,if_pos rfl] at oU
  refine aw ?_
  refine hL _ _ ?_
  clear hL
  refine Z fun L hL=>?_
  refine aI (ak g1 f2) ?_
  refine hL _ _ ?_
  clear hL
  refine aI (ak g1 f2) ?_
  rw[oU]
  refine ny (fun i hi=>by rw[Y.aj (by omega),hF i hi]) (.aO (.cons ?_ (.cons (.same trivial) .nil)))
  have:=aci (F:=Y.set F (H.length+1) (some ⟨4,[.agg [.sc (.int .u8 T.kind),.sc (.string T.text),.sc (.int .i64 T.num),.am 4 (bh T.kids) none]],true,25⟩)) (n0:=H.length) (src:=[]) T none
  rw[aQ] at this
  exact this
def aej:IC:=(.seq (.ops [iH 1 (.box 4 25 (.t 0))]) (.ops [iP 2 (.an 3 (.t 1)),iH 3 (yD 1 2),iH 4 (.call 50 [(.t 3)])]))
theorem aiS:Dk Tryz.prog 18 aej [] 5:=aV Tryz.func18
def aek:IC:=(.seq (.seq (.ops [iP 2 (xI 0)]) (.block 0 (.loop (.seq (.seq (.ops [iM 5 2,iM 6 0,iP 7 (xL 6),iP 8 (xB .lss 5 7)]) (.cond (.t 8) .skip (.exit 0))) (.seq (.block 1 (.ops [iM 11 0,iM 12 2,iP 13 (xA 4 11 12),iH 14 (yA 4 13),iH 15 (.call 18 [(.t 14)])])) (.ops [iM 9 2,iP 10 (.aN .add (.t 9) (kI 1)),iM 2 10])))))) (.seq (.ops [iM 16 0,iM 17 0,iP 18 (xL 17),iP 19 (.aN .add (.t 18) (kI 12)),iP 20 (.qB 4 (.t 16) none (some (.t 19)) none),iM 3 20]) (.seq (.ops [iP 4 (xI 0)]) (.block 2 (.loop (.seq (.seq (.ops [iM 21 4,iM 22 3,iP 23 (xL 22),iP 24 (xB .lss 21 23)]) (.cond (.t 24) .skip (.exit 2))) (.seq (.block 3 (.ops [iM 27 3,iM 28 4,iM 29 4,iH 30 (.call 62 [(kI 2),(.t 29)]),iP 31 (xA 4 27 28),iS 4 31 30])) (.ops [iM 25 4,iP 26 (.aN .add (.t 25) (kI 1)),iM 4 26]))))))))
theorem aiT:Dk Tryz.prog 50 aek [] 32:=aV Tryz.func50
def OvQ(H:Y)(a n:Nat)(e:cH)(H':Y):Prop:=∃v,e = .ret v∧(v = .aO []∧H.length≤H'.length∧∀i,i<H.length→(i<a∨a+n≤i)→Y.find H' i=Y.find H i)
def EM(l:List Nd):Prop:=∀(a:Nat)(H:Y),Nd.ay l≤1000000→Eu H l a→DK Tryz.prog 50 [Er l.length a] H (OvQ H a (1+Nd.ay l))
theorem zI(t:Nd)(h:EM t.kids)(hz:t.size≤1000000)(a:Nat)(H:Y)(hl:iL H t a):DK Tryz.prog 18 [oT t a] H (OvQ H a t.size):=by
 have zX:=Nd.size_eq t
 have hk:=fun G hg=>h a G (by omega) hg
 rw[←zX] at hk
 rw[j8]
 refine aiS (aA ?_)
 simp only[aej,ux]
 refine Z fun L hL=>?_
 refine aw ?_
 refine hL _ _ ?_
 clear hL
 refine aw ?_
 refine gp (hk _ (hl.row.over (.cons .refl))) ?_
 rintro v H' eK ⟨rfl,h1,h2⟩
 refine aw ?_
 simp only[List.length_cons] at h1 h2
 exact ⟨_,rfl,rfl,by omega,fun i hi ho=>by rw[h2 i (by omega) ho,ai hi]⟩
theorem Qp{l:List Nd}{a k:Nat}(hk:k<l.length+12):∃x y z w,(jF l a).getD k .top = .agg [x,y,z,w]:=by
 by_cases c:k<l.length
 ·rw[AW c,j8]
  exact ⟨_,_,_,_,rfl⟩
 ·obtain ⟨t,rfl⟩:∃t,k=l.length+t:=⟨k-l.length,by omega⟩
  rw[Ew (by omega),wm]
  exact ⟨_,_,_,_,rfl⟩
theorem EN(l:List Nd)(ih:∀t∈l,EM t.kids):EM l:=by
 intro a H hz hr
 have hlen:=Nd.fZ l
 have hrow:=hr.row
 refine aiT (aA ?_)
 simp only[aek,ux]
 obtain ⟨m,hm⟩:∃m,m=l.length+12:=⟨_,rfl⟩
 have D9:((l.length:Int)+12).toNat=m:=by omega
 have yI:(jF l a).length=m:=by rw[tA,hm]
 have haH:=Y.ax hrow
 rw[show Er l.length a = .aD 4 a 0 l.length (some m) from by rw[hm]]
 refine Z fun L hL=>?_
 refine Z fun L hL=>?_
 refine fh ?_
 refine hL _ _ ?_
 clear hL
 refine aZ (fun ts F=>∃j:Nat,(j≤l.length∧H.length≤F.length∧∀i,i<H.length→(i<a+1∨a+1+Nd.ay (l.take j)≤i)→Y.find F i=Y.find H i)∧Fr (some (.aD 4 a 0 l.length (some m))::none::some (.sc (.int .i64 j))::none::fg (ir (dL []))) ts) (fun ts _=>l.length-(aM (ts.getD 2 .top)).toNat) ⟨0,⟨Nat.zero_le _,Nat.le_refl _,fun _ _ _=>rfl⟩,by simp[Fr]⟩ ?_
 rintro ts F ⟨j,⟨hj,qi,hF⟩,aX⟩ L2 bM
 obtain ⟨js,rfl⟩:=aX.opened
 clear aX
 have aag:=(hF a haH (.inl (by omega))).trans hrow
 by_cases c1:j<l.length
 ·have c2:(j:Int)<l.length:=by omega
  have xu:=AW (a:=a) c1
  have dW:=eJ c1
  have hsz:=Nd.de dW
  have htk:=iJ c1
  have hkO:=hr.kids.at_ c1
  have hb:∀i,a+1+Nd.ay (l.take j)≤i→i<a+1+Nd.ay (l.take j)+(aE l j).size→i<H.length:=fun i h1 h2=>by
   obtain ⟨xs,hx⟩:∃xs,(mT (aE l j) (a+1+Nd.ay (l.take j)))[i-(a+1+Nd.ay (l.take j))]? = some xs:=⟨_,List.getElem?_eq_getElem (by rw[gf];omega)⟩
   have:=Y.ax (hkO _ _ hx)
   omega
  have hkF:iL F (aE l j) (a+1+Nd.ay (l.take j)):=hkO.of fun i h1 h2=>hF i (hb i h1 h2) (.inr h1)
  have hk:=zI (aE l j) (ih _ dW) (by omega) _ F hkF
  obtain ⟨q,hq⟩:∃q,a+1+Nd.ay (l.take j)=q:=⟨_,rfl⟩
  rw[hq,j8] at xu hk
  rw[hq] at hF
  refine df (ei aag yI c2 xu) ?_
  refine ⟨by omega,by omega,gp hk ?_⟩
  rintro v F2 eK ⟨rfl,h1,h2⟩
  refine yU ?_
  exact bM _ _ ⟨j+1,⟨by omega,by omega,fun i hi ho=>by rw[h2 i (by omega) (by omega),hF i hi (by omega)]⟩,by simp[Fr]⟩ (by simp[aM,mk];omega)
 have c2:¬(j:Int)<l.length:=by omega
 have hje:j=l.length:=by omega
 rw[hje,List.take_length] at hF
 clear bM
 refine df c2 ?_
 refine hL _ _ ?_
 clear hL
 refine Z fun L hL=>?_
 have c0:0<m:=by omega
 refine df (gq D9 c0 @Nat.sub_zero) ?_
 refine ⟨⟨by omega,rfl,by omega,by omega⟩,?_⟩
 refine hL _ _ ?_
 clear hL
 refine Z fun L hL=>?_
 refine fh ?_
 refine hL _ _ ?_
 clear hL
 refine aZ (fun ts G=>∃(k:Nat)(es:List AV),(k≤m∧H.length≤G.length∧∀i,i<H.length→(i<a∨a+1+Nd.ay l≤i)→Y.find G i=Y.find H i)∧(Y.find G a=some ⟨4,es,true,25⟩∧es.length=m∧∀k,k<m→∃x y z w,es.getD k .top = .agg [x,y,z,w])∧Fr (some (.aD 4 a 0 l.length (some m))::none::none::some (.aD 4 a 0 m (some m))::some (.sc (.int .i64 k))::none::none::none::ir (dL [])) ts) (fun ts _=>m-(aM (ts.getD 4 .top)).toNat) ?_ ?_
 ·exact ⟨0,_,⟨Nat.zero_le _,qi,fun i hi ho=>hF i hi (by omega)⟩,⟨aag,yI,fun k hk=>Qp (by omega)⟩,by simp[Fr]⟩
 clear hF aag
 rintro ts G ⟨k,es,⟨hk,Ej,hG⟩,⟨g1,g2,g3⟩,aX⟩ L2 bM
 obtain ⟨js2,rfl⟩:=aX.opened
 clear aX
 by_cases c1:k<m
 ·have c3:(k:Int)<m:=by omega
  have hmk:=fun H=>qY 2 k H
  simp only[wm] at hmk
  obtain ⟨x,y,z,w,he⟩:=g3 k c1
  refine df c3 ?_
  refine ae (hmk _) ?_
  refine df (ei c3 g1 g2 he) ?_
  have haG:=Y.ax g1
  refine ⟨by omega,c1,bM _ _ ⟨k+1,_,⟨by omega,by rw[Y.af];exact Ej,fun i hi ho=>by rw[Y.aj (by omega),hG i hi ho]⟩,⟨Y.aC haG,by rw[List.length_set];exact g2,fun k' hk'=>?_⟩,by simp[Fr]⟩ (by simp[aM,mk];omega)⟩
  by_cases e:k=k'
  ·subst e
   exact ⟨_,_,_,_,by rw[List.getD_eq_getElem?_getD,List.getElem?_set_self (by omega)];rfl⟩
  ·obtain ⟨x',y',z',w',he'⟩:=g3 k' hk'
   exact ⟨x',y',z',w',by rw[←he'];simp[List.getD,List.getElem?_set_ne e]⟩
 have c3:¬(k:Int)<m:=by omega
 clear bM
 refine df c3 ?_
 exact ⟨_,rfl,rfl,Ej,fun i hi ho=>hG i hi (by omega)⟩
theorem MX(l:List Nd):EM l:=by
 have key:∀n:Nat,∀l:List Nd,Nd.ay l≤n→EM l:=by
  intro n
  induction n with
  |zero =>
   intro l h
   refine EN l fun t ht=>?_
   have:=Nd.de ht
   have:=t.size_pos
   omega
  |succ n ih =>
   intro l h
   refine EN l fun t ht=>ih _ ?_
   have:=Nd.de ht
   have:=Nd.size_eq t
   omega
 exact key _ l (Nat.le_refl _)
theorem MY(t:Nd)(hz:t.size≤1000000)(a:Nat)(H:Y)(hl:iL H t a):DK Tryz.prog 18 [oT t a] H (OvQ H a t.size):=zI t (MX _) hz a H hl
def Qq:ByteArray:=⟨#[102,117,110,99,32,102,40,97,41,32,123,32,118,97,114,32,98,32,61,32,97,59,32,125]⟩
def Qr:ByteArray:=⟨#[102,117,110,99,32,103,40,120,41,32,123,32,118,97,114,32,97,32,61,32,120,59,32,125]⟩
def Jj:ByteArray:=⟨#[102,117,110,99,32,102,40,97,41,32,123,32,118,97,114,32,98,32,61,32,97,59,32,112,114,105,110,116,32,97,59,32,125]⟩
def Qs:ByteArray:=⟨#[102,117,110,99,32,103,40,120,41,32,123,32,118,97,114,32,120,32,61,32,120,59,32,125]⟩
def Qt:ByteArray:=⟨#[102,117,110,99,32,102,40,98,41,32,123,32,118,97,114,32,98,32,61,32,98,59,32,125]⟩
def tF:Nd:=⟨1,⟨#[]⟩,0,[⟨2,⟨#[102]⟩,0,[⟨3,⟨#[]⟩,0,[⟨4,⟨#[97]⟩,0,[]⟩]⟩,⟨5,⟨#[]⟩,0,[⟨6,⟨#[98]⟩,0,[⟨22,⟨#[97]⟩,0,[]⟩]⟩]⟩]⟩]⟩
def EO:Nd:=⟨1,⟨#[]⟩,0,[⟨2,⟨#[103]⟩,0,[⟨3,⟨#[]⟩,0,[⟨4,⟨#[120]⟩,0,[]⟩]⟩,⟨5,⟨#[]⟩,0,[⟨6,⟨#[97]⟩,0,[⟨22,⟨#[120]⟩,0,[]⟩]⟩]⟩]⟩]⟩
def zJ:Nd:=⟨1,⟨#[]⟩,0,[⟨2,⟨#[102]⟩,0,[⟨3,⟨#[]⟩,0,[⟨4,⟨#[97]⟩,0,[]⟩]⟩,⟨5,⟨#[]⟩,0,[⟨6,⟨#[98]⟩,0,[⟨22,⟨#[97]⟩,0,[]⟩]⟩,⟨11,⟨#[]⟩,0,[⟨22,⟨#[97]⟩,0,[]⟩]⟩]⟩]⟩]⟩
def EP:Nd:=⟨1,⟨#[]⟩,0,[⟨2,⟨#[103]⟩,0,[⟨3,⟨#[]⟩,0,[⟨4,⟨#[120]⟩,0,[]⟩]⟩,⟨5,⟨#[]⟩,0,[⟨6,⟨#[120]⟩,0,[⟨22,⟨#[120]⟩,0,[]⟩]⟩]⟩]⟩]⟩
def EQ:Nd:=⟨1,⟨#[]⟩,0,[⟨2,⟨#[102]⟩,0,[⟨3,⟨#[]⟩,0,[⟨4,⟨#[98]⟩,0,[]⟩]⟩,⟨5,⟨#[]⟩,0,[⟨6,⟨#[98]⟩,0,[⟨22,⟨#[98]⟩,0,[]⟩]⟩]⟩]⟩]⟩
def ic8:IC:=(.seq (.ops [iP 0 (.mv kF)]) (.seq (.ops [⟨(some 7),none,(.h (.call 20 [(.k (.sc (.string ⟨#[102,117,110,99,32,102,40,97,41,32,123,32,118,97,114,32,98,32,61,32,97,59,32,125]⟩)))]))⟩,⟨(some 8),none,(.h (.call 20 [(.k (.sc (.string ⟨#[102,117,110,99,32,103,40,120,41,32,123,32,118,97,114,32,97,32,61,32,120,59,32,125]⟩)))]))⟩,⟨(some 1),none,(.h (.alloc (.agg [(.sc (.int .u8 0)),(.sc (.string ⟨#[]⟩)),(.sc (.int .i64 0)),bG]) 25))⟩,⟨(some 2),none,(.h (.alloc (.agg [(.sc (.int .u8 0)),(.sc (.string ⟨#[]⟩)),(.sc (.int .i64 0)),bG]) 25))⟩,iS 4 1 7,iS 4 2 8]) (.seq (.ops [iH 10 (yA 4 1),iH 11 (.ep 1 3 (.sc (.int .i64 0)) 3 [(0,(kI 0)),(1,(kI 0)),(2,(kI 0))]),⟨(some 12),none,(.h (.call 14 [(.t 10),(.k (.sc (.string ⟨#[98]⟩))),(.t 11)]))⟩,iM 9 12,iP 13 (.ext (.t 9) 0),iP 14 (.ext (.t 9) 1),⟨(some 3),none,(.h (.alloc (.agg [(.sc (.int .u8 0)),(.sc (.string ⟨#[]⟩)),(.sc (.int .i64 0)),bG]) 25))⟩,iS 4 3 13,iM 4 14]) (.seq (.ops [⟨(some 16),none,(.h (.call 20 [(.k (.sc (.string ⟨#[102,117,110,99,32,102,40,97,41,32,123,32,118,97,114,32,98,32,61,32,97,59,32,112,114,105,110,116,32,97,59,32,125]⟩)))]))⟩,iH 17 (.ep 1 3 (.sc (.int .i64 0)) 3 [(0,(kI 0)),(1,(kI 0)),(2,(kI 0))]),⟨(some 18),none,(.h (.call 14 [(.t 16),(.k (.sc (.string ⟨#[98]⟩))),(.t 17)]))⟩,iM 15 18,iP 19 (.ext (.t 15) 0),iP 20 (.ext (.t 15) 1),⟨(some 5),none,(.h (.alloc (.agg [(.sc (.int .u8 0)),(.sc (.string ⟨#[]⟩)),(.sc (.int .i64 0)),bG]) 25))⟩,iS 4 5 19,iM 6 20]) (.seq (.di [iH 21 (yA 4 1),iH 22 (yA 4 2),iH 23 (yC 10 21 22),iM 24 23,gH 25 24 true (yA 4 1),⟨(some 26),(some (24,true)),(.h (.call 20 [(.k (.sc (.string ⟨#[102,117,110,99,32,103,40,120,41,32,123,32,118,97,114,32,120,32,61,32,120,59,32,125]⟩)))]))⟩,gH 27 24 true (yC 10 25 26),iP 28 (.pick (.t 24) (.t 27) kF),iM 29 28,gM 30 29 true 4,gP 31 29 true (.aN .eql (.t 30) (kI 0)),iP 32 (.pick (.t 29) (.t 31) kF),iM 33 32,gH 34 33 true (yA 4 3),⟨(some 35),(some (33,true)),(.h (.call 20 [(.k (.sc (.string ⟨#[102,117,110,99,32,102,40,98,41,32,123,32,118,97,114,32,98,32,61,32,98,59,32,125]⟩)))]))⟩,gH 36 33 true (yC 16 34 35),iP 37 (.pick (.t 33) (.t 36) kF),iM 38 37,gM 39 38 true 6,gP 40 38 true (.aN .eql (.t 39) (kI 120)),iP 41 (.pick (.t 38) (.t 40) kF),iM 0 41] [[],[],[0,1],[2,0,1],[3,2,0,1],[3,2,0,1],[4,3,2,0,1,5],[3,2,0,1,6,4,5],[7,3,2,0,1,6,4,5],[8,7,3,2,0,1,6,4,5],[9,8,7,3,2,0,1,6,4,5],[8,7,3,2,0,1,6,4,5,10,9],[11,8,7,3,2,0,1,6,4,5,10,9],[12,11,8,7,3,2,0,1,6,4,5,10,9],[12,11,8,7,3,2,0,1,6,4,5,10,9],[13,12,11,8,7,3,2,0,1,6,4,5,10,9,14],[12,11,8,7,3,2,0,1,6,4,5,10,9,15,13,14],[16,12,11,8,7,3,2,0,1,6,4,5,10,9,15,13,14],[17,16,12,11,8,7,3,2,0,1,6,4,5,10,9,15,13,14],[18,17,16,12,11,8,7,3,2,0,1,6,4,5,10,9,15,13,14],[17,16,12,11,8,7,3,2,0,1,6,4,5,10,9,15,13,14,19,18],[20,17,16,12,11,8,7,3,2,0,1,6,4,5,10,9,15,13,14,19,18]]) .ret)))))
theorem dk8:Dk Tryz.prog 8 ic8 [(.t 0)] 42:=aV Tryz.func8
def tG(t:Nd):Bool:=decide (t.size≤1000) && decide (t.wt≤10000)
theorem qx{t:Nd}(h:tG t=true):t.size≤1000∧t.wt≤10000:=by
 simpa [tG] using h
theorem Qu:tG tF=true:=by kernel_rfl
theorem Qv:tG EO=true:=by kernel_rfl
theorem MZ:tG zJ=true:=by kernel_rfl
theorem Qw:tG EP=true:=by kernel_rfl
theorem Qx:tG EQ=true:=by kernel_rfl
theorem aah:gb tF EO=true:=by kernel_rfl
theorem aai:gb tF EP=true:=by kernel_rfl
theorem Qy:(bw tF ⟨#[98]⟩ [0,0,0]).2=0:=by kernel_rfl
theorem Qz:nr (bw tF ⟨#[98]⟩ [0,0,0]).1 EQ=true:=by kernel_rfl
theorem QA:(bw zJ ⟨#[98]⟩ [0,0,0]).2=120:=by kernel_rfl
theorem aaj:decide ((bw tF ⟨#[98]⟩ [0,0,0]).1.size≤1000)=true:=by kernel_rfl
def RU(x:AV)(f n:Nat)(ag:Bool):Bool:=if ag then decide (f+n≤x.cells.length) else decide (f<x.cells.length)
theorem M0{x:AV}{f n:Nat}{ag:Bool}(h:RU x f n ag=true):AV.jv x f n ag:=by
 unfold RU at h
 unfold AV.jv
 cases ag<;>simpa using h
def RX(ev:X→AV):Option X→Bool
 |none=>true
 |some x=>match ev x with
  |.sc (.int _ n)=>decide (0≤n)
  |_=>false
theorem M1{ev:X→AV}{o:Option X}(h:RX ev o=true):ox ev o:=by
 cases o with
 |none=>trivial
 |some x =>
  simp only[RX] at h
  simp only[ox]
  split at h
  ·rename_i e;rw[e];exact of_decide_eq_true h
  ·cases h
def Jk(ev:X→AV):List AV→List (Nat×Nat×X)→Bool
 |_,[]=>true
 |zs,(off,n,x)::r=>(!(ev x).bT && (decide ((ev x).az=n) && decide (off+n≤zs.length))) && Jk ev (zs.take off++(ev x).cells++zs.drop (off+n)) r
theorem HB{ev:X→AV}:∀{ps:List (Nat×Nat×X)}{zs:List AV},Jk ev zs ps=true→qO ev zs ps
 |[],_,_=>trivial
 |(off,n,x)::r,zs,h=>by
  simp only[Jk,Bool.and_eq_true,Bool.not_eq_true',decide_eq_true_eq] at h
  exact ⟨⟨h.1.1,h.1.2.1,h.1.2.2⟩,HB h.2⟩
def okB(ev:X→AV):PO→Bool
 |.mv _=>true
 |.pick c _ _=>match ev c with
  |.sc (.bool _)=>true
  |_=>false
 |.aN op x y=>match ev x with
  |.sc u=>match ev y with
   |.sc v=>(wC op u v).isSome
   |_=>false
  |_=>false
 |.un op x=>match ev x with
  |.sc u=>(JC op u).isSome
  |_=>false
 |.conv _ x=>match ev x with
  |.sc (.int _ _)=>true
  |_=>false
 |.bV x=>match ev x with
  |.ptr k _ _ f=>decide (0<k)|| decide (0<f)
  |.lp _ _=>true
  |_=>false
 |.an _ x=>match ev x with
  |.ptr k _ _ _=>decide (0<k)
  |.lp _ _=>true
  |_=>false
 |.gm k x i=>match ev i with
  |.sc (.int _ n)=>match ev x with
   |.am k' xs _=>decide (0≤n) && (decide (n<(xs.length:Int)) && decide (k'=k))
   |.aD k' _ _ m _=>decide (0≤n) && (decide (n<(m:Int)) && (decide (k'=k) && decide (0<k)))
   |_=>false
  |_=>false
 |.kK x i=>match ev x with
  |.sc (.string s)=>match ev i with
   |.sc (.int _ n)=>decide (0≤n) && decide (n<(s.size:Int))
   |_=>false
  |_=>false
 |.rL x lo hi=>match ev x with
  |.sc (.string s)=>RX ev lo && (RX ev hi && (decide (gK ev 0 lo≤gK ev s.size hi) && decide (gK ev s.size hi≤s.size)))
  |_=>false
 |.len x=>match ev x with
  |.am _ _ _=>true
  |.aD _ _ _ _ _=>true
  |_=>false
 |.nN x=>match ev x with
  |.sc (.string _)=>true
  |_=>false
 |.ext x i=>match ev x with
  |.aO vs=>decide (i<vs.length)
  |_=>false
 |.build zs ps=>Jk ev zs ps
 |_=>false
theorem RY{ev:X→AV}{q:PO}(h:okB ev q=true):q.ok ev:=by
 cases q with
 |mv x=>trivial
 |build zs ps=>exact HB h
 |pick c a b =>
  simp only[okB] at h
  simp only[PO.ok]
  split at h
  ·rename_i e;rw[e];trivial
  ·cases h
 |aN op x y =>
  simp only[okB] at h
  simp only[PO.ok]
  split at h
  ·rename_i e
   split at h
   ·rename_i e2;rw[e,e2];exact h
   ·cases h
  ·cases h
 |un op x =>
  simp only[okB] at h
  simp only[PO.ok]
  split at h
  ·rename_i e;rw[e];exact h
  ·cases h
 |conv k x =>
  simp only[okB] at h
  simp only[PO.ok]
  split at h
  ·rename_i e;rw[e];trivial
  ·cases h
 |bV x =>
  simp only[okB] at h
  simp only[PO.ok]
  split at h
  ·rename_i e;rw[e];simpa [C9] using h
  ·rename_i e;rw[e];trivial
  ·cases h
 |an o x =>
  simp only[okB] at h
  simp only[PO.ok]
  split at h
  ·rename_i e;rw[e];simpa [Da] using h
  ·rename_i e;rw[e];trivial
  ·cases h
 |gm k x i =>
  simp only[okB] at h
  simp only[PO.ok]
  split at h
  ·rename_i e
   split at h
   ·rename_i e2;rw[e,e2];simpa [uN] using h
   ·rename_i e2;rw[e,e2];simpa [uN] using h
   ·cases h
  ·cases h
 |kK x i =>
  simp only[okB] at h
  simp only[PO.ok]
  split at h
  ·rename_i e
   split at h
   ·rename_i e2;rw[e,e2];simpa [Ch] using h
   ·cases h
  ·cases h
 |rL x lo hi =>
  simp only[okB] at h
  simp only[PO.ok]
  split at h
  ·rename_i e
   simp only[Bool.and_eq_true,decide_eq_true_eq] at h
   rw[e]
   exact ⟨trivial,M1 h.1,M1 h.2.1,h.2.2.1,h.2.2.2⟩
  ·cases h
 |len x =>
  simp only[okB] at h
  simp only[PO.ok]
  split at h
  ·rename_i e;rw[e];trivial
  ·rename_i e;rw[e];trivial
  ·cases h
 |nN x =>
  simp only[okB] at h
  simp only[PO.ok]
  split at h
  ·rename_i e;rw[e];trivial
  ·cases h
 |ext x i =>
  simp only[okB] at h
  simp only[PO.ok]
  split at h
  ·rename_i e;rw[e];simpa [Oc] using h
  ·cases h
 |_=>cases h
def B2:Nat→Y→Nat→Option aP
 |_,[],_=>none
 |0,_::_,_=>none
 |n+1,b::r,i=>if i=n then b else B2 n r i
theorem nL:∀{H:Y}{i:Nat},B2 H.length H i=Y.find H i
 |[],_=>rfl
 |b::r,i=>by
  show (if i=r.length then b else B2 r.length r i)=_
  simp only[Y.find,nL (H:=r)]
def stt:Nat→Y→Nat→Option aP→Y
 |_,[],_,_=>[]
 |0,b::r,_,_=>b::r
 |n+1,b::r,i,x=>if i=n then x::r else b::stt n r i x
theorem Jl:∀{H:Y}{i:Nat}{x:Option aP},stt H.length H i x=Y.set H i x
 |[],_,_=>rfl
 |b::r,i,x=>by
  show (if i=r.length then x::r else b::stt r.length r i x)=_
  simp only[Y.set,Jl (H:=r)]
def ldE(H:Y)(n:Nat)(ag:Bool):AV→AV
 |.ptr _ id j f=>match B2 H.length H id with
  |some blk=>AV.sub (blk.es.getD j .top) f n ag
  |none=>.top
 |.lp x f=>AV.sub x f n ag
 |_=>.top
theorem Jm{H:Y}{n:Nat}{ag:Bool}{a:AV}:ldE H n ag a=Fm H n ag a:=by
 cases a<;>simp only[ldE,Fm,nL]<;>rfl
def stE(H:Y):AV→AV→Y
 |.ptr k id j f,x=>match B2 H.length H id with
  |some blk=>stt H.length H id (some { blk with es:=blk.es.set j (AV.lq (blk.es.getD j .top) f x) })
  |none=>H
 |_,_=>H
theorem RZ{H:Y}{a x:AV}:stE H a x=yK H a x:=by
 cases a<;>simp only[stE,yK,nL,Jl]<;>rfl
def lsE(H:Y):AV→List AV
 |.am _ ys _=>ys
 |.aD _ id off n _=>match B2 H.length H id with
  |some blk=>(blk.es.drop off).take n
  |none=>[]
 |_=>[]
theorem Jn{H:Y}{a:AV}:lsE H a=pb H a:=by
 cases a<;>simp only[lsE,pb,nL]<;>rfl
def apE(H:Y)(k ty:Nat)(ys:List AV):AV→Y
 |.aD k' id off n none=>match B2 H.length H id with
  |some blk=>some ⟨k,blk.es++ys,false,ty⟩::stt H.length H id none
  |none=>H
 |a=>jx H k ty ys a
theorem acn{H:Y}{k ty:Nat}{ys:List AV}{a:AV}:apE H k ty ys a=jx H k ty ys a:=by
 unfold apE
 split
 ·simp only[jx,nL,Jl]
  rfl
 ·rfl
def R1(ev:X→AV)(H:Y):HO→AV
 |.load n ag a=>ldE H n ag (ev a)
 |.ez k _ s x=>lB H k (lsE H (ev x)) (ev s)
 |q=>q.uO ev H
theorem od{ev:X→AV}{H:Y}{q:HO}:R1 ev H q=q.uO ev H:=by
 cases q<;>simp only[R1,HO.uO,Jm,Jn]
def Jo(ev:X→AV)(H:Y):HO→Y
 |.store _ a x=>stE H (ev a) (ev x)
 |.ez k ty s x=>apE H k ty (lsE H (ev x)) (ev s)
 |q=>q.pS ev H
theorem lZ{ev:X→AV}{H:Y}{q:HO}:Jo ev H q=q.pS ev H:=by
 cases q<;>simp only[Jo,HO.pS,RZ,acn,Jn]
def ldB(H:Y)(n:Nat)(ag:Bool):AV→Bool
 |.ptr k id j f=>match B2 H.length H id with
  |some blk=>decide (blk.k=k) && (decide (j<blk.es.length) && (RU (blk.es.getD j .top) f n ag && decide (0<k)))
  |none=>false
 |.lp x f=>RU x f n ag
 |_=>false
theorem Jp{H:Y}{n:Nat}{ag:Bool}{a:AV}(h:ldB H n ag a=true):wG H n ag a:=by
 cases a with
 |ptr k id j f =>
  simp only[ldB,nL] at h
  simp only[wG]
  split at h
  ·rename_i e
   rw[e]
   simp only[Bool.and_eq_true,decide_eq_true_eq] at h
   exact ⟨h.1,h.2.1,M0 h.2.2.1,h.2.2.2⟩
  ·cases h
 |lp x f=>exact M0 h
 |_=>cases h
def stB(H:Y)(n:Nat):AV→AV→Bool
 |.ptr k id j f,x=>match B2 H.length H id with
  |some blk=>decide (blk.k=k) && (decide (j<blk.es.length) && (!x.bT && (decide (x.az=n) && (decide (f+n≤(blk.es.getD j .top).az) && (((blk.es.getD j .top).isAgg|| !x.isAgg) && decide (0<k))))))
  |none=>false
 |_,_=>false
theorem R2{H:Y}{n:Nat}{a x:AV}(h:stB H n a x=true):Bo H n a x:=by
 cases a with
 |ptr k id j f =>
  simp only[stB,nL] at h
  simp only[Bo]
  split at h
  ·rename_i e
   rw[e]
   simp only[Bool.and_eq_true,Bool.not_eq_true',decide_eq_true_eq] at h
   exact ⟨h.1,h.2.1,h.2.2.1,h.2.2.2.1,h.2.2.2.2.1,h.2.2.2.2.2.1,h.2.2.2.2.2.2⟩
  ·cases h
 |_=>cases h
def HC(ev:X→AV)(k:Nat):List AV→List (Nat×X)→Bool
 |_,[]=>true
 |es,(i,x)::r=>(!(ev x).bT && (decide ((ev x).az=k) && decide (i<es.length))) && HC ev k (es.set i (ev x)) r
theorem zK{ev:X→AV}{k:Nat}:∀{ps:List (Nat×X)}{es:List AV},HC ev k es ps=true→nn ev k es ps
 |[],_,_=>trivial
 |(i,x)::r,es,h=>by
  simp only[HC,Bool.and_eq_true,Bool.not_eq_true',decide_eq_true_eq] at h
  exact ⟨⟨h.1.1,h.1.2.1,h.1.2.2⟩,zK h.2⟩
def lsB(H:Y)(k:Nat):AV→Bool
 |.am k' ys _=>decide (k'=k)|| ys.isEmpty
 |.aD k' id off n _=>match B2 H.length H id with
  |some blk=>decide (k'=k) && (decide (blk.k=k) && decide (off+n≤blk.es.length))
  |none=>false
 |_=>false
theorem aco{H:Y}{k:Nat}{a:AV}(h:lsB H k a=true):wH H k a:=by
 cases a with
 |am k' ys r=>simpa [lsB,wH] using h
 |aD k' id off n c =>
  simp only[lsB,nL] at h
  simp only[wH]
  split at h
  ·rename_i e
   rw[e]
   simpa using h
  ·cases h
 |_=>cases h
def apB(H:Y)(k ty:Nat)(ys:List AV):AV→Bool
 |.am k' xs (some [])=>(decide (k'=k)|| xs.isEmpty) && decide (xs.length+ys.length≤100000000)
 |.aD k' id off n none=>match B2 H.length H id with
  |some blk=>(decide (k'=k) && (decide (blk.k=k) && (decide (blk.ty=ty) && (decide (off=0) && decide (n+ys.length≤100000000))))) && (!blk.exact && decide (n=blk.es.length))
  |none=>false
 |_=>false
theorem acp{H:Y}{k ty:Nat}{ys:List AV}{a:AV}(h:apB H k ty ys a=true):gN H k ty ys a:=by
 unfold apB at h
 split at h
 ·simpa [gN] using h
 ·rw[nL] at h
  split at h
  ·rename_i e
   simp only[gN]
   rw[e]
   simpa using h
  ·cases h
 ·cases h
def Co:AV→Bool
 |.sc (.int _ _)=>true
 |_=>false
theorem ER{a:AV}(h:Co a=true):qP a:=by
 unfold Co at h
 split at h
 ·trivial
 ·cases h
def UY(ev:X→AV)(H:Y):HO→Bool
 |.load n ag a=>ldB H n ag (ev a)
 |.alloc _ _=>true
 |.box k _ x=>!(ev x).bT && decide ((ev x).az=k)
 |.ep k _ z ln ps=>HC ev k (List.replicate ln z) ps
 |.kN k _ z ln ps=>HC ev k (List.replicate ln z) ps
 |.store n a x=>stB H n (ev a) (ev x)
 |.jM _ _ _ l c=>Co (ev l) && (Co (ev c) && (decide (0≤aM (ev l)) && (decide (aM (ev l)≤aM (ev c)) && decide (aM (ev c)≤100000000))))
 |.ez k ty s x=>lsB H k (ev x) && apB H k ty (lsE H (ev x)) (ev s)
 |_=>false
theorem qZ{ev:X→AV}{H:Y}{q:HO}(h:UY ev H q=true):q.Fo ev H:=by
 cases q with
 |load n ag a=>exact Jp h
 |alloc z ty=>trivial
 |box k ty x=>simpa [UY,HO.Fo] using h
 |ep k ty z ln ps=>exact zK h
 |kN k ty z ln ps=>exact zK h
 |store n a x=>exact R2 h
 |jM k ty z l c =>
  simp only[UY,Bool.and_eq_true,decide_eq_true_eq] at h
  exact ⟨ER h.1,ER h.2.1,h.2.2.1,h.2.2.2.1,h.2.2.2.2⟩
 |ez k ty s x =>
  simp only[UY,Bool.and_eq_true,Jn] at h
  exact ⟨aco h.1,acp h.2⟩
 |_=>cases h
abbrev oM:=FuncId→List AV→Y→Option (AV×Y)
def zL(P:Program)(call:oM):Prop:=∀f fw H v H',call f fw H=some (v,H')→D P f fw H (.ret v) H'
def HD(ts:List AV):Option (Nat×Bool)→Option Bool
 |none=>some true
 |some (d,want)=>match ts.getD d .top with
  |.sc (.bool b)=>some (b == want)
  |.aO _=>some false
  |_=>none
theorem R3{ts:List AV}{g:Option (Nat×Bool)}{p q:Prop}(h:HD ts g=some true)(hp:p):cI ts p q g:=by
 cases g with
 |none=>exact hp
 |some dw =>
  obtain ⟨d,want⟩:=dw
  simp only[HD] at h
  simp only[cI]
  split at h
  ·rename_i b e
   rw[e]
   have:b=want:=by simpa using h
   exact ⟨fun _=>hp,fun hn=>absurd this hn⟩
  ·cases h
  ·cases h
theorem R4{ts:List AV}{g:Option (Nat×Bool)}{p q:Prop}(h:HD ts g=some false)(hq:q):cI ts p q g:=by
 cases g with
 |none=>cases h
 |some dw =>
  obtain ⟨d,want⟩:=dw
  simp only[HD] at h
  simp only[cI]
  split at h
  ·rename_i b e
   rw[e]
   have:b≠want:=by simpa using h
   exact ⟨fun hn=>absurd hn this,fun _=>hq⟩
  ·rename_i e
   rw[e]
   exact hq
  ·cases h
def ET(call:oM)(ts:List AV)(H:Y):eX→Option (AV×Y)
 |.p q=>if okB (X.ev ts) q then some (q.val (X.ev ts),H) else none
 |.h (.call f fw)=>call f (fw.map (X.ev ts)) H
 |.h q=>if UY (X.ev ts) H q then some (R1 (X.ev ts) H q,Jo (X.ev ts) H q) else none
theorem acq{P:Program}{call:oM}(hc:zL P call){ts:List AV}{H:Y}{op:eX}{v:AV}{H':Y}(h:ET call ts H op=some (v,H')){C Cp:AV→Y→Prop}(hC:C v H'):Ks P (X.ev ts) H C Cp op:=by
 cases op with
 |p q =>
  simp only[ET] at h
  split at h
  ·rename_i hk
   obtain ⟨rfl,rfl⟩:=Prod.mk.inj (Option.some.inj h)
   exact ⟨RY hk,hC⟩
  ·cases h
 |h q =>
  cases q with
  |call f fw =>
   exact (hc f _ H v H' h).dk.mono fun e H1 _ ⟨h1,h2⟩=>by subst h1 h2;exact hC
  |load n ag a =>
   simp only[ET] at h
   split at h
   ·rename_i hk
    obtain ⟨rfl,rfl⟩:=Prod.mk.inj (Option.some.inj h)
    rw[od,lZ] at hC
    exact ⟨qZ hk,hC⟩
   ·cases h
  |alloc z ty =>
   simp only[ET] at h
   split at h
   ·rename_i hk
    obtain ⟨rfl,rfl⟩:=Prod.mk.inj (Option.some.inj h)
    rw[od,lZ] at hC
    exact ⟨qZ hk,hC⟩
   ·cases h
  |box k ty x =>
   simp only[ET] at h
   split at h
   ·rename_i hk
    obtain ⟨rfl,rfl⟩:=Prod.mk.inj (Option.some.inj h)
    rw[od,lZ] at hC
    exact ⟨qZ hk,hC⟩
   ·cases h
  |jM k ty z l c =>
   simp only[ET] at h
   split at h
   ·rename_i hk
    obtain ⟨rfl,rfl⟩:=Prod.mk.inj (Option.some.inj h)
    rw[od,lZ] at hC
    exact ⟨qZ hk,hC⟩
   ·cases h
  |ep k ty z ln ps =>
   simp only[ET] at h
   split at h
   ·rename_i hk
    obtain ⟨rfl,rfl⟩:=Prod.mk.inj (Option.some.inj h)
    rw[od,lZ] at hC
    exact ⟨qZ hk,hC⟩
   ·cases h
  |kN k ty z ln ps =>
   simp only[ET] at h
   split at h
   ·rename_i hk
    obtain ⟨rfl,rfl⟩:=Prod.mk.inj (Option.some.inj h)
    rw[od,lZ] at hC
    exact ⟨qZ hk,hC⟩
   ·cases h
  |store n a x =>
   simp only[ET] at h
   split at h
   ·rename_i hk
    obtain ⟨rfl,rfl⟩:=Prod.mk.inj (Option.some.inj h)
    rw[od,lZ] at hC
    exact ⟨qZ hk,hC⟩
   ·cases h
  |ez k ty s x =>
   simp only[ET] at h
   split at h
   ·rename_i hk
    obtain ⟨rfl,rfl⟩:=Prod.mk.inj (Option.some.inj h)
    rw[od,lZ] at hC
    exact ⟨qZ hk,hC⟩
   ·cases h
  |_=>cases h
def eqS:Value→Value→Bool
 |.int k n,.int k' n'=>decide (k=k') && decide (n=n')
 |.bool b,.bool c=>b == c
 |.string x,.string y=>decide (x=y)
 |_,_=>false
theorem R5{u v:Value}(h:eqS u v=true):u=v:=by
 unfold eqS at h
 split at h
 ·simp only[Bool.and_eq_true,decide_eq_true_eq] at h
  rw[h.1,h.2]
 ·rw[eq_of_beq h]
 ·rw[of_decide_eq_true h]
 ·cases h
mutual
def rM:AV→AV→Bool
 |.sc u,.sc v=>eqS u v
 |.am k xs none,.am k' ys none=>decide (k=k') && FH xs ys
 |.am k xs (some []),.am k' ys (some [])=>decide (k=k') && FH xs ys
 |.aD k id off n c,.aD k' id' off' n' c'=>decide (k=k') && (decide (id=id') && (decide (off=off') && (decide (n=n') && decide (c=c'))))
 |.ptr k id j f,.ptr k' id' j' f'=>decide (k=k') && (decide (id=id') && (decide (j=j') && decide (f=f')))
 |.agg xs,.agg ys=>FH xs ys
 |.aO xs,.aO ys=>FH xs ys
 |_,_=>false
def FH:List AV→List AV→Bool
 |[],[]=>true
 |x::r,y::s=>rM x y && FH r s
 |_,_=>false
end
mutual
theorem acr:∀{x y:AV},rM x y=true→x=y
 |.sc u,.sc v,h=>by
  have e:u=v:=R5 (by simpa only[rM] using h)
  rw[e]
 |.am k xs none,.am k' ys none,h=>by
  simp only[rM,Bool.and_eq_true,decide_eq_true_eq] at h
  rw[h.1,nM h.2]
 |.am k xs (some []),.am k' ys (some []),h=>by
  simp only[rM,Bool.and_eq_true,decide_eq_true_eq] at h
  rw[h.1,nM h.2]
 |.aD k id off n c,.aD k' id' off' n' c',h=>by
  simp only[rM,Bool.and_eq_true,decide_eq_true_eq] at h
  rw[h.1,h.2.1,h.2.2.1,h.2.2.2.1,h.2.2.2.2]
 |.ptr k id j f,.ptr k' id' j' f',h=>by
  simp only[rM,Bool.and_eq_true,decide_eq_true_eq] at h
  rw[h.1,h.2.1,h.2.2.1,h.2.2.2]
 |.agg xs,.agg ys,h=>by
  have e:xs=ys:=nM (by simpa only[rM] using h)
  rw[e]
 |.aO xs,.aO ys,h=>by
  have e:xs=ys:=nM (by simpa only[rM] using h)
  rw[e]
 |x,y,h=>by
  unfold rM at h
  split at h
  ·rw[R5 h]
  ·simp only[Bool.and_eq_true,decide_eq_true_eq] at h
   rw[h.1,nM h.2]
  ·simp only[Bool.and_eq_true,decide_eq_true_eq] at h
   rw[h.1,nM h.2]
  ·simp only[Bool.and_eq_true,decide_eq_true_eq] at h
   rw[h.1,h.2.1,h.2.2.1,h.2.2.2.1,h.2.2.2.2]
  ·simp only[Bool.and_eq_true,decide_eq_true_eq] at h
   rw[h.1,h.2.1,h.2.2.1,h.2.2.2]
  ·rw[nM h]
  ·rw[nM h]
  ·cases h
theorem nM:∀{x y:List AV},FH x y=true→x=y
 |[],[],_=>rfl
 |x::r,y::s,h=>by
  simp only[FH,Bool.and_eq_true] at h
  rw[acr h.1,nM h.2]
 |[],_::_,h=>by simp[FH] at h
 |_::_,[],h=>by simp[FH] at h
end
def eqK:Option aP→Option aP→Bool
 |none,none=>true
 |some a,some b=>decide (a.k=b.k) && (FH a.es b.es && ((a.exact == b.exact) && decide (a.ty=b.ty)))
 |_,_=>false
theorem acs:∀{a b:Option aP},eqK a b=true→a=b
 |none,none,_=>rfl
 |some ⟨k,es,ex,ty⟩,some ⟨k',es',ex',ty'⟩,h=>by
  simp only[eqK,Bool.and_eq_true,decide_eq_true_eq] at h
  rw[h.1,nM h.2.1,eq_of_beq h.2.2.1,h.2.2.2]
 |none,some _,h=>by cases h
 |some _,none,h=>by cases h
def M2:Y→Y→List Nat
 |b::r,c::s=>if eqK b c then M2 r s else r.length::M2 r s
 |_,_=>[]
theorem EU:∀{D H:Y},D.length=H.length→∀{j:Nat},j∉M2 D H→Y.find D j=Y.find H j
 |[],[],_,_,_=>rfl
 |b::r,c::s,hl,j,hj=>by
  have E2:r.length=s.length:=by simpa using hl
  simp only[M2] at hj
  simp only[Y.find]
  split at hj
  ·rename_i e
   rw[acs e,EU E2 hj,E2]
  ·simp only[List.mem_cons,not_or] at hj
   rw[if_neg hj.1,if_neg (by rw[←E2];exact hj.1),EU E2 hj.2]
 |[],_::_,hl,_,_=>by simp at hl
 |_::_,[],hl,_,_=>by simp at hl
def chg(H H':Y):List Nat:=M2 (H'.drop (H'.length-H.length)) H
theorem acu{H H':Y}(hl:H.length≤H'.length){j:Nat}(hj:j∉chg H H')(hlt:j<H.length):Y.find H' j=Y.find H j:=by
 have e:H'=H'.take (H'.length-H.length)++H'.drop (H'.length-H.length):=(List.take_append_drop _ _).symm
 have hd:(H'.drop (H'.length-H.length)).length=H.length:=by rw[List.length_drop];omega
 rw[e,Y.bF (by rw[hd];exact hlt)]
 exact EU hd hj
def R6:AV→Nat
 |.ptr _ id _ _=>id
 |_=>0
def aak(A:List (List Nat))(i:Nat)(hs:List (Nat×List Nat)):AV→Bool
 |.ptr _ id _ _=>hs.all fun c=>!ni A c.1 i|| !c.2.contains id
 |_=>true
def chB(A:List (List Nat))(i:Nat)(ld:List (Nat×Nat))(n:Nat)(ids:List Nat):Bool:=ld.all fun l=>!ni A l.1 i|| (!ids.contains l.2 && decide (l.2<n))
inductive HsR:List (Nat×Y×Y)→List (Nat×List Nat)→Prop where
 | nil:HsR [] []
 | cons {i:Nat}{ids:List Nat}{H H':Y}{l:List (Nat×Y×Y)}{m:List (Nat×List Nat)}:(∀j,j∉ids→j<H.length→Y.find H' j=Y.find H j)→HsR l m→HsR ((i,H,H')::l) ((i,ids)::m)
theorem aal{A:List (List Nat)}{i:Nat}{hs:List (Nat×Y×Y)}{m:List (Nat×List Nat)}(hr:HsR hs m){a:AV}(h:aak A i m a=true):BR A i hs a:=by
 cases a with
 |ptr k id j f =>
  simp only[aak,List.all_eq_true] at h
  intro c hc hu hl
  induction hr with
  |nil=>cases hc
  |cons h1 _ ih =>
   rcases List.mem_cons.1 hc with e|e
   ·subst e
    have:=h _ List.mem_cons_self
    simp only[Bool.or_eq_true,Bool.not_eq_true',List.contains_eq_mem,decide_eq_false_iff_not] at this
    rcases this with t|t
    ·simp only at hu
     rw[t] at hu
     cases hu
    ·exact h1 id t hl
   ·exact ih (fun x hx=>h x (List.mem_cons_of_mem _ hx)) e
 |_=>trivial
theorem R7{A:List (List Nat)}{i:Nat}{ld:List (Nat×Nat)}{H H':Y}{ids:List Nat}(h:chB A i ld H.length ids=true)(hk:∀j,j∉ids→j<H.length→Y.find H' j=Y.find H j):sW A i ld H H':=by
 intro l hl hu
 simp only[chB,List.all_eq_true] at h
 have:=h l hl
 simp only[Bool.or_eq_true,Bool.and_eq_true,Bool.not_eq_true',List.contains_eq_mem,decide_eq_false_iff_not,decide_eq_true_eq] at this
 rcases this with t|t
 ·rw[t] at hu
  cases hu
 ·exact hk _ t.1 t.2
theorem UZ{H:Y}{a x:AV}{n:Nat}(h:stB H n a x=true):∀j,j∉[R6 a]→j<H.length→Y.find (yK H a x) j=Y.find H j:=by
 intro j hj _
 have hj:j≠R6 a:=by simpa using hj
 cases a with
 |ptr k id b f =>
  simp only[yK]
  split
  ·exact Y.aj hj
  ·rfl
 |_=>cases h
inductive Tr where
 | e
 | lf (v:AV)
 | nd (l r:Tr)
def Tr.get:Tr→Nat→AV
 |.e,_=>.aO []
 |.lf v,_=>v
 |.nd l r,i=>if i % 2=0 then l.get (i / 2) else r.get (i / 2)
def Tr.put:Nat→Tr→Nat→AV→Tr
 |0,_,_,v=>.lf v
 |k+1,.nd l r,i,v=>if i % 2=0 then .nd (Tr.put k l (i / 2) v) r else .nd l (Tr.put k r (i / 2) v)
 |k+1,_,i,v=>if i % 2=0 then .nd (Tr.put k .e (i / 2) v) .e else .nd .e (Tr.put k .e (i / 2) v)
inductive Tr.Wf:Nat→Tr→Prop where
 | e {k:Nat}:Tr.Wf k .e
 | lf {v:AV}:Tr.Wf 0 (.lf v)
 | nd {k:Nat}{l r:Tr}:Tr.Wf k l→Tr.Wf k r→Tr.Wf (k+1) (.nd l r)
theorem Tr.zM:∀{k:Nat}{t:Tr}{i:Nat}{v:AV},Tr.Wf k t→Tr.Wf k (Tr.put k t i v)
 |0,_,_,_,_=>.lf
 |k+1,.nd l r,i,v,h=>by
  cases h with
  |nd h1 h2 =>
   simp only[Tr.put]
   split
   ·exact .nd (Tr.zM h1) h2
   ·exact .nd h1 (Tr.zM h2)
 |k+1,.e,i,v,h=>by
  simp only[Tr.put]
  split
  ·exact .nd (Tr.zM .e) .e
  ·exact .nd .e (Tr.zM .e)
 |k+1,.lf _,i,v,h=>by cases h
theorem Tr.vO:∀{k:Nat}{t:Tr}{i j:Nat}{v:AV},Tr.Wf k t→i<2 ^ k→j<2 ^ k→(Tr.put k t i v).get j=if i=j then v else t.get j
 |0,t,i,j,v,h,hi,hj=>by
  have h1:i=j:=by simp at hi hj;omega
  rw[if_pos h1]
  rfl
 |k+1,.nd l r,i,j,v,h,hi,hj=>by
  rw[Nat.pow_succ] at hi hj
  cases h with
  |nd h1 h2 =>
   simp only[Tr.put]
   by_cases ci:i % 2=0
   ·rw[if_pos ci]
    simp only[Tr.get]
    by_cases cj:j % 2=0
    ·rw[if_pos cj,if_pos cj,Tr.vO h1 (by omega) (by omega)]
     by_cases c:i=j
     ·rw[if_pos c,if_pos (by omega)]
     ·rw[if_neg c,if_neg (by omega)]
    ·rw[if_neg cj,if_neg cj,if_neg (by omega)]
   ·rw[if_neg ci]
    simp only[Tr.get]
    by_cases cj:j % 2=0
    ·rw[if_pos cj,if_pos cj,if_neg (by omega)]
    ·rw[if_neg cj,if_neg cj,Tr.vO h2 (by omega) (by omega)]
     by_cases c:i=j
     ·rw[if_pos c,if_pos (by omega)]
     ·rw[if_neg c,if_neg (by omega)]
 |k+1,.e,i,j,v,h,hi,hj=>by
  rw[Nat.pow_succ] at hi hj
  have he:∀n,Tr.e.get n = .aO []:=fun _=>rfl
  simp only[Tr.put]
  by_cases ci:i % 2=0
  ·rw[if_pos ci]
   simp only[Tr.get]
   by_cases cj:j % 2=0
   ·rw[if_pos cj,Tr.vO .e (by omega) (by omega),he]
    by_cases c:i=j
    ·rw[if_pos c,if_pos (by omega)]
    ·rw[if_neg c,if_neg (by omega)]
   ·rw[if_neg cj,if_neg (by omega)]
  ·rw[if_neg ci]
   simp only[Tr.get]
   by_cases cj:j % 2=0
   ·rw[if_pos cj,if_neg (by omega)]
   ·rw[if_neg cj,Tr.vO .e (by omega) (by omega),he]
    by_cases c:i=j
    ·rw[if_pos c,if_pos (by omega)]
    ·rw[if_neg c,if_neg (by omega)]
 |k+1,.lf _,i,j,v,h,hi,hj=>by cases h
structure tH(n:Nat)(t:Tr)(ts:List AV):Prop where
 wf:Tr.Wf 9 t
 len:ts.length=n
 rE:n≤512
 get:∀i,i<n→ts.getD i .top=t.get i
theorem tH.put{n:Nat}{t:Tr}{ts:List AV}(h:tH n t ts){d:Nat}(hd:d<n)(v:AV):tH n (Tr.put 9 t d v) (ts.set d v) where
 wf:=Tr.zM h.wf
 len:=by rw[List.length_set,h.len]
 rE:=h.rE
 get:=fun i hi=>by
  have hn:=h.rE
  rw[Tr.vO h.wf (by omega) (by omega)]
  by_cases c:d=i
  ·subst c
   rw[if_pos rfl]
   simp[List.getD,h.len,hd]
  ·rw[if_neg c,←h.get i hi]
   simp[List.getD,List.getElem?_set_ne c]
def qy(n:Nat)(t:Tr):X→AV
 |.t i=>if i<n then t.get i else .top
 |.k v=>v
theorem tI{n:Nat}{t:Tr}{ts:List AV}(h:tH n t ts):qy n t=X.ev ts:=by
 funext x
 cases x with
 |t i =>
  simp only[qy,X.ev]
  split
  ·rename_i c
   exact (h.get i c).symm
  ·rename_i c
   have:=h.len
   simp[List.getD,List.getElem?_eq_none (by omega:ts.length≤i)]
 |k v=>rfl
def opT(call:oM)(ev:X→AV)(H:Y):eX→Option (AV×Y)
 |.p q=>if okB ev q then some (q.val ev,H) else none
 |.h (.call f fw)=>call f (fw.map ev) H
 |.h q=>if UY ev H q then some (R1 ev H q,Jo ev H q) else none
theorem acv{call:oM}{ts:List AV}{H:Y}{op:eX}:opT call (X.ev ts) H op=ET call ts H op:=by
 cases op with
 |p q=>rfl
 |h q=>cases q<;>rfl
def R8(n:Nat)(t:Tr):Option (Nat×Bool)→Option Bool
 |none=>some true
 |some (d,want)=>match qy n t (.t d) with
  |.sc (.bool b)=>some (b == want)
  |.aO _=>some false
  |_=>none
theorem M3{n:Nat}{t:Tr}{ts:List AV}(h:tH n t ts){g:Option (Nat×Bool)}:R8 n t g=HD ts g:=by
 cases g with
 |none=>rfl
 |some g =>
  obtain ⟨d,w⟩:=g
  simp only[R8,HD,tI h,X.ev]<;>rfl
def qz(n:Nat)(t:Tr)(d:Option Nat)(v:AV):Option Tr:=match d with
 |none=>some t
 |some d=>if d<n then some (Tr.put 9 t d v) else none
theorem kJ{n:Nat}{t t':Tr}{ts:List AV}{d:Option Nat}{v:AV}(h:tH n t ts)(hp:qz n t d v=some t'):tH n t' (cz ts d v):=by
 cases d with
 |none =>
  cases hp
  exact h
 |some d =>
  simp only[qz] at hp
  split at hp
  ·rename_i c
   rw[←Option.some.inj hp]
   exact h.put c v
  ·cases hp
def runT(call:oM)(n:Nat):List cy→Tr→Y→Option (Tr×Y)
 |[],t,H=>some (t,H)
 |o::r,t,H=>match R8 n t o.guard with
  |some true=>match opT call (qy n t) H o.op with
   |some (v,H')=>match qz n t o.dst v with
    |some t'=>runT call n r t' H'
    |none=>none
   |none=>none
  |some false=>match qz n t o.dst (.aO []) with
   |some t'=>runT call n r t' H
   |none=>none
  |none=>none
theorem EV{P:Program}{call:oM}(hc:zL P call){n:Nat}{K:List AV→Y→Prop}{Kp:AV→List AV→Y→Prop}:∀{l:List cy}{t:Tr}{ts:List AV}{H:Y}{t':Tr}{H':Y},tH n t ts→runT call n l t H=some (t',H')→(∀ts',tH n t' ts'→K ts' H')→dj P K Kp l ts H
 |[],t,ts,H,t',H',hr,h,hK=>by
  obtain ⟨rfl,rfl⟩:=Prod.mk.inj (Option.some.inj h)
  exact hK ts hr
 |o::r,t,ts,H,t',H',hr,h,hK=>by
  simp only[runT,M3 hr] at h
  split at h
  ·rename_i hg
   rw[tI hr,acv] at h
   split at h
   ·rename_i v H1 ho
    split at h
    ·rename_i t1 hp
     exact R3 hg (acq hc ho (EV hc (kJ hr hp) h hK))
    ·cases h
   ·cases h
  ·rename_i hg
   split at h
   ·rename_i t1 hp
    exact R4 hg (EV hc (kJ hr hp) h hK)
   ·cases h
  ·cases h
theorem U1{P:Program}{c:IC}{K:Post}{ts:List AV}{H:Y}(I:Nat→List AV→Y→Prop)(n:Nat)(h:∀n ts H,I n ts H→∀L:List AV→Y→Prop,(∀m ts' H',m<n→I m ts' H'→L ts' H')→ES P c (kW L K) ts H)(h0:I n ts H):ES P (.loop c) K ts H:=by
 classical
 have least:∀ts H,(∃n,I n ts H)→∃n,I n ts H∧∀m,I m ts H→n≤m:=fun ts H ⟨n,hn⟩=>by
  induction n using Nat.strongRecOn with
  |_ n ih =>
   by_cases c:∃m,m<n∧I m ts H
   ·obtain ⟨m,h1,h2⟩:=c
    exact ih m h1 h2
   ·exact ⟨n,hn,fun m hm=>Nat.le_of_not_lt fun h=>c ⟨m,h,hm⟩⟩
 let μ:List AV→Y→Nat:=fun ts H=>if h:∃n,I n ts H then Classical.choose (least ts H h) else 0
 have hμ:∀ts H (h:∃n,I n ts H),I (μ ts H) ts H∧∀m,I m ts H→μ ts H≤m:=fun ts H hx=>by
  have e:μ ts H=Classical.choose (least ts H hx):=dif_pos hx
  rw[e]
  exact Classical.choose_spec (least ts H hx)
 refine aZ (fun ts H=>∃n,I n ts H) μ ⟨n,h0⟩ fun ts H hI L hL=>?_
 obtain ⟨h1,h2⟩:=hμ ts H hI
 exact h _ ts H h1 L fun m ts' H' hm Wp=>hL ts' H' ⟨m,Wp⟩ (Nat.lt_of_le_of_lt ((hμ ts' H' ⟨m,Wp⟩).2 m Wp) hm)
abbrev A1:=FuncId→Option (IC×List RV×Nat)
def Jq(P:Program)(T:A1):Prop:=∀f c rs n,T f=some (c,rs,n)→Dk P f c rs n
def rH(call:oM)(n:Nat)(A:List (List Nat)):Nat→List cy→Tr→Y→List (Nat×Nat)→List (Nat×List Nat)→Option (Tr×Y)
 |_,[],t,H,_,_=>some (t,H)
 |i,o::r,t,H,ld,hs=>match R8 n t o.guard with
  |some true=>match o.op with
   | .p q=>if okB (qy n t) q then (match qz n t o.dst (q.val (qy n t)) with
    |some t'=>rH call n A (i+1) r t' H ld hs
    | none=>none) else none
   | .h (.load m ag a)=>if aak A i hs (qy n t a) && ldB H m ag (qy n t a) then (match qz n t o.dst (ldE H m ag (qy n t a)) with
    |some t'=>rH call n A (i+1) r t' H (WY i ld (qy n t a)) hs
    | none=>none) else none
   | .h (.store m a x)=>if stB H m (qy n t a) (qy n t x) && chB A i ld H.length [R6 (qy n t a)] then (match qz n t o.dst .top with
    |some t'=>rH call n A (i+1) r t' (stE H (qy n t a) (qy n t x)) ld ((i,[R6 (qy n t a)])::hs)
    | none=>none) else none
   | .h (.alloc z ty)=>(match qz n t o.dst (.ptr z.az H.length 0 0) with
    |some t'=>rH call n A (i+1) r t' (some ⟨z.az,[z],true,ty⟩::H) ((i,H.length)::ld) hs
    | none=>none)
   | .h (.ep k ty z ln ps)=>if HC (qy n t) k (List.replicate ln z) ps then (match qz n t o.dst (.am k (rT (qy n t) (List.replicate ln z) ps) (some [])) with
    |some t'=>rH call n A (i+1) r t' H ld hs
    | none=>none) else none
   |.h (.call f fw)=>match call f (fw.map (qy n t)) H with
    | some (v,H')=>if decide (H.length≤H'.length) && chB A i ld H.length (chg H H') then (match qz n t o.dst v with
     |some t'=>rH call n A (i+1) r t' H' ld ((i,chg H H')::hs)
     | none=>none) else none
    |none=>none
   |_=>none
  | some false=>(match qz n t o.dst (.aO []) with
   |some t'=>rH call n A (i+1) r t' H ld hs
   | none=>none)
  |none=>none
theorem l3{P:Program}{call:oM}(hc:zL P call){n:Nat}{A:List (List Nat)}{nl:Nat}{K:List AV→Y→Prop}{Kp:AV→Y→Prop}:∀{l:List cy}{i:Nat}{t:Tr}{ts:List AV}{H:Y}{ld:List (Nat×Nat)}{hs:List (Nat×Y×Y)}{m:List (Nat×List Nat)}{t':Tr}{H':Y},tH n t ts→HsR hs m→rH call n A i l t H ld m=some (t',H')→(∀ts',tH n t' ts'→K ts' H')→cY P A nl K Kp i l ts H ld hs
 |[],i,t,ts,H,ld,hs,m,t',H',hp,hr,h,hK=>by
  obtain ⟨rfl,rfl⟩:=Prod.mk.inj (Option.some.inj h)
  exact hK ts hp
 |o::r,i,t,ts,H,ld,hs,m,t',H',hp,hr,h,hK=>by
  simp only[rH,M3 hp,tI hp] at h
  simp only[cY]
  split at h
  ·rename_i hg
   refine R3 hg ?_
   split at h
   ·rename_i q ho
    rw[ho]
    split at h
    ·rename_i hk
     split at h
     ·rename_i t1 h1
      exact ⟨RY hk,l3 hc (kJ hp h1) hr h hK⟩
     ·cases h
    ·cases h
   ·rename_i m' ag a ho
    rw[ho]
    split at h
    ·rename_i hk
     simp only[Bool.and_eq_true] at hk
     split at h
     ·rename_i t1 h1
      rw[Jm] at h1
      exact ⟨aal hr hk.1,Jp hk.2,l3 hc (kJ hp h1) hr h hK⟩
     ·cases h
    ·cases h
   ·rename_i m' a x ho
    rw[ho]
    split at h
    ·rename_i hk
     simp only[Bool.and_eq_true] at hk
     have hkp:=UZ hk.1
     split at h
     ·rename_i t1 h1
      rw[RZ] at h
      exact ⟨R2 hk.1,R7 hk.2 hkp,l3 hc (kJ hp h1) (.cons hkp hr) h hK⟩
     ·cases h
    ·cases h
   ·rename_i z ty ho
    rw[ho]
    split at h
    ·rename_i t1 h1
     exact ⟨trivial,l3 hc (kJ hp h1) hr h hK⟩
    ·cases h
   ·rename_i k ty z ln ps ho
    rw[ho]
    split at h
    ·rename_i hk
     split at h
     ·rename_i t1 h1
      exact ⟨zK hk,l3 hc (kJ hp h1) hr h hK⟩
     ·cases h
    ·cases h
   ·rename_i f fw ho
    rw[ho]
    split at h
    ·rename_i v H1 hv
     split at h
     ·rename_i hk
      simp only[Bool.and_eq_true,decide_eq_true_eq] at hk
      have hkp:=fun j (h1:j∉chg H H1)(h2:j<H.length)=>acu hk.1 h1 h2
      split at h
      ·rename_i t1 h1
       exact ⟨.ret v,H1,hc _ _ _ _ _ hv,R7 hk.2 hkp,l3 hc (kJ hp h1) (.cons hkp hr) h hK⟩
      ·cases h
     ·cases h
    ·cases h
   ·cases h
  ·rename_i hg
   split at h
   ·rename_i t1 h1
    exact R4 hg (l3 hc (kJ hp h1) hr h hK)
   ·cases h
  ·cases h
def Jr(step:Tr→Y→Option (AX×Tr×Y)):Nat→Tr→Y→Option (AX×Tr×Y)
 |0,_,_=>none
 |n+1,t,H=>match step t H with
  |some (.normal,t',H')=>Jr step n t' H'
  |r=>r
def lN(call:oM)(n m:Nat):IC→Tr→Y→Option (AX×Tr×Y)
 |.skip,t,H=>some (.normal,t,H)
 |.ops l,t,H=>match runT call n l t H with
  |some (t',H')=>some (.normal,t',H')
  |none=>none
 |.di l A,t,H=>match rH call n A 0 l t H [] [] with
  |some (t',H')=>some (.normal,t',H')
  |none=>none
 |.seq a b,t,H=>match lN call n m a t H with
  |some (.normal,t',H')=>lN call n m b t' H'
  |r=>r
 |.cond c a b,t,H=>match qy n t c with
  |.sc (.bool true)=>lN call n m a t H
  |.sc (.bool false)=>lN call n m b t H
  |_=>none
 |.block id c,t,H=>match lN call n m c t H with
  |some (.exit i,t',H')=>if i=id then some (.normal,t',H') else some (.exit i,t',H')
  |r=>r
 |.loop c,t,H=>Jr (lN call n m c) m t H
 |.exit id,t,H=>some (.exit id,t,H)
 |.ret,t,H=>some (.ret,t,H)
 |_,_,_=>none
theorem HF{P:Program}{call:oM}(hc:zL P call){n m:Nat}:∀{c:IC}{K:Post}{t:Tr}{ts:List AV}{H:Y}{x:AX}{t':Tr}{H':Y},tH n t ts→lN call n m c t H=some (x,t',H')→(∀ts',tH n t' ts'→K x ts' H')→ES P c K ts H:=by
 intro c
 induction c with
 |skip =>
  intro K t ts H x t' H' hp h hK
  obtain ⟨rfl,h2⟩:=Prod.mk.inj (Option.some.inj h)
  obtain ⟨rfl,rfl⟩:=Prod.mk.inj h2
  exact hK ts hp
 |exit id =>
  intro K t ts H x t' H' hp h hK
  obtain ⟨rfl,h2⟩:=Prod.mk.inj (Option.some.inj h)
  obtain ⟨rfl,rfl⟩:=Prod.mk.inj h2
  exact hK ts hp
 |ret =>
  intro K t ts H x t' H' hp h hK
  obtain ⟨rfl,h2⟩:=Prod.mk.inj (Option.some.inj h)
  obtain ⟨rfl,rfl⟩:=Prod.mk.inj h2
  exact hK ts hp
 |ops l =>
  intro K t ts H x t' H' hp h hK
  simp only[lN] at h
  split at h
  ·rename_i t1 H1 hr
   obtain ⟨rfl,h2⟩:=Prod.mk.inj (Option.some.inj h)
   obtain ⟨rfl,rfl⟩:=Prod.mk.inj h2
   exact EV hc hp hr hK
  ·cases h
 |di l A =>
  intro K t ts H x t' H' hp h hK
  simp only[lN] at h
  split at h
  ·rename_i t1 H1 hr
   obtain ⟨rfl,h2⟩:=Prod.mk.inj (Option.some.inj h)
   obtain ⟨rfl,rfl⟩:=Prod.mk.inj h2
   exact l3 hc hp .nil hr hK
  ·cases h
 |seq a b yL Ai =>
  intro K t ts H x t' H' hp h hK
  simp only[lN] at h
  rw[Ra]
  split at h
  ·rename_i t1 H1 hr
   exact yL hp hr fun hY h1=>Ai h1 h hK
  ·rename_i hn
   refine yL hp h ?_
   cases x with
   |normal=>exact absurd h (hn _ _)
   |_=>exact hK
 |cond c a b yL Ai =>
  intro K t ts H x t' H' hp h hK
  simp only[lN,tI hp] at h
  rw[KD]
  split at h
  ·rename_i e
   rw[e,KE]
   exact yL hp h hK
  ·rename_i e
   rw[e,KF]
   exact Ai hp h hK
  ·cases h
 |block id c ih =>
  intro K t ts H x t' H' hp h hK
  simp only[lN] at h
  rw[Gn]
  split at h
  ·rename_i i t1 H1 hr
   refine ih hp hr fun hY h1=>?_
   rw[Gp]
   split at h
   ·rename_i e
    obtain ⟨rfl,h2⟩:=Prod.mk.inj (Option.some.inj h)
    obtain ⟨rfl,rfl⟩:=Prod.mk.inj h2
    rw[if_pos e]
    exact hK hY h1
   ·rename_i e
    obtain ⟨rfl,h2⟩:=Prod.mk.inj (Option.some.inj h)
    obtain ⟨rfl,rfl⟩:=Prod.mk.inj h2
    rw[if_neg e]
    exact hK hY h1
  ·rename_i hn
   refine ih hp h ?_
   cases x with
   |exit i=>exact absurd h (hn _ _ _)
   |_=>exact hK
 |loop c ih =>
  intro K t ts H x t' H' hp h hK
  simp only[lN] at h
  refine U1 (fun k ts H=>∃t,tH n t ts∧Jr (lN call n m c) k t H=some (x,t',H')) m (fun k ts H hI L hL=>?_) ⟨t,hp,h⟩
  obtain ⟨t,hp,hI⟩:=hI
  cases k with
  |zero=>cases hI
  |succ k =>
   simp only[Jr] at hI
   split at hI
   ·rename_i t1 H1 hr
    exact ih hp hr fun hY h1=>hL k hY H1 (Nat.lt_succ_self k) ⟨t1,h1,hI⟩
   ·rename_i hn
    refine ih hp hI ?_
    cases x with
    |normal=>exact absurd hI (hn _ _)
    |_=>exact hK
 |_ =>
  intro K t ts H x t' H' hp h hK
  cases h
def EW:List AV→Nat→Tr→Tr
 |[],_,t=>t
 |x::r,i,t=>EW r (i+1) (Tr.put 9 t i x)
theorem HG{n:Nat}:∀{fw pre:List AV}{t:Tr},pre.length+fw.length≤n→tH n t (pre++List.replicate (n-pre.length) (.aO []))→tH n (EW fw pre.length t) (pre++fw++List.replicate (n-(pre++fw).length) (.aO []))
 |[],pre,t,hl,h=>by simpa [EW] using h
 |x::r,pre,t,hl,h=>by
  simp only[List.length_cons] at hl
  have h1:=h.put (d:=pre.length) (by omega) x
  have e:(pre++List.replicate (n-pre.length) (AV.aO [])).set pre.length x=(pre++[x])++List.replicate (n-(pre++[x]).length) (AV.aO []):=by
   rw[List.set_append_right _ _ (Nat.le_refl _),Nat.sub_self,show n-pre.length=(n-(pre++[x]).length)+1 by simp;omega,List.replicate_succ,List.set_cons_zero,List.append_assoc]
   rfl
  rw[e] at h1
  have h2:=HG (fw:=r) (pre:=pre++[x]) (by simp;omega) h1
  simp only[EW]
  simpa using h2
theorem agn{n:Nat}(h:n≤512):tH n .e (List.replicate n (.aO [])) where
 wf:=.e
 len:=List.length_replicate
 rE:=h
 get:=fun i hi=>by simp[List.getD,hi,Tr.get]
def A2(n:Nat)(t:Tr)(H:Y):List RV→Bool
 |[]=>true
 |.t _::r=>A2 n t H r
 | .c a k ag::r=>(match qy n t (.t a) with
  |.ptr k' id j f=>ldB H k ag (.ptr k' id j f)
  | _=>false) && A2 n t H r
def xU(n:Nat)(t:Tr)(H:Y):List RV→List AV
 |[]=>[]
 |.t a::r=>qy n t (.t a)::xU n t H r
 |.c a k ag::r=>ldE H k ag (qy n t (.t a))::xU n t H r
theorem wo{n:Nat}{t:Tr}{ts:List AV}{H:Y}(hp:tH n t ts):∀{rs:List RV},A2 n t H rs=true→iY rs ts H
 |[],_=>trivial
 |.t _::r,h=>wo hp (rs:=r) h
 |.c a k ag::r,h=>by
  simp only[A2,Bool.and_eq_true,tI hp,X.ev] at h
  refine ⟨?_,wo hp h.2⟩
  have h1:=h.1
  split at h1
  ·rename_i e
   rw[e]
   exact Jp h1
  ·cases h1
theorem wq{n:Nat}{t:Tr}{ts:List AV}{H:Y}(hp:tH n t ts):∀{rs:List RV},xU n t H rs=kO rs ts H
 |[]=>rfl
 |.t a::r=>by simp only[xU,kO,wq hp (rs:=r),tI hp,X.ev]
 |.c a k ag::r=>by simp only[xU,kO,wq hp (rs:=r),tI hp,X.ev,Jm]
def ael(rs:List RV)(n:Nat)(H:Y):Option (AX×Tr×Y)→Option (AV×Y)
 |some (.ret,t,H')=>if A2 n t H' rs && decide (H.length≤H'.length) then some (oneOf (xU n t H' rs),H') else none
 |some (.normal,t,H')=>if A2 n t H' rs && decide (H.length≤H'.length) then some (oneOf (xU n t H' rs),H') else none
 |_=>none
def M4(T:A1)(m:Nat):Nat→oM
 |0,_,_,_=>none
 |k+1,f,fw,H=>match T f with
  |some (c,rs,n)=>if decide (fw.length≤n) && decide (n≤512) then ael rs n H (lN (M4 T m k) n m c (EW fw 0 .e) H) else none
  |none=>none
theorem EX{P:Program}{T:A1}(hT:Jq P T){m:Nat}:∀k,zL P (M4 T m k)
 |0=>fun f fw H v H' h=>by cases h
 |k+1=>fun f fw H v H' h=>by
  have ih:=EX hT (m:=m) k
  simp only[M4] at h
  split at h
  ·rename_i c rs n ht
   split at h
   ·rename_i hn
    simp only[Bool.and_eq_true,decide_eq_true_eq] at hn
    have rQ:=HG (n:=n) (fw:=fw) (pre:=[]) (by simpa using hn.1) (agn hn.2)
    simp only[List.nil_append,List.length_nil] at rQ
    unfold ael at h
    split at h
    ·rename_i t1 H1 hr
     split at h
     ·rename_i hb
      simp only[Bool.and_eq_true,decide_eq_true_eq] at hb
      obtain ⟨rfl,rfl⟩:=Prod.mk.inj (Option.some.inj h)
      refine aG hb.2 (hT f c rs n ht (aA (HF ih rQ hr fun hY h1=>⟨wo h1 hb.1,?_⟩)))
      rw[wq h1]
      exact eB.refl _ _ _
     ·cases h
    ·rename_i t1 H1 hr
     split at h
     ·rename_i hb
      simp only[Bool.and_eq_true,decide_eq_true_eq] at hb
      obtain ⟨rfl,rfl⟩:=Prod.mk.inj (Option.some.inj h)
      refine aG hb.2 (hT f c rs n ht (aA (HF ih rQ hr fun hY h1=>⟨wo h1 hb.1,?_⟩)))
      rw[wq h1]
      exact eB.refl _ _ _
     ·cases h
    ·cases h
   ·cases h
  ·cases h
def BJ(P:Program)(bx:List Nat):A1:=fun f=>match P.funcs[f]? with
 |some fn=>match fn.body with
  |some c=>match dU P bx c with
   |some ic=>match ow P fn.results.toList with
    |some rs=>some (ic,rs,fn.ntmps)
    |none=>none
   |none=>none
  |none=>none
 |none=>none
theorem sA{P:Program}{bx:List Nat}:Jq P (BJ P bx):=by
 intro f c rs n h
 unfold BJ at h
 split at h
 ·rename_i fn hf
  split at h
  ·rename_i cc hb
   split at h
   ·rename_i ic hc
    split at h
    ·rename_i QB hr
     obtain ⟨rfl,h2⟩:=Prod.mk.inj (Option.some.inj h)
     obtain ⟨rfl,rfl⟩:=Prod.mk.inj h2
     exact fun h=>qN hf hb hc hr h
    ·cases h
   ·cases h
  ·cases h
 ·cases h
mutual
def R9(G:Y):Nd→AV→Bool
 |⟨k,s,n,l⟩,v=>match v with
  | .agg [.sc (.int .u8 k'),.sc (.string s'),.sc (.int .i64 n'),kv]=>(decide (k'=k) && (decide (s'=s) && decide (n'=n))) && (match kv with
   | .am _ xs _=>(match xs with
    | []=>(match l with
     |[]=>true
     | _=>false)
    | _=>false)
   | .aD k4 id off m _=>(match B2 G.length G id with
    |some blk=>(decide (k4=4) && (decide (blk.k=4) && decide (off+m≤blk.es.length))) && A3 G l ((blk.es.drop off).take m)
    | none=>false)
   | _=>false)
  |_=>false
def A3(G:Y):List Nd→List AV→Bool
 |[],[]=>true
 |t::r,x::s=>R9 G t x && A3 G r s
 |_,_=>false
end
def opH:Y→Bool
 |[]=>true
 |none::r=>opH r
 |some b::r=>AV.qj b.es && opH r
theorem Js:∀{G:Y},opH G=true→Y.op G
 |[],_=>fun id b h=>by simp[Y.find] at h
 |none::r,h=>fun id b hf=>by
  simp only[Y.find] at hf
  split at hf
  ·cases hf
  ·exact Js (G:=r) h id b hf
 |some x::r,h=>fun id b hf=>by
  simp only[opH,Bool.and_eq_true] at h
  simp only[Y.find] at hf
  split at hf
  ·rw[←Option.some.inj hf]
   exact h.1
  ·exact Js h.2 id b hf
theorem HH{n:Nat}:∀(k:Nat)(l:List AV),(AV.mO n l).drop k=AV.mO n (l.drop k)
 |0,_=>rfl
 |_+1,[]=>rfl
 |k+1,_::r=>HH k r
theorem HI{n:Nat}:∀(k:Nat)(l:List AV),(AV.mO n l).take k=AV.mO n (l.take k)
 |0,_=>by simp[AV.mO]
 |_+1,[]=>rfl
 |k+1,x::r=>congrArg (AV.up n x::·) (HI k r)
mutual
theorem M5{G H:Y}:∀{t:Nd}{v:AV},R9 G t v=true→Gz (Y.up H.length G++H) H.length [] (v.up H.length) (eu t)
 |⟨k,s,n,l⟩,v,h=>by
  rw[ew]
  unfold R9 at h
  split at h
  ·rename_i k' s' n' kv
   simp only[Bool.and_eq_true,decide_eq_true_eq] at h
   obtain ⟨⟨rfl,rfl,rfl⟩,h⟩:=h
   simp only[AV.up,AV.mO]
   refine .agg (.cons (.same trivial) (.cons (.same trivial) (.cons (.same trivial) (.cons ?_ .nil))))
   split at h
   ·split at h
    ·split at h
     ·simp only[AV.up]
      exact .nil
     ·cases h
    ·cases h
   ·split at h
    ·rename_i id off m c x blk hf
     rw[nL] at hf
     simp only[Bool.and_eq_true,decide_eq_true_eq] at h
     obtain ⟨⟨rfl,h2,h3⟩,h4⟩:=h
     simp only[AV.up]
     refine .aD (blk:=blk.up H.length) (by unfold cP;rw[if_neg (by omega)];rfl) (by rw[Y.D0,Y.LL,hf];rfl) h2 (by simpa [aP.up,AV.jZ] using h3) ?_
     show dt _ _ _ (((AV.mO H.length blk.es).drop off).take m) _
     rw[HH,HI]
     exact HJ h4
    ·cases h
   ·cases h
  ·cases h
theorem HJ{G H:Y}:∀{l:List Nd}{xs:List AV},A3 G l xs=true→dt (Y.up H.length G++H) H.length [] (AV.mO H.length xs) (bh l)
 |[],[],_=>.nil
 |t::r,x::s,h=>by
  simp only[A3,Bool.and_eq_true] at h
  rw[TQ]
  exact .cons (M5 h.1) (HJ h.2)
 |[],_::_,h=>by simp[A3] at h
 |_::_,[],h=>by simp[A3] at h
end
def xV(T:A1)(m k:Nat)(f:FuncId)(xs:List AV)(t:Nd):Bool:=match M4 T m k f xs [] with
 |some (v,G)=>v.op && (opH G && R9 G t v)
 |none=>false
theorem sB{P:Program}{T:A1}(hT:Jq P T){m k:Nat}{f:FuncId}{xs ys:List AV}{t:Nd}(h:xV T m k f xs t=true){H:Y}(hv:cJ H ys xs):D P f ys H (.ret (eu t)) H:=by
 unfold xV at h
 split at h
 ·rename_i v G hr
  simp only[Bool.and_eq_true] at h
  have h1:=LM hv h.1 (Js h.2.1) (EX hT k f xs [] v G hr)
  exact aG (Nat.le_refl _) (h1.dk.mono fun e H1 _ ⟨e1,e2⟩=>by
   subst e1 e2
   exact pq (fun i hi=>Y.bF hi) (M5 h.2.2))
 ·cases h
end Go.Proofs.YtnoplgongieehaaGreatDoor
