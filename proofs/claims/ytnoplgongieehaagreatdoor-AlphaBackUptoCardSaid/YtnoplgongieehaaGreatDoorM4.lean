import Derived.Test.YtnoplgongieehaaGreatDoorM3
import Derived.Test.YtnoplgongieehaaGreatDoorProg
import Derived.KernelRfl
import Derived.RangeFuncRecord
import Derived.OrdersIn
namespace Go.Proofs.YtnoplgongieehaaGreatDoor
open Go.RowKit
set_option maxRecDepth 100000
set_option linter.unusedVariables false
set_option linter.unusedSimpArgs false
theorem Hx{t:Nd}{p:List Int}(hp:∃f j,p=f++[j])(h4:¬t.kind=4)(x:ByteArray)(s:List Int)(i:Nat)(f:Int):kx x (p++s) [⟨t,p⟩] i f=f:=by
 obtain ⟨g,j,hg⟩:=hp
 have h:=Hu (b:=⟨t,p⟩) (s:=s) hg h4
 simp only at h
 simp[kx,h]
theorem AB{l pre post:List Pl}{t:Nd}{p:List Int}{ix:List Nat}{env env':List aO}(hC:XK l pre post t p ix env)(h4:¬t.kind=4)(he:∀x,bR env' x=bR env x)(hne:env'≠[])
  (hv:(∃u∈t.kids,u.kind=6)→∀x,(bX x (env'.headD [])).isSome=(pre++[(⟨t,p⟩:Pl)]).any fun b=>decide (b.n.kind=6) && (decide (b.n.text=x) && (decide (b.p.length=p.length+1) && nE b.p p))) :
  TS l (pre++[⟨t,p⟩]) post t.kids p 0 ix env' where
 eq:=by rw[hC.eq,bZ];simp
 ne:=hne
 ag:=fun x k s _=>by
  rw[eB]
  have e:p++[(k:Int)]++s=p++([(k:Int)]++s):=by simp
  rw[e,Hx hC.pne h4,hC.ag,he]
 lt:=fun x j hj=>hC.lt x j (by rw[←he];exact hj)
 po:=fun b hb hB k s _=>by
  have e:p++[(k:Int)]++s=p++([(k:Int)]++s):=by simp
  rw[e]
  exact hC.po b hb hB _
 fr:=fun b hb k s _ h=>by
  have e:p++[(k:Int)]++s=p++([(k:Int)]++s):=by simp
  rw[e] at h
  rcases List.mem_append.1 hb with h1 | h1
  ·exact hC.fr b h1 _ (by simp) h
  ·rw[List.mem_singleton] at h1
   subst h1
   have:=congrArg List.length h
   simp at this
 hv:=hv
def Zb(g:List aO→List aO):Except fJ (List aO×WS)→Except fJ (List aO×WS)
 | .error e=>.error e
 | .ok q=>.ok (g q.1,q.2)
theorem n8{l pre:List Pl}{t:Nd}{p:List Int}{ix A:List Nat}{env env':List aO}(h6:¬t.kind=6)(hD:eR ⟨t,p⟩=false)(hs:b9 l pre.length=none){r:Except fJ (List aO×WS)}(hk:Ay l (pre++[⟨t,p⟩]) t.kids p 0 ix A env' r)(g:List aO→List aO)(hg:∀q,r = .ok q→g q.1=env) :
  EO l pre t p ix A env (Zb g r):=by
 have hl:(pre++[(⟨t,p⟩:Pl)]).length=pre.length+1:=by simp
 cases r with
 | error e =>
  unfold Ay at hk
  rw[hl] at hk
  show iq l pre.length t.size e
  rw[Nd.size_eq]
  exact iq.right (ky.one hs) hk
 | ok q =>
  obtain ⟨h1,more,h2,h3,h4,h5⟩:=hk
  rw[hl] at h1 h2 h3
  refine ⟨by rw[Nd.size_eq];exact (ky.one hs).eN h1,more,?_,fun i hi=>by have:=h3 i hi;omega,?_⟩
  ·have e1:pre++aM t p=pre++[⟨t,p⟩]++bN t.kids p 0:=by rw[bZ];simp
   have e2:A++dI (aM t p) pre.length=A++dI (bN t.kids p 0) (pre.length+1):=by rw[bZ];simp[dI,hD]
   rw[e1,e2]
   exact h2
  ·rw[if_neg h6]
   exact hg q rfl
theorem Px(t:Nd):mU t→KS t:=by
 induction t using Nd.ind with
 | _ t ih =>
  intro hg l pre post p ix A env ws fu hF hC hW
  have hkg:=hg.ry
  have hkc:∀u∈t.kids,KS u:=fun u hu=>ih u hu (hkg u hu)
  have Py:=Pu t.kids hkg hkc
  have wQ:=hg.kind
  have h2:¬t.kind=2:=by omega
  have h4:¬t.kind=4:=by omega
  have df:=hW.at_
  have fy:aA l pre.length=⟨t,p⟩:=by rw[hC.eq,bZ];exact oH
  obtain ⟨k,s,m,kids⟩:=t
  simp only[Nd.kind,Nd.kids] at wQ h2 h4 Py hkg hkc
  simp only[bw,if_neg h2,if_neg h4]
  have Hy:∀h5:¬k=5,∀u∈kids,¬u.kind=6:=fun h5=>hg.abt h5
  by_cases h5:k=5
  ·-- a Block
   rw[if_pos h5]
   have hU:gA ⟨⟨k,s,m,kids⟩,p⟩=false:=by simp[gA,Nd.kind,h5]
   have hD:eR ⟨⟨k,s,m,kids⟩,p⟩=false:=by simp[eR,Nd.kind,h5]
   have hs:b9 l pre.length=none:=by
    unfold b9
    rw[fy,if_neg (by simp[fZ,Nd.kind,h5]),if_pos hU]
   have hK:=AB (env':=[]::env) hC (by simp[Nd.kind,h5]) (fun x=>by simp[bR,bX]) (by simp) (fun _ x=>by
    simp only[List.headD_cons,bX,Option.isSome_none]
    symm
    rw[List.any_eq_false]
    intro b hb hc
    simp only[Bool.and_eq_true,decide_eq_true_eq,il] at hc
    obtain ⟨-,-,hc3,z,hz⟩:=hc
    rcases List.mem_append.1 hb with h | h
    ·refine hC.fr b h z (fun e=>?_) hz.symm
     rw[e] at hz
     have:=congrArg List.length hz
     simp at this
     omega
    ·rw[List.mem_singleton] at h
     subst h
     simp at hc3)
   have hn:=n8 (by simp[Nd.kind,h5]) hD hs (Py l _ post p 0 ix A ([]::env) _ fu hF hK (hW.skip hU)) (fun _=>env) (fun _ _=>rfl)
   cases hr:bo fu kids ([]::env) { ws with at_:=ws.at_+1 } p 0 with
   | error e=>rw[hr] at hn;exact hn
   | ok q=>rw[hr] at hn;exact hn
  rw[if_neg h5]
  by_cases h6:k=6
  ·-- a Var
   rw[if_pos h6]
   have hU:gA ⟨⟨k,s,m,kids⟩,p⟩=false:=by simp[gA,Nd.kind,h6]
   have hB:fZ ⟨⟨k,s,m,kids⟩,p⟩=true:=by simp[fZ,Nd.kind,h6]
   have hD:eR ⟨⟨k,s,m,kids⟩,p⟩=true:=by simp[eR,Nd.kind,h6]
   have hv:=hC.hv (by simp[Nd.kind,h6]) s
   have KT:eg l pre.length=(bX s (env.headD [])).isSome:=by
    unfold eg
    rw[fy,hv,hC.eq,List.take_left]
    congr 1
    funext b
    have hk6:Nd.kind ⟨k,s,m,kids⟩=6:=h6
    have hts:Nd.text ⟨k,s,m,kids⟩=s:=rfl
    unfold twin
    simp only[hk6,hts]
   cases hh:(bX s (env.headD [])).isSome with
   | true =>
    rw[hh] at KT
    simp only[if_true]
    rw[df]
    refine iq.left (n:=1) (iq.one ?_)
    unfold b9
    rw[fy]
    simp[hB,KT]
   | false =>
    rw[hh] at KT
    simp only[Bool.false_eq_true,if_false]
    have hs:b9 l pre.length=none:=by
     unfold b9
     rw[fy]
     simp[KT,hU]
    have hK:=AB (env':=env) hC (by simp[Nd.kind,h6]) (fun x=>rfl) hC.ne (fun ⟨u,hu,TT⟩=>absurd TT (Hy h5 u hu))
    have hR:=Py l _ post p 0 ix A env _ fu hF hK (hW.skip hU)
    have hl:(pre++[(⟨⟨k,s,m,kids⟩,p⟩:Pl)]).length=pre.length+1:=by simp
    cases hr:bo fu kids env { ws with at_:=ws.at_+1 } p 0 with
    | error e =>
     rw[hr] at hR
     unfold Ay at hR
     rw[hl] at hR
     show iq l pre.length (Nd.size ⟨k,s,m,kids⟩) e
     rw[Nd.size_eq]
     exact iq.right (ky.one hs) hR
    | ok q =>
     rw[hr] at hR
     obtain ⟨g1,more,g2,g3,-,g5⟩:=hR
     have hq:=g5 (Hy h5)
     rw[hl] at g1 g2 g3
     have hnd:dI (bN kids p 0) (pre.length+1)=[]:=Hv _ _ (hg.var (by simp[Nd.kind,h6]) p 0)
     rw[hnd,List.append_nil] at g2
     have e1:pre++aM ⟨k,s,m,kids⟩ p=pre++[⟨⟨k,s,m,kids⟩,p⟩]++bN kids p 0:=by rw[bZ];simp[Nd.kids]
     have hni:pre.length∉ix++more:=fun hm=>by
      rcases List.mem_append.1 hm with h | h
      ·rcases hW.old _ h with h' | h'
       ·rw[fy] at h'
        simp[Nd.kind,h6] at h'
       ·omega
      ·have:=g3 _ h;omega
     have Ca:¬(aA l pre.length).n.kind=2:=by rw[fy];simp[Nd.kind,h6]
     have hb:=g2.bind (m:=pre.length) (by simp) Ca hni
     rw[fy] at hb
     simp only[Nd.text] at hb
     have hmn:bX s (env.headD [])=none:=by
      cases hx:bX s (env.headD []) with
      | none=>rfl
      | some v=>rw[hx] at hh;cases hh
     have gz:q.2.bs.length=(ix++more).length:=by rw[g2.bs];simp[vc]
     simp only[cK,hq,hmn]
     refine ⟨by rw[Nd.size_eq];exact (ky.one hs).eN g1,more++[pre.length],?_,?_,?_⟩
     ·rw[e1,←List.append_assoc]
      have e2:A++dI (aM ⟨k,s,m,kids⟩ p) pre.length=A++[pre.length]:=by
       rw[bZ]
       simp only[dI,hD,if_true]
       show A++([pre.length]++dI (bN kids p 0) (pre.length+1))=_
       rw[hnd]
       simp
      rw[e2]
      exact hb
     ·intro i hi
      rcases List.mem_append.1 hi with h | h
      ·have:=g3 i h;omega
      ·rw[List.mem_singleton] at h;omega
     ·rw[if_pos (by simp[Nd.kind,h6])]
      refine ⟨q.2.bs.length,by rw[gz];simp,?_,rfl⟩
      rw[gz,←List.append_assoc]
      simp[List.getD]
  rw[if_neg h6]
  have h6':¬Nd.kind ⟨k,s,m,kids⟩=6:=by simp[Nd.kind,h6]
  have Hz:fZ ⟨⟨k,s,m,kids⟩,p⟩=false:=by simp[fZ,Nd.kind,h6,h4]
  have hD:eR ⟨⟨k,s,m,kids⟩,p⟩=false:=by simp[eR,Nd.kind,h6,h4,h2]
  have hK:=AB (env':=env) hC (by simpa [Nd.kind] using h4) (fun x=>rfl) hC.ne (fun ⟨u,hu,TT⟩=>absurd TT (Hy h5 u hu))
  have Zc:∀(ev:List aO)(hU:gA ⟨⟨k,s,m,kids⟩,p⟩=true)(hst:cL l ⟨⟨k,s,m,kids⟩,p⟩=enc ix (bR ev s))(hlt:∀j,bR ev s=some j→j<ix.length)(yz:k=25→∀j,bR ev s=some j→(aA l (ix.getD j 0)).n.kind=2),
    EO l pre ⟨k,s,m,kids⟩ p ix A env (match gS ev { ws with at_:=ws.at_+1 } k s kids.length p ws.at_ with
     | .error e=>.error e
     | .ok w=>bo fu kids env w p 0):=by
   intro ev hU hst hlt yz
   unfold gS
   cases hf:bR ev s with
   | none =>
    rw[hf] at hst
    simp only
    rw[df]
    refine iq.left (n:=1) (iq.one ?_)
    unfold b9
    rw[fy]
    simp[Hz,hU,hst,enc]
   | some j =>
    rw[hf] at hst
    have hj:=hlt j hf
    have HA:cL l ⟨⟨k,s,m,kids⟩,p⟩=((ix.getD j 0:Nat):Int):=hst
    have hb:=Ax (l:=l) (pre:=pre) hj
    simp only[hW.bs,hb]
    by_cases c:k=25∧¬rz l (ix.getD j 0)=(kids.length:Nat)
    ·rw[if_pos c]
     simp only
     rw[df]
     refine iq.left (n:=1) (iq.one ?_)
     have hy:=c.2
     unfold rz at hy
     rw[if_pos (yz c.1 j hf)] at hy
     unfold b9
     rw[fy]
     have hn:¬cL l ⟨⟨k,s,m,kids⟩,p⟩<0:=by rw[HA];omega
     rw[if_neg (by simp[Hz]),if_neg (by simp[hU]),if_neg hn,if_pos]
     refine ⟨by simp[Nd.kind,c.1],?_⟩
     rw[HA,Int.toNat_natCast]
     intro h
     exact hy (congrArg _ h)
    ·rw[if_neg c]
     simp only
     have hs:b9 l pre.length=none:=by
      unfold b9
      rw[fy]
      have hn:¬cL l ⟨⟨k,s,m,kids⟩,p⟩<0:=by rw[HA];omega
      rw[if_neg (by simp[Hz]),if_neg (by simp[hU]),if_neg hn,if_neg]
      rintro ⟨c1,c2⟩
      have zG:k=25:=c1
      refine c ⟨zG,?_⟩
      unfold rz
      rw[if_pos (yz zG j hf)]
      rw[HA,Int.toNat_natCast] at c2
      intro h
      exact c2 (Int.ofNat.inj h)
     have EP:=hW.use hU hj HA
     rw[hW.bs,hb] at EP
     have hn:=n8 h6' hD hs (Py l _ post p 0 ix A env _ fu hF hK EP) id (fun q hq=>(by
      have:=Py l _ post p 0 ix A env _ fu hF hK EP
      rw[hq] at this
      exact this.2.choose_spec.2.2.2 (Hy h5)))
     cases hr:bo fu kids env { ws with at_:=ws.at_+1,bs:=(vc l pre ix).set j { (⟨(aA l (ix.getD j 0)).p,(aA l (ix.getD j 0)).n.text,ez l pre (ix.getD j 0),rz l (ix.getD j 0)⟩:Bd) with ct:=ez l pre (ix.getD j 0)++[p] } } p 0 with
     | error e=>rw[hr] at hn;exact hn
     | ok q=>rw[hr] at hn;exact hn
  by_cases yB:k=22
  ·rw[if_pos yB]
   have hkn:kids=[]:=hg.name (by simp[Nd.kind,yB])
   refine Zc env (by simp[gA,Nd.kind,yB]) ?_ (hC.lt s) (fun h=>by omega)
   unfold cL
   rw[if_neg (by simp[Nd.kind,yB])]
   simp only[Nd.text]
   have e0:l=pre++([⟨⟨k,s,m,kids⟩,p⟩]++post):=by rw[hC.eq,bZ,hkn];simp[bN,Nd.kids]
   have sE:p++[]=p:=by simp
   rw[e0,eB,eB]
   have h1:=hC.ag s []
   rw[sE] at h1
   have wg:=Hx (x:=s) (s:=[]) (i:=0+pre.length) (f:=kx s p pre 0 (-1)) hC.pne (t:=⟨k,s,m,kids⟩) (by simpa [Nd.kind] using h4)
   rw[sE] at wg
   rw[wg,h1]
   exact yU _ _ _ fun b hb hB=>by have:=hC.po b hb hB [];rwa [sE] at this
  rw[if_neg yB]
  by_cases yz:k=25
  ·rw[if_pos yz]
   have hfu:bR [fu] s=bX s fu:=by
    simp only[bR]
    cases bX s fu<;>rfl
   refine Zc [fu] (by simp[gA,Nd.kind,yz]) ?_ (fun j hj=>(hF.fl s j (by rw[←hfu];exact hj)).1) (fun _ j hj=>(hF.fl s j (by rw[←hfu];exact hj)).2)
   unfold cL
   rw[if_pos (by simp[Nd.kind,yz]),hfu]
   exact hF.fa s
  rw[if_neg yz]
  have hU:gA ⟨⟨k,s,m,kids⟩,p⟩=false:=by simp[gA,Nd.kind,yB,yz]
  have hs:b9 l pre.length=none:=by
   unfold b9
   rw[fy]
   simp[Hz,hU]
  have hR:=Py l _ post p 0 ix A env _ fu hF hK (hW.skip hU)
  have hn:=n8 h6' hD hs hR id (fun q hq=>by
   rw[hq] at hR
   exact hR.2.choose_spec.2.2.2 (Hy h5))
  cases hr:bo fu kids env { ws with at_:=ws.at_+1 } p 0 with
  | error e=>rw[hr] at hn;exact hn
  | ok q=>rw[hr] at hn;exact hn
theorem rB{t:Nd}{m:Nat}(h:bU t m=true):nD t=true∧∀j,j<t.kids.length→eO t.kind (au t.kids j).kind j=true∧bU (au t.kids j) (m - 1)=true:=by
 rw[je] at h
 simp only[Bool.and_eq_true] at h
 refine ⟨h.1.1.2,fun j hj=>?_⟩
 have:=(lh t.kind (m - 1) t.kids 0).1 h.1.2 j hj
 rwa [Nat.zero_add] at this
theorem jf{t:Nd}{m:Nat}(h:bU t m=true){u:Nd}(hu:u∈t.kids):∃j:Nat,j<t.kids.length∧eO t.kind u.kind j=true∧bU u (m - 1)=true:=by
 obtain ⟨j,hj,rfl⟩:=List.getElem_of_mem hu
 have:=(rB h).2 j hj
 rw[dM hj] at this
 exact ⟨j,hj,this⟩
theorem tR{t:Nd}{m:Nat}(h:bU t m=true)(h0:0≤gu t.kind):(t.kids.length:Int)=gu t.kind:=by
 have:=(rB h).1
 simp only[nD,Bool.and_eq_true,Bool.or_eq_true,decide_eq_true_eq] at this
 omega
theorem AC{p k a:Int}(hp:20≤p∨p=6)(h:eO p k a=true):iE k=true:=by
 unfold eO at h
 split at h
 ·cases h
 rw[if_neg (by omega),if_neg (by omega),if_neg (by omega),if_neg (by omega),if_neg (by omega),if_neg (by omega),if_neg (by omega)] at h
 exact h
theorem Pz(t:Nd):∀(m:Nat),bU t m=true→iE t.kind=true→∀(p:List Int)(b:Pl),b∈aM t p→eR b=false:=by
 induction t using Nd.ind with
 | _ t ih =>
  intro m h he p b hb
  have hk:20≤t.kind:=by simp[iE] at he;omega
  rw[bZ] at hb
  rcases List.mem_cons.1 hb with rfl | hb
  ·simp[eR];omega
  ·obtain ⟨j,u,⟨h1,h2⟩,h3⟩:=dN _ _ _ _ hb
   have hu:=List.mem_of_getElem? h2
   obtain ⟨j',_,hf,hr⟩:=jf h hu
   exact ih u hu _ hr (AC (.inl hk) hf) _ b h3
theorem De{p k a:Int}(hp:p=5∨6≤p)(h:eO p k a=true):(k=5∨6≤k)∧(p≠5→¬k=6):=by
 unfold eO at h
 split at h
 ·cases h
 rw[if_neg (by omega),if_neg (by omega),if_neg (by omega)] at h
 by_cases h5:p=5
 ·rw[if_pos h5] at h
  simp[tL] at h
  exact ⟨by omega,fun h'=>absurd h5 h'⟩
 rw[if_neg h5] at h
 by_cases h7:p=7
 ·rw[if_pos h7] at h
  simp[iE] at h
  exact ⟨by omega,fun _=>by omega⟩
 rw[if_neg h7] at h
 by_cases h8:p=8∨p=9
 ·rw[if_pos h8] at h
  simp[iE] at h
  exact ⟨by omega,fun _=>by omega⟩
 rw[if_neg h8] at h
 by_cases h12:p=12
 ·rw[if_pos h12] at h
  simp at h
  exact ⟨by omega,fun _=>by omega⟩
 rw[if_neg h12] at h
 simp[iE] at h
 exact ⟨by omega,fun _=>by omega⟩
theorem KU(t:Nd):∀(m:Nat),bU t m=true→(t.kind=5∨6≤t.kind)→mU t:=by
 induction t using Nd.ind with
 | _ t ih =>
  intro m h hk
  refine .mk hk (fun h5 u hu=>?_) (fun yB=>?_) (fun h6 p i b hb=>?_) fun u hu=>?_
  ·obtain ⟨j,_,hf,_⟩:=jf h hu
   exact (De hk hf).2 h5
  ·have:=tR h (by rw[yB];decide)
   rw[yB] at this
   have h0:t.kids.length=0:=by have:gu 22=0:=rfl;omega
   exact List.length_eq_zero_iff.1 h0
  ·obtain ⟨j,u,⟨h1,h2⟩,h3⟩:=dN _ _ _ _ hb
   have hu:=List.mem_of_getElem? h2
   obtain ⟨j',_,hf,hr⟩:=jf h hu
   exact Pz u _ hr (AC (.inr h6) hf) _ b h3
  ·obtain ⟨j,_,hf,hr⟩:=jf h hu
   exact ih u hu _ hr (De hk hf).1
structure Fn(f P B:Nd):Prop where
 kind:f.kind=2
 kids:f.kids=[P,B]
 pk:P.kind=3
 ps:∀q∈P.kids,q.kind=4∧q.kids=[]
 bk:B.kind=5
 bg:mU B
theorem sn{n:Nd}{m:Nat}(hk:n.kind=1)(h:bU n m=true){f:Nd}(hf:f∈n.kids):∃P B,Fn f P B:=by
 obtain ⟨j,_,h1,h2⟩:=jf h hf
 have k2:f.kind=2:=by
  rw[hk] at h1
  unfold eO at h1
  split at h1
  ·cases h1
  simpa using h1
 have hl:=tR h2 (by rw[k2];decide)
 have h2l:f.kids.length=2:=by
  rw[k2] at hl
  have:gu 2=2:=rfl
  omega
 obtain ⟨P,B,hPB⟩:∃P B,f.kids=[P,B]:=by
  match hq:f.kids,h2l with
  | [P,B],_=>exact ⟨P,B,rfl⟩
 have fB:=(rB h2).2
 rw[hPB] at fB
 obtain ⟨f0,r0⟩:=fB 0 (by simp)
 obtain ⟨f1,r1⟩:=fB 1 (by simp)
 have e0:au [P,B] 0=P:=rfl
 have e1:au [P,B] 1=B:=rfl
 rw[e0] at f0 r0
 rw[e1] at f1 r1
 rw[k2] at f0 f1
 have kP:P.kind=3:=by
  simp[eO,gu] at f0
  exact f0
 have kB:B.kind=5:=by
  simp[eO,gu] at f1
  exact f1
 refine ⟨P,B,k2,hPB,kP,fun q hq=>?_,kB,KU B _ r1 (.inl kB)⟩
 obtain ⟨j',_,g1,g2⟩:=jf r0 hq
 have k4:q.kind=4:=by
  rw[kP] at g1
  unfold eO at g1
  split at g1
  ·cases g1
  simpa using g1
 refine ⟨k4,?_⟩
 have:=tR g2 (by rw[k4];decide)
 rw[k4] at this
 have h0:q.kids.length=0:=by have:gu 4=0:=rfl;omega
 exact List.length_eq_zero_iff.1 h0
theorem XM{f P B:Nd}(hf:Fn f P B){p:List Int}{b:Pl}(hb:b∈aM f p):b=⟨f,p⟩∨b=⟨P,p++[0]⟩∨(∃i:Nat,∃q∈P.kids,b=⟨q,p++[0]++[(i:Int)]⟩)∨(b∈aM B (p++[1])∧mU b.n):=by
 rw[bZ,hf.kids] at hb
 simp only[bN,List.append_nil,List.mem_cons,List.mem_append] at hb
 rcases hb with h | h | h
 ·exact .inl h
 ·rw[bZ] at h
  rcases List.mem_cons.1 h with rfl | h
  ·exact .inr (.inl rfl)
  ·obtain ⟨j,u,⟨h1,h2⟩,h3⟩:=dN _ _ _ _ h
   have hu:=List.mem_of_getElem? h2
   rw[bZ,(hf.ps u hu).2] at h3
   simp only[bN,List.mem_singleton] at h3
   exact .inr (.inr (.inl ⟨j,u,hu,h3⟩))
 ·exact .inr (.inr (.inr ⟨h,vb B hf.bg _ b h⟩))
theorem TU{f P B:Nd}(hf:Fn f P B){j k:Int}(hne:j≠k){s:List Int}:∀b∈aM f [j],fZ b=true→dt b ([k]++s)=false:=by
 intro b hb hB
 rcases XM hf hb with rfl | rfl | ⟨i,q,hq,rfl⟩ | ⟨h,hg⟩
 ·simp[fZ,hf.kind] at hB
 ·simp[fZ,hf.pk] at hB
 ·exact mu (p:=[]) (j:=j) (k:=k) (s:=[0,(i:Int)]) (s':=s) rfl rfl hne (by simp) (by simp)
 ·have h4:¬b.n.kind=4:=by have:=hg.kind;omega
  rcases lm B _ b h with rfl | ⟨j2,s2,h2⟩
  ·exact mu (p:=[]) (j:=j) (k:=k) (s:=[1]) (s':=s) rfl rfl hne (by simp) fun h=>absurd h h4
  ·exact mu (p:=[]) (j:=j) (k:=k) (s:=[1]++([j2]++s2)) (s':=s) (by rw[h2];simp) rfl hne (by simp) fun h=>absurd h h4
theorem AD{s x:ByteArray}{j:Nat}{head:aO}{tl:List aO}:bR (dV s j head::tl) x=if x=s then some j else bR (head::tl) x:=by
 rw[rA,gj]
 by_cases h:x=s
 ·simp[h]
 ·rw[if_neg h,if_neg h,rA]
theorem wR(t:Nd)(r:List Nd)(p:List Int)(i:Nat):bN (t::r) p i=aM t (p++[(i:Int)])++bN r p (i+1):=rfl
theorem HB(r:List Nd)(hr:∀q∈r,q.kind=4∧q.kids=[]):∀(l pre post:List Pl)(f:List Int)(i:Nat)(ix A:List Nat)(head:aO)(tl:List aO)(ws:WS)(fu:aO),
  l=pre++(bN r (f++[0]) i++post)→(∀x s,kx x (f++[1]++s) pre 0 (-1)=enc ix (bR (head::tl) x))→(∀x j,bR (head::tl) x=some j→j<ix.length)→
  (∀x,(bX x head).isSome=pre.any fun b=>decide (b.n.kind=4) && (decide (b.n.text=x) && (decide (b.p.length=f.length+2) && nE b.p (f++[0]))))→lO l pre ix A ws→
  match bo fu r (head::tl) ws (f++[0]) i with
  | .error e=>iq l pre.length (Nd.aw r) e
  | .ok q=>ky l pre.length (Nd.aw r)∧∃(more:List Nat)(head':aO),lO l (pre++bN r (f++[0]) i) (ix++more) (A++dI (bN r (f++[0]) i) pre.length) q.2∧q.1=head'::tl∧
    (∀x s,kx x (f++[1]++s) (pre++bN r (f++[0]) i) 0 (-1)=enc (ix++more) (bR (head'::tl) x))∧(∀x j,bR (head'::tl) x=some j→j<(ix++more).length):=by
 induction r with
 | nil =>
  intro l pre post f i ix A head tl ws fu heq hag hlt hhv hW
  simp only[bo]
  exact ⟨ky.nil,[],head,by simpa [bN,dI] using hW,rfl,by simpa [bN] using hag,by simpa using hlt⟩
 | cons q r ih =>
  intro l pre post f i ix A head tl ws fu heq hag hlt hhv hW
  obtain ⟨hq4,hq0⟩:=hr q (by simp)
  obtain ⟨k,s,m,kids⟩:=q
  simp only[Nd.kind,Nd.kids] at hq4 hq0
  subst hq4 hq0
  have hN:aM ⟨4,s,m,[]⟩ (f++[0]++[(i:Int)])=[⟨⟨4,s,m,[]⟩,f++[0]++[(i:Int)]⟩]:=by rw[bZ];rfl
  have hU:gA ⟨⟨4,s,m,[]⟩,f++[0]++[(i:Int)]⟩=false:=rfl
  have hB:fZ ⟨⟨4,s,m,[]⟩,f++[0]++[(i:Int)]⟩=true:=rfl
  have hD:eR ⟨⟨4,s,m,[]⟩,f++[0]++[(i:Int)]⟩=true:=rfl
  have TV:bN (⟨4,s,m,[]⟩::r) (f++[0]) i=[⟨⟨4,s,m,[]⟩,f++[0]++[(i:Int)]⟩]++bN r (f++[0]) (i+1):=by rw[wR,hN]
  have hdu:∀n,dI [(⟨⟨4,s,m,[]⟩,f++[0]++[(i:Int)]⟩:Pl)] n=[n]:=fun n=>by simp only[dI,hD,if_true,List.append_nil]
  have oI:l=(pre++[⟨⟨4,s,m,[]⟩,f++[0]++[(i:Int)]⟩])++(bN r (f++[0]) (i+1)++post):=by rw[heq,TV];simp only[List.append_assoc]
  have fy:aA l pre.length=⟨⟨4,s,m,[]⟩,f++[0]++[(i:Int)]⟩:=by rw[oI,List.append_assoc];exact oH
  have KT:eg l pre.length=(bX s head).isSome:=by
   unfold eg
   rw[fy,hhv s,oI,List.append_assoc,List.take_left]
   congr 1
   funext b
   have h4:Nd.kind ⟨4,s,m,[]⟩=4:=rfl
   have hs:Nd.text ⟨4,s,m,[]⟩=s:=rfl
   have tj:(f++[0]++[(i:Int)]).length=f.length+2:=by simp
   have dz:(f++[0]++[(i:Int)]).take (f.length+2 - 1)=f++[0]:=by
    have:f.length+2 - 1=(f++[(0:Int)]).length:=by simp
    rw[this,List.take_left]
   unfold twin
   simp only[h4,hs,tj,dz]
  have df:=hW.at_
  have hsz:Nd.aw (⟨4,s,m,[]⟩::r)=1+Nd.aw r:=by simp[Nd.aw,Nd.size]
  have hl:(pre++[(⟨⟨4,s,m,[]⟩,f++[0]++[(i:Int)]⟩:Pl)]).length=pre.length+1:=by simp
  have AE:bw fu ⟨4,s,m,[]⟩ (head::tl) ws (f++[0]++[(i:Int)])=cK (head::tl) { ws with at_:=ws.at_+1 } s (f++[0]++[(i:Int)]) ws.at_:=by
   simp only[bw]
   rw[if_neg (by decide),if_pos trivial]
   cases cK (head::tl) { ws with at_:=ws.at_+1 } s (f++[0]++[(i:Int)]) ws.at_<;>rfl
  simp only[bo,AE]
  rw[hsz]
  cases hg:bX s head with
  | some v =>
   have hb:cK (head::tl) { ws with at_:=ws.at_+1 } s (f++[0]++[(i:Int)]) ws.at_ = .error (110,ws.at_):=by simp[cK,hg]
   rw[hb]
   simp only
   rw[df]
   refine iq.left (iq.one ?_)
   unfold b9
   rw[fy,if_pos ⟨hB,by rw[KT,hg];rfl⟩]
  | none =>
   have hb:cK (head::tl) { ws with at_:=ws.at_+1 } s (f++[0]++[(i:Int)]) ws.at_ = .ok (dV s ws.bs.length head::tl,{ ws with at_:=ws.at_+1,bs:=ws.bs++[⟨f++[0]++[(i:Int)],s,[],0⟩],all:=ws.all++[ws.bs.length] }):=by simp[cK,hg]
   rw[hb]
   simp only
   have hs:b9 l pre.length=none:=by
    unfold b9
    rw[fy,if_neg (by simp[KT,hg]),if_pos hU]
   have hni:pre.length∉ix:=fun hm=>by
    rcases hW.old _ hm with h | h
    ·rw[fy] at h;simp[Nd.kind] at h
    ·omega
   obtain ⟨w2,n9⟩:∃w2,({ ws with at_:=ws.at_+1,bs:=ws.bs++[⟨f++[0]++[(i:Int)],s,[],0⟩],all:=ws.all++[ws.bs.length] }:WS)=w2:=⟨_,rfl⟩
   have EP:lO l (pre++[⟨⟨4,s,m,[]⟩,f++[0]++[(i:Int)]⟩]) (ix++[pre.length]) (A++[pre.length]) w2:=by
    have h:=(hW.skip hU).bind (m:=pre.length) (by simp) (by rw[fy];simp[Nd.kind]) hni
    rw[fy] at h
    rw[←n9]
    exact h
   rw[n9]
   have gz:ws.bs.length=ix.length:=by rw[hW.bs];simp[vc]
   have hR:=ih (fun q hq=>hr q (by simp[hq])) l _ post f (i+1) (ix++[pre.length]) (A++[pre.length]) (dV s ws.bs.length head) tl _ fu oI ?_ ?_ ?_ EP
   ·rw[hl] at hR
    generalize bo fu r (dV s ws.bs.length head::tl) w2 (f++[0]) (i+1)=res at hR ⊢
    cases res with
    | error e=>exact iq.right (ky.one hs) hR
    | ok z =>
     obtain ⟨g1,more,head',g2,g3,g4,g5⟩:=hR
     have e1:pre++bN (⟨4,s,m,[]⟩::r) (f++[0]) i=pre++[⟨⟨4,s,m,[]⟩,f++[0]++[(i:Int)]⟩]++bN r (f++[0]) (i+1):=by rw[TV];simp only[List.append_assoc]
     have e2:A++dI (bN (⟨4,s,m,[]⟩::r) (f++[0]) i) pre.length=A++[pre.length]++dI (bN r (f++[0]) (i+1)) (pre.length+1):=by rw[TV,gT,hdu];simp only[List.append_assoc];rfl
     refine ⟨(ky.one hs).eN g1,pre.length::more,head',?_,g3,?_,?_⟩
     ·rw[e1,e2,show ix++pre.length::more=ix++[pre.length]++more by simp]
      exact g2
     ·intro x s'
      rw[e1,show ix++pre.length::more=ix++[pre.length]++more by simp]
      exact g4 x s'
     ·intro x j hj
      have:=g5 x j hj
      simpa using this
   ·intro x s'
    rw[eB,hag x s',Nat.zero_add,AD]
    simp only[kx]
    have XN:dt ⟨⟨4,s,m,[]⟩,f++[0]++[(i:Int)]⟩ (f++[1]++s')=true:=KQ rfl rfl rfl
    have hts:Nd.text ⟨4,s,m,[]⟩=s:=rfl
    rw[XN,hB,hts]
    by_cases hx:x=s
    ·have Cb:s=x:=hx.symm
     rw[if_pos hx,if_pos ⟨Cb,rfl,rfl⟩]
     simp[enc,gz,List.getD]
    ·have Cb:¬s=x:=fun h=>hx h.symm
     rw[if_neg hx,if_neg (fun h=>Cb h.1),ve (hlt x)]
   ·intro x j hj
    rw[AD] at hj
    split at hj
    ·cases hj
     rw[gz]
     simp
    ·have:=hlt x j hj
     simp;omega
   ·intro x
    rw[gj,List.any_append,List.any_cons,List.any_nil,Bool.or_false,←hhv x]
    have hts:Nd.text ⟨4,s,m,[]⟩=s:=rfl
    have h4:Nd.kind ⟨4,s,m,[]⟩=4:=rfl
    have nv:nE (f++[0]++[(i:Int)]) (f++[0])=true:=il.2 ⟨[(i:Int)],rfl⟩
    simp only[hts,h4,nv]
    by_cases hx:x=s
    ·simp[hx]
    ·have Cb:¬s=x:=fun h=>hx h.symm
     simp[hx,Cb]
theorem lO.decl{l pre:List Pl}{ix A:List Nat}{ws:WS}(h:lO l pre ix A ws){u:Pl}(hu:gA u=false){j:Nat}(hj:j<ix.length)(hi:ix.getD j 0=pre.length):lO l (pre++[u]) ix (A++[pre.length]) { ws with at_:=ws.at_+1,all:=ws.all++[j] } where
 at_:=(h.skip hu).at_
 bs:=(h.skip hu).bs
 all:=by
  simp only[List.map_append,List.map_cons,List.map_nil,hi]
  rw[h.all]
 lt:=fun z hz=>by
  rcases List.mem_append.1 hz with h1 | h1
  ·exact h.lt z h1
  ·rw[List.mem_singleton] at h1
   rw[h1];exact hj
 nd:=h.nd
 old:=(h.skip hu).old
 ct:=(h.skip hu).ct
theorem XO{f P B:Nd}(hf:Fn f P B)(l pre post:List Pl)(k:Nat)(ix A:List Nat)(ws:WS)(fu:aO)(hF:xW l ix fu)(heq:l=pre++(aM f [(k:Int)]++post))
  (hag:∀x s,kx x ([(k:Int)]++s) pre 0 (-1)=-1)(fF:∀b∈post,fZ b=true→∀s,dt b ([(k:Int)]++s)=false)(cv:∀b∈pre,∀s,b.p≠[(k:Int)]++s)
  (gp:∃j,bX f.text fu=some j∧ix.getD j 0=pre.length)(hW:lO l pre ix A ws) :
  match bw fu f [[]] ws [(k:Int)] with
  | .error e=>iq l pre.length f.size e
  | .ok r=>ky l pre.length f.size∧∃more,lO l (pre++aM f [(k:Int)]) (ix++more) (A++dI (aM f [(k:Int)]) pre.length) r.2∧r.1=[[]]:=by
 obtain ⟨j,hj,hji⟩:=gp
 have ou:=(hF.fl _ _ hj).1
 have Q2:=hf.kind
 have hfs:=hf.kids
 obtain ⟨fk,fs,fm,abu⟩:=f
 obtain ⟨pk,ps,pm,cR⟩:=P
 have hpk:pk=3:=hf.pk
 have hps:∀q∈cR,q.kind=4∧q.kids=[]:=hf.ps
 have ac7:fk=2:=Q2
 have ac8:abu=[⟨pk,ps,pm,cR⟩,B]:=hfs
 subst ac7 hpk ac8
 have hj':bX fs fu=some j:=hj
 have hU:gA ⟨⟨2,fs,fm,[⟨3,ps,pm,cR⟩,B]⟩,[(k:Int)]⟩=false:=rfl
 have hUP:gA ⟨⟨3,ps,pm,cR⟩,[(k:Int)]++[0]⟩=false:=rfl
 have hN:aM ⟨2,fs,fm,[⟨3,ps,pm,cR⟩,B]⟩ [(k:Int)]=[⟨⟨2,fs,fm,[⟨3,ps,pm,cR⟩,B]⟩,[(k:Int)]⟩]++([⟨⟨3,ps,pm,cR⟩,[(k:Int)]++[0]⟩]++(bN cR ([(k:Int)]++[0]) 0++aM B ([(k:Int)]++[1]))):=by
  rw[bZ]
  show _::bN [⟨3,ps,pm,cR⟩,B] [(k:Int)] 0=_
  simp only[bN]
  rw[bZ]
  simp[Nd.kids]
 have ac9:aA l pre.length=⟨⟨2,fs,fm,[⟨3,ps,pm,cR⟩,B]⟩,[(k:Int)]⟩:=by rw[heq,hN];exact oH
 have ada:aA l (pre.length+1)=⟨⟨3,ps,pm,cR⟩,[(k:Int)]++[0]⟩:=by
  have:=oH (pre:=pre++[⟨⟨2,fs,fm,[⟨3,ps,pm,cR⟩,B]⟩,[(k:Int)]⟩]) (u:=⟨⟨3,ps,pm,cR⟩,[(k:Int)]++[0]⟩) (r:=bN cR ([(k:Int)]++[0]) 0++aM B ([(k:Int)]++[1])++post)
  rw[heq,hN]
  simpa using this
 have hs0:b9 l pre.length=none:=by
  unfold b9
  rw[ac9,if_neg (by simp[fZ,Nd.kind]),if_pos hU]
 have hs1:b9 l (pre.length+1)=none:=by
  unfold b9
  rw[ada,if_neg (by simp[fZ,Nd.kind]),if_pos hUP]
 have sF:ky l pre.length 2:=(ky.one hs0).eN (m:=1) (ky.one hs1)
 have XP:=(hW.decl hU ou hji).skip hUP
 obtain ⟨xX,tS⟩:∃xX,pre++[(⟨⟨2,fs,fm,[⟨3,ps,pm,cR⟩,B]⟩,[(k:Int)]⟩:Pl)]++[⟨⟨3,ps,pm,cR⟩,[(k:Int)]++[0]⟩]=xX:=⟨_,rfl⟩
 rw[tS] at XP
 have dz:xX.length=pre.length+2:=by rw[←tS];simp
 have AE:bw fu ⟨2,fs,fm,[⟨3,ps,pm,cR⟩,B]⟩ [[]] ws [(k:Int)]=Zb (fun _=>[[]]) (bo fu [⟨3,ps,pm,cR⟩,B] [[],[]] { ws with at_:=ws.at_+1,all:=ws.all++[j] } [(k:Int)] 0):=by
  simp only[bw,if_true,hj',Option.getD_some]
  cases bo fu [⟨3,ps,pm,cR⟩,B] [[],[]] { ws with at_:=ws.at_+1,all:=ws.all++[j] } [(k:Int)] 0<;>rfl
 have hnP:bw fu ⟨3,ps,pm,cR⟩ [[],[]] { ws with at_:=ws.at_+1,all:=ws.all++[j] } [(k:Int),0]=bo fu cR [[],[]] { ws with at_:=ws.at_+1+1,all:=ws.all++[j] } [(k:Int),0] 0:=by
  simp[bw]
 have TW:∀b∈xX,b∈pre∨b=⟨⟨2,fs,fm,[⟨3,ps,pm,cR⟩,B]⟩,[(k:Int)]⟩∨b=⟨⟨3,ps,pm,cR⟩,[(k:Int)]++[0]⟩:=fun b hb=>by
  rw[←tS] at hb
  simpa [or_assoc] using hb
 have HC:=HB cR hps l xX (aM B ([(k:Int)]++[1])++post) [(k:Int)] 0 ix (A++[pre.length]) [] [[]] _ fu (by rw[heq,hN,←tS];simp) ?_ (fun x j h=>by simp[bR,bX] at h) ?_ XP
 rotate_left
 ·intro x s
  rw[←tS,eB,eB]
  have:=hag x ([1]++s)
  rw[show [(k:Int)]++[1]++s=[(k:Int)]++([1]++s) by simp,this]
  simp[kx,fZ,Nd.kind,bR,bX,enc]
 ·intro x
  symm
  simp only[bX,Option.isSome_none]
  rw[List.any_eq_false]
  intro b hb hc
  simp only[Bool.and_eq_true,decide_eq_true_eq,il] at hc
  obtain ⟨c1,-,c3,z,hz⟩:=hc
  rcases TW b hb with h | rfl | rfl
  ·exact cv b h ([0]++z) (by rw[←hz];simp)
  ·simp at c3
  ·simp at c3
 rw[AE]
 simp only[bo]
 rw[show ([(k:Int)]++[((0:Nat):Int)])=[(k:Int),0] from rfl,hnP]
 rw[show ([(k:Int)]++[(0:Int)])=[(k:Int),0] from rfl] at HC
 have hsz:Nd.size ⟨2,fs,fm,[⟨3,ps,pm,cR⟩,B]⟩=2+(Nd.aw cR+B.size):=by simp[Nd.size,Nd.aw];omega
 rw[hsz]
 rw[dz] at HC
 generalize bo fu cR [[],[]] { ws with at_:=ws.at_+1+1,all:=ws.all++[j] } [(k:Int),0] 0=res at HC ⊢
 cases res with
 | error e=>exact iq.right sF (iq.left HC)
 | ok q =>
  obtain ⟨g1,more,head',g2,g3,g4,g5⟩:=HC
  simp only
  have adb:(xX++bN cR [(k:Int),0] 0).length=pre.length+2+Nd.aw cR:=by rw[List.length_append,nF,dz]
  have hC:XK l (xX++bN cR [(k:Int),0] 0) post B ([(k:Int)]++[1]) (ix++more) q.1:=by
   refine ⟨by rw[heq,hN,←tS];simp,⟨[(k:Int)],1,rfl⟩,by rw[g3];simp,fun x s=>by rw[g3];exact g4 x s,fun x j h=>g5 x j (by rw[←g3];exact h),?_,?_,fun h=>?_⟩
   ·intro b hb hB s
    have:=fF b hb hB ([1]++s)
    rwa [show [(k:Int)]++[1]++s=[(k:Int)]++([1]++s) by simp]
   ·intro b hb s hs he
    rcases List.mem_append.1 hb with h | h
    ·rcases TW b h with h | rfl | rfl
     ·exact cv b h ([1]++s) (by rw[he];simp)
     ·have:=congrArg List.length he
      simp at this
     ·have e1 : [(k:Int)]++[0]++[]=[(k:Int)]++[1]++s:=by simp at he
      have:=(lj e1).1
      omega
    ·obtain ⟨j',u,⟨_,h2⟩,h3⟩:=dN _ _ _ _ h
     have hu:=hps u (List.mem_of_getElem? h2)
     rw[bZ,hu.2] at h3
     simp only[bN,List.mem_singleton] at h3
     rw[h3] at he
     have e1 : [(k:Int)]++[0]++[(j':Int)]=[(k:Int)]++[1]++s:=by simp at he
     have:=(lj e1).1
     omega
   ·rw[hf.bk] at h
    omega
  have hB:=Px B hf.bg l _ post ([(k:Int)]++[1]) (ix++more) _ q.1 q.2 fu (hF.more more) hC g2
  rw[show ([(k:Int)]++[((0+1:Nat):Int)])=[(k:Int)]++[1] from rfl]
  unfold EO at hB
  rw[adb] at hB
  generalize bw fu B q.1 q.2 ([(k:Int)]++[1])=res at hB ⊢
  have ho3:ky l pre.length (2+Nd.aw cR):=sF.eN g1
  cases res with
  | error e =>
   show iq l pre.length (2+(Nd.aw cR+B.size)) e
   rw[←Nat.add_assoc]
   exact iq.right ho3 (by simpa [Nat.add_assoc] using hB)
  | ok z =>
   obtain ⟨b1,AA,b2,b3,-⟩:=hB
   refine ⟨?_,more++AA,?_,rfl⟩
   ·rw[←Nat.add_assoc]
    exact ho3.eN (by simpa [Nat.add_assoc] using b1)
   ·have e1:pre++aM ⟨2,fs,fm,[⟨3,ps,pm,cR⟩,B]⟩ [(k:Int)]=xX++bN cR [(k:Int),0] 0++aM B ([(k:Int)]++[1]):=by rw[hN,←tS];simp
    have e2:A++dI (aM ⟨2,fs,fm,[⟨3,ps,pm,cR⟩,B]⟩ [(k:Int)]) pre.length=A++[pre.length]++dI (bN cR [(k:Int),0] 0) (pre.length+2)++dI (aM B ([(k:Int)]++[1])) (pre.length+2+Nd.aw cR):=by
     rw[hN,gT,gT,gT,nF]
     simp[dI,eR,Nd.kind]
    rw[e1,e2,←List.append_assoc]
    exact b2
theorem nG{x:ByteArray}:∀(a b:List Pl)(i:Nat)(f:Int),jS x (a++b) i f=jS x b (i+a.length) (jS x a i f)
 | [],b,i,f=>by simp[jS]
 | c::a,b,i,f=>by
  simp only[List.cons_append,jS,List.length_cons]
  rw[nG a b]
  congr 1
  omega
theorem ML{x:ByteArray}:∀(a:List Pl)(i:Nat)(f:Int),(∀b∈a,¬b.n.kind=2)→jS x a i f=f
 | [],_,_,_=>rfl
 | b::a,i,f,h=>by
  simp only[jS,if_neg (fun hh:b.n.text=x∧b.n.kind=2∧f<0=>h b (by simp) hh.2.1)]
  exact ML a (i+1) f fun c hc=>h c (by simp[hc])
theorem Df{x:ByteArray}:∀(a:List Pl)(i:Nat)(f:Int),0≤f→jS x a i f=f
 | [],_,_,_=>rfl
 | b::a,i,f,h=>by
  simp only[jS,if_neg (fun hh:b.n.text=x∧b.n.kind=2∧f<0=>absurd hh.2.2 (by omega))]
  exact Df a (i+1) f h
theorem HD{x:ByteArray}:∀(a:List Pl)(i:Nat),(jS x a i (-1)<0↔a.any (fun b=>decide (b.n.kind=2) && decide (b.n.text=x))=false)∧-1≤jS x a i (-1)
 | [],i=>by simp[jS]
 | b::a,i=>by
  by_cases c:b.n.text=x∧b.n.kind=2
  ·have h:jS x (b::a) i (-1)=(i:Int):=by
    simp only[jS,if_pos (⟨c.1,c.2,by omega⟩:b.n.text=x∧b.n.kind=2∧(-1:Int)<0)]
    exact Df a (i+1) _ (by omega)
   rw[h]
   simp[c.1,c.2]
  ·have h:jS x (b::a) i (-1)=jS x a (i+1) (-1):=by
    simp only[jS,if_neg (fun hh:b.n.text=x∧b.n.kind=2∧(-1:Int)<0=>c ⟨hh.1,hh.2.1⟩)]
   rw[h]
   have ih:=HD (x:=x) a (i+1)
   refine ⟨?_,ih.2⟩
   rw[ih.1,List.any_cons]
   have:(decide (b.n.kind=2) && decide (b.n.text=x))=false:=by
    by_cases h1:b.n.kind=2
    ·have h2:¬b.n.text=x:=fun h2=>c ⟨h2,h1⟩
     simp[h2]
    ·simp[h1]
   rw[this,Bool.false_or]
theorem vi{f P B:Nd}(hf:Fn f P B){p:List Int}{i:Nat}{b:Pl}(hb:b∈bN f.kids p i):¬b.n.kind=2:=by
 rw[hf.kids] at hb
 simp only[bN,List.append_nil,List.mem_append] at hb
 rcases hb with h | h
 ·rw[bZ] at h
  rcases List.mem_cons.1 h with rfl | h
  ·simp only[hf.pk];omega
  ·obtain ⟨j,u,⟨_,h2⟩,h3⟩:=dN _ _ _ _ h
   have hu:=hf.ps u (List.mem_of_getElem? h2)
   rw[bZ,hu.2] at h3
   simp only[bN,List.mem_singleton] at h3
   rw[h3]
   simp only[hu.1];omega
 ·have:=(vb B hf.bg _ b h).kind
  omega
structure TX(l pre:List Pl)(ix:List Nat)(fu:aO)(ws:WS):Prop where
 at_:ws.at_=0
 bs:ws.bs=ix.map fun i=>⟨(aA l i).p,(aA l i).n.text,[],rz l i⟩
 nd:ix.Nodup
 old:∀i∈ix,(aA l i).n.kind=2∧i<pre.length
 fa:∀x,jS x pre 0 (-1)=enc ix (bX x fu)
 lt:∀x j,bX x fu=some j→j<ix.length
 fi:∀(a c:List Pl)(u:Pl),pre=a++u::c→u.n.kind=2→∃j,bX u.n.text fu=some j∧ix.getD j 0=a.length
 one:∀b∈pre,b.n.kind=2→b.p.length=1
theorem Dg(r:List Nd)(hr:∀f∈r,∃P B,Fn f P B):∀(l pre:List Pl)(i:Nat)(ix:List Nat)(fu:aO)(ws:WS),l=pre++bN r [] i→TX l pre ix fu ws→
  match eQ r i fu ws pre.length with
  | .error e=>∃m,(pre.length≤m∧m<l.length)∧dH l m=some e∧∀m',pre.length≤m'→m'<m→dH l m'=none
  | .ok q=>(∀m,pre.length≤m→m<l.length→dH l m=none)∧∃ix',TX l l ix' q.1 q.2:=by
 induction r with
 | nil =>
  intro l pre i ix fu ws heq hH
  have:l=pre:=by rw[heq];simp[bN]
  subst this
  simp only[eQ]
  exact ⟨fun m h1 h2=>by omega,ix,hH⟩
 | cons f r ih =>
  intro l pre i ix fu ws heq hH
  obtain ⟨P,B,hf⟩:=hr f (by simp)
  have hN:=bZ f [(i:Int)]
  have TV:bN (f::r) [] i=[⟨f,[(i:Int)]⟩]++(bN f.kids [(i:Int)] 0++bN r [] (i+1)):=by rw[wR,List.nil_append,hN];rfl
  have oI:l=pre++([⟨f,[(i:Int)]⟩]++(bN f.kids [(i:Int)] 0++bN r [] (i+1))):=by rw[heq,TV]
  have fy:aA l pre.length=⟨f,[(i:Int)]⟩:=by rw[oI];exact oH
  have Zd:eg l pre.length=pre.any (fun b=>decide (b.n.kind=2) && decide (b.n.text=f.text)):=by
   unfold eg
   rw[fy,oI,List.take_left]
   rw[Bool.eq_iff_iff,List.any_eq_true,List.any_eq_true]
   constructor
   ·rintro ⟨b,hb,h⟩
    refine ⟨b,hb,?_⟩
    simp only[twin,Bool.and_eq_true,decide_eq_true_eq,hf.kind] at h ⊢
    exact ⟨h.1,h.2.1⟩
   ·rintro ⟨b,hb,h⟩
    refine ⟨b,hb,?_⟩
    simp only[twin,Bool.and_eq_true,decide_eq_true_eq,hf.kind] at h ⊢
    have h1:=hH.one b hb h.1
    exact ⟨h.1,h.2,by simpa using h1,il.2 (by simp)⟩
  have hsc:=HD (x:=f.text) pre 0
  rw[hH.fa] at hsc
  have th:∀m,pre.length<m→m<pre.length+f.size→dH l m=none:=by
   intro m h1 h2
   have hk:¬(aA l m).n.kind=2:=by
    have hm:(aA l m)∈bN f.kids [(i:Int)] 0:=by
     have hsz:(bN f.kids [(i:Int)] 0).length+1=f.size:=by rw[nF,Nd.size_eq];omega
     have hx:l[m]? = (bN f.kids [(i:Int)] 0)[m - pre.length - 1]?:=by
      rw[oI,List.getElem?_append_right (by omega),List.getElem?_append_right (by simp;omega),List.getElem?_append_left (by simp;omega)]
      simp
     unfold aA
     rw[List.getD,hx,List.getElem?_eq_getElem (by omega)]
     exact List.getElem_mem _
    exact vi hf hm
   unfold dH
   rw[if_neg (fun h=>hk h.1)]
  simp only[eQ,cK,List.headD_cons,List.tail_cons]
  cases hg:bX f.text fu with
  | some v =>
   simp only
   have ht:eg l pre.length=true:=by
    rw[Zd]
    cases hc:pre.any (fun b=>decide (b.n.kind=2) && decide (b.n.text=f.text)) with
    | true=>rfl
    | false =>
     have:=hsc.1.2 hc
     rw[hg] at this
     simp only[enc] at this
     omega
   refine ⟨pre.length,⟨Nat.le_refl _,by rw[oI];simp⟩,?_,fun m' h1 h2=>by omega⟩
   unfold dH
   rw[fy,if_pos ⟨hf.kind,ht⟩]
  | none =>
   simp only
   have ht:eg l pre.length=false:=by
    rw[Zd]
    refine hsc.1.1 ?_
    rw[hg]
    simp[enc]
   have hs:dH l pre.length=none:=by
    unfold dH
    rw[fy,ht]
    simp
   have gz:ws.bs.length=ix.length:=by rw[hH.bs];simp
   obtain ⟨w2,n9⟩:∃w2,({ ws with bs:=(ws.bs++[(⟨[(i:Int)],f.text,[],0⟩:Bd)]).set ws.bs.length { aR (ws.bs++[(⟨[(i:Int)],f.text,[],0⟩:Bd)]) ws.bs.length with many:=((au f.kids 0).kids.length:Nat) },all:=ws.all++[ws.bs.length] }:WS)=w2:=⟨_,rfl⟩
   rw[n9]
   have TY:(pre++aM f [(i:Int)]).length=pre.length+f.size:=by rw[List.length_append,e8]
   have ade:l=(pre++aM f [(i:Int)])++bN r [] (i+1):=by rw[oI,hN];simp
   have hH2:TX l (pre++aM f [(i:Int)]) (ix++[pre.length]) (dV f.text ws.bs.length fu) w2:=by
    have hni:pre.length∉ix:=fun h=>by have:=(hH.old _ h).2;omega
    refine ⟨by rw[←n9];exact hH.at_,?_,?_,?_,?_,?_,?_,?_⟩
    ·rw[←n9]
     simp only
     have hbd:aR (ws.bs++[(⟨[(i:Int)],f.text,[],0⟩:Bd)]) ws.bs.length=⟨[(i:Int)],f.text,[],0⟩:=by simp[aR,List.getD]
     rw[hbd,List.set_append_right _ _ (Nat.le_refl _),Nat.sub_self,hH.bs,List.map_append]
     congr 1
     have hm:rz l pre.length=((au f.kids 0).kids.length:Nat):=by
      unfold rz
      rw[fy,if_pos hf.kind]
     simp[fy,hm]
    ·rw[List.nodup_append]
     refine ⟨hH.nd,by simp,fun a ha b hb e=>?_⟩
     rw[List.mem_singleton] at hb
     subst hb e
     exact hni ha
    ·intro m hm
     rcases List.mem_append.1 hm with h | h
     ·obtain ⟨h1,h2⟩:=hH.old m h
      exact ⟨h1,by rw[TY];omega⟩
     ·rw[List.mem_singleton] at h
      subst h
      exact ⟨by rw[fy];exact hf.kind,by rw[TY];have:=f.size_pos;omega⟩
    ·intro x
     rw[hN,show pre++⟨f,[(i:Int)]⟩::bN f.kids [(i:Int)] 0=pre++([⟨f,[(i:Int)]⟩]++bN f.kids [(i:Int)] 0) from rfl,nG,nG,ML (bN f.kids [(i:Int)] 0) _ _ (fun b hb=>vi hf hb),hH.fa x,gj,Nat.zero_add]
     simp only[jS]
     by_cases hx:x=f.text
     ·have Cb:f.text=x:=hx.symm
      rw[if_pos hx,hx,hg,if_pos ⟨rfl,hf.kind,by simp[enc]⟩]
      simp[enc,gz,List.getD]
     ·rw[if_neg hx,if_neg (fun h=>hx h.1.symm),ve (hH.lt x)]
    ·intro x j hj
     rw[gj] at hj
     split at hj
     ·cases hj
      rw[gz]
      simp
     ·have:=hH.lt x j hj
      simp;omega
    ·intro a c u hu fB
     by_cases hal:a.length<pre.length
     ·-- an earlier one
      have hpre:∃c',pre=a++u::c':=by
       have h1:(pre++aM f [(i:Int)]).take pre.length=pre:=List.take_left
       rw[hu,List.take_append,List.take_of_length_le (by omega)] at h1
       obtain ⟨z,hz⟩:∃z,pre.length - a.length=z+1:=⟨pre.length - a.length - 1,by omega⟩
       rw[hz,List.take_succ_cons] at h1
       exact ⟨_,h1.symm⟩
      obtain ⟨c',zN⟩:=hpre
      obtain ⟨j,XQ,hj2⟩:=hH.fi a c' u zN fB
      have hne:¬u.n.text=f.text:=fun e=>by rw[e,hg] at XQ;cases XQ
      refine ⟨j,by rw[gj,if_neg hne];exact XQ,?_⟩
      rw[sm (hH.lt _ j XQ)]
      exact hj2
     ·have qp:(pre++aM f [(i:Int)])[a.length]? = some u:=by rw[hu];simp
      rw[List.getElem?_append_right (by omega),hN] at qp
      by_cases hz:a.length - pre.length=0
      ·rw[hz] at qp
       simp only[List.getElem?_cons_zero,Option.some.injEq] at qp
       subst qp
       have hap:a.length=pre.length:=by omega
       refine ⟨ws.bs.length,by rw[gj];simp,?_⟩
       rw[gz,hap]
       simp[List.getD]
      ·obtain ⟨z,hz2⟩:∃z,a.length - pre.length=z+1:=⟨a.length - pre.length - 1,by omega⟩
       rw[hz2,List.getElem?_cons_succ] at qp
       exact absurd fB (vi hf (List.mem_of_getElem? qp))
    ·intro b hb fB
     rcases List.mem_append.1 hb with h | h
     ·exact hH.one b h fB
     ·rw[hN] at h
      rcases List.mem_cons.1 h with rfl | h
      ·rfl
      ·exact absurd fB (vi hf h)
   have hR:=ih (fun g hg=>hr g (by simp[hg])) l _ (i+1) (ix++[pre.length]) _ w2 ade hH2
   rw[TY] at hR
   have hall:∀m,pre.length≤m→m<pre.length+f.size→dH l m=none:=fun m h1 h2=>by
    by_cases c:m=pre.length
    ·rw[c];exact hs
    ·exact th m (by omega) h2
   rw[show ([dV f.text ws.bs.length fu]:List aO).headD []=dV f.text ws.bs.length fu from rfl]
   generalize eQ r (i+1) (dV f.text ws.bs.length fu) w2 (pre.length+f.size)=res at hR ⊢
   cases res with
   | error e =>
    obtain ⟨m,⟨m1,m2⟩,m3,m4⟩:=hR
    refine ⟨m,⟨by omega,m2⟩,m3,fun m' h1 h2=>?_⟩
    by_cases c:m'<pre.length+f.size
    ·exact hall m' h1 c
    ·exact m4 m' (by omega) h2
   | ok q =>
    obtain ⟨m1,m2⟩:=hR
    refine ⟨fun m h1 h2=>?_,m2⟩
    by_cases c:m<pre.length+f.size
    ·exact hall m h1 c
    ·exact m1 m (by omega) h2
theorem HF(f:Nd)(r:List Nd)(i:Nat):bN (f::r) [] i=aM f [(i:Int)]++bN r [] (i+1):=by rw[wR];rfl
theorem PA(r:List Nd)(hr:∀f∈r,∃P B,Fn f P B):∀(l pre:List Pl)(i:Nat)(ix A:List Nat)(ws:WS)(fu:aO),xW l ix fu→l=pre++bN r [] i→
  (∀x (k:Nat) s,i≤k→kx x ([(k:Int)]++s) pre 0 (-1)=-1)→(∀b∈pre,∀(k:Nat) s,i≤k→b.p≠[(k:Int)]++s)→
  (∀(a c:List Pl)(u:Pl),l=a++u::c→u.n.kind=2→∃j,bX u.n.text fu=some j∧ix.getD j 0=a.length)→lO l pre ix A ws→
  match bo fu r [[]] ws [] i with
  | .error e=>iq l pre.length (Nd.aw r) e
  | .ok q=>ky l pre.length (Nd.aw r)∧∃more,lO l l (ix++more) (A++dI (bN r [] i) pre.length) q.2:=by
 induction r with
 | nil =>
  intro l pre i ix A ws fu hF heq hag cv gp hW
  have:l=pre:=by rw[heq];simp[bN]
  subst this
  simp only[bo]
  exact ⟨ky.nil,[],by simpa [bN,dI] using hW⟩
 | cons f r ih =>
  intro l pre i ix A ws fu hF heq hag cv gp hW
  obtain ⟨P,B,hf⟩:=hr f (by simp)
  have oI:l=pre++(aM f [(i:Int)]++bN r [] (i+1)):=by rw[heq,HF]
  have hown:∃j,bX f.text fu=some j∧ix.getD j 0=pre.length:=by
   refine gp pre (bN f.kids [(i:Int)] 0++bN r [] (i+1)) ⟨f,[(i:Int)]⟩ ?_ hf.kind
   rw[oI,bZ]
   simp
  have hN:=XO hf l pre (bN r [] (i+1)) i ix A ws fu hF oI (fun x s=>hag x i s (Nat.le_refl _)) ?_ (fun b hb s=>cv b hb i s (Nat.le_refl _)) hown hW
  rotate_left
  ·intro b hb hB s
   obtain ⟨j,u,⟨h1,h2⟩,h3⟩:=dN _ _ _ _ hb
   obtain ⟨P',B',hu⟩:=hr u (by simp[List.mem_of_getElem? h2])
   exact TU hu (by omega) b h3 hB
  simp only[bo,List.nil_append]
  have hsz:Nd.aw (f::r)=f.size+Nd.aw r:=by simp[Nd.aw]
  rw[hsz]
  have TY:(pre++aM f [(i:Int)]).length=pre.length+f.size:=by rw[List.length_append,e8]
  generalize bw fu f [[]] ws [(i:Int)]=res at hN ⊢
  cases res with
  | error e=>exact iq.left hN
  | ok q =>
   obtain ⟨ho,more,EP,he⟩:=hN
   simp only[he]
   have hR:=ih (fun g hg=>hr g (by simp[hg])) l (pre++aM f [(i:Int)]) (i+1) (ix++more) _ q.2 fu (hF.more more) (by rw[oI];simp) ?_ ?_ ?_ EP
   rotate_left
   ·intro x k s hk
    rw[eB,hag x k s (by omega)]
    exact yU _ _ _ fun b hb hB=>TU hf (by omega) b hb hB
   ·intro b hb k s hk Pw
    rcases List.mem_append.1 hb with h | h
    ·exact cv b h k s (by omega) Pw
    ·rcases lm f _ b h with rfl | ⟨j2,s2,h2⟩
     ·have e1:([]:List Int)++[(i:Int)]++[]=[]++[(k:Int)]++s:=by simpa using Pw
      have:=(lj e1).1
      omega
     ·rw[h2] at Pw
      have e1:([]:List Int)++[(i:Int)]++([j2]++s2)=[]++[(k:Int)]++s:=by simpa using Pw
      have:=(lj e1).1
      omega
   ·intro a c u h1 h2
    obtain ⟨j,j1,j2⟩:=gp a c u h1 h2
    exact ⟨j,j1,by rw[sm (hF.fl _ _ j1).1];exact j2⟩
   rw[TY] at hR
   generalize bo fu r [[]] q.2 [] (i+1)=res at hR ⊢
   cases res with
   | error e=>exact iq.right ho hR
   | ok z =>
    obtain ⟨g1,AA,g2⟩:=hR
    refine ⟨ho.eN g1,more++AA,?_⟩
    have e2:A++dI (bN (f::r) [] i) pre.length=A++dI (aM f [(i:Int)]) pre.length++dI (bN r [] (i+1)) (pre.length+f.size):=by rw[HF,gT,e8];simp
    rw[e2,←List.append_assoc]
    exact g2
theorem jM{g:Nat→Option fJ}:∀(n i:Nat),(∀m,i≤m→m<i+n→g m=none)→fU g n i=none
 | 0,_,_=>rfl
 | n+1,i,h=>by
  simp only[fU,h i (Nat.le_refl _) (by omega)]
  exact jM n (i+1) fun m h1 h2=>h m (by omega) (by omega)
theorem pC{g:Nat→Option fJ}{e:fJ}:∀(n i m:Nat),i≤m→m<i+n→g m=some e→(∀m',i≤m'→m'<m→g m'=none)→fU g n i=some e
 | 0,i,m,h1,h2,_,_=>by omega
 | n+1,i,m,h1,h2,h3,h4=>by
  simp only[fU]
  by_cases c:i=m
  ·rw[c,h3]
  ·rw[h4 i (Nat.le_refl _) (by omega)]
   exact pC n (i+1) m (by omega) (by omega) h3 fun m' g1 g2=>h4 m' (by omega) g2
theorem wS{n:Nd}(hk:n.kind=1)(h:bU n 40=true):match iI n with
  | .error e=>kU (aM n [])=e∧¬e.1=0
  | .ok ws=>kU (aM n [])=(0,0)∧∃ix,lO (aM n []) (aM n []) ix (dI (aM n []) 0) ws:=by
 have hr:∀f∈n.kids,∃P B,Fn f P B:=fun f hf=>sn hk h hf
 obtain ⟨l,hl⟩:∃l,aM n []=l:=⟨_,rfl⟩
 have heq:l=[⟨n,[]⟩]++bN n.kids [] 0:=by rw[←hl,bZ];rfl
 have hlen:l.length=1+Nd.aw n.kids:=by rw[heq,List.length_append,nF];rfl
 have hroot:aA l 0=⟨n,[]⟩:=by rw[heq];rfl
 have mR:dH l 0=none:=by unfold dH;rw[hroot,if_neg (by simp[hk])]
 have KV:b9 l 0=none:=by unfold b9;rw[hroot,if_neg (by simp[fZ,hk]),if_pos (by simp[gA,hk])]
 have B2:TX l [⟨n,[]⟩] [] [] ⟨[],[],0⟩:=by
  refine ⟨rfl,rfl,by simp,by simp,fun x=>by simp[jS,hk,enc,bX],fun x j hj=>by simp[bX] at hj,fun a c u hu h2=>?_,fun b hb h2=>?_⟩
  ·cases a with
   | nil=>simp at hu;rw[←hu.1] at h2;simp[hk] at h2
   | cons z a=>simp at hu
  ·simp at hb;rw[hb] at h2;simp[hk] at h2
 have hA:=Dg n.kids hr l [⟨n,[]⟩] 0 [] [] ⟨[],[],0⟩ heq B2
 rw[show ([(⟨n,[]⟩:Pl)]).length=1 from rfl] at hA
 rw[hl]
 unfold iI
 cases hq:eQ n.kids 0 [] ⟨[],[],0⟩ 1 with
 | error e =>
  rw[hq] at hA
  simp only at hA
  obtain ⟨m,⟨m1,m2⟩,m3,m4⟩:=hA
  simp only
  constructor
  ·unfold kU
   rw[pC l.length 0 m (by omega) (by omega) m3 fun m' h1 h2=>by
    by_cases c:m'=0
    ·rw[c];exact mR
    ·exact m4 m' (by omega) h2]
  ·unfold dH at m3
   split at m3
   ·cases m3;simp
   ·cases m3
 | ok q =>
  rw[hq] at hA
  simp only at hA
  obtain ⟨m1,ix,hH⟩:=hA
  simp only
  have hFn:fU (dH l) l.length 0=none:=jM _ _ fun m _ h2=>by
   by_cases c:m=0
   ·rw[c];exact mR
   ·exact m1 m (by omega) (by omega)
  have hF:xW l ix q.1:=⟨hH.fa,fun x j hj=>by
   have h1:=hH.lt x j hj
   refine ⟨h1,?_⟩
   have:ix.getD j 0∈ix:=by simp[List.getD,h1]
   exact (hH.old _ this).1⟩
  have hW0:lO l [] ix [] { q.2 with all:=[] }:=by
   refine ⟨hH.at_,?_,rfl,by simp,hH.nd,fun i hi=>.inl (hH.old i hi).1,by simp⟩
   simp only
   rw[hH.bs]
   simp[vc,ez]
  have XP:=hW0.skip (u:=⟨n,[]⟩) (by simp[gA,hk])
  have AE:bw q.1 n [[]] { q.2 with all:=[] } []=bo q.1 n.kids [[]] { q.2 with all:=[],at_:=q.2.at_+1 } [] 0:=by
   obtain ⟨k,s,m,kids⟩:=n
   have hk':k=1:=hk
   subst hk'
   simp only[bw]
   simp[Nd.kids]
  rw[AE]
  have hR:=PA n.kids hr l ([]++[⟨n,[]⟩]) 0 ix [] _ q.1 hF heq ?_ ?_ ?_ XP
  rotate_left
  ·intro x k s _
   simp[kx,fZ,hk]
  ·intro b hb k s _ he
   simp at hb
   rw[hb] at he
   simp at he
  ·intro a c u h1 h2
   exact hH.fi a c u h1 h2
  simp only[List.nil_append,List.length_singleton] at hR
  have hdI:dI l 0=dI (bN n.kids [] 0) 1:=by
   rw[heq,gT]
   simp[dI,eR,hk]
  generalize bo q.1 n.kids [[]] { q.2 with all:=[],at_:=q.2.at_+1 } [] 0=res at hR ⊢
  cases res with
  | error e =>
   obtain ⟨m,⟨k1,k2⟩,k3,k4⟩:=hR
   simp only
   constructor
   ·unfold kU
    rw[hFn]
    simp only
    rw[pC l.length 0 m (by omega) (by omega) k3 fun m' h1 h2=>by
     by_cases c:m'=0
     ·rw[c];exact KV
     ·exact k4 m' (by omega) h2]
   ·unfold b9 at k3
    split at k3
    ·cases k3;simp
    split at k3
    ·cases k3
    split at k3
    ·cases k3;simp
    split at k3
    ·cases k3;simp
    ·cases k3
  | ok z =>
   obtain ⟨g1,more,g2⟩:=hR
   simp only
   refine ⟨?_,ix++more,?_⟩
   ·unfold kU
    rw[hFn]
    simp only
    rw[jM _ _ fun m _ h2=>by
     by_cases c:m=0
     ·rw[c];exact KV
     ·exact g1 m (by omega) (by omega)]
   ·rw[hdI]
    exact g2
theorem nH(n:Nd):fT n=jb n:=by
 unfold fT jb
 by_cases c:n.kind=1∧bU n 40=true
 ·rw[if_pos c,if_pos c]
  have h:=wS c.1 c.2
  cases hq:iI n with
  | error e =>
   rw[hq] at h
   exact h.1.symm
  | ok ws =>
   rw[hq] at h
   exact h.1.symm
 ·rw[if_neg c,if_neg c]
theorem Dh:∀(l:List Pl)(i:Nat),dI l i=((List.range l.length).filter fun j=>eR (aA l j)).map (i+·)
 | [],_=>rfl
 | b::l,i=>by
  rw[List.length_cons,List.range_succ_eq_map,List.filter_cons]
  have h0:aA (b::l) 0=b:=rfl
  have hs:((fun j=>eR (aA (b::l) j))∘Nat.succ)=fun j=>eR (aA l j):=by funext j;rfl
  have hm:(List.map Nat.succ ((List.range l.length).filter fun j=>eR (aA l j))).map (i+·)=dI l (i+1):=by
   rw[Dh l (i+1),List.map_map]
   apply List.map_congr_left
   intro a _
   simp only[Function.comp]
   omega
  rw[h0,List.filter_map,hs]
  simp only[dI]
  cases hb:eR b with
  | true=>simp only[if_true];rw[List.map_cons,hm];rfl
  | false =>
   simp only[Bool.false_eq_true,if_false,List.nil_append]
   rw[hm]
theorem iY(n:Nd):aI n=eS n:=by
 unfold aI eS
 rw[nH]
 by_cases z:(jb n).1=0
 ·rw[if_pos z,if_pos z]
  by_cases c:n.kind=1∧bU n 40=true
  ·have h:=wS c.1 c.2
   have hc:jb n=kU (aM n []):=by unfold jb;rw[if_pos c]
   cases hq:iI n with
   | error e =>
    rw[hq] at h
    simp only at h
    rw[hc,h.1] at z
    exact absurd z h.2
   | ok ws =>
    rw[hq] at h
    obtain ⟨-,ix,hW⟩:=h
    simp only
    generalize aM n []=l at hW ⊢
    have hd:((List.range l.length).filter fun i=>eR (aA l i))=ws.all.map (fun j=>ix.getD j 0):=by
     rw[hW.all,Dh]
     simp
    rw[hd,List.map_map]
    apply List.map_congr_left
    intro j hj
    rw[hW.bs,Ax (hW.lt j hj)]
    rfl
  ·have hc:jb n=(4,0):=by unfold jb;rw[if_neg c]
   rw[hc] at z
   simp at z
 ·rw[if_neg z,if_neg z]
mutual
def jN:Nd→Nd→Bool
 | ⟨k,s,n,l⟩,⟨k',s',n',l'⟩=>decide (k=k') && (decide (n=n') && ((dF k || decide (s=s')) && jg l l'))
def jg:List Nd→List Nd→Bool
 | [],[]=>true
 | a::r,b::q=>jN a b && jg r q
 | _,_=>false
end
theorem wT(a b:Nd):jN a b=(decide (a.kind=b.kind) && (decide (a.num=b.num) && ((dF a.kind || decide (a.text=b.text)) && jg a.kids b.kids))):=by cases a;cases b;rfl
theorem AF:∀{l m:List Nd},¬l.length=m.length→jg l m=false
 | [],[],h=>absurd rfl h
 | [],_::_,_=>by simp[jg]
 | _::_,[],_=>by simp[jg]
 | a::r,b::q,h=>by
  simp only[jg,Bool.and_eq_false_iff]
  exact .inr (AF (by simpa using h))
theorem pD:∀{l m:List Nd},l.length=m.length→(jg l m=true↔∀j,j<l.length→jN (au l j) (au m j)=true)
 | [],[],_=>by simp[jg]
 | [],_::_,h=>by simp at h
 | _::_,[],h=>by simp at h
 | a::r,b::q,h=>by
  simp only[jg,Bool.and_eq_true]
  rw[pD (by simpa using h)]
  constructor
  ·rintro ⟨h1,h2⟩ j hj
   cases j with
   | zero=>simpa [au] using h1
   | succ j=>simpa [au] using h2 j (by simpa using hj)
  ·intro h
   exact ⟨by simpa [au] using h 0 (by simp),fun j hj=>by simpa [au] using h (j+1) (by simpa using hj)⟩
theorem TZ{l m:List Nd}(h:l.length=m.length){k:Nat}(hk:k<l.length)(e:jN (au l k) (au m k)=false):jg l m=false:=by
 cases h2:jg l m
 ·rfl
 ·rw[(pD h).1 h2 k hk] at e
  cases e
theorem AG{l m:List Nd}(h:l.length=m.length)(e:∀j,j<l.length→jN (au l j) (au m j)=true):jg l m=true:=(pD h).2 e
def dl(n:Nd):Bool:=decide (n.kind=1) && decide ((fT n).1=0)
def gy(x y:gv):Bool:=decide (x.1=y.1) && decide (x.2.2=y.2.2)
def dh:List gv→List gv→Bool
 | [],[]=>true
 | a::r,b::q=>gy a b && dh r q
 | _,_=>false
def cX(a b:Nd):Bool:=dl a && (dl b && (jN a b && dh (aI a) (aI b)))
mutual
def bc(f:List Int→Bool)(x:ByteArray):Nd→List Int→Nd
 | ⟨k,s,n,l⟩,p=>⟨k,if f p=true then x else s,n,cD f x l p 0⟩
def cD(f:List Int→Bool)(x:ByteArray):List Nd→List Int→Nat→List Nd
 | [],_,_=>[]
 | t::r,p,i=>bc f x t (p++[(i:Int)])::cD f x r p (i+1)
end
theorem da(f:List Int→Bool)(x:ByteArray)(t:Nd)(p:List Int):bc f x t p=⟨t.kind,if f p=true then x else t.text,t.num,cD f x t.kids p 0⟩:=by cases t;simp only[bc,Nd.kind,Nd.text,Nd.num,Nd.kids]
theorem cP(f:List Int→Bool)(x:ByteArray):∀(l:List Nd)(p:List Int)(i:Nat),(cD f x l p i).length=l.length
 | [],_,_=>rfl
 | t::r,p,i=>by simp only[cD,List.length_cons,cP f x r]
theorem gU(f:List Int→Bool)(x:ByteArray):∀(l:List Nd)(p:List Int)(i j:Nat),j<l.length→au (cD f x l p i) j=bc f x (au l j) (p++[((i+j:Nat):Int)])
 | [],_,_,_,h=>by simp at h
 | t::r,p,i,0,_=>by simp[cD,au]
 | t::r,p,i,j+1,h=>by
  have:=gU f x r p (i+1) j (by simpa using h)
  rw[show i+1+j=i+(j+1) by omega] at this
  simpa [cD,au] using this
theorem xY(f:List Int→Bool)(x:ByteArray):∀(l:List Nd)(p:List Int)(i k:Nat),k<l.length→cD f x (l.take (k+1)) p i=cD f x (l.take k) p i++[bc f x (au l k) (p++[((i+k:Nat):Int)])]
 | [],_,_,_,h=>by simp at h
 | t::r,p,i,0,_=>by simp[cD,au]
 | t::r,p,i,k+1,h=>by
  have:=xY f x r p (i+1) k (by simpa using h)
  rw[show i+1+k=i+(k+1) by omega] at this
  simpa [cD,au] using this
def bH(ps:List (List Int))(p:List Int):Bool:=ps.any fun q=>decide (q=p)
def bn(n:Nd)(x:ByteArray)(path:List Int):Nd×Int :=
 if n.kind=1∧bU n 40=true then
  if dl n=true then
   match (aI n).find? fun b=>decide (b.1=path) with
   | none=>(Nd.none,6)
   | some b=>if ej x=true then (if cX n (bc (bH (path::b.2.2)) x n [])=true then (bc (bH (path::b.2.2)) x n [],0) else (Nd.none,120)) else (Nd.none,2)
  else (Nd.none,122)
 else (Nd.none,4)
theorem AH{t:Nd}{p:List Int}{b:Pl}(h:b∈aM t p):∃s,b.p=p++s:=by
 rcases lm t p b h with rfl | ⟨j,s,e⟩
 ·exact ⟨[],by simp⟩
 ·exact ⟨[j]++s,by rw[e];simp⟩
theorem AJ:∀(l:List Nd),(∀t∈l,∀p,((aM t p).map (·.p)).Nodup)→∀(p:List Int)(i:Nat),((bN l p i).map (·.p)).Nodup
 | [],_,_,_=>by simp[bN]
 | t::r,h,p,i=>by
  simp only[bN,List.map_append]
  refine List.nodup_append.2 ⟨h t (by simp) _,AJ r (fun u hu=>h u (by simp[hu])) p (i+1),fun a ha b hb e=>?_⟩
  obtain ⟨x,hx,rfl⟩:=List.mem_map.1 ha
  obtain ⟨y,hy,rfl⟩:=List.mem_map.1 hb
  obtain ⟨s,h1⟩:=AH hx
  obtain ⟨j,u,⟨h2,_⟩,h3⟩:=dN _ _ _ _ hy
  obtain ⟨s',h4⟩:=AH h3
  rw[h1,h4] at e
  have:=(lj e).1
  omega
theorem kz(t:Nd):∀p,((aM t p).map (·.p)).Nodup:=by
 induction t using Nd.ind with
 | _ t ih =>
  intro p
  rw[bZ,List.map_cons,List.nodup_cons]
  refine ⟨fun h=>?_,AJ _ ih p 0⟩
  obtain ⟨y,hy,e⟩:=List.mem_map.1 h
  obtain ⟨j,u,_,h3⟩:=dN _ _ _ _ hy
  obtain ⟨s',h4⟩:=AH h3
  rw[h4] at e
  have:=congrArg List.length e
  simp at this
theorem sr{l:List Pl}{i:Nat}(h:i<l.length):aA l i∈l:=by
 have:aA l i=l[i]:=by simp[aA,List.getD,h]
 rw[this]
 exact List.getElem_mem _
theorem oJ{l:List Pl}{b:Pl}(h:b∈l):∃i,i<l.length∧aA l i=b:=by
 obtain ⟨i,hi,e⟩:=List.getElem_of_mem h
 exact ⟨i,hi,by simp[aA,List.getD,hi,e]⟩
theorem vj{l:List Pl}(hn:(l.map (·.p)).Nodup){i j:Nat}(hi:i<l.length)(hj:j<l.length)(e:(aA l i).p=(aA l j).p):i=j:=by
 have hi':i<(l.map (·.p)).length:=by simpa using hi
 have hj':j<(l.map (·.p)).length:=by simpa using hj
 have e':(l.map (·.p))[i]=(l.map (·.p))[j]:=by simpa [aA,List.getD,hi,hj] using e
 rcases Nat.lt_trichotomy i j with h1 | h1 | h1
 ·exact absurd e' (List.pairwise_iff_getElem.1 hn i j hi' hj' h1)
 ·exact h1
 ·exact absurd e'.symm (List.pairwise_iff_getElem.1 hn j i hj' hi' h1)
def tb(f:List Int→Bool)(x:ByteArray)(b:Pl):Pl:=⟨bc f x b.n b.p,b.p⟩
theorem Di(f:List Int→Bool)(x:ByteArray):∀(l:List Nd),(∀t∈l,∀p,aM (bc f x t p) p=(aM t p).map (tb f x))→∀(p:List Int)(i:Nat),bN (cD f x l p i) p i=(bN l p i).map (tb f x)
 | [],_,_,_=>by simp[bN,cD]
 | t::r,h,p,i=>by
  simp only[cD,bN,List.map_append]
  rw[h t (by simp),Di f x r (fun u hu=>h u (by simp[hu]))]
theorem oL(f:List Int→Bool)(x:ByteArray)(t:Nd):∀p,aM (bc f x t p) p=(aM t p).map (tb f x):=by
 induction t using Nd.ind with
 | _ t ih =>
  intro p
  rw[bZ t,List.map_cons,←Di f x t.kids ih p 0,bZ]
  simp only[tb,da,Nd.kids]
theorem eT{l:List Pl}(g:Pl→Pl){i:Nat}(h:i<l.length):aA (l.map g) i=g (aA l i):=by simp[aA,List.getD,h]
section
variable {f:List Int→Bool}{x:ByteArray}{b:Pl}
theorem MM:(tb f x b).p=b.p:=rfl
theorem jO:(tb f x b).n.kind=b.n.kind:=by simp[tb,da,Nd.kind]
theorem mV:(tb f x b).n.text=if f b.p=true then x else b.n.text:=by simp only[tb,da,Nd.text]
theorem HG:(tb f x b).n.kids=cD f x b.n.kids b.p 0:=by
 simp only[tb]
 rw[da]
 rfl
theorem lq{t:Nd}{p:List Int}:(bc f x t p).kind=t.kind:=by
 rw[da]
 rfl
theorem pE{t:Nd}{p:List Int}:(bc f x t p).num=t.num:=by
 rw[da]
 rfl
theorem lu{t:Nd}{p:List Int}:(bc f x t p).text=if f p=true then x else t.text:=by
 rw[da]
 rfl
theorem lv{t:Nd}{p:List Int}:(bc f x t p).kids=cD f x t.kids p 0:=by
 rw[da]
 rfl
theorem XS:(tb f x b).n.kids.length=b.n.kids.length:=by rw[HG,cP]
theorem T0:(au (tb f x b).n.kids 0).kids.length=(au b.n.kids 0).kids.length:=by
 rw[HG]
 by_cases h:0<b.n.kids.length
 ·rw[gU f x b.n.kids b.p 0 0 h,lv,cP]
 ·have e:b.n.kids=[]:=List.length_eq_zero_iff.1 (by omega)
  rw[e]
  rfl
theorem yV:fZ (tb f x b)=fZ b:=by simp only[fZ,jO]
theorem EQ:gA (tb f x b)=gA b:=by simp only[gA,jO]
theorem XT:eR (tb f x b)=eR b:=by simp only[eR,jO]
theorem PB{q:List Int}:dt (tb f x b) q=dt b q:=by
 have h:(tb f x b).p=b.p:=rfl
 unfold dt
 rw[jO,h]
end
def gV(P:Nat→Bool):Nat→Int
 | 0=>-1
 | n+1=>if P n=true then n else gV P n
def dJ(P:Nat→Bool):Nat→Int
 | 0=>-1
 | n+1=>if P n=true∧dJ P n<0 then n else dJ P n
section
variable {P Q:Nat→Bool}{i0:Nat}
theorem xZ:∀{n:Nat},(∀i,i<n→i≠i0→Q i=P i)→(i0<n→Q i0=false)→gV P n≠i0→gV Q n=gV P n
 | 0,_,_,_=>rfl
 | n+1,h,h0,hne=>by
  simp only[gV] at hne ⊢
  by_cases c:P n=true
  ·rw[if_pos c] at hne ⊢
   have:n≠i0:=fun e=>hne (by rw[e])
   rw[if_pos (by rw[h n (by omega) this];exact c)]
  ·rw[if_neg c] at hne ⊢
   have hq:¬Q n=true:=by
    by_cases e:n=i0
    ·rw[e,h0 (by omega)];simp
    ·rw[h n (by omega) e];exact c
   rw[if_neg hq]
   exact xZ (fun i hi=>h i (by omega)) (fun hi=>h0 (by omega)) hne
theorem ya:∀{n:Nat},i0<n→Q i0=true→(∀i,i<n→i≠i0→Q i=false)→gV Q n=i0
 | 0,h,_,_=>by omega
 | n+1,hi,h0,h=>by
  simp only[gV]
  by_cases e:n=i0
  ·rw[e,if_pos h0]
  ·rw[if_neg (by rw[h n (by omega) e];simp)]
   exact ya (by omega) h0 fun i hi=>h i (by omega)
theorem yb:∀{n:Nat},(∀i,i<n→Q i=false)→gV Q n=-1
 | 0,_=>rfl
 | n+1,h=>by
  simp only[gV]
  rw[if_neg (by rw[h n (by omega)];simp)]
  exact yb fun i hi=>h i (by omega)
theorem rC:∀{n:Nat}{i:Nat},gV P n=i→i<n∧P i=true
 | 0,i,h=>by simp only[gV] at h;omega
 | n+1,i,h=>by
  simp only[gV] at h
  split at h
  ·rename_i c
   have:n=i:=by omega
   subst this
   exact ⟨by omega,c⟩
  ·have:=rC h
   exact ⟨by omega,this.2⟩
theorem vm:∀{n:Nat},(∀i,i<n→i≠i0→Q i=P i)→(i0<n→Q i0=false)→dJ P n≠i0→dJ Q n=dJ P n
 | 0,_,_,_=>rfl
 | n+1,h,h0,hne=>by
  have hn:dJ P n≠i0:=fun e=>hne (by
   simp only[dJ]
   rw[if_neg (fun c=>by have:=c.2;omega)]
   exact e)
  have ih:=vm (n:=n) (fun i hi=>h i (by omega)) (fun hi=>h0 (by omega)) hn
  simp only[dJ] at hne ⊢
  rw[ih]
  by_cases c:P n=true∧dJ P n<0
  ·rw[if_pos c] at hne ⊢
   have:n≠i0:=fun e=>hne (by rw[e])
   rw[if_pos ⟨by rw[h n (by omega) this];exact c.1,c.2⟩]
  ·rw[if_neg c]
   refine if_neg fun c2=>c ⟨?_,c2.2⟩
   by_cases e:n=i0
   ·rw[e,h0 (by omega)] at c2;simp at c2
   ·rw[←h n (by omega) e];exact c2.1
theorem pF:∀{n:Nat},(∀i,i<n→Q i=false)→dJ Q n=-1
 | 0,_=>rfl
 | n+1,h=>by
  simp only[dJ]
  rw[if_neg (by rw[h n (by omega)];simp)]
  exact pF fun i hi=>h i (by omega)
theorem vn:∀{n:Nat},i0<n→Q i0=true→(∀i,i<n→i≠i0→Q i=false)→dJ Q n=i0
 | 0,h,_,_=>by omega
 | n+1,hi,h0,h=>by
  simp only[dJ]
  by_cases e:n=i0
  ·subst e
   rw[pF (n:=n) fun i hi=>h i (by omega) (by omega)]
   rw[if_pos ⟨h0,by omega⟩]
  ·rw[if_neg (by rw[h n (by omega) e];simp)]
   exact vn (by omega) h0 fun i hi=>h i (by omega)
theorem pG:∀{n:Nat}{i:Nat},dJ P n=i→i<n∧P i=true
 | 0,i,h=>by simp only[dJ] at h;omega
 | n+1,i,h=>by
  simp only[dJ] at h
  split at h
  ·rename_i c
   have:n=i:=by omega
   subst this
   exact ⟨by omega,c.1⟩
  ·have:=pG h
   exact ⟨by omega,this.2⟩
end
def oa(l:List Pl)(x:ByteArray)(q:List Int)(i:Nat):Bool:=decide ((aA l i).n.text=x) && (fZ (aA l i) && dt (aA l i) q)
def kC(l:List Pl)(x:ByteArray)(i:Nat):Bool:=decide ((aA l i).n.text=x) && decide ((aA l i).n.kind=2)
theorem PC{l:List Pl}{x:ByteArray}{q:List Int}:kx x q l 0 (-1)=gV (oa l x q) l.length:=by
 have key:∀k,k≤l.length→kx x q (l.take k) 0 (-1)=gV (oa l x q) k:=by
  intro k
  induction k with
  | zero=>intro _;simp[kx,gV]
  | succ k ih =>
   intro hk
   have h:k<l.length:=by omega
   rw[List.take_add_one,List.getElem?_eq_getElem h,eB]
   have e:aA l k=l[k]:=by simp[aA,List.getD,h]
   simp only[Option.toList_some,kx,Nat.zero_add,List.length_take,Nat.min_eq_left (Nat.le_of_lt h),gV,oa,e]
   rw[ih (by omega)]
   by_cases c:l[k].n.text=x∧fZ l[k]=true∧dt l[k] q=true
   ·rw[if_pos c,if_pos (by simp[c])]
   ·rw[if_neg c,if_neg (by simpa using c)]
 have:=key l.length (Nat.le_refl _)
 rwa [List.take_length] at this
theorem KW{l:List Pl}{x:ByteArray}:jS x l 0 (-1)=dJ (kC l x) l.length:=by
 have key:∀k,k≤l.length→jS x (l.take k) 0 (-1)=dJ (kC l x) k:=by
  intro k
  induction k with
  | zero=>intro _;simp[jS,dJ]
  | succ k ih =>
   intro hk
   have h:k<l.length:=by omega
   rw[List.take_add_one,List.getElem?_eq_getElem h,nG]
   have e:aA l k=l[k]:=by simp[aA,List.getD,h]
   simp only[Option.toList_some,jS,Nat.zero_add,List.length_take,Nat.min_eq_left (Nat.le_of_lt h),dJ,kC,e]
   rw[ih (by omega)]
   by_cases c:l[k].n.text=x∧l[k].n.kind=2∧dJ (kC l x) k<0
   ·rw[if_pos c,if_pos (by simp[kC,c])]
   ·rw[if_neg c]
    refine (if_neg fun c2=>c ?_).symm
    simp only[kC,Bool.and_eq_true,decide_eq_true_eq] at c2
    exact ⟨c2.1.1,c2.1.2,c2.2⟩
 have:=key l.length (Nat.le_refl _)
 rwa [List.take_length] at this
theorem kD{l:List Pl}{u:Pl}:cL l u=if u.n.kind=25 then dJ (kC l u.n.text) l.length else gV (oa l u.n.text u.p) l.length:=by
 unfold cL
 rw[PC,KW]
theorem rD{g:Nat→Option fJ}:∀(n i:Nat),fU g n i=none→∀m,i≤m→m<i+n→g m=none
 | 0,i,_,m,h1,h2=>by omega
 | n+1,i,h,m,h1,h2=>by
  simp only[fU] at h
  cases hg:g i with
  | some e=>rw[hg] at h;cases h
  | none =>
   rw[hg] at h
   by_cases c:m=i
   ·rw[c,hg]
   ·exact rD n (i+1) h m (by omega) (by omega)
theorem rE{g:Nat→Option fJ}{e:fJ}:∀(n i:Nat),fU g n i=some e→∃m,g m=some e
 | 0,i,h=>by simp[fU] at h
 | n+1,i,h=>by
  simp only[fU] at h
  cases hg:g i with
  | some e'=>rw[hg] at h;cases h;exact ⟨i,hg⟩
  | none=>rw[hg] at h;exact rE n (i+1) h
theorem KX{l:List Pl}{i:Nat}{e:fJ}(h:dH l i=some e):e.1≠0:=by
 unfold dH at h
 split at h
 ·cases h;simp
 ·cases h
theorem KY{l:List Pl}{i:Nat}{e:fJ}(h:b9 l i=some e):e.1≠0:=by
 unfold b9 at h
 repeat' split at h
 all_goals first | (cases h;simp;done) | (cases h;done) | simp at h
theorem HH{l:List Pl}:(kU l).1=0↔∀i,i<l.length→dH l i=none∧b9 l i=none:=by
 constructor
 ·intro h
  unfold kU at h
  cases h1:fU (dH l) l.length 0 with
  | some e =>
   rw[h1] at h
   obtain ⟨m,hm⟩:=rE _ _ h1
   exact absurd h (KX hm)
  | none =>
   rw[h1] at h
   simp only at h
   cases h2:fU (b9 l) l.length 0 with
   | some e =>
    rw[h2] at h
    obtain ⟨m,hm⟩:=rE _ _ h2
    exact absurd h (KY hm)
   | none=>exact fun i hi=>⟨rD _ _ h1 i (Nat.zero_le _) (by omega),rD _ _ h2 i (Nat.zero_le _) (by omega)⟩
 ·intro h
  unfold kU
  rw[jM l.length 0 fun m _ hm=>(h m (by omega)).1,jM l.length 0 fun m _ hm=>(h m (by omega)).2]
theorem kE{n:Nd}:dl n=true↔(n.kind=1∧bU n 40=true)∧∀i,i<(aM n []).length→dH (aM n []) i=none∧b9 (aM n []) i=none:=by
 unfold dl
 rw[nH,←HH]
 unfold jb
 by_cases c:n.kind=1∧bU n 40=true
 ·rw[if_pos c]
  simp[c]
 ·rw[if_neg c]
  simp[c]
structure Ren(l:List Pl)(i0:Nat)(f:List Int→Bool):Prop where
 lt:i0<l.length
 PD:eR (aA l i0)=true
 iff:∀i,i<l.length→(f (aA l i).p=true↔i=i0∨(gA (aA l i)=true∧cL l (aA l i)=i0))
theorem ER{b:Pl}(h:eR b=true):gA b=false:=by
 simp only[eR,Bool.or_eq_true,decide_eq_true_eq] at h
 simp only[gA]
 rcases h with h | h | h<;>rw[h]<;>decide
theorem pH{b:Pl}(h:eR b=true):dF b.n.kind=true:=by
 simp only[eR,Bool.or_eq_true,decide_eq_true_eq] at h
 rcases h with h | h | h<;>rw[h]<;>decide
theorem AK{b:Pl}(h:gA b=true):dF b.n.kind=true:=by
 simp only[gA,Bool.or_eq_true,decide_eq_true_eq] at h
 rcases h with h | h<;>rw[h]<;>decide
theorem wU{b:Pl}(h:fZ b=true):eR b=true:=by
 simp only[fZ,Bool.or_eq_true,decide_eq_true_eq] at h
 simp only[eR,Bool.or_eq_true,decide_eq_true_eq]
 exact .inr h
theorem HI{b:Pl}(h:b.n.kind=2):eR b=true:=by simp[eR,h]
theorem AL{l:List Pl}{u:Pl}{i:Nat}(h:cL l u=i):i<l.length∧(aA l i).n.text=u.n.text∧eR (aA l i)=true:=by
 rw[kD] at h
 split at h
 ·obtain ⟨h1,h2⟩:=pG h
  simp only[kC,Bool.and_eq_true,decide_eq_true_eq] at h2
  exact ⟨h1,h2.1,HI h2.2⟩
 ·obtain ⟨h1,h2⟩:=rC h
  simp only[oa,Bool.and_eq_true,decide_eq_true_eq] at h2
  exact ⟨h1,h2.1,wU h2.2.1⟩
section
variable {l:List Pl}{i0:Nat}{f:List Int→Bool}{x:ByteArray}
theorem Ren.T1(h:Ren l i0 f){i:Nat}(hi:i<l.length)(hd:eR (aA l i)=true):f (aA l i).p=true↔i=i0:=by
 rw[h.iff i hi,ER hd]
 simp
def nI(l:List Pl)(x:ByteArray):Prop:=∀i,i<l.length→dF (aA l i).n.kind=true→(aA l i).n.text≠x
theorem Ren.mb(h:Ren l i0 f)(hx:nI l x){i:Nat}(hi:i<l.length)(hd:eR (aA l i)=true):(tb f x (aA l i)).n.text=x↔i=i0:=by
 rw[mV]
 by_cases c:f (aA l i).p=true
 ·rw[if_pos c]
  simp[(h.T1 hi hd).1 c]
 ·rw[if_neg c]
  exact ⟨fun e=>absurd e (hx i hi (pH hd)),fun e=>absurd ((h.T1 hi hd).2 e) c⟩
theorem Ren.yW(h:Ren l i0 f){i:Nat}(hi:i<l.length)(hd:eR (aA l i)=true)(hne:i≠i0):(tb f x (aA l i)).n.text=(aA l i).n.text:=by
 rw[mV,if_neg fun c=>hne ((h.T1 hi hd).1 c)]
theorem Ren.stands(h:Ren l i0 f)(hx:nI l x){i:Nat}(hi:i<l.length)(hu:gA (aA l i)=true):cL (l.map (tb f x)) (tb f x (aA l i))=cL l (aA l i):=by
 have HJ:i≠i0:=fun e=>by
  have:=ER h.PD
  rw[←e,hu] at this
  cases this
 have hN:=hx i hi (AK hu)
 have Ze:=h.iff i hi
 rw[kD,kD,jO,MM,List.length_map]
 have XU:∀(y:ByteArray) j,j<l.length→kC (l.map (tb f x)) y j=(decide ((tb f x (aA l j)).n.text=y) && decide ((aA l j).n.kind=2)):=fun y j hj=>by
  unfold kC
  rw[eT _ hj,jO]
 have yt:∀(y:ByteArray)(q:List Int) j,j<l.length→oa (l.map (tb f x)) y q j=(decide ((tb f x (aA l j)).n.text=y) && (fZ (aA l j) && dt (aA l j) q)):=fun y q j hj=>by
  unfold oa
  rw[eT _ hj,yV,PB]
 by_cases hf:f (aA l i).p=true
 ·have hst:cL l (aA l i)=i0:=by
   rcases Ze.1 hf with e | ⟨_,e⟩
   ·exact absurd e HJ
   ·exact e
  have ht:(tb f x (aA l i)).n.text=x:=by rw[mV,if_pos hf]
  rw[ht]
  rw[kD] at hst
  split at hst
  ·rename_i qq
   rw[if_pos qq,if_pos qq,hst]
   obtain ⟨_,h2⟩:=pG hst
   simp only[kC,Bool.and_eq_true,decide_eq_true_eq] at h2
   refine vn h.lt ?_ fun j hj hne=>?_
   ·rw[XU x i0 h.lt,(h.mb hx h.lt h.PD).2 rfl]
    simp[h2.2]
   ·rw[XU x j hj]
    by_cases k2:(aA l j).n.kind=2
    ·have:¬(tb f x (aA l j)).n.text=x:=fun e=>hne ((h.mb hx hj (HI k2)).1 e)
     simp[this]
    ·simp[k2]
  ·rename_i qq
   rw[if_neg qq,if_neg qq,hst]
   obtain ⟨_,h2⟩:=rC hst
   simp only[oa,Bool.and_eq_true,decide_eq_true_eq] at h2
   refine ya h.lt ?_ fun j hj hne=>?_
   ·rw[yt x _ i0 h.lt,(h.mb hx h.lt h.PD).2 rfl]
    simp[h2.2]
   ·rw[yt x _ j hj]
    by_cases kB:fZ (aA l j)=true
    ·have:¬(tb f x (aA l j)).n.text=x:=fun e=>hne ((h.mb hx hj (wU kB)).1 e)
     simp[this]
    ·simp[kB]
 ·have hst:cL l (aA l i)≠i0:=fun e=>hf (Ze.2 (.inr ⟨hu,e⟩))
  have ht:(tb f x (aA l i)).n.text=(aA l i).n.text:=by rw[mV,if_neg hf]
  rw[ht]
  rw[kD] at hst
  have h0:¬(tb f x (aA l i0)).n.text=(aA l i).n.text:=by
   rw[(h.mb hx h.lt h.PD).2 rfl]
   exact fun e=>hN e.symm
  split at hst
  ·rename_i qq
   rw[if_pos qq,if_pos qq]
   refine vm (fun j hj hne=>?_) (fun hj=>?_) hst
   ·rw[XU _ j hj]
    unfold kC
    by_cases k2:(aA l j).n.kind=2
    ·rw[h.yW hj (HI k2) hne]
    ·simp[k2]
   ·rw[XU _ i0 hj]
    simp[h0]
  ·rename_i qq
   rw[if_neg qq,if_neg qq]
   refine xZ (fun j hj hne=>?_) (fun hj=>?_) hst
   ·rw[yt _ _ j hj]
    unfold oa
    by_cases kB:fZ (aA l j)=true
    ·rw[h.yW hj (wU kB) hne]
    ·simp[kB]
   ·rw[yt _ _ i0 hj]
    simp[h0]
theorem AM{i:Nat}(hi:i<l.length):eg l i=true↔∃j,j<i∧twin (aA l j) (aA l i)=true:=by
 unfold eg
 rw[List.any_eq_true]
 constructor
 ·rintro ⟨a,ha,h⟩
  obtain ⟨j,hj,e⟩:=List.getElem_of_mem ha
  rw[List.getElem_take] at e
  simp only[List.length_take] at hj
  refine ⟨j,by omega,?_⟩
  have:aA l j=a:=by rw[←e];simp[aA,List.getD,show j<l.length by omega]
  rw[this]
  exact h
 ·rintro ⟨j,hj,h⟩
  refine ⟨_,?_,h⟩
  have:aA l j=(l.take i)[j]'(by simp;omega):=by simp[aA,List.getD,show j<l.length by omega]
  rw[this]
  exact List.getElem_mem _
theorem Ren.T2(h:Ren l i0 f)(hx:nI l x){i:Nat}(hi:i<l.length)(hd:eR (aA l i)=true)(h0:eg l i=false):eg (l.map (tb f x)) i=false:=by
 cases c:eg (l.map (tb f x)) i with
 | false=>rfl
 | true =>
  exfalso
  obtain ⟨j,hj,ht⟩:=(AM (by simpa using hi)).1 c
  have ou:j<l.length:=by omega
  rw[eT _ hi,eT _ ou] at ht
  simp only[twin,Bool.and_eq_true,decide_eq_true_eq,jO,MM] at ht
  obtain ⟨t1,t2,t3,t4⟩:=ht
  have hdj:eR (aA l j)=true:=by simp only[eR] at hd ⊢;rw[t1];exact hd
  have hno:¬(aA l j).n.text=(aA l i).n.text:=fun e=>by
   have:eg l i=true:=(AM hi).2 ⟨j,hj,by simp[twin,t1,e,of_decide_eq_true t3,t4]⟩
   rw[h0] at this
   cases this
  by_cases ci:i=i0
  ·have e:=(h.mb hx hi hd).2 ci
   rw[e] at t2
   have:=(h.mb hx ou hdj).1 t2
   omega
  ·by_cases cj:j=i0
   ·have e:=(h.mb hx ou hdj).2 cj
    rw[e] at t2
    exact ci ((h.mb hx hi hd).1 t2.symm)
   ·rw[h.yW hi hd ci,h.yW ou hdj cj] at t2
    exact hno t2
theorem Ren.steps(h:Ren l i0 f)(hx:nI l x)(h0:∀i,i<l.length→dH l i=none∧b9 l i=none):∀i,i<(l.map (tb f x)).length→dH (l.map (tb f x)) i=none∧b9 (l.map (tb f x)) i=none:=by
 intro i hi
 rw[List.length_map] at hi
 obtain ⟨g1,g2⟩:=h0 i hi
 unfold dH at g1 ⊢
 unfold b9 at g2 ⊢
 rw[eT _ hi,jO,yV,EQ]
 constructor
 ·refine if_neg fun ⟨c1,c2⟩=>?_
  cases c:eg l i with
  | true=>rw[if_pos ⟨c1,c⟩] at g1;cases g1
  | false=>rw[h.T2 hx hi (HI c1) c] at c2;cases c2
 ·have hB:¬(fZ (aA l i)=true∧eg l i=true):=fun c=>by rw[if_pos c] at g2;cases g2
  rw[if_neg hB] at g2
  have hB':¬(fZ (aA l i)=true∧eg (l.map (tb f x)) i=true):=fun ⟨c1,c2⟩=>by
   cases c:eg l i with
   | true=>exact hB ⟨c1,c⟩
   | false=>rw[h.T2 hx hi (wU c1) c] at c2;cases c2
  rw[if_neg hB']
  by_cases hu:gA (aA l i)=false
  ·rw[if_pos hu]
  ·have NV:gA (aA l i)=true:=by simpa using hu
   rw[if_neg hu] at g2 ⊢
   rw[h.stands hx hi NV,XS]
   by_cases hs:cL l (aA l i)<0
   ·rw[if_pos hs] at g2;cases g2
   ·rw[if_neg hs] at g2 ⊢
    have hj:cL l (aA l i)=((cL l (aA l i)).toNat:Nat):=by omega
    obtain ⟨j1,_,_⟩:=AL hj
    rw[eT _ j1,T0]
    exact g2
theorem Ren.ct(h:Ren l i0 f)(hx:nI l x)(i:Nat):ez (l.map (tb f x)) (l.map (tb f x)) i=ez l l i:=by
 unfold ez
 rw[List.filter_map,List.map_map]
 have e:(fun u:Pl=>u.p)∘tb f x=fun u=>u.p:=rfl
 rw[e]
 congr 1
 refine List.filter_congr fun u hu=>?_
 obtain ⟨j,hj,rfl⟩:=oJ hu
 simp only[Function.comp,EQ]
 by_cases c:gA (aA l j)=true
 ·rw[h.stands hx hj c]
 ·simp[c]
end
theorem HK:∀(l:List Nd)(p:List Int)(i j:Nat)(hj:j<l.length)(b:Pl),b∈aM (au l j) (p++[((i+j:Nat):Int)])→b∈bN l p i
 | [],_,_,_,h,_,_=>by simp at h
 | t::r,p,i,0,_,b,hb=>by simp only[bN,List.mem_append];left;simpa [au] using hb
 | t::r,p,i,j+1,hj,b,hb=>by
  simp only[bN,List.mem_append]
  right
  refine HK r p (i+1) j (by simpa using hj) b ?_
  rw[show i+1+j=i+(j+1) by omega]
  simpa [au] using hb
theorem HL{t:Nd}{p:List Int}{j:Nat}(hj:j<t.kids.length){b:Pl}(hb:b∈aM (au t.kids j) (p++[(j:Int)])):b∈aM t p:=by
 rw[bZ]
 exact List.mem_cons_of_mem _ (HK t.kids p 0 j hj b (by simpa using hb))
theorem wV(t:Nd)(p:List Int):(⟨t,p⟩:Pl)∈aM t p:=by rw[bZ];simp
theorem tT(f:List Int→Bool)(x:ByteArray)(l:List Nd)(p:List Int)(j:Nat):(au (cD f x l p 0) j).kind=(au l j).kind:=by
 by_cases h:j<l.length
 ·rw[gU f x l p 0 j h,da];rfl
 ·have h1:au l j=Nd.none:=by simp[au,List.getD,show l.length≤j by omega]
  have h2:au (cD f x l p 0) j=Nd.none:=by simp[au,List.getD,cP,show l.length≤j by omega]
  rw[h1,h2]
theorem KZ(f:List Int→Bool)(x:ByteArray)(k:Int)(l:List Nd)(p:List Int):u9 k (cD f x l p 0)=u9 k l:=by
 unfold u9
 rw[tT]
 congr 3
 by_cases h:0<l.length
 ·rw[gU f x l p 0 0 h,da]
  simp only[Nd.kids]
  rw[tT]
 ·have e:l=[]:=List.length_eq_zero_iff.1 (by omega)
  rw[e]
  rfl
theorem HM(f:List Int→Bool)(x:ByteArray)(hx:ej x=true)(t:Nd):∀(m:Nat)(p:List Int),(∀b∈aM t p,f b.p=true→dF b.n.kind=true)→bU t m=true→bU (bc f x t p) m=true:=by
 induction t using Nd.ind with
 | _ t ih =>
  intro m p hf h
  rw[je] at h
  simp only[Bool.and_eq_true] at h
  obtain ⟨⟨⟨h1,h2⟩,h3⟩,h4⟩:=h
  have hs:=hf _ (wV t p)
  simp only at hs
  have ht:tP (bc f x t p)=tP t∨tP (bc f x t p)=true:=by
   unfold tP
   rw[lq,lu]
   by_cases c:f p=true
   ·simp only[c,hs c,if_true]
    exact .inr hx
   ·simp only[c,if_false]
    exact .inl rfl
  rw[je]
  simp only[Bool.and_eq_true]
  have e1:(bc f x t p).kind=t.kind:=by rw[da];rfl
  have e2:(bc f x t p).num=t.num:=by rw[da];rfl
  have e3:(bc f x t p).kids=cD f x t.kids p 0:=by rw[da];rfl
  rw[e1,e3]
  refine ⟨⟨⟨h1,?_⟩,?_⟩,by rw[KZ];exact h4⟩
  ·unfold nD at h2 ⊢
   rw[e1,e2,e3,cP]
   simp only[Bool.and_eq_true] at h2 ⊢
   refine ⟨⟨h2.1.1,?_⟩,h2.2⟩
   rcases ht with e | e
   ·rw[e];exact h2.1.2
   ·exact e
  ·rw[lh] at h3 ⊢
   rw[cP]
   intro j hj
   obtain ⟨g1,g2⟩:=h3 j hj
   rw[tT,gU f x t.kids p 0 j hj]
   refine ⟨g1,ih _ (eF hj) _ _ (fun b hb=>hf b (HL hj (by simpa using hb))) g2⟩
theorem K0(f:List Int→Bool)(x:ByteArray)(t:Nd):∀(p:List Int),(∀b∈aM t p,f b.p=true→dF b.n.kind=true)→jN t (bc f x t p)=true:=by
 induction t using Nd.ind with
 | _ t ih =>
  intro p hf
  have hs:=hf _ (wV t p)
  simp only at hs
  rw[wT,lq,lu,pE,lv]
  have h1:(dF t.kind || decide (t.text=if f p=true then x else t.text))=true:=by
   by_cases c:f p=true
   ·rw[hs c];rfl
   ·rw[if_neg c];simp
  rw[h1,AG (cP f x t.kids p 0).symm fun j hj=>by
   rw[gU f x t.kids p 0 j hj]
   exact ih _ (eF hj) _ fun b hb=>hf b (HL hj (by simpa using hb))]
  simp
theorem HN{t:Nd}:∀{m:Nat}{p:List Int},bU t m=true→∀b∈aM t p,dF b.n.kind=true→ej b.n.text=true:=by
 induction t using Nd.ind with
 | _ t ih =>
  intro m p h b hb hn
  rw[bZ] at hb
  rcases List.mem_cons.1 hb with rfl | hb
  ·rw[je] at h
   simp only[Bool.and_eq_true,nD] at h
   have h2:=h.1.1.2.1.2
   unfold tP at h2
   rw[if_pos hn] at h2
   exact h2
  ·obtain ⟨j,u,⟨h1,h2⟩,h3⟩:=dN _ _ _ _ hb
   have hu:=List.mem_of_getElem? h2
   obtain ⟨j',_,_,h4⟩:=jf h hu
   exact ih u hu h4 b h3 hn
theorem HP(a:Nd):∀b,jN a b=true→jN b a=true:=by
 induction a using Nd.ind with
 | _ a ih =>
  intro b h
  rw[wT] at h ⊢
  simp only[Bool.and_eq_true,Bool.or_eq_true,decide_eq_true_eq] at h ⊢
  obtain ⟨h1,h2,h3,h4⟩:=h
  have hl:a.kids.length=b.kids.length:=by
   by_cases c:a.kids.length=b.kids.length
   ·exact c
   ·rw[AF c] at h4;cases h4
  rw[pD hl] at h4
  refine ⟨h1.symm,h2.symm,by rw[←h1];exact h3.imp (fun h=>h) Eq.symm,AG hl.symm fun j hj=>ih _ (eF (by omega)) _ (h4 j (by omega))⟩
theorem ET{a b:gv}(h:gy a b=true):gy b a=true:=by
 simp only[gy,Bool.and_eq_true,decide_eq_true_eq] at h ⊢
 exact ⟨h.1.symm,h.2.symm⟩
theorem vo:∀{a b:List gv},dh a b=true→dh b a=true
 | [],[],_=>rfl
 | [],_::_,h=>by simp[dh] at h
 | _::_,[],h=>by simp[dh] at h
 | a::r,b::q,h=>by
  simp only[dh,Bool.and_eq_true] at h ⊢
  exact ⟨ET h.1,vo h.2⟩
theorem yc{a b:Nd}(h:cX a b=true):cX b a=true:=by
 simp only[cX,Bool.and_eq_true] at h ⊢
 exact ⟨h.2.1,h.1,HP _ _ h.2.2.1,vo h.2.2.2⟩
theorem rF{g h:Nat→gv}:∀{L:List Nat},dh (L.map g) (L.map h)=true↔∀i∈L,gy (g i) (h i)=true
 | []=>by simp[dh]
 | i::L=>by
  simp only[List.map_cons,dh,Bool.and_eq_true,rF (L:=L)]
  simp
theorem vp{q:List Int}{a:gv}:∀{A B:List gv},dh A B=true→A.find? (fun b=>decide (b.1=q))=some a→∃b,B.find? (fun b=>decide (b.1=q))=some b∧b.2.2=a.2.2
 | [],[],_,h=>by simp at h
 | [],_::_,h,_=>by simp[dh] at h
 | _::_,[],h,_=>by simp[dh] at h
 | x::r,y::s,h,ha=>by
  simp only[dh,Bool.and_eq_true] at h
  have h1:=h.1
  simp only[gy,Bool.and_eq_true,decide_eq_true_eq] at h1
  rw[List.find?_cons] at ha ⊢
  rw[←h1.1]
  by_cases c:x.1=q
  ·rw[decide_eq_true c] at ha ⊢
   simp only at ha ⊢
   cases ha
   exact ⟨y,rfl,h1.2.symm⟩
  ·rw[decide_eq_false c] at ha ⊢
   simp only at ha ⊢
   exact vp h.2 ha
def rG(l:List Pl)(i:Nat):gv:=((aA l i).p,(aA l i).n.text,ez l l i)
def sK(l:List Pl):List Nat:=(List.range l.length).filter fun i=>eR (aA l i)
theorem oM{l:List Pl}{i:Nat}:i∈sK l↔i<l.length∧eR (aA l i)=true:=by simp[sK]
theorem eC{n:Nd}(h:dl n=true):aI n=(sK (aM n [])).map (rG (aM n [])):=by
 rw[iY]
 unfold dl at h
 rw[nH] at h
 simp only[Bool.and_eq_true,decide_eq_true_eq] at h
 unfold eS
 rw[if_pos h.2]
 rfl
theorem wW{l:List Pl}{f:List Int→Bool}{x:ByteArray}:sK (l.map (tb f x))=sK l:=by
 unfold sK
 rw[List.length_map]
 refine List.filter_congr fun i hi=>?_
 rw[eT _ (List.mem_range.1 hi),XT]
theorem AN{n:Nd}(h:dl n=true){i0:Nat}(hi:i0∈sK (aM n [])):(aI n).find? (fun b=>decide (b.1=(aA (aM n []) i0).p))=some (rG (aM n []) i0):=by
 rw[eC h]
 have hm:rG (aM n []) i0∈(sK (aM n [])).map (rG (aM n [])):=List.mem_map.2 ⟨i0,hi,rfl⟩
 cases hf:((sK (aM n [])).map (rG (aM n []))).find? (fun b=>decide (b.1=(aA (aM n []) i0).p)) with
 | none =>
  have:=List.find?_eq_none.1 hf _ hm
  simp[rG] at this
 | some c =>
  have h1:=List.find?_some hf
  have h2:=List.mem_of_find?_eq_some hf
  obtain ⟨j,hj,rfl⟩:=List.mem_map.1 h2
  have h3:(aA (aM n []) j).p=(aA (aM n []) i0).p:=of_decide_eq_true h1
  rw[vj (kz n []) (oM.1 hj).1 (oM.1 hi).1 h3]
def jP(l:List Pl)(i0:Nat):List Int→Bool:=bH ((aA l i0).p::ez l l i0)
theorem EU{l:List Pl}(hn:(l.map (·.p)).Nodup){i0:Nat}(hi:i0∈sK l):Ren l i0 (jP l i0):=by
 obtain ⟨h1,h2⟩:=oM.1 hi
 refine ⟨h1,h2,fun i lI=>?_⟩
 simp only[jP,bH,List.any_cons,Bool.or_eq_true,decide_eq_true_eq,List.any_eq_true]
 constructor
 ·rintro (e | ⟨q,hq,e⟩)
  ·exact .inl (vj hn lI h1 e.symm)
  ·right
   obtain ⟨u,hu,rfl⟩:=List.mem_map.1 hq
   obtain ⟨K1,K4⟩:=List.mem_filter.1 hu
   obtain ⟨j,hj,rfl⟩:=oJ K1
   rw[vj hn hj lI e] at K4
   simpa using K4
 ·rintro (e | ⟨e1,e2⟩)
  ·left;rw[e]
  ·right
   refine ⟨_,List.mem_map.2 ⟨aA l i,List.mem_filter.2 ⟨sr lI,?_⟩,rfl⟩,rfl⟩
   simp[e1,e2]
theorem Ren.named{l:List Pl}{i0:Nat}{f:List Int→Bool}(h:Ren l i0 f):∀b∈l,f b.p=true→dF b.n.kind=true:=fun b hb hf=>by
 obtain ⟨i,hi,rfl⟩:=oJ hb
 rcases (h.iff i hi).1 hf with e | ⟨e,_⟩
 ·rw[e];exact pH h.PD
 ·exact AK e
theorem Ren.text{l:List Pl}{i0:Nat}{f:List Int→Bool}(h:Ren l i0 f):∀b∈l,f b.p=true→b.n.text=(aA l i0).n.text:=fun b hb hf=>by
 obtain ⟨i,hi,rfl⟩:=oJ hb
 rcases (h.iff i hi).1 hf with e | ⟨_,e⟩
 ·rw[e]
 ·exact (AL e).2.1.symm
section
variable {n:Nd}{i0:Nat}{x:ByteArray}
theorem K5(h:dl n=true)(hi:i0∈sK (aM n []))(x:ByteArray):bn n x (aA (aM n []) i0).p=if ej x=true then (if cX n (bc (jP (aM n []) i0) x n [])=true then (bc (jP (aM n []) i0) x n [],0) else (Nd.none,120)) else (Nd.none,2):=by
 unfold bn
 rw[if_pos (kE.1 h).1,if_pos h,AN h hi]
 rfl
theorem EV(h:dl n=true)(hi:i0∈sK (aM n []))(hx:ej x=true)(hf:nI (aM n []) x):cX n (bc (jP (aM n []) i0) x n [])=true:=by
 have hR:=EU (kz n []) hi
 obtain ⟨⟨p1,p2⟩,p3⟩:=kE.1 h
 have hp:dl (bc (jP (aM n []) i0) x n [])=true:=kE.2 ⟨⟨by rw[da];exact p1,HM _ _ hx n _ _ hR.named p2⟩,by
  rw[oL]
  exact hR.steps hf p3⟩
 unfold cX
 rw[h,hp,K0 _ _ n [] hR.named,eC h,eC hp,oL,wW]
 have:dh ((sK (aM n [])).map (rG (aM n []))) ((sK (aM n [])).map (rG ((aM n []).map (tb (jP (aM n []) i0) x))))=true:=rF.2 fun i hi=>by
  have hl:=(oM.1 hi).1
  simp only[gy,rG,eT _ hl,MM,hR.ct hf i,decide_true,Bool.and_self]
 rw[this]
 rfl
theorem K6(f:List Int→Bool)(x y:ByteArray)(t:Nd):∀p,bc f y (bc f x t p) p=bc f y t p:=by
 induction t using Nd.ind with
 | _ t ih =>
  intro p
  have key:∀(l:List Nd),(∀k∈l,∀p,bc f y (bc f x k p) p=bc f y k p)→∀i,cD f y (cD f x l p i) p i=cD f y l p i:=by
   intro l
   induction l with
   | nil=>intro _ _;rfl
   | cons k r fA =>
    intro hk i
    simp only[cD]
    rw[hk k (by simp),fA fun k' hk'=>hk k' (by simp[hk'])]
  refine Nd.ext' ?_ ?_ ?_ ?_
  ·rw[lq,lq,lq]
  ·rw[lu,lu,lu]
   by_cases c:f p=true
   ·rw[if_pos c,if_pos c]
   ·rw[if_neg c,if_neg c,if_neg c]
  ·rw[pE,pE,pE]
  ·rw[lv,lv,lv,key t.kids ih 0]
theorem AO(f:List Int→Bool)(y:ByteArray)(t:Nd):∀p,(∀b∈aM t p,f b.p=true→b.n.text=y)→bc f y t p=t:=by
 induction t using Nd.ind with
 | _ t ih =>
  intro p h
  have hs:=h _ (wV t p)
  simp only at hs
  have key:∀(l:List Nd),(∀k∈l,∀p,(∀b∈aM k p,f b.p=true→b.n.text=y)→bc f y k p=k)→∀i,(∀b∈bN l p i,f b.p=true→b.n.text=y)→cD f y l p i=l:=by
   intro l
   induction l with
   | nil=>intro _ _ _;rfl
   | cons k r fA =>
    intro hk i hb
    simp only[cD]
    rw[hk k (by simp) _ fun b hb'=>hb b (by simp[bN,hb']),fA (fun k' hk'=>hk k' (by simp[hk'])) _ fun b hb'=>hb b (by simp[bN,hb'])]
  refine Nd.ext' lq ?_ pE (by rw[lv,key t.kids ih 0 fun b hb=>h b (by rw[bZ];simp[hb])])
  rw[lu]
  split
  ·rename_i c;exact (hs c).symm
  ·rfl
theorem EW(h:dl n=true)(hi:i0∈sK (aM n []))(ha:cX n (bc (jP (aM n []) i0) x n [])=true):bn (bc (jP (aM n []) i0) x n []) (aA (aM n []) i0).n.text (aA (aM n []) i0).p=(n,0):=by
 have hR:=EU (kz n []) hi
 obtain ⟨⟨p1,p2⟩,p3⟩:=kE.1 h
 have AP:=ha
 simp only[cX,Bool.and_eq_true] at AP
 obtain ⟨_,hm,_,hs⟩:=AP
 obtain ⟨b,hb,hu⟩:=vp hs (AN h hi)
 have hx:ej (aA (aM n []) i0).n.text=true:=HN p2 _ (sr hR.lt) (pH hR.PD)
 have ht:bc (bH ((aA (aM n []) i0).p::b.2.2)) (aA (aM n []) i0).n.text (bc (jP (aM n []) i0) x n []) []=n:=by
  rw[hu]
  have e:bH ((aA (aM n []) i0).p::(rG (aM n []) i0).2.2)=jP (aM n []) i0:=rfl
  rw[e,K6,AO _ _ n [] hR.text]
 unfold bn
 rw[if_pos (kE.1 hm).1,if_pos hm,hb]
 simp only
 rw[if_pos hx,ht,if_pos (yc ha)]
theorem Cc(h:dl n=true)(hi:i0∈sK (aM n []))(ha:cX n (bc (jP (aM n []) i0) x n [])=true):aI (bc (jP (aM n []) i0) x n [])=(aI n).map fun b=>(b.1,if b.1=(aA (aM n []) i0).p then x else b.2.1,b.2.2):=by
 have hR:=EU (kz n []) hi
 simp only[cX,Bool.and_eq_true] at ha
 obtain ⟨_,hm,_,hs⟩:=ha
 rw[eC h,eC hm,oL,wW] at hs
 rw[rF] at hs
 rw[eC h,eC hm,oL,wW,List.map_map]
 refine List.map_congr_left fun i hi2=>?_
 obtain ⟨g1,g2⟩:=oM.1 hi2
 have:=hs i hi2
 simp only[gy,Bool.and_eq_true,decide_eq_true_eq] at this
 have hu:ez ((aM n []).map (tb (jP (aM n []) i0) x)) ((aM n []).map (tb (jP (aM n []) i0) x)) i=ez (aM n []) (aM n []) i:=this.2.symm
 simp only[rG,Function.comp,eT _ g1,MM,mV,hu,Prod.mk.injEq,true_and,and_true]
 by_cases c:jP (aM n []) i0 (aA (aM n []) i).p=true
 ·have e:(aA (aM n []) i).p=(aA (aM n []) i0).p:=by rw[(hR.T1 g1 g2).1 c]
  have e2:jP (aM n []) i0 (aA (aM n []) i0).p=true:=by rw[←e];exact c
  simp[e,e2]
 ·have e:¬(aA (aM n []) i).p=(aA (aM n []) i0).p:=fun e=>c ((hR.T1 g1 g2).2 (vj (kz n []) g1 hR.lt e))
  simp[c,e]
theorem T3(h:dl n=true)(hf:nI (aM n []) x){i:Nat}(hi:i<(aM n []).length)(hu:gA (aA (aM n []) i)=true):dl (bc (bH [(aA (aM n []) i).p]) x n [])=false:=by
 cases hp:dl (bc (bH [(aA (aM n []) i).p]) x n []) with
 | false=>rfl
 | true =>
  exfalso
  obtain ⟨_,h3⟩:=kE.1 hp
  rw[oL] at h3
  have h4:=(h3 i (by simpa using hi)).2
  generalize hl:aM n []=l at *
  have hn:(l.map (·.p)).Nodup:=by rw[←hl];exact kz n []
  have hF:∀j,j<l.length→(bH [(aA l i).p] (aA l j).p=true↔j=i):=fun j hj=>by
   simp only[bH,List.any_cons,List.any_nil,Bool.or_false,decide_eq_true_eq]
   exact ⟨fun e=>vj hn hj hi e.symm,fun e=>by rw[e]⟩
  have ht:(tb (bH [(aA l i).p]) x (aA l i)).n.text=x:=by rw[mV,if_pos ((hF i hi).2 rfl)]
  have hno:∀j,j<l.length→eR (aA l j)=true→¬(tb (bH [(aA l i).p]) x (aA l j)).n.text=x:=fun j hj hd=>by
   have hne:j≠i:=fun e=>by
    have:=ER hd
    rw[e,hu] at this
    cases this
   rw[mV,if_neg fun c=>hne ((hF j hj).1 c)]
   exact hf j hj (pH hd)
  have hs:cL (l.map (tb (bH [(aA l i).p]) x)) (tb (bH [(aA l i).p]) x (aA l i))=-1:=by
   rw[kD,ht]
   split
   ·refine pF fun j hj=>?_
    rw[List.length_map] at hj
    unfold kC
    rw[eT _ hj]
    by_cases k2:(aA l j).n.kind=2
    ·have:=hno j hj (HI k2)
     simp[this]
    ·simp[jO,k2]
   ·refine yb fun j hj=>?_
    rw[List.length_map] at hj
    unfold oa
    rw[eT _ hj]
    by_cases kB:fZ (aA l j)=true
    ·have:=hno j hj (wU kB)
     simp[this]
    ·simp[yV,kB]
  unfold b9 at h4
  rw[eT _ hi,hs,yV,EQ,hu] at h4
  have hB:¬fZ (aA l i)=true:=fun c=>by
   have:=ER (wU c)
   rw[hu] at this
   cases this
  rw[if_neg (fun c=>hB c.1),if_neg (by simp),if_pos (by omega)] at h4
  cases h4
end
set_option maxRecDepth 1000000
def Zf:IC:=(.seq (.ops [iH 2 (.box 4 25 (.t 0)),iH 3 (.box 4 25 (.t 1)),iP 4 (.mv kF)]) (.seq (.ops [iP 5 (.av 0 (.t 2)),iH 6 (yD 1 5),iP 7 (.av 0 (.t 3)),iH 8 (yD 1 7),iP 9 (xB .eql 6 8),iM 10 9,gP 11 10 .true (.av 1 (.t 2)),gH 12 10 .true (yD 1 11),gP 13 10 .true (.av 1 (.t 3)),gH 14 10 .true (yD 1 13),gP 15 10 .true (xB .eql 12 14),iP 16 (.pick (.t 10) (.t 15) kF),iM 17 16,gP 18 17 .true (.av 2 (.t 2)),gH 19 17 .true (yD 1 18),gP 20 17 .true (.av 2 (.t 3)),gH 21 17 .true (yD 1 20),gP 22 17 .true (xB .eql 19 21),iP 23 (.pick (.t 17) (.t 22) kF),iM 24 23,gP 25 24 .true (.av 3 (.t 2)),gH 26 24 .true (yD 1 25),gP 27 24 .true (.av 3 (.t 3)),gH 28 24 .true (yD 1 27),gH 29 24 .true (yC 49 26 28),iP 30 (.pick (.t 24) (.t 29) kF),iM 4 30]) .ret))
theorem adf:Dk Tryz.prog 16 Zf [(.t 4)] 31:=bj (fn:=Tryz.f16) Tryz.func16 (by kernel_rfl) (by kernel_rfl) (by kernel_rfl)
def Zg:IC:=(.seq (.ops [iP 4 (.mv kF)]) (.seq (.seq (.ops [iM 6 0,iP 7 (xL 6),iM 8 1,iP 9 (xL 8),iP 10 (xB .neq 7 9)]) (.cond (.t 10) (.seq (.ops [iP 4 (.mv kF)]) .ret) .skip)) (.seq (.seq (.ops [iP 5 (xI 0)]) (.block 0 (.loop (.seq (.seq (.ops [iM 11 5,iM 12 0,iP 13 (xL 12),iP 14 (xB .lss 11 13)]) (.cond (.t 14) .skip (.exit 0))) (.seq (.block 1 (.seq (.dL [iM 17 0,iM 18 5,iP 19 (xA 4 17 18),iH 20 (yA 4 19),iM 21 1,iM 22 5,iP 23 (xA 4 21 22),iH 24 (yA 4 23),iH 25 (yC 16 20 24),iP 26 (xN 25)] [[],[],[0,1],[2,0,1],[],[],[4,5],[6,4,5],[3,2,0,1,7,6,4,5],[8,3,2,0,1,7,6,4,5]]) (.cond (.t 26) (.seq (.ops [iP 4 (.mv kF)]) .ret) .skip))) (.ops [iM 15 5,iP 16 (.bP .add (.t 15) (kI 1)),iM 5 16])))))) (.seq (.ops [iP 4 (.mv kT)]) .ret))))
theorem adg:Dk Tryz.prog 49 Zg [(.t 4)] 27:=bj (fn:=Tryz.f49) Tryz.func49 (by kernel_rfl) (by kernel_rfl) (by kernel_rfl)
def ic7:IC:=(.seq (.ops [iH 2 (.box 4 25 (.t 0)),iP 4 (xI 0)]) (.seq (.ops [iP 7 (.av 1 (.t 2)),iH 8 (yD 1 7),iP 9 (.my (.t 8)),iP 10 (.bP .quo (.t 9) (kI 8)),iP 11 (.bP .add (kI 1) (.t 10)),iM 5 11]) (.seq (.seq (.ops [iP 6 (xI 0)]) (.block 0 (.loop (.seq (.seq (.ops [iM 12 6,iP 13 (.av 3 (.t 2)),iH 14 (yD 1 13),iP 15 (xL 14),iP 16 (xB .lss 12 15),iM 17 16,gM 18 17 .true 5,gM 19 17 .true 1,gP 20 17 .true (xB .leq 18 19),iP 21 (.pick (.t 17) (.t 20) kF)]) (.cond (.t 21) .skip (.exit 0))) (.seq (.block 1 (.ops [iM 24 5,iP 25 (.av 3 (.t 2)),iH 26 (yD 1 25),iM 27 6,iP 28 (xA 4 26 27),iH 29 (yA 4 28),iM 30 1,iM 31 5,iP 32 (xB .sub 30 31),iH 33 (yC 7 29 32),iP 34 (xB .add 24 33),iM 5 34])) (.ops [iM 22 6,iP 23 (.bP .add (.t 22) (kI 1)),iM 6 23])))))) (.seq (.ops [iM 35 5,iM 4 35]) .ret))))
theorem dk7:Dk Tryz.prog 7 ic7 [(.t 4)] 36:=bj (fn:=Tryz.f7) Tryz.func7 (by kernel_rfl) (by kernel_rfl) (by kernel_rfl)
def Zh:IC:=(.seq (.ops [iH 1 (.box 4 25 (.t 0)),⟨(some 2),none,(.h (.alloc (.agg [(.sc (.int .u8 0)),(.sc (.string ⟨#[]⟩)),(.sc (.int .i64 0)),cJ]) 25))⟩]) (.seq (.ops [iP 3 (.av 3 (.t 1)),iH 4 (yD 1 3),iH 5 (.call 61 [(.t 4)]),iP 6 (.av 3 (.t 1)),iS 1 6 5]) (.seq (.ops [iH 7 (yA 4 1),iS 4 2 7]) .ret)))
theorem adh:Dk Tryz.prog 28 Zh [(.c 2 4 .true)] 8:=bj (fn:=Tryz.f28) Tryz.func28 (by kernel_rfl) (by kernel_rfl) (by kernel_rfl)
def Zi:IC:=(.seq (.ops [iP 2 (.mv (.k cJ))]) (.seq (.ops [iP 3 (.mv (.k cJ))]) (.seq (.seq (.ops [iP 4 (xI 0)]) (.block 0 (.loop (.seq (.seq (.ops [iM 6 4,iM 7 0,iP 8 (xL 7),iP 9 (xB .lss 6 8)]) (.cond (.t 9) .skip (.exit 0))) (.seq (.block 1 (.seq (.ops [iM 12 0,iM 13 4,iP 14 (xA 4 12 13),iH 15 (yA 4 14),iH 16 (.call 28 [(.t 15)]),⟨(some 5),none,(.h (.alloc (.agg [(.sc (.int .u8 0)),(.sc (.string ⟨#[]⟩)),(.sc (.int .i64 0)),cJ]) 25))⟩,iS 4 5 16]) (.ops [iM 17 3,iH 18 (yA 4 5),⟨(some 19),none,(.h (.eE 4 25 (.agg [(.sc (.int .u8 0)),(.sc (.string ⟨#[]⟩)),(.sc (.int .i64 0)),cJ]) 1 [(0,(.t 18))]))⟩,iH 20 (.eN 4 25 (.t 17) (.t 19)),iM 3 20]))) (.ops [iM 10 4,iP 11 (.bP .add (.t 10) (kI 1)),iM 4 11])))))) (.seq (.ops [iM 21 3,iM 2 21]) .ret))))
theorem adi:Dk Tryz.prog 61 Zi [(.t 2)] 22:=bj (fn:=Tryz.f61) Tryz.func61 (by kernel_rfl) (by kernel_rfl) (by kernel_rfl)
set_option maxRecDepth 100000
theorem Dj{H G:Y}{id:Nat}{k:aD}{x y:Z}(hid:id<H.length)(hk:Z.cW (· < H.length) k.es)(h:Over (Y.set H id (some k)) G)(hz:Fz G H.length x y):eJ H (.ret x) G (.ret y) (Y.set H id (some k)):=by
 obtain ⟨A,rfl⟩:=h.split
 have hl:(Y.set H id (some k)).length=H.length:=Y.aj ..
 refine CS (by rw[hl];exact Nat.le_refl _) (fun i b hb=>?_) (by rw[hl];exact hz)
 by_cases e:i=id
 ·subst e
  rw[Y.ay hid] at hb
  cases hb
  exact .inr (by rw[hl];exact hk)
 ·rw[Y.ah e] at hb
  exact .inl ⟨Y.am hb,hb⟩
theorem Over.set{H G:Y}(h:Over H G){i:Nat}(hi:i<H.length)(x:Option aD):Over (Y.set H i x) (Y.set G i x):=by
 induction h with
 | refl=>exact .refl
 | @cons b G hG ih =>
  rw[si (Nat.lt_of_lt_of_le hi hG.len)]
  exact .cons ih
def sZ(n:Int):aD:=⟨1,[.sc (.int .i64 n)],true,3⟩
theorem T4(t:Nd)(ro:Option (List Z))(id:Nat)(c:Int)(hc:0≤c∧c≤1000000)(H:Y)(hf:Y.find H id=some (sZ c)):D Tryz.prog 171 [eG t ro,.ptr 1 id 0 0] H (.ret (.aK [])) (Y.set H id (some (sZ (c+1)))):=by
 have hid:=Y.am hf
 unfold sZ at hf
 rw[aH]
 refine aF (by rw[Y.aj];exact Nat.le_refl _) (abb (aE ?_))
 simp only[Tm,ux]
 refine ae fun L hL=>?_
 refine de hf ?_
 refine hL _ _ ?_
 clear hL
 refine de hf ?_
 exact Dj hid ⟨trivial,trivial⟩ (.cons .refl) (.same trivial)
theorem jn{l:List Nd}{k:Nat}(h:k<l.length):Nd.aw (l.take (k+1))=Nd.aw (l.take k)+(au l k).size:=by
 rw[List.take_succ_eq_append_getElem h,Nd.sX,dM h]
 simp[Nd.aw]
theorem mw(l:List Nd)(k:Nat):Nd.aw (l.take k)≤Nd.aw l:=by
 have:=Nd.sX (l.take k) (l.drop k)
 rw[List.take_append_drop] at this
 omega
theorem PE{H:Y}{id:Nat}{b:aD}(h:Y.find H id=some b):Y.set H id (some b)=H:=by
 induction H with
 | nil=>rfl
 | cons x r ih =>
  by_cases e:id=r.length
  ·subst e
   rw[Y.gZ] at h
   rw[Af rfl,h]
  ·have hl:id<r.length:=by have:=Y.am h;simp at this;omega
   rw[Y.cz hl] at h
   rw[si hl,ih h]
def AQ(l:List Nd):Prop:=∀(ro:Option (List Z))(c:Int)(id:Nat)(H:Y),0≤c→c+Nd.aw l≤1000000→Y.find H id=some (sZ c)→D Tryz.prog 115 [.fn (.func 171) [] [.ptr 1 id 0 0],.ak 4 (bM l) ro] H (.ret (.aK [])) (Y.set H id (some (sZ (c+Nd.aw l))))
set_option maxHeartbeats 0 in
theorem Dl(l:List Nd)(ih:∀a∈l,AQ a.kids):AQ l:=by
 intro ro c id H hc0 hc hf
 have hid:=Y.am hf
 have hl:=Nd.kR l
 have cl:bA Tryz.prog 171=true:=by kernel_rfl
 refine aF (by rw[Y.aj];exact Nat.le_refl _) (Tl (aE ?_))
 simp only[KH,ux]
 refine ae fun L hL=>?_
 refine de @aL ?_
 refine hL _ _ ?_
 clear hL
 refine de @aL ?_
 refine cO (fun ts F=>∃k:Nat,k≤l.length∧Over (Y.set H id (some (sZ (c+Nd.aw (l.take k))))) F∧Fr [some (.fn (.func 171) [] [.ptr 1 id 0 0]),none,none,none,none,none,some (.ak 4 (bM l) ro),some (.sc (.int .i64 l.length)),some (.sc (.int .i64 k)),none,none,none,none,none,none,none,none,none,none,none] ts) (fun ts _=>l.length - (bL (ts.getD 8 .top)).toNat) ?_ ?_
 ·refine ⟨0,Nat.zero_le _,?_,by simp[Fr]⟩
  rw[List.take_zero,show c+((Nd.aw []:Nat):Int)=c by simp[Nd.aw],PE hf]
  exact .refl
 rintro ts F ⟨k,hk,hF,cv⟩ L2 dY
 obtain ⟨js,rfl⟩:=cv.opened
 clear cv
 have yu:(Y.set H id (some (sZ (c+Nd.aw (l.take k))))).length=H.length:=Y.aj ..
 have T5:=hF.len
 rw[yu] at T5
 by_cases hd:k<l.length
 ·have d1:(k:Int)<l.length:=by omega
  have hg:=eK hd
  have fM:=eF hd
  have htk:=jn hd
  have hle:=mw l (k+1)
  have Ee:=Nd.size_eq (au l k)
  have hfF:Y.find F id=some (sZ (c+Nd.aw (l.take k))):=by
   rw[hF.find (by rw[yu];exact hid),Y.ay hid]
  have hs1:=T4 (au l k) none id (c+Nd.aw (l.take k)) (by omega)
  rw[aH] at hs1
  refine EL d1 hg @aL ?_
  refine ⟨by omega,cl,af (hs1 _ (by rw[ai (by omega),hfF])) ?_⟩
  refine ax ?_
  refine af (ih _ fM none (c+Nd.aw (l.take k)+1) id _ (by omega) (by omega) (by rw[ai (by rw[Y.aj];omega),Y.ay (by omega)])) ?_
  refine ax ?_
  refine dY _ _ ⟨k+1,by omega,?_,by simp[Fr]⟩ (by simp[bL,mk];omega)
  rw[htk]
  refine .cons ?_
  have:=hF.set (i:=id) (by rw[yu];exact hid) (some (sZ (c+Nd.aw (l.take k)+1+Nd.aw (au l k).kids)))
  rw[set_set] at this
  rw[Ee,show c+((Nd.aw (l.take k)+(1+Nd.aw (au l k).kids):Nat):Int)=c+Nd.aw (l.take k)+1+Nd.aw (au l k).kids by omega,set_set]
  exact this
 ·have d1:¬(k:Int)<l.length:=by omega
  have e:l.take k=l:=List.take_of_length_le (by omega)
  rw[e] at hF
  refine Ak d1 ?_
  exact Dj hid ⟨trivial,trivial⟩ hF (.same trivial)
theorem K7(l:List Nd):AQ l:=by
 have key:∀t:Nd,AQ t.kids:=fun t=>by
  induction t using Nd.ind with
  | _ t ih=>exact Dl _ ih
 exact Dl l fun a _=>key a
theorem XV(t:Nd)(hz:t.size≤1000000)(H:Y):D Tryz.prog 112 [eG t none] H (.ret (.sc (.int .i64 t.size))) H:=by
 have hE:=K7 [⟨t.kind,t.text,t.num,t.kids⟩]
 unfold AQ at hE
 have hs:Nd.aw [⟨t.kind,t.text,t.num,t.kids⟩]=t.size:=by simp[Nd.aw,Nd.size,Nd.size_eq t]
 have hL:bM [⟨t.kind,t.text,t.num,t.kids⟩]=[.agg [.sc (.int .u8 t.kind),.sc (.string t.text),.sc (.int .i64 t.num),.ak 4 (bM t.kids) none]]:=by simp[bM,fI]
 rw[hs,hL] at hE
 unfold sZ at hE
 rw[aH]
 refine aF (Nat.le_refl _) (aba (aE ?_))
 simp only[Tk,ux]
 refine ae fun L hL=>?_
 refine ax ?_
 refine hL _ _ ?_
 clear hL
 refine ae fun L hL=>?_
 refine ax ?_
 refine hL _ _ ?_
 clear hL
 refine ae fun L hL=>?_
 refine ax ?_
 refine af (hE (some []) 0 (H.length+1) _ (by omega) (by omega) (aN (by simp))) ?_
 refine ax ?_
 refine hL _ _ ?_
 clear hL
 refine de @Int.zero_add ?_
 exact cy (.cons (.cons .refl))
mutual
def bulk:Nd→Int→Int
 | ⟨_,s,_,l⟩,most=>ek l most (1+((s.size / 8:Nat):Int))
def ek:List Nd→Int→Int→Int
 | [],_,c=>c
 | t::r,most,c=>if c≤most then ek r most (c+bulk t (most - c)) else c
end
theorem rH(t:Nd)(most:Int):bulk t most=ek t.kids most (1+((t.text.size / 8:Nat):Int)):=by
 cases t;simp only[bulk,Nd.kids,Nd.text]
theorem HQ(t:Nd):∀most,1≤bulk t most:=by
 induction t using Nd.ind with
 | _ t ih =>
  intro most
  rw[rH]
  have key:∀(l:List Nd)(c:Int),(∀k∈l,∀m,1≤bulk k m)→1≤c→1≤ek l most c:=by
   intro l
   induction l with
   | nil=>intro c _ h;simpa [ek] using h
   | cons x r fA =>
    intro c hx hc
    unfold ek
    split
    ·exact fA _ (fun k hk=>hx k (by simp[hk])) (by have:=hx x (by simp) (most - c);omega)
    ·exact hc
  exact key _ _ ih (by omega)
mutual
def Nd.wt:Nd→Nat
 | ⟨_,s,_,l⟩=>1+s.size+Nd.ju l
def Nd.ju:List Nd→Nat
 | []=>0
 | t::r=>t.wt+Nd.ju r
end
theorem Nd.lP(t:Nd):t.wt=1+t.text.size+Nd.ju t.kids:=by cases t;simp[Nd.wt,Nd.kids,Nd.text]
theorem Nd.vt{l:List Nd}{t:Nd}(h:t∈l):t.wt≤Nd.ju l:=by
 induction l with
 | nil=>cases h
 | cons x r ih =>
  rcases List.mem_cons.1 h with rfl | h
  ·simp only[Nd.ju];omega
  ·have:=ih h;simp only[Nd.ju];omega
theorem Nd.XW(t:Nd):0<t.wt:=by rw[Nd.lP];omega
theorem Nd.HR(l:List Nd):l.length≤Nd.ju l:=by
 induction l with
 | nil=>simp[Nd.ju]
 | cons x r ih=>have:=x.XW;simp only[List.length_cons,Nd.ju];omega
theorem T6(t:Nd):∀most,bulk t most≤t.wt:=by
 induction t using Nd.ind with
 | _ t ih =>
  intro most
  rw[rH,Nd.lP]
  have key:∀(l:List Nd)(c:Int),(∀k∈l,∀m,bulk k m≤k.wt)→ek l most c≤c+Nd.ju l:=by
   intro l
   induction l with
   | nil=>intro c _;simp[ek,Nd.ju]
   | cons x r fA =>
    intro c hx
    unfold ek
    simp only[Nd.ju]
    split
    ·have:=fA (c+bulk x (most - c)) (fun k hk=>hx k (by simp[hk]))
     have:=hx x (by simp) (most - c)
     omega
    ·omega
  have:=key t.kids (1+((t.text.size / 8:Nat):Int)) ih
  omega
theorem wX(most:Int):∀(l:List Nd)(c:Int),c≤ek l most c
 | [],c=>by simp[ek]
 | t::r,c=>by
  unfold ek
  split
  ·have:=wX most r (c+bulk t (most - c))
   have:=HQ t (most - c)
   omega
  ·omega
theorem K8(t:Nd):∀most,bulk t most≤most→(t.size:Int)≤bulk t most:=by
 induction t using Nd.ind with
 | _ t ih =>
  intro most h
  rw[rH] at h ⊢
  rw[Nd.size_eq]
  have key:∀(l:List Nd)(c:Int),(∀k∈l,∀m,bulk k m≤m→(k.size:Int)≤bulk k m)→ek l most c≤most→c+Nd.aw l≤ek l most c:=by
   intro l
   induction l with
   | nil=>intro c _ _;simp[ek,Nd.aw]
   | cons x r fA =>
    intro c hx hc
    unfold ek at hc ⊢
    simp only[Nd.aw]
    split at hc
    ·rename_i h1
     rw[if_pos h1]
     have h2:=wX most r (c+bulk x (most - c))
     have h3:=hx x (by simp) (most - c) (by omega)
     have h4:=fA (c+bulk x (most - c)) (fun k hk=>hx k (by simp[hk])) hc
     omega
    ·omega
  have:=key t.kids (1+((t.text.size / 8:Nat):Int)) ih h
  omega
theorem HS{l:List Nd}{k:Nat}(h:k<l.length)(most c:Int):ek (l.drop k) most c=if c≤most then ek (l.drop (k+1)) most (c+bulk (au l k) (most - c)) else c:=by
 rw[List.drop_eq_getElem_cons h,dM h]
 simp only[ek]
theorem PF{l:List Nd}{k:Nat}(h:k<l.length):Nd.ju (l.drop k)=(au l k).wt+Nd.ju (l.drop (k+1)):=by
 rw[List.drop_eq_getElem_cons h,dM h]
 simp only[Nd.ju]
set_option maxHeartbeats 0 in
theorem K9(t:Nd):∀(ro:Option (List Z))(most:Int)(hm:0≤most∧most≤1000000)(hz:t.wt≤2000000)(H:Y),D Tryz.prog 7 [eG t ro,.sc (.int .i64 most)] H (.ret (.sc (.int .i64 (bulk t most)))) H:=by
 induction t using Nd.ind with
 | _ t ih =>
  intro ro most hm hz H
  have hwe:=Nd.lP t
  have Ca:=Nd.HR t.kids
  have hq:((t.text.size:Int)).tdiv 8=((t.text.size / 8:Nat):Int):=by
   rw[Int.tdiv_eq_ediv_of_nonneg (by omega)]
   omega
  rw[aH]
  refine aF (Nat.le_refl _) (dk7 (aE ?_))
  simp only[ic7,ux]
  refine ae fun L hL=>?_
  refine ax ?_
  refine hL _ _ ?_
  clear hL
  refine ae fun L hL=>?_
  refine de hq ?_
  refine hL _ _ ?_
  clear hL
  refine ae fun L hL=>?_
  refine ax ?_
  refine cO (fun ts F=>∃(k:Nat)(c:Int),(k≤t.kids.length∧0≤c∧c+Nd.ju (t.kids.drop k)≤t.wt∧ek (t.kids.drop k) most c=bulk t most)∧F=some ⟨4,[.agg [.sc (.int .u8 t.kind),.sc (.string t.text),.sc (.int .i64 t.num),.ak 4 (bM t.kids) ro]],true,25⟩::H∧Fr [none,some (.sc (.int .i64 most)),some (.ptr 4 H.length 0 0),none,none,some (.sc (.int .i64 c)),some (.sc (.int .i64 k)),none,none,none,none,none,none,none,none,none,none,none,none,none,none,none,none,none,none,none,none,none,none,none,none,none,none,none,none,none] ts) (fun ts _=>t.kids.length - (bL (ts.getD 6 .top)).toNat) ?_ ?_
  ·refine ⟨0,1+((t.text.size / 8:Nat):Int),⟨Nat.zero_le _,by omega,?_,(rH t most).symm⟩,rfl,by simp[Fr]⟩
   rw[List.drop_zero]
   omega
  rintro ts F ⟨k,c,⟨hk,hc0,hc1,hb⟩,rfl,cv⟩ L2 dY
  obtain ⟨js,rfl⟩:=cv.opened
  clear cv
  by_cases hd:k<t.kids.length
  ·have d1:(k:Int)<t.kids.length:=by omega
   have hg:=eK hd
   have fM:=eF hd
   have XX:=Nd.vt fM
   rw[HS hd] at hb
   rw[PF hd] at hc1
   by_cases d2:c≤most
   ·rw[if_pos d2] at hb
    have hi:=fun H=>ih _ fM none (most - c) (by omega) (by omega) H
    have hhi:=T6 (au t.kids k) (most - c)
    have hlo:=HQ (au t.kids k) (most - c)
    rw[aH] at hi
    refine Pd d1 d2 hg @aL ?_
    refine ⟨by omega,af (hi _) ?_⟩
    refine ax ?_
    exact dY _ _ ⟨k+1,_,⟨by omega,by omega,by omega,hb⟩,rfl,by simp[Fr]⟩ (by simp[bL,mk];omega)
   ·rw[if_neg d2] at hb
    refine EL d1 d2 @aL ?_
    refine hL _ _ ?_
    clear hL
    refine tF ?_
    rw[hb]
    exact cy (.cons .refl)
  ·have d1:¬(k:Int)<t.kids.length:=by omega
   have e:t.kids.drop k=[]:=List.drop_of_length_le (by omega)
   rw[e] at hb
   simp only[ek] at hb
   refine KF d1 @aL ?_
   refine hL _ _ ?_
   clear hL
   refine tF ?_
   rw[hb]
   exact cy (.cons .refl)
mutual
def Z.up(n:Nat):Z→Z
 | .aB k id off m c=>.aB k (n+id) off m c
 | .ptr k id j f=>.ptr k (n+id) j f
 | .agg cs=>.agg (Z.jT n cs)
 | .aK cs=>.aK (Z.jT n cs)
 | x=>x
def Z.jT(n:Nat):List Z→List Z
 | []=>[]
 | x::r=>Z.up n x::Z.jT n r
end
def aD.up(n:Nat)(b:aD):aD:={ b with es:=Z.jT n b.es }
def Y.up(n:Nat)(G:Y):Y:=G.map fun b=>b.map (aD.up n)
mutual
def Z.op:Z→Bool
 | .sc _=>true
 | .ub=>true
 | .top=>true
 | .ak _ [] none=>true
 | .ak _ [] (some [])=>true
 | .aB _ _ _ _ _=>true
 | .ptr _ _ _ _=>true
 | .agg cs=>Z.mW cs
 | .aK cs=>Z.mW cs
 | _=>false
def Z.mW:List Z→Bool
 | []=>true
 | x::r=>Z.op x && Z.mW r
end
def Y.op(G:Y):Prop:=∀id b,Y.find G id=some b→Z.mW b.es=true
theorem Z.gW{n:Nat}:∀{l:List Z},(Z.jT n l).length=l.length
 | []=>rfl
 | _::r=>by simp[Z.jT,Z.gW (l:=r)]
theorem Z.Dm{n:Nat}(x:Z):(x.up n).isAgg=x.isAgg:=by cases x<;>simp[Z.up,Z.isAgg]
theorem Z.La{n:Nat}(x:Z):(x.up n).an=x.an:=by cases x<;>simp[Z.up,Z.an,Z.gW]
theorem Z.yX{n:Nat}{x:Z}{u:Value}(h:iA x u):iA (x.up n) u:=by
 cases x<;>first | exact h | skip
 obtain ⟨us,h1,h2⟩:=h
 exact ⟨us,h1,by rw[h2,Z.gW]⟩
section
variable {φ ψ:aC}{O O':Nat→Prop}{w:World}{n:Nat}
mutual
theorem Dn(hm:∀id b,φ id=some b→ψ (n+id)=some b):∀{x:Z}{g:Nat→Option Value},x.op=true→R φ O w x g→R ψ O' w (x.up n) g
 | .sc _,_,_,h=>h
 | .ub,_,_,h=>h
 | .top,_,_,_=>trivial
 | .ak _ [] none,_,_,h=>by
  obtain ⟨a,c,h1,h2,h3,h4,h5,h6⟩:=h
  exact ⟨a,c,h1,h2,h3,h4,fun hp=>by simp at hp,trivial⟩
 | .ak _ [] (some []),_,_,h=>by
  obtain ⟨a,c,h1,h2,h3,h4,h5,h6⟩:=h
  exact ⟨a,c,h1,h2,h3,h4,fun hp=>by simp at hp,⟨h6.1,fun hp=>by simp at hp⟩⟩
 | .ak _ [] (some (_::_)),_,ho,_=>by simp[Z.op] at ho
 | .ak _ (_::_) _,_,ho,_=>by simp[Z.op] at ho
 | .lp _ _,_,ho,_=>by simp[Z.op] at ho
 | .fn _ _ _,_,ho,_=>by simp[Z.op] at ho
 | .dK _ _,_,ho,_=>by simp[Z.op] at ho
 | .DZ _,_,ho,_=>by simp[Z.op] at ho
 | .aB k id off m c,_,_,h=>by
  obtain ⟨b,c',cur,e,fr,v1,v2⟩:=h
  exact ⟨b,c',cur,e,fr,hm _ _ v1,v2⟩
 | .ptr k id j f,_,_,h=>by
  obtain ⟨b,g1,g2⟩:=h
  exact ⟨b,hm _ _ g1,g2⟩
 | .agg cs,_,ho,h=>T7 hm (by simpa [Z.op] using ho) h
 | .aK cs,_,ho,h=>by
  obtain ⟨us,h1,h2⟩:=h
  exact ⟨us,h1,Lb hm (by simpa [Z.op] using ho) h2⟩
theorem T7(hm:∀id b,φ id=some b→ψ (n+id)=some b):∀{l:List Z}{g:Nat→Option Value},Z.mW l=true→Rs φ O w l g→Rs ψ O' w (Z.jT n l) g
 | [],_,_,_=>trivial
 | x::r,_,ho,h=>by
  simp only[Z.mW,Bool.and_eq_true] at ho
  exact ⟨by rw[Z.Dm];exact h.1,Dn hm ho.1 h.2.1,h.2.2.1,T7 hm ho.2 h.2.2.2⟩
theorem Lb(hm:∀id b,φ id=some b→ψ (n+id)=some b):∀{l:List Z}{us:List Value},Z.mW l=true→Rt φ O w l us→Rt ψ O' w (Z.jT n l) us
 | [],_,_,h=>h
 | x::r,us,ho,h=>by
  simp only[Z.mW,Bool.and_eq_true] at ho
  obtain ⟨v,s,h1,h2,h3,h4⟩:=h
  exact ⟨v,s,h1,Z.yX h2,Dn hm ho.1 h3,Lb hm ho.2 h4⟩
end
theorem T8(hm:∀id b,φ id=some b→ψ (n+id)=some b){b k:Nat}:∀{l:List Z}{off:Nat},Z.mW l=true→Rl φ O w b k l off→Rl ψ O' w b k (Z.jT n l) off
 | [],_,_,_=>trivial
 | x::r,off,ho,h=>by
  simp only[Z.mW,Bool.and_eq_true] at ho
  exact ⟨by rw[Z.La];exact h.1,by rw[Z.Dm];exact h.2.1,Dn hm ho.1 h.2.2.1,T8 hm ho.2 h.2.2.2⟩
end
theorem Lc{φ ψ:aC}{O O':Nat→Prop}{w:World}{n:Nat}(hm:∀id b,φ id=some b→ψ (n+id)=some b):∀{l:List Z}{es:List MapEntry},Z.mW l=true→RE φ O w l es→RE ψ O' w (Z.jT n l) es
 | [],_,_,h=>h
 | x::r,_,ho,h=>by
  simp only[Z.mW,Bool.and_eq_true] at ho
  obtain ⟨e,s,h1,h2,h3⟩:=h
  exact ⟨e,s,h1,⟨Z.yX h2.1,Dn hm ho.1 h2.2⟩,Lc hm ho.2 h3⟩
theorem Y.AR{A H:Y}{i:Nat}:Y.find (A++H) (H.length+i)=Y.find A i:=by
 induction A with
 | nil=>rw[List.nil_append,Y.ui (by omega)];rfl
 | cons b r ih =>
  simp only[List.cons_append,Y.find,List.length_append]
  by_cases e:i=r.length
  ·rw[if_pos e,if_pos (by omega)]
  ·rw[if_neg e,if_neg (by omega),ih]
theorem Y.AU{n:Nat}{G:Y}:(Y.up n G).length=G.length:=by simp[Y.up]
theorem Y.HT{n:Nat}{G:Y}{i:Nat}:Y.find (Y.up n G) i=(Y.find G i).map (aD.up n):=by
 induction G with
 | nil=>rfl
 | cons b r ih =>
  show Y.find (b.map (aD.up n)::Y.up n r) i=_
  simp only[Y.find,Y.AU]
  split
  ·rfl
  ·exact ih
theorem HU{P:Program}{f:FuncId}{args args':List Z}{v:Z}{H G:Y}(hv:cq H args args')(hp:v.op=true)(hg:Y.op G)(h:D P f args' [] (.ret v) G):D P f args H (.ret (v.up H.length)) (Y.up H.length G++H):=by
 refine ⟨by simp,fun φ w vs hR ha=>(h.2 eZ w vs (MF (hR.gD.less fun b ho=>(p9 ho).elim)) (hv.Rt hR ha)).mono fun en w' ⟨χ,h1,h2,h3⟩=>?_⟩
 have hblk:∀b,b<w.heap.size→w'.heap[b]? = w.heap[b]?:=fun b hb=>h3.same b hb p9
 have hown:∀b,b<w.heap.size→¬Own χ G b:=fun b hb=>h3.own b hb p9
 let ψ:aC:=fun id=>if id<H.length then φ id else χ (id - H.length)
 have p1:∀id,id<H.length→ψ id=φ id:=fun id hi=>if_pos hi
 have p2:∀id,ψ (H.length+id)=χ id:=fun id=>by
  show (if _ then _ else _)=_
  rw[if_neg (by omega),show H.length+id - H.length=id from by omega]
 have q1:∀id,id<H.length→Y.find (Y.up H.length G++H) id=Y.find H id:=fun id hi=>Y.bx hi
 have q2:∀id,Y.find (Y.up H.length G++H) (H.length+id)=(Y.find G id).map (aD.up H.length):=fun id=>by rw[Y.AR,Y.HT]
 have o1:∀b,Own ψ (Y.up H.length G++H) b→Own φ H b∨Own χ G b:=by
  rintro b ⟨id,blk,e1,e2⟩
  by_cases hi:id<H.length
  ·rw[p1 id hi] at e1
   rw[q1 id hi] at e2
   exact .inl ⟨id,blk,e1,e2⟩
  ·obtain ⟨j,rfl⟩:∃j,id=H.length+j:=⟨id - H.length,by omega⟩
   rw[p2] at e1
   rw[q2] at e2
   cases hf:Y.find G j with
   | none=>rw[hf] at e2;simp at e2
   | some k=>exact .inr ⟨j,k,e1,hf⟩
 have hm:∀id b,φ id=some b→ψ id=some b:=fun id b e=>by rw[p1 id (hR.dom id b e).1];exact e
 have hl:Later (fun _=>True) φ ψ (Own φ H) (Own ψ (Y.up H.length G++H)) w w':=by
  refine ⟨fun id b _ e=>hm id b e,h3.size,fun b hb hn ho=>?_,fun b hb _=>hblk b hb,fun b hb=>h3.shape b hb⟩
  rcases o1 b ho with e | e
  ·exact hn e
  ·exact hown b hb e
 have hu:∀id b,χ id=some b→ψ (H.length+id)=some b:=fun id b e=>by rw[p2];exact e
 refine ⟨ψ,?_,⟨hR.gD.later hl,fun id b e=>?_,fun i j b e1 e2 s1 s2=>?_,fun id b k e1 e2=>?_⟩,⟨hl,h3.os,h3.tape,h3.output,by simp,fun id hi=>p1 id hi⟩⟩
 ·cases en with
  | returned u=>exact ⟨Z.yX h1.1,Dn hu hp h1.2⟩
  | _=>exact h1.elim
 ·by_cases hi:id<H.length
  ·rw[p1 id hi] at e
   have:=hR.dom id b e
   have h9:=h3.size
   exact ⟨by simp;omega,by omega⟩
  ·obtain ⟨j,rfl⟩:∃j,id=H.length+j:=⟨id - H.length,by omega⟩
   rw[p2] at e
   have:=h2.dom j b e
   exact ⟨by simp[Y.AU];omega,this.2⟩
 ·by_cases hi:i<H.length
  ·rw[p1 i hi] at e1
   rw[q1 i hi] at s1
   have hb:=(hR.dom i b e1).2
   by_cases hj:j<H.length
   ·rw[p1 j hj] at e2
    rw[q1 j hj] at s2
    exact hR.inj i j b e1 e2 s1 s2
   ·obtain ⟨t,rfl⟩:∃t,j=H.length+t:=⟨j - H.length,by omega⟩
    rw[p2] at e2
    rw[q2] at s2
    cases hf:Y.find G t with
    | none=>rw[hf] at s2;simp at s2
    | some k=>exact (hown b hb ⟨t,k,e2,hf⟩).elim
  ·obtain ⟨s,rfl⟩:∃s,i=H.length+s:=⟨i - H.length,by omega⟩
   rw[p2] at e1
   rw[q2] at s1
   by_cases hj:j<H.length
   ·rw[p1 j hj] at e2
    have hb:=(hR.dom j b e2).2
    cases hf:Y.find G s with
    | none=>rw[hf] at s1;simp at s1
    | some k=>exact (hown b hb ⟨s,k,e1,hf⟩).elim
   ·obtain ⟨t,rfl⟩:∃t,j=H.length+t:=⟨j - H.length,by omega⟩
    rw[p2] at e2
    rw[q2] at s2
    have:=h2.inj s t b e1 e2 (by simpa using s1) (by simpa using s2)
    omega
 ·by_cases hi:id<H.length
  ·rw[p1 id hi] at e1
   rw[q1 id hi] at e2
   have hb:=(hR.dom id b e1).2
   exact (hR.blk id b k e1 e2).on hl (hblk b hb)
  ·obtain ⟨j,rfl⟩:∃j,id=H.length+j:=⟨id - H.length,by omega⟩
   rw[p2] at e1
   rw[q2] at e2
   cases hf:Y.find G j with
   | none=>rw[hf] at e2;simp at e2
   | some k0 =>
    rw[hf] at e2
    simp at e2
    subst e2
    rcases h2.blk j b k0 e1 hf with ⟨h0,cur,cap,a1,a2,a3,a4,a5,a6⟩ | ⟨h0,hty,bz,clock,a1,a2,a3,a4⟩ | ⟨h0,hty,r,ts,tm,e,_⟩ | ⟨h0,hty,bz,clock,x,r,e,a1,a2,a3,a4,a5⟩ | ⟨h0,hty,bm,clock,seen,a1,a2⟩
    ·exact .inl ⟨h0,cur,cap,a1,a2,by simpa [aD.up,Z.gW] using a3,by simpa [aD.up,Z.gW] using a4,a5,T8 hu (hg j k0 hf) a6⟩
    ·exact .inr (.inl ⟨h0,hty,bz,clock,a1,a2,a3,Lc hu (hg j k0 hf) a4⟩)
    ·have:=hg j k0 hf;rw[e] at this;simp[Z.mW,Z.op] at this
    ·have ho:=hg j k0 hf
     rw[e] at ho
     simp only[Z.mW,Bool.and_eq_true] at ho
     exact .inr (.inr (.inr (.inl ⟨h0,hty,bz,clock,x.up H.length,Z.jT H.length r,by simp[aD.up,e,Z.jT],a1,a2,a3,⟨Z.yX a4.1,Dn hu ho.1 a4.2⟩,Lc hu ho.2 a5⟩)))
    ·exact .inr (.inr (.inr (.inr ⟨h0,hty,bm,clock,seen,a1,Lb hu (hg j k0 hf) a2⟩)))
def MN:Z→Z→Prop
 | .aB k i off n none,y=>∃c,n≤c∧y = .aB k i off n (some c)
 | x,y=>y=x
inductive mX:List Z→List Z→Prop where
 | nil:mX [] []
 | cons {x y:Z}{r s:List Z}:MN x y→mX r s→mX (x::r) (y::s)
theorem mX.len:∀{xs ys:List Z},mX xs ys→ys.length=xs.length
 | _,_,.nil=>rfl
 | _,_,.cons _ h=>by simp[h.len]
theorem mX.get:∀{xs ys:List Z},mX xs ys→∀{j:Nat},j<xs.length→MN (xs.getD j .top) (ys.getD j .top)
 | _,_,.nil,j,h=>by simp at h
 | _,_,.cons hx hr,0,_=>hx
 | _,_,.cons hx hr,j+1,h=>by
  simp only[List.getD_cons_succ]
  exact hr.get (by simpa using h)
structure s0 where
 nil:Bool
 n:Nat
 id:Nat
 c:Nat
instance:Inhabited s0:=⟨⟨true,0,0,0⟩⟩
def dP(rs:List s0)(i:Nat):s0:=rs.getD i default
def wY(n c:Nat)(es:List Z)(ex:Bool):Prop:=(ex=true∧c=es.length∧n≤c)∨(ex=false∧n≤es.length)
structure Shape where
 k:Nat
 ty:TypeId
 ag:Bool
def Shape.is(s:Shape)(x:Z):Prop:=x.bO=false∧x.an=s.k∧x.isAgg=s.ag
def mY(s:Shape)(mk:Nat→Z)(F:Y)(id n c m:Nat):Prop :=
 ∃es ex,Y.find F id=some ⟨s.k,es,ex,s.ty⟩∧wY n c es ex∧(∀x∈es,s.is x)∧∀i,i<m→es[i]? = some (mk i)
def Reads(k:Nat)(mk:Nat→Z)(F:Y)(id m:Nat):Prop:=∃blk,Y.find F id=some blk∧blk.k=k∧m≤blk.es.length∧∀i,i<m→blk.es.getD i .top=mk i
section
variable {s:Shape}{mk:Nat→Z}{F G:Y}{id n c m:Nat}
theorem wZ{es:List Z}{ex:Bool}(h:wY n c es ex):n≤es.length:=by
 rcases h with ⟨_,h1,h2⟩ | ⟨_,h⟩
 ·omega
 ·exact h
theorem Cd{l:List Z}{i:Nat}{x:Z}(h:l[i]? = some x):l.getD i .top=x:=by simp[List.getD,h]
theorem mY.keep(h:mY s mk F id n c m)(e:Y.find G id=Y.find F id):mY s mk G id n c m:=by
 unfold mY at h ⊢
 rw[e]
 exact h
theorem Reads.keep{k:Nat}(h:Reads k mk F id m)(e:Y.find G id=Y.find F id):Reads k mk G id m:=by
 unfold Reads at h ⊢
 rw[e]
 exact h
theorem mY.less{m':Nat}(h:mY s mk F id n c m)(hm:m'≤m):mY s mk F id n c m':=by
 obtain ⟨es,ex,h1,h2,h3,h4⟩:=h
 exact ⟨es,ex,h1,h2,h3,fun i hi=>h4 i (by omega)⟩
theorem mY.reads(h:mY s mk F id n c m)(hm:m≤n):Reads s.k mk F id m:=by
 obtain ⟨es,ex,h1,h2,h3,h4⟩:=h
 have:=wZ h2
 exact ⟨_,h1,rfl,by simp only;omega,fun i hi=>Cd (h4 i hi)⟩
theorem Reads.less{k m':Nat}(h:Reads k mk F id m)(hm:m'≤m):Reads k mk F id m':=by
 obtain ⟨blk,h1,h2,h3,h4⟩:=h
 exact ⟨blk,h1,h2,by omega,fun i hi=>h4 i (by omega)⟩
theorem mY.store{es:List Z}{ex:Bool}(hf:Y.find F id=some ⟨s.k,es,ex,s.ty⟩)(h2:wY n c es ex)(h3:∀x∈es,s.is x)(h4:∀i,i<m→es[i]? = some (mk i))(hm:m<n)(hs:s.is (mk m)) :
  mY s mk (Y.set F id (some ⟨s.k,es.set m (mk m),ex,s.ty⟩)) id n c (m+1):=by
 have hlt:=Y.am hf
 have hle:=wZ h2
 refine ⟨_,_,Y.ay hlt,?_,fun x hx=>?_,fun i hi=>?_⟩
 ·simpa [wY] using h2
 ·rcases List.mem_or_eq_of_mem_set hx with h | rfl
  ·exact h3 x h
  ·exact hs
 ·rw[List.getElem?_set]
  by_cases e:m=i
  ·subst e;simp;omega
  ·rw[if_neg e];exact h4 i (by omega)
theorem mY.eN{es ys:List Z}{ex:Bool}(hf:Y.find F id=some ⟨s.k,es,ex,s.ty⟩)(h2:wY n c es ex)(h3:∀x∈es,s.is x)(h4:∀i,i<n→es[i]? = some (mk i))(hr:n+ys.length≤c)(hs:∀x∈ys,s.is x)(hy:∀i,i<ys.length→ys[i]? = some (mk (n+i))) :
  mY s mk (Y.set F id (some ⟨s.k,es.take n++ys++es.drop (n+ys.length),ex,s.ty⟩)) id (n+ys.length) c (n+ys.length):=by
 have hlt:=Y.am hf
 have hle:=wZ h2
 have hl:(es.take n++ys).length=n+ys.length:=by simp;omega
 refine ⟨_,_,Y.ay hlt,?_,fun x hx=>?_,fun i hi=>?_⟩
 ·rcases h2 with ⟨e1,e2,e3⟩ | ⟨e1,e2⟩
  ·refine .inl ⟨e1,?_,hr⟩
   simp;omega
  ·refine .inr ⟨e1,?_⟩
   rw[List.length_append,hl];omega
 ·rcases List.mem_append.1 hx with hx | hx
  ·rcases List.mem_append.1 hx with hx | hx
   ·exact h3 x (List.mem_of_mem_take hx)
   ·exact hs x hx
  ·exact h3 x (List.mem_of_mem_drop hx)
 ·rw[List.getElem?_append_left (by omega)]
  by_cases e:i<n
  ·rw[List.getElem?_append_left (by simp;omega),List.getElem?_take_of_lt e]
   exact h4 i e
  ·rw[List.getElem?_append_right (by simp;omega)]
   have:i - (es.take n).length=i - n:=by simp;omega
   rw[this,hy _ (by omega)]
   congr 2
   omega
end
def MO(rs:List s0):List Nat:=(rs.filter fun r=>!r.nil).map (·.id)
theorem HV{rs:List s0}{k:Nat}(h:k<rs.length)(hn:(dP rs k).nil=false):(dP rs k).id∈MO rs:=by
 refine List.mem_map.2 ⟨dP rs k,List.mem_filter.2 ⟨?_,by simp[hn]⟩,rfl⟩
 unfold dP
 rw[List.getD_eq_getElem?_getD,List.getElem?_eq_getElem h]
 exact List.getElem_mem h
structure yY(s:Shape)(F:Y)(rs:List s0):Prop where
 nil:∀k,k<rs.length→(dP rs k).nil=true→(dP rs k).n=0
 blk:∀k,k<rs.length→(dP rs k).nil=false→∃es ex,Y.find F (dP rs k).id=some ⟨s.k,es,ex,s.ty⟩∧wY (dP rs k).n (dP rs k).c es ex∧∀x∈es,s.is x
 apart:∀k l,k<rs.length→l<rs.length→(dP rs k).nil=false→(dP rs l).nil=false→(dP rs k).id=(dP rs l).id→k=l
 AW:∀k,k<rs.length→(dP rs k).n≤10000000
def kH(s:Shape)(mk:Nat→Nat→Z)(F:Y)(rs:List s0)(m:Nat→Nat):Prop :=
 ∀k,k<rs.length→(dP rs k).nil=false→mY s (mk k) F (dP rs k).id (dP rs k).n (dP rs k).c (m k)
def nJ(H F:Y)(rs:List s0):Prop:=∀id,id<H.length→id∉MO rs→Y.find F id=Y.find H id
def fe(k0:Nat)(mk:Nat→Nat→Z)(F:Y)(rs:List s0)(g0 B:Nat)(sL:List Z)(K:Nat)(x:Nat→Nat):Prop :=
 ∀k,k<K→∃gid gc,sL.getD k .top = .aB k0 gid 0 ((dP rs k).n+64) gc∧Reads k0 (mk k) F gid (x k)∧((gid=(dP rs k).id∧(dP rs k).nil=false)∨g0<gid)∧gid<B
section
variable {s:Shape}{mk:Nat→Nat→Z}{H F G:Y}{rs:List s0}{m m':Nat→Nat}
theorem yY.start(h:yY s H rs):kH s mk H rs (fun _=>0):=fun k hk hn=>by
 obtain ⟨es,ex,h1,h2,h3⟩:=h.blk k hk hn
 exact ⟨es,ex,h1,h2,h3,fun i hi=>absurd hi (Nat.not_lt_zero _)⟩
theorem nJ.refl:nJ H H rs:=fun _ _ _=>rfl
theorem nJ.set(h:nJ H F rs){K:Nat}{b:Option aD}(hK:K<rs.length)(hn:(dP rs K).nil=false):nJ H (Y.set F (dP rs K).id b) rs:=fun id hid hni=>by
 have hne:id≠(dP rs K).id:=fun e=>hni (by rw[e];exact HV hK hn)
 rw[Y.ah hne]
 exact h id hid hni
theorem nJ.cons(h:nJ H F rs)(hl:H.length≤F.length){b:Option aD}:nJ H (b::F) rs:=fun id hid hni=>by
 rw[Y.cz (by omega)]
 exact h id hid hni
theorem kH.put(h:kH s mk F rs m)(ok:yY s H rs){K:Nat}{b:Option aD}(hK:K<rs.length)(hn:(dP rs K).nil=false)(hr:mY s (mk K) (Y.set F (dP rs K).id b) (dP rs K).id (dP rs K).n (dP rs K).c (m' K))(hm:∀k,k≠K→m' k≤m k) :
  kH s mk (Y.set F (dP rs K).id b) rs m':=fun k hk hkn=>by
 by_cases e:k=K
 ·subst e;exact hr
 ·exact ((h k hk hkn).less (hm k e)).keep (Y.ah (fun e'=>e (ok.apart k K hk hK hkn hn e')))
theorem kH.less(h:kH s mk F rs m)(hm:∀k,k<rs.length→m' k≤m k):kH s mk F rs m':=fun k hk hkn=>(h k hk hkn).less (hm k hk)
theorem kH.far(h:kH s mk F rs m)(ok:yY s H rs){i:Nat}{b:Option aD}(hi:H.length≤i):kH s mk (Y.set F i b) rs m:=fun k hk hkn=>by
 obtain ⟨es,ex,h1,_⟩:=ok.blk k hk hkn
 have:=Y.am h1
 exact (h k hk hkn).keep (Y.ah (by omega))
theorem kH.cons(h:kH s mk F rs m){b:Option aD}:kH s mk (b::F) rs m:=fun k hk hkn=>by
 obtain ⟨es,ex,h1,_⟩:=h k hk hkn
 exact (h k hk hkn).keep (Y.cz (Y.am h1))
theorem fe.keep{k0 g0 B K:Nat}{sL:List Z}{x:Nat→Nat}(h:fe k0 mk F rs g0 B sL K x)(h1:∀id,g0<id→id<B→Y.find G id=Y.find F id)(h2:∀k,k<K→(dP rs k).nil=false→Y.find G (dP rs k).id=Y.find F (dP rs k).id):fe k0 mk G rs g0 B sL K x:=fun k hk=>by
 obtain ⟨gid,gc,a1,a2,a3,a4⟩:=h k hk
 refine ⟨gid,gc,a1,a2.keep ?_,a3,a4⟩
 rcases a3 with ⟨rfl,hn⟩ | h
 ·exact h2 k hk hn
 ·exact h1 gid h a4
theorem fe.more{k0 g0 B B' K:Nat}{sL:List Z}{x:Nat→Nat}(h:fe k0 mk F rs g0 B sL K x)(hB:B≤B'):fe k0 mk F rs g0 B' sL K x:=fun k hk=>by
 obtain ⟨gid,gc,a1,a2,a3,a4⟩:=h k hk
 exact ⟨gid,gc,a1,a2,a3,by omega⟩
theorem fe.less{k0 g0 B K:Nat}{sL:List Z}{x y:Nat→Nat}(h:fe k0 mk F rs g0 B sL K x)(hy:∀k,k<K→y k≤x k):fe k0 mk F rs g0 B sL K y:=fun k hk=>by
 obtain ⟨gid,gc,a1,a2,a3,a4⟩:=h k hk
 exact ⟨gid,gc,a1,a2.less (hy k hk),a3,a4⟩
theorem fe.next{k0 g0 B B' K:Nat}{sL:List Z}{x:Nat→Nat}{gid:Nat}{gc:Option Nat}(h:fe k0 mk F rs g0 B sL K x)(hB:B≤B')(hK:K<sL.length)(hr:Reads k0 (mk K) F gid (x K))(ho:(gid=(dP rs K).id∧(dP rs K).nil=false)∨g0<gid)(hb:gid<B') :
  fe k0 mk F rs g0 B' (sL.set K (.aB k0 gid 0 ((dP rs K).n+64) gc)) (K+1) x:=fun k hk=>by
 by_cases e:k=K
 ·subst e
  exact ⟨gid,gc,by simp[List.getD,hK],hr,ho,hb⟩
 ·obtain ⟨gid',gc',a1,a2,a3,a4⟩:=h k (by omega)
  refine ⟨gid',gc',?_,a2,a3,by omega⟩
  rw[←a1]
  simp only[List.getD_eq_getElem?_getD]
  rw[List.getElem?_set_ne (by omega)]
theorem fe.zero{k0 g0 B:Nat}{sL:List Z}{x:Nat→Nat}:fe k0 mk F rs g0 B sL 0 x:=fun k hk=>by omega
end
theorem PG{e x:Z}{f:Nat}(h:e.isAgg=false):Z.j6 e f x=x:=by
 cases e<;>first | rfl | (simp[Z.isAgg] at h)
theorem Reads.marks{k:Nat}{mk:Nat→Z}{F:Y}{gid n:Nat}{ex:Bool}{ty:TypeId}(h:Y.find F gid=some ⟨k,(List.range n).map mk,ex,ty⟩):Reads k mk F gid n :=
 ⟨_,h,rfl,by simp,fun i hi=>by simp[List.getD,hi]⟩
def HW(l:List Z):Prop:=∀x∈l,x.an=1∧x.isAgg=false
theorem HW.get{l:List Z}(h:HW l){i:Nat}(hi:i<l.length):(l.getD i .top).an=1∧∀f x,Z.j6 (l.getD i .top) f x=x:=by
 have e:l.getD i .top=l[i]:=by simp[List.getD,hi]
 have:=h _ (List.getElem_mem hi)
 rw[e]
 exact ⟨this.1,fun f x=>PG this.2⟩
theorem HW.set{l:List Z}(h:HW l){i:Nat}{x:Z}(hx:x.an=1∧x.isAgg=false):HW (l.set i x):=fun y hy=>by
 rcases List.mem_or_eq_of_mem_set hy with hy | rfl
 ·exact h y hy
 ·exact hx
theorem vy{xs:List Z}{id i:Nat}{H:Y}(h:xs≠[]→i≠id):Y.find (jK xs id H) i=Y.find H i:=by
 cases xs with
 | nil=>rfl
 | cons x r=>exact Y.ah (h (by simp))
theorem Zj{n m:Nat}(h:n≤m){l:List Z}(hl:Z.cW (· < n) l):Z.cW (· < m) l:=Z.eH (fun i hi=>Nat.lt_of_lt_of_le hi h) l hl
def lays:List (Option aD)→Y→Y
 | [],H=>H
 | b::r,H=>lays r (b::H)
theorem vz:∀{bs:List (Option aD)}{H:Y},(lays bs H).length=H.length+bs.length
 | [],H=>rfl
 | b::r,H=>by simp only[lays,vz (bs:=r),List.length_cons];omega
theorem w4:∀{bs:List (Option aD)}{H:Y}{i:Nat},i<H.length→Y.find (lays bs H) i=Y.find H i
 | [],H,i,h=>rfl
 | b::r,H,i,h=>by
  simp only[lays]
  rw[w4 (by simp;omega),Y.cz h]
theorem w5:∀{bs:List (Option aD)}{H:Y}{i:Nat}{b:Option aD},bs[i]? = some b→Y.find (lays bs H) (H.length+i)=b
 | [],H,i,b,h=>by simp at h
 | x::r,H,0,b,h=>by
  simp at h
  subst h
  simp only[lays]
  rw[Nat.add_zero,w4 (by simp),Y.gZ]
 | x::r,H,i+1,b,h=>by
  simp only[lays]
  have:=w5 (bs:=r) (H:=x::H) (i:=i) (by simpa using h)
  rw[List.length_cons,show H.length+1+i=H.length+(i+1) from by omega] at this
  exact this
theorem AY{H F:Y}(bs:List (Option aD))(src:List Nat){x y:Z}(hl:src.length=bs.length)(hn:src.Nodup)(ha:∀s∈src,H.length≤s)(h1:∀id,id<H.length→Y.find F id=Y.find H id)
  (h2:∀(i:Nat)(k:aD)(s:Nat),bs[i]? = some (some k)→src[i]? = some s→∃k1,Y.find F s=some k1∧C1 F H.length src k1 k)(hz:Gz F H.length src x y):eJ H (.ret x) F (.ret y) (lays bs H):=by
 refine mr src (by rw[vz,hl]) hn ha (fun id k hid hk=>?_) (fun i s k hs hk=>?_) hz
 ·rw[w4 hid] at hk
  exact .inl ⟨hk,by rw[h1 id hid];exact hk⟩
 ·have hi:i<bs.length:=by
   have:=(List.getElem?_eq_some_iff.1 hs).1
   omega
  have hr:bs[i]? = some bs[i]:=by simp[hi]
  rw[w5 hr] at hk
  exact h2 i k s (by rw[hr,hk]) hs
theorem dB.append{H1:Y}{n0:Nat}{src:List Nat}:∀{a b c d:List Z},dB H1 n0 src a c→dB H1 n0 src b d→dB H1 n0 src (a++b) (c++d)
 | _,_,_,_,.nil,h=>h
 | _,_,_,_,.cons hx hr,h=>.cons hx (dB.append hr h)
theorem dB.map{H1:Y}{n0:Nat}{src:List Nat}{α:Type}{f g:α→Z}:∀{l:List α},(∀x∈l,Gz H1 n0 src (f x) (g x))→dB H1 n0 src (l.map f) (l.map g)
 | [],_=>.nil
 | x::r,h=>.cons (h x (by simp)) (dB.map fun y hy=>h y (by simp[hy]))
theorem tU{H:Y}{k:Nat}{ty:TypeId}{xs ys:List Z}{id:Nat}(hf:xs≠[]→Y.find H id=cA k ty xs)(hl:xs.length+ys.length≤100000000) :
  ∃(id':Nat)(H':Y),iv H k ty ys (aW k xs id)∧nW H k ys (aW k xs id)=aW k (xs++ys) id'∧kj H k ty ys (aW k xs id)=H'∧(xs++ys≠[]→Y.find H' id'=cA k ty (xs++ys)∧id'=H.length)∧H.length≤H'.length∧(∀i,i<H.length→(xs≠[]→i≠id)→Y.find H' i=Y.find H i):=by
 obtain ⟨h1,h2,h3⟩:=SX hf hl
 by_cases e:ys≠[]∨xs≠[]
 ·obtain ⟨g1,g2⟩:=h2 e
  refine ⟨_,_,h1,g1,g2,fun _=>⟨?_,rfl⟩,by simp[bQ],fun i hi hne=>?_⟩
  ·have:=Y.gZ (H:=jK xs id H) (b:=cA k ty (xs++ys))
   rwa [bQ] at this
  ·rw[Y.cz (by rw[bQ];exact hi),vy hne]
 ·have e1:ys=[]:=Classical.byContradiction fun h=>e (.inl h)
  have e2:xs=[]:=Classical.byContradiction fun h=>e (.inr h)
  obtain ⟨g1,g2⟩:=h3 e1 e2
  refine ⟨0,H,h1,by rw[g1,e1,e2];rfl,g2,fun h=>by rw[e1,e2] at h;exact (h rfl).elim,Nat.le_refl _,fun _ _ _=>rfl⟩
theorem w6{H F:Y}{x y:Z}(h:∀id,id<H.length→Y.find F id=Y.find H id)(hz:Gz F H.length [] x y):eJ H (.ret x) F (.ret y) H :=
 mr [] (by simp) (by simp) (by simp) (fun id k hid hk=>.inl ⟨hk,by rw[h id hid];exact hk⟩) (fun i s k hs=>by simp at hs) hz
section
variable {P:Program}{ro:Option Nat}{n:Nat}
def Mk(m:Nat):Deferred:={ target:=.collected m,args:=#[] }
def MD(n0:Nat)(φ:aC)(H:Y)(w:World)(ds:List Deferred):Prop:=∃ms:List Nat,ds=ms.map Mk∧ms.Nodup∧∀m∈ms,n0≤m∧w.heap[m]? = some (.deferred (some []))∧¬Own φ H m
theorem MD.nil(n0:Nat)(φ:aC)(H:Y)(w:World):MD n0 φ H w []:=⟨[],rfl,.nil,fun m h=>by cases h⟩
theorem MD.step{n0:Nat}{φ φ':aC}{H H':Y}{w w':World}{ds:List Deferred}(hs:Step φ H w φ' H' w')(h:MD n0 φ H w ds):MD n0 φ' H' w' ds:=by
 obtain ⟨ms,h1,h2,h3⟩:=h
 refine ⟨ms,h1,h2,fun m hm=>?_⟩
 obtain ⟨g1,g2,g3⟩:=h3 m hm
 exact ⟨g1,(hs.same m (fG g2) g3).trans g2,hs.own m (fG g2) g3⟩
def T9(n0:Nat)(K:Post)(φ:aC)(H:Y)(w:World):Exit→Act→World→Prop:=fun e a' w' =>
 ∃x ts' H' φ',XR φ' (Own φ' H') w' x e∧K x ts' H'∧FR φ' (Own φ' H') w' ts' a'∧Rel φ' H' w'∧Step φ H w φ' H' w'∧MD n0 φ' H' w' a'.defers
theorem T9.step{n0:Nat}{K:Post}{φ φ':aC}{H H':Y}{w w':World}{e:Exit}{a:Act}{w2:World}(hs:Step φ H w φ' H' w')(h:T9 n0 K φ' H' w' e a w2):T9 n0 K φ H w e a w2:=by
 obtain ⟨x,ts,H2,cT,h1,h2,h3,h4,h5,h6⟩:=h
 exact ⟨x,ts,H2,cT,h1,h2,h3,h4,hs.trans h5,h6⟩
theorem T9.stays{n0:Nat}{K:Post}{φ:aC}{H:Y}{w:World}:¬LetsOut (T9 n0 K φ H w):=by
 rintro ⟨a,w',x,ts,H2,cT,h1,_⟩
 cases x<;>exact h1.elim
end
section
variable {φ:aC}{O:Nat→Prop}{w w':World}
end
section
variable {P:Program}{K:Post}{ts:List Z}{H:Y}
end
theorem Ce(s:ByteArray):lZ (bt s)=s:=by
 apply ByteArray.ext
 simp only[lZ,bt,List.map_map]
 apply Array.ext'
 simp only[List.toList_toArray]
 have:∀l:List UInt8,l.map ((fun x=>(mz x).getD 0)∘fun b=>Z.sc (.int .u8 (b.toNat:Int)))=l:=by
  intro l
  induction l with
  | nil=>rfl
  | cons c r ih =>
   rw[List.map_cons,ih]
   congr 1
   simp[Function.comp,mz]
 exact this _
theorem HX{s:ByteArray}(h:s.size=0):s=⟨#[]⟩:=by
 apply ByteArray.ext
 exact Array.eq_empty_of_size_eq_zero h
theorem HY(s:ByteArray):(bt s).take s.size=bt s:=List.take_of_length_le (by rw[gL];exact Nat.le_refl _)
theorem Ld(s:ByteArray)(x:Z):(List.replicate s.size x).drop s.size=[]:=List.drop_of_length_le (by simp)
theorem AZ(s:ByteArray)(H:Y)(hs:s.size≤100000000):D Tryz.prog 175 [.sc (.string s)] H (.ret (.sc (.string s))) H:=by
 refine aF (Nat.le_refl _) (abn (aE ?_))
 simp -implicitDefEqProofs (maxSteps:=99999999) (disch:=omega) only[vu,TA,va,vg,vs,vh,vk,simprocAttr]
 refine ko (fun h=>?_) (fun h=>?_)
 ·have:=HX (s:=s) (by omega)
  subst this
  refine zE0 ?_
  exact cy .refl
 have h0:0<s.size:=by omega
 simp -implicitDefEqProofs (maxSteps:=99999999) (disch:=omega) only[vu,List.length_replicate,Ld s,HY s,gL s,Ce s,va,vg,vs,vh,vk,simprocAttr]
 exact ⟨⟨by omega,by omega,by omega⟩,Nat.le_refl _,by omega,⟨⟨by omega,Nat.le_refl _⟩,⟨s,rfl⟩⟩,cy (by repeat constructor)⟩
theorem vA(s:ByteArray)(H:Y)(hs:s.size≤100000000):D Tryz.prog 118 [.sc (.string s)] H (.ret (.sc (.string s))) H:=by
 refine aF (Nat.le_refl _) (abm (aE ?_))
 simp -implicitDefEqProofs (maxSteps:=99999999) (disch:=omega) only[vu,Tz,va,vg,vs,vh,vk,simprocAttr]
 refine af (AZ s H hs) ?_
 refine zE0 ?_
 exact cy .refl
structure s4(F:Y)(gX:Nat)(xs:List ByteArray)(io:Nat):Prop where
 box:Y.find F gX=some ⟨1,[aW 1 (strs xs) io],true,41⟩
 own:xs≠[]→Y.find F io=cA 1 9 (strs xs)∧io≠gX
structure qb(F:Y)(gX:Nat)(xs:List ByteArray)(io:Nat)(ys:List ByteArray)(w7:Nat)(F':Y):Prop where
 out:s4 F' gX ys w7
 len:F.length≤F'.length
 at_:ys≠[]→(xs≠[]∧w7=io)∨F.length≤w7
 old:∀i,i<F.length→i≠gX→(xs≠[]→i≠io)→Y.find F' i=Y.find F i
theorem oO{xs:List ByteArray}(h:xs≠[]):strs xs≠[]:=fun e=>h (by simpa [strs] using e)
theorem PH(a b:List ByteArray):strs (a++b)=strs a++strs b:=by simp[strs]
theorem qb.none{F:Y}{gX:Nat}{xs:List ByteArray}{io:Nat}(h:s4 F gX xs io):qb F gX xs io xs io F :=
 ⟨h,Nat.le_refl _,fun e=>.inl ⟨e,rfl⟩,fun _ _ _ _=>rfl⟩
theorem qb.trans{F G K:Y}{gX a b c:Nat}{xs ys zs:List ByteArray}(h:qb F gX xs a ys b G)(k:qb G gX ys b zs c K):qb F gX xs a zs c K:=by
 refine ⟨k.out,Nat.le_trans h.len k.len,fun e=>?_,fun i hi h1 h2=>?_⟩
 ·rcases k.at_ e with ⟨e1,e2⟩ | h3
  ·rcases h.at_ e1 with ⟨g1,g2⟩ | g3
   ·exact .inl ⟨g1,e2.trans g2⟩
   ·exact .inr (by omega)
  ·exact .inr (by have:=h.len;omega)
 ·rw[k.old i (by have:=h.len;omega) h1 (fun e=>?_),h.old i hi h1 h2]
  rcases h.at_ e with ⟨g1,g2⟩ | g3
  ·rw[g2];exact h2 g1
  ·omega
theorem s4.cons{F:Y}{gX io:Nat}{xs:List ByteArray}(b:Option aD)(h:s4 F gX xs io):s4 (b::F) gX xs io:=by
 refine ⟨by rw[ai (Y.am h.box)];exact h.box,fun e=>⟨?_,(h.own e).2⟩⟩
 have h1:=(h.own e).1
 rw[bC (oO e)] at h1 ⊢
 rw[ai (Y.am h1),h1]
theorem qb.cons{F:Y}{gX io:Nat}{xs:List ByteArray}(b:Option aD)(h:s4 F gX xs io):qb F gX xs io xs io (b::F) :=
 ⟨h.cons b,by simp,fun e=>.inl ⟨e,rfl⟩,fun i hi _ _=>ai hi⟩
def A1(t:Nd):List ByteArray:=if dF t.kind then [t.text] else []
set_option maxHeartbeats 0 in
theorem PI(t:Nd)(hs:t.text.size≤100000000)(xs:List ByteArray)(hx:xs.length≤90000000)(gX io:Nat)(F:Y)(h:s4 F gX xs io):DK Tryz.prog 116 [eG t none,.ptr 1 gX 0 0] F (fun e F'=>∃v,e = .ret v∧v = .aK []∧∃w7,qb F gX xs io (xs++A1 t) w7 F'):=by
 have ol:=Y.am h.box
 have Zk:=h.box
 rw[aH]
 refine abc (aE ?_)
 simp only[Tn,ux]
 refine ae fun L hL=>?_
 refine ax ?_
 refine hL _ _ ?_
 clear hL
 refine ax ?_
 refine af (Aq _ _) ?_
 cases hn:dF t.kind
 ·refine ax ?_
  refine ⟨_,rfl,rfl,io,?_⟩
  have e:xs++A1 t=xs:=by simp[A1,hn]
  rw[e]
  exact .cons _ h
 have hnm:A1 t=[t.text]:=by simp[A1,hn]
 have FZ:strs (xs++[t.text])=strs xs++[.sc (.string t.text)]:=by rw[PH];rfl
 have hc:=h.cons (some ⟨4,[.agg [.sc (.int .u8 t.kind),.sc (.string t.text),.sc (.int .i64 t.num),.ak 4 (bM t.kids) none]],true,25⟩)
 obtain ⟨w7,F',p1,p2,p3,p4,p5,p6⟩:=tU (H:=some ⟨4,[.agg [.sc (.int .u8 t.kind),.sc (.string t.text),.sc (.int .i64 t.num),.ak 4 (bM t.kids) none]],true,25⟩::F) (k:=1) (ty:=9) (xs:=strs xs) (ys:=[.sc (.string t.text)]) (id:=io) (fun e=>(hc.own (fun e2=>e (by rw[e2];rfl))).1) (by rw[dr];simp;omega)
 have hne:strs xs++[Z.sc (.string t.text)]≠[]:=by simp
 obtain ⟨A2,PJ⟩:=p4 hne
 simp only[List.length_cons] at PJ p5
 have pe:Y.find F' gX=some ⟨1,[aW 1 (strs xs) io],true,41⟩:=by
  rw[p6 gX (by simp only[List.length_cons];omega) (fun e=>((hc.own (fun e2=>e (by rw[e2];rfl))).2).symm),ai ol,Zk]
 have hV:aW 1 (strs xs++[Z.sc (.string t.text)]) w7 = .aB 1 w7 0 (strs xs++[Z.sc (.string t.text)]).length none:=lc hne
 refine de Zk ?_
 refine aP (vA _ _ hs) ?_
 refine sJ p1 p2 p3 pe ?_
 refine ⟨_,rfl,rfl,w7,?_⟩
 rw[hnm]
 have MI:gX<F'.length:=by omega
 refine ⟨⟨?_,fun _=>⟨?_,by omega⟩⟩,?_,fun _=>.inr (by omega),fun i hi h1 h2=>?_⟩
 ·rw[Y.ay MI,FZ]
 ·rw[Y.ah (by omega),A2,FZ]
 ·rw[Y.aj];omega
 ·rw[Y.ah h1,p6 i (by simp only[List.length_cons];omega) (fun e=>h2 (fun e2=>e (by rw[e2];rfl))),ai hi]
mutual
def Lf:Nd→List ByteArray
 | ⟨k,s,n,l⟩=>A1 ⟨k,s,n,l⟩++cU l
def cU:List Nd→List ByteArray
 | []=>[]
 | t::r=>Lf t++cU r
end
theorem EX(t:Nd):Lf t=A1 t++cU t.kids:=by cases t;simp[Lf,Nd.kids]
theorem EY(a b:List Nd):cU (a++b)=cU a++cU b:=by
 induction a with
 | nil=>rfl
 | cons x r ih=>simp[cU,ih]
theorem Lg{l:List Nd}{k:Nat}(h:k<l.length):cU (l.take (k+1))=cU (l.take k)++Lf (au l k):=by
 rw[List.take_succ_eq_append_getElem h,EY,dM h]
 simp[cU]
theorem HZ(t:Nd):(A1 t).length≤1:=by unfold A1;split<;>simp
theorem Ua(t:Nd):(Lf t).length≤t.size:=by
 induction t using Nd.ind with
 | _ t ih =>
  have key:∀l:List Nd,(∀k∈l,(Lf k).length≤k.size)→(cU l).length≤Nd.aw l:=by
   intro l
   induction l with
   | nil=>intro _;simp[cU]
   | cons x r fA =>
    intro h
    have h1:=h x (by simp)
    have h2:=fA fun k hk=>h k (by simp[hk])
    simp only[cU,Nd.aw,List.length_append]
    omega
  have:=key t.kids ih
  have:=HZ t
  rw[EX,Nd.size_eq,List.length_append]
  omega
theorem w8(l:List Nd):(cU l).length≤Nd.aw l:=by
 induction l with
 | nil=>simp[cU]
 | cons x r ih =>
  have:=Ua x
  simp only[cU,Nd.aw,List.length_append]
  omega
def yZ(l:List Nd):Prop:=∀(ro:Option (List Z))(xs:List ByteArray)(gX io:Nat)(F:Y),xs.length+Nd.aw l≤80000000→Nd.ju l≤2000000→s4 F gX xs io→
 DK Tryz.prog 115 [.fn (.func 116) [] [.ptr 1 gX 0 0],.ak 4 (bM l) ro] F (fun e F'=>∃v,e = .ret v∧v = .aK []∧∃w7,qb F gX xs io (xs++cU l) w7 F')
set_option maxHeartbeats 0 in
theorem A3(l:List Nd)(ih:∀a∈l,yZ a.kids):yZ l:=by
 intro ro xs gX io F0 hx hw h
 have hl:=Nd.HR l
 have cl:bA Tryz.prog 116=true:=by kernel_rfl
 refine Tl (aE ?_)
 simp only[KH,ux]
 refine ae fun L hL=>?_
 refine de @aL ?_
 refine hL _ _ ?_
 clear hL
 refine de @aL ?_
 refine cO (fun ts F=>∃(k b:Nat),k≤l.length∧qb F0 gX xs io (xs++cU (l.take k)) b F∧Fr [some (.fn (.func 116) [] [.ptr 1 gX 0 0]),none,none,none,none,none,some (.ak 4 (bM l) ro),some (.sc (.int .i64 l.length)),some (.sc (.int .i64 k)),none,none,none,none,none,none,none,none,none,none,none] ts) (fun ts _=>l.length - (bL (ts.getD 8 .top)).toNat) ?_ ?_
 ·refine ⟨0,io,Nat.zero_le _,?_,by simp[Fr]⟩
  rw[List.take_zero,show xs++cU []=xs by simp[cU]]
  exact .none h
 rintro ts F ⟨k,b,hk,hF,cv⟩ L2 dY
 obtain ⟨js,rfl⟩:=cv.opened
 clear cv
 by_cases hd:k<l.length
 ·have d1:(k:Int)<l.length:=by omega
  have hg:=eK hd
  have fM:=eF hd
  have htk:=Lg hd
  have XX:=Nd.vt fM
  have hwe:=Nd.lP (au l k)
  have hsz:=jn hd
  have Ee:=Nd.size_eq (au l k)
  have hle:=mw l (k+1)
  have hnl:=w8 (l.take k)
  have D7:=HZ (au l k)
  have wu:(xs++cU (l.take k)).length≤90000000:=by rw[List.length_append];omega
  have hs1:=fun (G:Y)(h:s4 G gX (xs++cU (l.take k)) b)=>PI (au l k) (by omega) (xs++cU (l.take k)) wu gX b G h
  rw[aH] at hs1
  have hcb:=qb.cons (some ⟨4,[.agg [.sc (.int .u8 (au l k).kind),.sc (.string (au l k).text),.sc (.int .i64 (au l k).num),.ak 4 (bM (au l k).kids) none]],true,25⟩) hF.out
  have ol:=Y.am hF.out.box
  refine EL d1 hg @aL ?_
  refine ⟨by omega,cl,jd (hs1 _ hcb.out) ?_⟩
  rintro v G hGl ⟨rfl,b2,hQ⟩
  have PK:Y.find G F.length=some ⟨4,[.agg [.sc (.int .u8 (au l k).kind),.sc (.string (au l k).text),.sc (.int .i64 (au l k).num),.ak 4 (bM (au l k).kids) none]],true,25⟩:=by
   rw[hQ.old F.length (by simp) (by omega) (fun e=>?_),aN rfl]
   have:=(hF.out.own e).1
   rw[bC (oO e)] at this
   have:=Y.am this
   omega
  refine de PK ?_
  refine jd (ih _ fM none (xs++cU (l.take k)++A1 (au l k)) gX b2 G (by rw[List.length_append,List.length_append];omega) (by omega) hQ.out) ?_
  rintro v K PL ⟨rfl,b3,hQ2⟩
  refine ax ?_
  refine dY _ _ ⟨k+1,b3,by omega,?_,by simp[Fr]⟩ (by simp[bL,mk];omega)
  rw[htk,EX,←List.append_assoc,←List.append_assoc]
  exact ((hF.trans hcb).trans hQ).trans hQ2
 ·have d1:¬(k:Int)<l.length:=by omega
  have e:l.take k=l:=List.take_of_length_le (by omega)
  rw[e] at hF
  refine Ak d1 ?_
  exact ⟨_,rfl,rfl,b,hF⟩
theorem H6(l:List Nd):yZ l:=by
 have key:∀t:Nd,yZ t.kids:=fun t=>by
  induction t using Nd.ind with
  | _ t ih=>exact A3 _ ih
 exact A3 l fun a _=>key a
open Go.RowKit Go.Shelf Go.Sort
def mc(zs:List (List UInt8)):List ByteArray:=zs.map fun x=>⟨x.toArray⟩
def iJ(xs:List ByteArray):List (List UInt8):=xs.map fun x=>x.data.toList
theorem H7(xs:List ByteArray):mc (iJ xs)=xs:=by
 simp[mc,iJ,Function.comp_def]
theorem fg(xs:List ByteArray):(iJ xs).length=xs.length:=by simp[iJ]
theorem lw(zs:List (List UInt8)):(mc zs).length=zs.length:=by simp[mc]
theorem Lh{w:World}{b:Nat}{cur:Array Value}{e:TypeId}{fr:Nat×Nat}(f:Array Value→Array Value)(h:w.heap[b]? = some (.cells cur e fr)):(mapBlock w b f).heap[b]? = some (.cells (f cur) e fr):=by
 unfold mapBlock
 simp only[Array.getElem?_modify,if_true,h,Option.map_some,onCells]
theorem EZ{w:World}{b b':Nat}(f:Array Value→Array Value)(h:b'≠b):(mapBlock w b f).heap[b']? = w.heap[b']?:=by
 unfold mapBlock
 simp only[Array.getElem?_modify,if_neg (fun e=>h (Eq.symm e))]
theorem MP(zs:List (List UInt8))(j:Nat)(h:j<zs.length):encStr zs.toArray[j]! = .string ((mc zs)[j]'(by rw[lw];exact h)):=by
 simp[encStr,mc,h]
theorem A4{φ:aC}{O:Nat→Prop}{w:World}{b:Nat}{xs:List ByteArray}{cur:Array Value}{e:TypeId}(hb:w.heap[b]? = some (.cells cur e (0,0)))(h:Rl φ O w b 1 (strs xs) 0):Holds encStr w b 0 (iJ xs).toArray:=by
 intro j hj
 have hj':j<xs.length:=by simpa [iJ] using hj
 have hx:(strs xs)[j]? = some (.sc (.string xs[j])):=by simp[strs,hj']
 obtain ⟨b1,b2,b3⟩:=rZ h hx
 have b4:b6 w b (0+j*1) 0=some (.string xs[j]):=b3
 refine ⟨?_,by simp[World.frozen?,hb]⟩
 unfold b6 at b4
 rw[show 0+j*1+0=0+j by omega] at b4
 rw[b4,MP (iJ xs) j (by rw[fg];exact hj')]
 simp[H7]
theorem yd{φ:aC}{H:Y}{w:World}(hR:Rel φ H w){id b:Nat}{xs:List ByteArray}(hm:φ id=some b)(hf:Y.find H id=some ⟨1,strs xs,false,9⟩)(zs:List (List UInt8))(hl:zs.length=xs.length)(n:Nat)(os:Array Obj) :
  Rel φ (Y.set H id (some ⟨1,strs (mc zs),false,9⟩)) (grow (putRow encStr (Sort.ahead w n) b 0 zs.toArray) os)∧Step φ H w φ (Y.set H id (some ⟨1,strs (mc zs),false,9⟩)) (grow (putRow encStr (Sort.ahead w n) b 0 zs.toArray) os):=by
 obtain ⟨cur,cap,a1,a2,a3,a4,a5,a6⟩:=(hR.blk id b _ hm hf).cells (by show 0<1;omega)
 have a1':(Sort.ahead w n).heap[b]? = some (.cells cur 9 (0,0)):=a1
 simp only[dr] at a3
 simp only[Nat.mul_one] at a2
 have FV:(putRow encStr (Sort.ahead w n) b 0 zs.toArray).heap[b]? = some (.cells (putCells encStr 0 zs.toArray cur) 9 (0,0)):=Lh _ a1'
 have hcs:(putCells encStr 0 zs.toArray cur).size=cur.size:=by simp[putCells]
 have h1:=hR.uA (w':=putRow encStr (Sort.ahead w n) b 0 zs.toArray) hm hf (some ⟨1,strs (mc zs),false,9⟩) (by simp[Sort.ahead]) (fun b' hb'=>EZ _ hb') (by unfold World.shape?;rw[FV,a1];simp[hcs]) rfl rfl rfl (fun k hk hlt=>by
  cases hk
  refine .inl ⟨Nat.one_pos,_,cap,FV,by rw[hcs,a2,Nat.mul_one],by rw[dr,lw,hl];exact a3,fun h=>by simp at h,a5,Ar (mc zs) 0 fun j hj=>?_⟩
  have hj2:j<zs.length:=by rwa [lw] at hj
  unfold b6 World.cell?
  simp only[FV,Nat.zero_add,Nat.add_zero]
  have hjc:j<cur.size:=by omega
  simp only[putCells,Array.getElem?_mapIdx,Array.getElem?_eq_getElem hjc,Option.map_some,Nat.zero_le,true_and,Nat.zero_add,List.size_toArray,if_pos hj2,Nat.sub_zero]
  rw[MP zs j hj2]
  rfl)
 have hold:∀b',b'<(putRow encStr (Sort.ahead w n) b 0 zs.toArray).heap.size→(grow (putRow encStr (Sort.ahead w n) b 0 zs.toArray) os).heap[b']? = (putRow encStr (Sort.ahead w n) b 0 zs.toArray).heap[b']?:=fun b' hb'=>by
  unfold grow
  rw[Array.getElem?_append_left hb']
 exact ⟨h1.1.grow (by rw[size_grow];omega) hold,h1.2.trans (grow_step rfl rfl rfl (by rw[size_grow];omega) hold)⟩
theorem XY(xs:List ByteArray)(hx:xs.length≤100000000)(io:Nat)(H:Y)(hf:xs≠[]→Y.find H io=cA 1 9 (strs xs)):D Tryz.prog 119 [aW 1 (strs xs) io] H (.ret (.aK [])) (if xs=[] then H else Y.set H io (some ⟨1,strs (mc ((iJ xs).mergeSort fun x y=>decide (x≤y))),false,9⟩)):=by
 by_cases e:xs=[]
 ·subst e
  rw[if_pos rfl]
  refine ⟨Nat.le_refl _,fun φ w vs hR ha=>?_⟩
  obtain ⟨a,r,e1,a1,a2,e3⟩:=ha
  have EM:r=[]:=e3
  obtain ⟨p,c,hv,_⟩:=eU (show VR φ (Own φ H) w (.ak 0 [] (some [])) a from ⟨a1,a2⟩)
  have hvs:vs=#[.slice p 0 c]:=by
   cases vs
   simp only at e1
   rw[e1,hv,EM]
   rfl
  rw[hvs]
  refine (Any.slices_Sort_string_none Fs p c w).mono fun en w' ⟨he,hw⟩=>?_
  subst hw
  refine ⟨φ,?_,hR,.refl _ _ _⟩
  rw[he]
  exact ⟨⟨_,rfl⟩,⟨_,rfl,rfl⟩⟩
 rw[if_neg e]
 have V6:=hf e
 rw[bC (oO e)] at V6
 refine ⟨by rw[Y.aj];exact Nat.le_refl _,fun φ w vs hR ha=>?_⟩
 rw[lc (oO e)] at ha
 obtain ⟨a,r,e1,a1,a2,e3⟩:=ha
 have EM:r=[]:=e3
 obtain ⟨b,c',cur,et,fr,v1,hv,v3,v4,v5,v6,v7⟩:=eV (show VR φ (Own φ H) w (.aB 1 io 0 (strs xs).length none) a from ⟨a1,a2⟩)
 obtain ⟨ow,cap,g1,g2,g3,g4,g5,g6⟩:=(hR.blk io b _ v1 V6).cells (by show 0<1;omega)
 have hvs:vs=#[.slice (some ⟨b,0,none⟩) (iJ xs).length c']:=by
  cases vs
  simp only at e1
  rw[e1,hv,EM,dr,fg]
 rw[hvs]
 refine (Any.slices_Sort_string Fs b 0 c' (iJ xs) w (A4 g1 g6) (fG g1) (by rw[fg];omega)).mono fun en w' ⟨he,n,os,hw⟩=>?_
 obtain ⟨r1,r2⟩:=yd hR v1 V6 ((iJ xs).mergeSort fun x y=>decide (x≤y)) (by rw[List.length_mergeSort,fg]) n os
 rw[←hw] at r1 r2
 refine ⟨φ,?_,r1,r2⟩
 rw[he]
 exact ⟨⟨_,rfl⟩,⟨_,rfl,rfl⟩⟩
def tV(zs:List (List UInt8)):List (List UInt8):=Lib.compact zs++List.replicate (zs.length - (Lib.compact zs).length) []
theorem s5(zs:List (List UInt8))(h:(Lib.compact zs).length≤zs.length):(tV zs).length=zs.length:=by
 simp[tV];omega
theorem ye(zs:List (List UInt8)):(Lib.compact zs).length≤zs.length:=by
 unfold Lib.compact Lib.compactUpTo
 rw[List.length_map]
 refine Nat.le_trans (List.length_filter_le _ _) ?_
 simp
theorem Li(xs:List ByteArray)(hne:xs≠[])(hx:xs.length≤100000000)(io:Nat)(H:Y)(hf:Y.find H io=some ⟨1,strs xs,false,9⟩):D Tryz.prog 120 [.aB 1 io 0 xs.length none] H (.ret (.aB 1 io 0 (Lib.compact (iJ xs)).length none)) (Y.set H io (some ⟨1,strs (mc (tV (iJ xs))),false,9⟩)):=by
 refine ⟨by rw[Y.aj];exact Nat.le_refl _,fun φ w vs hR ha=>?_⟩
 obtain ⟨a,r,e1,a1,a2,e3⟩:=ha
 have EM:r=[]:=e3
 obtain ⟨b,c',cur,et,fr,v1,hv,v3,v4,v5,v6,v7⟩:=eV (show VR φ (Own φ H) w (.aB 1 io 0 xs.length none) a from ⟨a1,a2⟩)
 obtain ⟨ow,cap,g1,g2,g3,g4,g5,g6⟩:=(hR.blk io b _ v1 hf).cells (by show 0<1;omega)
 have hvs:vs=#[.slice (some ⟨b,0,none⟩) (iJ xs).length c']:=by
  cases vs
  simp only at e1
  rw[e1,hv,EM,fg]
 rw[hvs]
 refine (Any.slices_Compact_string Ft b 0 c' (iJ xs) w (A4 g1 g6) (by rw[fg];omega) (by rw[fg];exact v3)).mono fun en w' ⟨he,n,hw⟩=>?_
 have fD:=ye (iJ xs)
 have Zl:=s5 (iJ xs) fD
 rw[fg] at fD Zl
 obtain ⟨r1,r2⟩:=yd hR v1 hf (tV (iJ xs)) Zl n #[]
 rw[grow_empty] at r1 r2
 have n9:w'=putRow encStr (Sort.ahead w n) b 0 (tV (iJ xs)).toArray:=by rw[hw];rfl
 rw[←n9] at r1 r2
 refine ⟨φ,?_,r1,r2⟩
 rw[he]
 obtain ⟨Zm,ad9,q1,q2,q3,q4,q5,q6⟩:=(r1.blk io b _ v1 (Y.ay (Y.am hf))).cells (by show 0<1;omega)
 have hsh:=r2.shape b (fG v6)
 unfold World.shape? at hsh
 rw[q1,v6] at hsh
 have hsz:Zm.size=cur.size:=by
  simp at hsh
  exact hsh.2
 exact ⟨rfl,b,c',Zm,_,_,v1,by simp[dZ,Value.cells],by omega,v4,(fun m h=>by cases h),q1,by rw[hsz];exact v7⟩
theorem Lj(H:Y):D Tryz.prog 120 [.ak 0 [] (some [])] H (.ret (.ak 0 [] (some []))) H:=by
 refine ⟨Nat.le_refl _,fun φ w vs hR ha=>?_⟩
 obtain ⟨a,r,e1,a1,a2,e3⟩:=ha
 have EM:r=[]:=e3
 obtain ⟨p,c,hv,_⟩:=eU (show VR φ (Own φ H) w (.ak 0 [] (some [])) a from ⟨a1,a2⟩)
 have hvs:vs=#[.slice p 0 c]:=by
  cases vs
  simp only at e1
  rw[e1,hv,EM]
  rfl
 have NG:a = .slice p 0 c:=hv
 rw[hvs]
 refine (Any.slices_Compact_string_empty Ft p c w).mono fun en w' ⟨he,hw⟩=>?_
 subst hw
 refine ⟨φ,?_,hR,.refl _ _ _⟩
 rw[he]
 rw[NG] at a1 a2
 exact ⟨a1,a2⟩
def nK(xs:List ByteArray):List ByteArray:=mc ((iJ xs).mergeSort fun x y=>decide (x≤y))
theorem pI(xs:List ByteArray):(nK xs).length=xs.length:=by rw[nK,lw,List.length_mergeSort,fg]
def lQ(xs:List ByteArray):List ByteArray:=mc (Lib.compact (iJ (nK xs)))
theorem Ll:lQ []=[]:=by decide +kernel
theorem Dp{H1:Y}{n0:Nat}{src:List Nat}:∀{l:List ByteArray},dB H1 n0 src (strs l) (strs l)
 | []=>.nil
 | _::_=>.cons (.same trivial) Dp
set_option maxHeartbeats 0 in
theorem Ub(l:List Nd)(ro:Option (List Z))(hz:Nd.ju l≤2000000)(hs:Nd.aw l≤2000000)(H:Y):D Tryz.prog 60 [.ak 4 (bM l) ro] H (.ret (.ak 1 (strs (lQ (cU l))) none)) H:=by
 have hE:=H6 l
 have hnl:=w8 l
 refine aF (Nat.le_refl _) (acT (aE ?_))
 simp only[YY,ux]
 refine ae fun L hL=>?_
 refine ax ?_
 refine hL _ _ ?_
 clear hL
 refine ae fun L hL=>?_
 refine ax ?_
 refine hL _ _ ?_
 clear hL
 refine ae fun L hL=>?_
 refine ax ?_
 have Cf:s4 (some ⟨1,[.ak 0 [] (some [])],true,41⟩::H) H.length [] 0:=⟨aN rfl,fun e=>(e rfl).elim⟩
 refine jd (hE ro [] H.length 0 _ (by simp;omega) hz Cf) ?_
 rintro v G hGl ⟨rfl,io,hQ⟩
 rw[List.nil_append] at hQ
 have PK:=hQ.out.box
 refine ax ?_
 refine hL _ _ ?_
 clear hL
 refine ae fun L hL=>?_
 refine de PK ?_
 refine af (XY (cU l) (by omega) io _ (fun e=>(hQ.out.own e).1)) ?_
 refine ax ?_
 by_cases e:cU l=[]
 ·rw[if_pos e]
  rw[e] at PK ⊢
  have Uc:Y.find G H.length=some ⟨1,[.ak 0 [] (some [])],true,41⟩:=PK
  refine hL _ _ ?_
  clear hL
  refine de Uc ?_
  refine af (Lj _) ?_
  refine ax ?_
  rw[e,Ll]
  refine w6 (fun i hi=>?_) .nil
  rw[hQ.old i (by simp;omega) (by omega) (fun h=>(h rfl).elim),ai hi]
 ·rw[if_neg e]
  obtain ⟨o1,o2⟩:=hQ.out.own e
  have o3:H.length+1≤io:=by
   rcases hQ.at_ e with ⟨h,_⟩ | h
   ·exact (h rfl).elim
   ·simpa using h
  rw[bC (oO e)] at o1
  have o4:=Y.am o1
  have Uc:Y.find (Y.set G io (some ⟨1,strs (nK (cU l)),false,9⟩)) H.length=some ⟨1,[.aB 1 io 0 (nK (cU l)).length none],true,41⟩:=by
   rw[Y.ah (fun h=>o2 h.symm),PK,lc (oO e),dr,pI]
  have hfs:Y.find (Y.set G io (some ⟨1,strs (nK (cU l)),false,9⟩)) io=some ⟨1,strs (nK (cU l)),false,9⟩:=Y.ay o4
  have hne:nK (cU l)≠[]:=fun h=>e (by have:=pI (cU l);rw[h] at this;exact List.length_eq_zero_iff.1 (by simpa using this.symm))
  rw[show mc ((iJ (cU l)).mergeSort fun x y=>decide (x≤y))=nK (cU l) from rfl]
  have hco:=Li (nK (cU l)) hne (by rw[pI];omega) io _ hfs
  have qp:lQ (cU l)=mc (Lib.compact (iJ (nK (cU l)))):=rfl
  rw[qp] at hL
  generalize nK (cU l)=S at *
  refine hL _ _ ?_
  clear hL
  refine de Uc ?_
  refine af hco ?_
  refine ax ?_
  rw[set_set]
  have fD:=ye (iJ S)
  refine w6 (fun i hi=>?_) ?_
  ·rw[Y.ah (by omega),hQ.old i (by simp;omega) (by omega) (fun h=>(h rfl).elim),ai hi]
  ·refine .aB (by unfold dj;rw[if_neg (by omega)];rfl) (Y.ay o4) rfl (by rw[dr,lw,s5 _ fD,Nat.zero_add];exact fD) ?_
   have ht:((strs (mc (tV (iJ S)))).drop 0).take (Lib.compact (iJ S)).length=strs (mc (Lib.compact (iJ S))):=by
    simp[strs,mc,tV,List.map_append,List.take_append]
   rw[ht]
   exact Dp
theorem tW:∀x:List UInt8,Op.bytesLess x x=false
 | []=>rfl
 | a::x=>by simp[Op.bytesLess,tW x]
theorem w9:∀x y z:List UInt8,Op.bytesLess x y=true→Op.bytesLess y z=true→Op.bytesLess x z=true
 | _,[],_,h,_=>by simp[Op.bytesLess] at h
 | _,_::_,[],_,h=>by simp[Op.bytesLess] at h
 | [],_::_,_::_,_,_=>rfl
 | a::x,b::y,c::z,h1,h2=>by
  simp only[Op.bytesLess,Bool.or_eq_true,decide_eq_true_eq,Bool.and_eq_true,beq_iff_eq,UInt8.lt_iff_toNat_lt,←UInt8.toNat_inj] at h1 h2 ⊢
  rcases h1 with h1 | ⟨e1,h1⟩<;>rcases h2 with h2 | ⟨e2,h2⟩
  ·left;omega
  ·left;omega
  ·left;omega
  ·right;exact ⟨by omega,w9 x y z h1 h2⟩
theorem su:∀x y:List UInt8,Op.bytesLess x y=false→Op.bytesLess y x=false→x=y
 | [],[],_,_=>rfl
 | [],_::_,h,_=>by simp[Op.bytesLess] at h
 | _::_,[],_,h=>by simp[Op.bytesLess] at h
 | a::x,b::y,h1,h2=>by
  simp only[Op.bytesLess,Bool.or_eq_false_iff,decide_eq_false_iff_not,UInt8.lt_iff_toNat_lt,Nat.not_lt] at h1 h2
  have e:a=b:=UInt8.toNat_inj.1 (by omega)
  subst e
  simp only[beq_self_eq_true,Bool.true_and] at h1 h2
  rw[su x y h1.2 h2.2]
theorem PM{x y:List UInt8}(h:Op.bytesLess x y=true):Op.bytesLess y x=false:=by
 cases e:Op.bytesLess y x with
 | false=>rfl
 | true=>have:=w9 _ _ _ h e;rw[tW] at this;cases this
theorem Ud:∀x y:List UInt8,x<y↔Op.bytesLess x y=true
 | [],[]=>by simp[Op.bytesLess]
 | [],_::_=>by simp[Op.bytesLess]
 | _::_,[]=>by simp[Op.bytesLess]
 | a::x,b::y=>by
  rw[List.cons_lt_cons_iff,Ud x y]
  simp[Op.bytesLess]
theorem Lm(x y:List UInt8):x≤y↔Op.bytesLess y x=false:=by
 rw[←Bool.not_eq_true,←Ud]
 exact Iff.rfl
theorem Dq(xs:List (List UInt8)):(xs.mergeSort fun x y=>decide (x≤y)).Pairwise fun x y=>Op.bytesLess y x=false:=by
 refine (List.pairwise_mergeSort (le:=fun x y=>decide (x≤y)) ?_ ?_ xs).imp ?_
 ·intro a b c h1 h2
  simp only[decide_eq_true_eq,Lm] at h1 h2 ⊢
  cases e:Op.bytesLess c a with
  | false=>rfl
  | true =>
   cases e2:Op.bytesLess b c with
   | true=>rw[w9 _ _ _ e2 e] at h1;cases h1
   | false=>rw[su _ _ h2 e2] at e;rw[e] at h1;cases h1
 ·intro a b
  simp only[Bool.or_eq_true,decide_eq_true_eq,Lm]
  cases e:Op.bytesLess b a with
  | false=>exact .inl rfl
  | true=>exact .inr (PM e)
 ·intro a b h
  simpa only[decide_eq_true_eq,Lm] using h
theorem oP(zs:List (List UInt8))(x:List UInt8):∀m,m≤zs.length→Lib.compactUpTo (zs++[x]).toArray m=Lib.compactUpTo zs.toArray m
 | 0,_=>rfl
 | m+1,h=>by
  rw[Lib.compactUpTo_succ,Lib.compactUpTo_succ,oP zs x m (by omega)]
  have e:∀j,j<zs.length→(zs++[x]).toArray[j]! = zs.toArray[j]!:=fun j hj=>by
   simp[getElem!_def,List.getElem?_append_left hj]
  rw[e m (by omega)]
  unfold Lib.keeps
  rw[e m (by omega),e (m - 1) (by omega)]
theorem Cg(zs:List (List UInt8))(x:List UInt8):Lib.compact (zs++[x])=Lib.compact zs++if zs.getLast? = some x then [] else [x]:=by
 unfold Lib.compact
 rw[show (zs++[x]).length=zs.length+1 by simp,Lib.compactUpTo_succ,oP zs x _ (Nat.le_refl _)]
 have e1:(zs++[x]).toArray[zs.length]! = x:=by simp[getElem!_def]
 have e2:Lib.keeps (zs++[x]).toArray zs.length=!decide (zs.getLast? = some x):=by
  unfold Lib.keeps
  rw[e1]
  rcases List.eq_nil_or_concat zs with rfl | ⟨i,l,rfl⟩
  ·simp
  ·have e3:(i++[l]++[x]).toArray[(i++[l]).length - 1]! = l:=by simp[getElem!_def]
   rw[List.concat_eq_append,e3]
   simp only[List.length_append,List.length_cons,List.length_nil,List.getLast?_append,List.getLast?_singleton,Option.some_or,Option.some.injEq]
   by_cases h:l=x
   ·simp[h]
   ·simp[h,Ne.symm h]
 rw[e1,e2]
 by_cases h:zs.getLast? = some x<;>simp[h]
theorem vB(n:Nat):∀zs:List (List UInt8),zs.length=n→zs.Pairwise (fun x y=>Op.bytesLess y x=false)→(Lib.compact zs).Pairwise (fun x y=>Op.bytesLess x y=true)∧∀x,x∈Lib.compact zs↔x∈zs:=by
 induction n with
 | zero =>
  intro zs h _
  rw[List.length_eq_zero_iff.1 h]
  exact ⟨List.Pairwise.nil,fun x=>Iff.rfl⟩
 | succ n ih =>
  intro zs h hp
  rcases List.eq_nil_or_concat zs with rfl | ⟨i,x,rfl⟩
  ·simp at h
  rw[List.concat_eq_append] at h hp ⊢
  obtain ⟨p1,p2,p3⟩:=List.pairwise_append.1 hp
  obtain ⟨k1,k2⟩:=ih i (by simpa using h) p1
  rw[Cg]
  split
  ·rename_i hl
   rw[List.append_nil]
   refine ⟨k1,fun y=>?_⟩
   rw[k2,List.mem_append,List.mem_singleton]
   refine ⟨.inl,fun h=>h.elim id fun e=>?_⟩
   rw[e]
   exact List.mem_of_getLast? hl
  ·rename_i hl
   refine ⟨List.pairwise_append.2 ⟨k1,List.pairwise_singleton _ _,fun y hy z hz=>?_⟩,fun y=>by simp only[List.mem_append,k2]⟩
   rw[List.mem_singleton.1 hz]
   have hy:=(k2 y).1 hy
   have h1:=p3 y hy x (List.mem_singleton.2 rfl)
   cases e:Op.bytesLess y x with
   | true=>rfl
   | false =>
    exfalso
    have:=su _ _ e h1
    subst this
    rcases List.eq_nil_or_concat i with rfl | ⟨j,l,rfl⟩
    ·cases hy
    ·rw[List.concat_eq_append] at hy hl p1 p3
     have wu:l≠y:=fun h=>hl (by simp[h])
     rcases List.mem_append.1 hy with h2 | h2
     ·have h3:=(List.pairwise_append.1 p1).2.2 y h2 l (List.mem_singleton.2 rfl)
      have h4:=p3 l (by simp) y (by simp)
      exact wu (su _ _ h3 h4)
     ·exact wu (List.mem_singleton.1 h2).symm
def Ue(a b:ByteArray):Prop:=Op.bytesLess a.toList b.toList=true
theorem H8(zs:List (List UInt8)):iJ (mc zs)=zs:=by simp[iJ,mc,Function.comp_def]
theorem H9{zs:List (List UInt8)}{b:ByteArray}:b∈mc zs↔b.data.toList∈zs:=by
 unfold mc
 rw[List.mem_map]
 constructor
 ·rintro ⟨x,hx,rfl⟩;simpa using hx
 ·intro h;exact ⟨_,h,by apply ByteArray.ext;simp⟩
theorem Uf{xs:List ByteArray}{b:ByteArray}:b.data.toList∈iJ xs↔b∈xs:=by
 rw[←H9,H7]
theorem A5(xs:List ByteArray)(b:ByteArray):b∈lQ xs↔b∈xs:=by
 unfold lQ nK
 rw[H8,H9,(vB _ _ rfl (Dq _)).2,List.mem_mergeSort,Uf]
theorem Ia(xs:List ByteArray):(lQ xs).Pairwise Ue:=by
 unfold lQ nK mc
 rw[show iJ ((iJ xs).mergeSort (fun x y=>decide (x≤y)) |>.map fun x=>(⟨x.toArray⟩:ByteArray))=(iJ xs).mergeSort fun x y=>decide (x≤y) from H8 _,List.pairwise_map]
 refine (vB _ _ rfl (Dq _)).1.imp fun {a b} h=>?_
 unfold Ue
 rw[ByteArray.toList_eq,ByteArray.toList_eq]
 exact h
theorem XZ{a b:ByteArray}(h:Ue a b):a≠b:=by
 rintro rfl
 unfold Ue at h
 rw[tW] at h
 cases h
theorem Ib{l:List ByteArray}(h:l.Pairwise Ue):l.Nodup:=h.imp fun h=>XZ h
theorem A6{α:Type} [DecidableEq α]:∀{a b:List α},a.Nodup→(∀x∈a,x∈b)→a.length≤b.length
 | [],b,_,_=>Nat.zero_le _
 | x::r,b,h,hs=>by
  obtain ⟨h1,h2⟩:=List.nodup_cons.1 h
  have hx:=hs x (by simp)
  have:=A6 (b:=b.erase x) h2 fun y hy=>(List.mem_erase_of_ne (fun e=>h1 (by rw[←e];exact hy))).2 (hs y (by simp[hy]))
  rw[List.length_erase_of_mem hx] at this
  have:=List.length_pos_of_mem hx
  simp only[List.length_cons]
  omega
theorem PN{a:List ByteArray}{b:List ByteArray}(h:∀x∈a,x∈b):(lQ a).length≤b.length :=
 A6 (Ib (Ia a)) fun x hx=>h x ((A5 a x).1 hx)
set_option maxRecDepth 1000000
def A7:List bG:=[iM 2 3]
def vC:IC:=(.seq (.ops [iM 4 2,iP 5 (.D1 .false (.t 4))]) (.cond (.t 5) (.dL [iM 6 2,iP 7 (.sP 159 (.t 6)),iP 8 (.field 0 2 .true (.t 7)),⟨none,none,(.h (.store 1 (.t 0) (.k cJ)))⟩,iS 2 1 8] [[],[0],[1,0],[],[2,1,0,3]]) .skip))
theorem X0:uR Tryz.prog [] (Tryz.f109.body.getD .skip)=some (3,A7,vC):=by kernel_rfl
def Zn:IC:=(.seq (.ops [iH 1 (.box 4 25 (.t 0)),iH 2 (.alloc cJ 102),iH 3 (.alloc (.agg [(.sc (.int .i64 0)),(.sc (.int .i64 0))]) 93)]) (.ops [iP 8 (.kZ (.func 109) [] [(.t 2),(.t 3)])]))
def Ug:IC:=(.seq (.ops [iH 9 (.gx .lC []),iP 10 (.build [(.sc (.pointer none)),(.sc (.map none))] [(1,1,(.t 9))]),iP 11 (.build [(.sc (.pointer none)),(.sc (.map none)),cJ,(.sc (.int .i64 0)),(.sc .nilFunc)] [(0,2,(.t 10)),(4,1,(.k (.fn (.func 110) [] [])))]),iH 12 (.box 5 167 (.t 11)),iM 4 12]) (.seq (.ops [iP 5 (xI 1)]) (.seq (.seq (.ops [iP 13 (.av 3 (.t 1)),iH 14 (yD 1 13),iP 15 (xL 14),iP 16 (xI 0)]) (.block 0 (.loop (.seq (.ops [iP 17 (xB .lss 16 15)]) (.seq (.cond (.t 17) .skip (.exit 0)) (.seq (.block 1 (.seq (.ops [iM 18 16,iP 19 (xA 4 14 16),iH 20 (yA 4 19),⟨(some 7),none,(.h (.alloc (.agg [(.sc (.int .u8 0)),(.sc (.string ⟨#[]⟩)),(.sc (.int .i64 0)),cJ]) 25))⟩,iM 6 18,iS 4 7 20]) (.seq (.seq (.dL [iM 21 4,iM 22 4,iP 23 (.cI (.t 22)),iP 24 (.av 0 (.t 23)),iH 25 (yA 2 24),iH 26 (yA 4 7),iM 27 6,iH 28 (.eE 1 3 (.sc (.int .i64 0)) 1 [(0,(.t 27))]),iM 29 5] [[],[],[1],[2,1],[3,2,1],[],[],[6],[],[0,4,3,2,1,5,7,6,8]]) (.ops [iH 30 (.call 111 [(.t 21),(.t 25),(.t 26),(.t 28),(.t 29)])])) (.seq (.seq (.dL [iM 31 4,iP 32 (.cI (.t 31)),iP 33 (.av 0 (.t 32)),iP 34 (.av 1 (.t 33)),iH 35 (yD 1 34),iP 36 (.av 1 (.t 7)),iH 37 (yD 1 36),iH 38 (.gx (.mG none (.sc (.pointer none)) .false) [(.t 35),(.t 37)]),iP 39 (.av 3 (.t 7)),iH 40 (yD 1 39),iP 41 (.gE 4 (.t 40) (kI 0)),iP 42 (.av 3 (.t 41)),iH 43 (yD 1 42),iP 44 (xL 43),iP 45 (.cI (.t 38)),iP 46 (.av 3 (.t 45))] [[],[0],[1,0],[2,1,0],[3,2,1,0],[],[5],[4,3,2,1,0,6,5],[],[8],[9,8],[10,9,8],[11,10,9,8],[12,11,10,9,8],[7,4,3,2,1,0,6,5,8,9,10,11,12,13],[14,7,4,3,2,1,0,6,5,8,9,10,11,12,13],[15,14,7,4,3,2,1,0,6,5,8,9,10,11,12,13]]) (.ops [iS 1 46 44])) (.ops [iM 47 5,iH 48 (yA 4 7),iH 49 (.call 112 [(.t 48)]),iP 50 (xB .add 47 49),iM 5 50]))))) (.ops [iP 51 (.bP .add (.t 16) (kI 1)),iM 16 51]))))))) (.seq (.ops [iM 52 4,iP 53 (.cI (.t 52)),iP 54 (.av 2 (.t 53)),⟨none,none,(.h (.store 1 (.t 54) (.k cJ)))⟩]) (.seq (.ops [iM 55 4,iH 56 (.gx .lC []),iP 57 (.build [(.sc (.pointer none)),(.sc (.map none))] [(1,1,(.t 56))]),iH 58 (yA 4 1),iH 59 (.call 113 [(.t 55),(.t 57),(.t 58),(.k cJ)])]) (.seq (.seq (.dL [iM 60 4,iP 61 (.cI (.t 60)),iP 62 (.av 2 (.t 61)),iH 63 (yD 1 62),iH 64 (yA 2 3),iS 1 2 63] [[],[0],[1,0],[2,1,0],[],[3,2,1,0],[4,5,3,2,1,0]]) (.ops [iS 2 3 64])) .ret))))))
theorem adj{args:List Z}{H:Y}{Kr:cm→Y→Prop}(h:ES Tryz.prog Zn (CZ Tryz.prog 109 8 Ug (wH Tryz.prog 3 A7 vC 9 [(.c 2 1 .false),(.c 3 2 .true)] Kr) (pu [(.c 2 1 .false),(.c 3 2 .true)] Kr)) (args++List.replicate (65 - args.length) (.aK [])) H):DK Tryz.prog 58 args H Kr :=
 EF (fn:=Tryz.f58) (c:=Tryz.f58.body.getD .skip) (aX:=((List.range 200).map (·+1000))) (SU:=[]) Tryz.func58 (by kernel_rfl) (by kernel_rfl) (by kernel_rfl) (gn:=Tryz.f109) (gc:=Tryz.f109.body.getD .skip) Tryz.func109 (by kernel_rfl) X0 (by kernel_rfl) (by kernel_rfl) h
def Uh:IC:=(.seq (.ops [iH 1 (.box 2 93 (.t 0))]) (.ops [iH 2 (yA 2 1),iP 3 (.build [(.sc (.int .i64 0)),(.sc (.int .i64 0))] [(0,2,(.t 2))]),iP 4 (.xy 159 (.t 3)),⟨none,none,(.h (.bu (.t 4)))⟩]))
theorem abv:Dk Tryz.prog 110 Uh [] 5:=bj (fn:=Tryz.f110) Tryz.func110 (by kernel_rfl) (by kernel_rfl) (by kernel_rfl)
def Zo:IC:=(.seq (.ops [iH 1 (.box 4 25 (.t 0)),iH 2 (.alloc (.agg [(.sc (.int .i64 0)),(.sc (.int .i64 0))]) 93)]) (.seq (.seq (.ops [iP 5 (.av 0 (.t 1)),iH 6 (yD 1 5),iP 7 (.bP .neq (.t 6) (.k (.sc (.int .u8 1)))),iM 8 7,gH 9 8 .false (yA 4 1),gH 10 8 .false (.call 40 [(.t 9)]),gP 11 8 .false (xN 10),iP 12 (.pick (.t 8) kT (.t 11))]) (.cond (.t 12) (.seq (.ops [iP 13 (.build [(.sc (.int .i64 0)),(.sc (.int .i64 0))] [(0,1,(kI 4))]),iS 2 2 13]) .ret) .skip)) (.seq (.ops [iH 15 (yA 4 1),iH 16 (.call 58 [(.t 15)]),iM 14 16,iP 17 (.ext (.t 14) 0),iP 18 (.ext (.t 14) 1),iH 4 (.alloc (.agg [(.sc (.int .i64 0)),(.sc (.int .i64 0))]) 93),iM 3 17,iS 2 4 18]) (.seq (.ops [iH 19 (yA 2 4),iS 2 2 19]) .ret))))
theorem adk:Dk Tryz.prog 57 Zo [(.c 2 2 .true)] 20:=bj (fn:=Tryz.f57) Tryz.func57 (by kernel_rfl) (by kernel_rfl) (by kernel_rfl)
def Zp:IC:=(.seq (.ops [iH 1 (.box 4 25 (.t 0)),iP 2 (.mv (.k cJ))]) (.seq (.seq (.ops [iH 8 (yA 4 1),iH 9 (.call 57 [(.t 8)]),iP 10 (.field 0 1 .false (.t 9)),iP 11 (.bP .neq (.t 10) (kI 0))]) (.cond (.t 11) (.seq (.ops [iP 2 (.mv (.k cJ))]) .ret) .skip)) (.seq (.ops [iP 3 (.mv (.k cJ))]) (.seq (.ops [iH 13 (yA 4 1),iH 14 (.call 58 [(.t 13)]),iM 12 14,iP 15 (.ext (.t 12) 0),iP 16 (.ext (.t 12) 1),iH 5 (.alloc (.agg [(.sc (.int .i64 0)),(.sc (.int .i64 0))]) 93),iM 4 15,iS 2 5 16]) (.seq (.seq (.ops [iM 17 4,iP 18 (xL 17),iP 19 (xI 0)]) (.block 0 (.loop (.seq (.ops [iP 20 (xB .lss 19 18)]) (.seq (.cond (.t 20) .skip (.exit 0)) (.seq (.block 1 (.seq (.ops [iP 21 (xA 1 17 19),iH 22 (yD 1 21),iM 7 22]) (.ops [iM 23 3,iM 24 7,iP 25 (.cI (.t 24)),iP 26 (.av 0 (.t 25)),iH 27 (yA 3 26),⟨(some 28),none,(.h (.eE 3 47 (.agg [cJ,(.sc (.string ⟨#[]⟩)),cJ]) 1 [(0,(.t 27))]))⟩,iH 29 (.eN 3 47 (.t 23) (.t 28)),iM 3 29]))) (.ops [iP 30 (.bP .add (.t 19) (kI 1)),iM 19 30]))))))) (.seq (.ops [iM 31 3,iM 2 31]) .ret))))))
theorem adl:Dk Tryz.prog 23 Zp [(.t 2)] 32:=bj (fn:=Tryz.f23) Tryz.func23 (by kernel_rfl) (by kernel_rfl) (by kernel_rfl)
def Zq:IC:=(.seq (.ops [iH 2 (.box 4 25 (.t 0)),iP 4 (.mv kF)]) (.seq (.ops [iM 5 1,iH 6 (.call 43 [(.t 5)]),iM 7 6,gH 8 7 .true (yA 4 2),⟨(some 9),(some (7,.true)),(.h (.eE 4 25 (.agg [(.sc (.int .u8 0)),(.sc (.string ⟨#[]⟩)),(.sc (.int .i64 0)),cJ]) 1 [(0,(.t 8))]))⟩,gH 10 7 .true (.call 60 [(.t 9)]),gM 11 7 .true 1,gH 12 7 .true (yC 59 10 11),gP 13 7 .true (xN 12),iP 14 (.pick (.t 7) (.t 13) kF),iM 4 14]) .ret))
theorem adm:Dk Tryz.prog 25 Zq [(.t 4)] 15:=bj (fn:=Tryz.f25) Tryz.func25 (by kernel_rfl) (by kernel_rfl) (by kernel_rfl)
def Ui:IC:=(.seq (.ops [iH 4 (.box 1 160 (.t 0)),iH 5 (.box 2 164 (.t 1)),iH 6 (.box 4 25 (.t 2)),iH 7 (.box 1 30 (.t 3))]) (.seq (.ops [iH 12 (yD 1 4),iP 13 (.cI (.t 12)),iP 14 (.av 3 (.t 13)),iH 15 (yD 1 14),iH 8 (.alloc (.sc (.int .i64 0)) 3),iS 1 8 15]) (.seq (.ops [iH 16 (yD 1 4),iP 17 (.cI (.t 16)),iP 18 (.av 3 (.t 17)),iH 19 (yD 1 18),iP 20 (.bP .add (.t 19) (kI 1)),iP 21 (.cI (.t 16)),iP 22 (.av 3 (.t 21)),iS 1 22 20]) (.seq (.ops [iP 9 (.mv (.k (.sc .nilFunc)))]) (.seq (.seq (.ops [iP 23 (.av 0 (.t 6)),iH 24 (yD 1 23)]) (.block 0 (.seq (.ops [iP 26 (.bP .eql (.t 24) (.k (.sc (.int .u8 2)))),iM 25 26]) (.cond (.t 25) (.seq (.seq (.dL [iH 27 (yD 1 4),iH 28 (yD 1 4),iP 29 (.cI (.t 28)),iP 30 (.av 2 (.t 29)),iH 31 (yD 1 30),iH 32 (yD 1 4),iP 33 (.cI (.t 32)),iP 34 (.av 0 (.t 33)),iP 35 (.av 1 (.t 34)),iH 36 (yD 1 35),iP 37 (.av 1 (.t 6)),iH 38 (yD 1 37),iH 39 (.gx (.mG none (.sc (.pointer none)) .false) [(.t 36),(.t 38)]),iH 40 (.eE 1 105 (.sc (.pointer none)) 1 [(0,(.t 39))]),iH 41 (.eN 1 105 (.t 31) (.t 40)),iP 42 (.cI (.t 27)),iP 43 (.av 2 (.t 42))] [[],[],[1],[2,1],[3,2,1],[],[5],[6,5],[7,6,5],[8,7,6,5],[],[10],[9,8,7,6,5,11,10],[12,9,8,7,6,5,11,10],[4,3,2,1,13,12,9,8,7,6,5,11,10],[0,1,2,3,4,5,6,7,8,9,10,11,12,13,14],[15,0,1,2,3,4,5,6,7,8,9,10,11,12,13,14],[16,15,0,1,2,3,4,5,6,7,8,9,10,11,12,13,14]]) (.ops [iS 1 43 41])) (.ops [iH 44 (yA 2 5),iH 45 (.call 172 [(.t 44)]),iS 2 5 45])) (.seq (.ops [iP 47 (.bP .eql (.t 24) (.k (.sc (.int .u8 4)))),iM 46 47]) (.cond (.t 46) (.ops [iH 48 (yD 1 4),iH 49 (yA 2 5),iH 50 (yA 4 6),iH 51 (yD 1 7),iH 52 (yD 1 8),iH 53 (.call 111 [(.t 48),(.t 49),(.t 50),(.t 51),(.t 52)])]) (.seq (.ops [iP 55 (.bP .eql (.t 24) (.k (.sc (.int .u8 5)))),iM 54 55]) (.cond (.t 54) (.ops [iH 56 (yA 2 5),iH 57 (.call 172 [(.t 56)]),iS 2 5 57]) (.seq (.ops [iP 59 (.bP .eql (.t 24) (.k (.sc (.int .u8 6)))),iM 58 59]) (.cond (.t 58) (.seq (.seq (.ops [iP 60 (.av 1 (.t 5)),iH 61 (yD 1 60),iP 62 (.av 1 (.t 6)),iH 63 (yD 1 62),iH 64 (.gx (.mG none (.sc (.pointer none)) .false) [(.t 61),(.t 63)]),iH 65 (.gx (.nt .false) [(.t 64)])]) (.cond (.t 65) (.ops [iH 66 (yD 1 4),iH 67 (yD 1 8),iH 68 (.call 169 [(.t 66),(kI 110),(.t 67)])]) .skip)) (.ops [iP 69 (.kZ (.func 173) [] [(.t 4),(.t 5),(.t 6),(.t 7),(.t 8)]),iM 9 69])) (.seq (.ops [iP 71 (.bP .eql (.t 24) (.k (.sc (.int .u8 22)))),iM 70 71]) (.cond (.t 70) (.ops [iH 72 (yD 1 4),iH 73 (yA 2 5),iH 74 (yA 4 6),iH 75 (yD 1 7),iH 76 (yD 1 8),iH 77 (.call 174 [(.t 72),(.t 73),(.t 74),(.t 75),(.t 76)])]) (.seq (.ops [iP 79 (.bP .eql (.t 24) (.k (.sc (.int .u8 25)))),iM 78 79]) (.cond (.t 78) (.seq (.dL [iH 80 (yD 1 4),iH 81 (yD 1 4),iP 82 (.cI (.t 81)),iP 83 (.av 0 (.t 82)),iH 84 (yA 2 83),iH 85 (yA 4 6),iH 86 (yD 1 7),iH 87 (yD 1 8)] [[],[],[1],[2,1],[3,2,1],[],[],[],[0,4,3,2,1,5,6,7]]) (.ops [iH 88 (.call 174 [(.t 80),(.t 84),(.t 85),(.t 86),(.t 87)])])) .skip)))))))))))))) (.seq (.seq (.ops [iP 89 (.av 3 (.t 6)),iH 90 (yD 1 89),iP 91 (xL 90),iP 92 (xI 0)]) (.block 1 (.loop (.seq (.ops [iP 93 (xB .lss 92 91)]) (.seq (.cond (.t 93) .skip (.exit 1)) (.seq (.block 2 (.seq (.ops [iM 94 92,iP 95 (xA 4 90 92),iH 96 (yA 4 95),⟨(some 11),none,(.h (.alloc (.agg [(.sc (.int .u8 0)),(.sc (.string ⟨#[]⟩)),(.sc (.int .i64 0)),cJ]) 25))⟩,iM 10 94,iS 4 11 96]) (.seq (.dL [iH 97 (yD 1 4),iH 98 (yA 2 5),iH 99 (yA 4 11),iH 100 (yD 1 7),iH 101 (yD 1 7),iP 102 (xL 101),iH 103 (yD 1 7),iP 104 (xL 103),iP 105 (.yq 1 (.t 100) none (some (.t 102)) (some (.t 104))),iM 106 10,iH 107 (.eE 1 3 (.sc (.int .i64 0)) 1 [(0,(.t 106))]),iH 108 (.eN 1 3 (.t 105) (.t 107))] [[],[],[],[],[],[4],[],[6],[3,5,4,7,6],[],[9],[8,3,5,4,7,6,10,9],[0,1,2,11,8,3,5,4,7,6,10,9]]) (.ops [iH 109 (.call 113 [(.t 97),(.t 98),(.t 99),(.t 108)])])))) (.ops [iP 110 (.bP .add (.t 92) (kI 1)),iM 92 110]))))))) (.seq (.ops [iM 111 9,iP 112 (.qw .false (.t 111))]) (.cond (.t 112) (.ops [iM 113 9,iH 114 (.bD (.t 113) [])]) .skip))))))))
theorem abw:Dk Tryz.prog 113 Ui [] 115:=fun h=>qV (fn:=Tryz.f113) (c:=Tryz.f113.body.getD .skip) (aX:=(List.range 200).map (·+1000)) Tryz.func113 (by kernel_rfl) (by kernel_rfl) (by kernel_rfl) h
def Uj:IC:=(.ops [iH 5 (yD 1 0),iH 6 (yA 2 1),iH 7 (yA 4 2),iH 8 (yD 1 3),iH 9 (yD 1 4),iH 10 (.call 111 [(.t 5),(.t 6),(.t 7),(.t 8),(.t 9)])])
theorem abx:Dk Tryz.prog 173 Uj [] 11:=bj (fn:=Tryz.f173) Tryz.func173 (by kernel_rfl) (by kernel_rfl) (by kernel_rfl)
def Uk:IC:=(.seq (.ops [iH 6 (.box 2 164 (.t 1)),iH 7 (.box 4 25 (.t 2))]) (.seq (.seq (.ops [iP 11 (.av 1 (.t 6)),iH 12 (yD 1 11),iP 13 (.av 1 (.t 7)),iH 14 (yD 1 13),iH 15 (.gx (.mG none (.sc (.pointer none)) .false) [(.t 12),(.t 14)]),iH 16 (.gx (.nt .false) [(.t 15)])]) (.cond (.t 16) (.seq (.ops [iM 17 0,iM 18 4,iH 19 (.call 169 [(.t 17),(kI 110),(.t 18)])]) .ret) .skip)) (.seq (.dL [iM 20 3,iH 21 (.call 170 [(.t 20)]),iP 22 (.av 1 (.t 7)),iH 23 (yD 1 22),iH 24 (.call 118 [(.t 23)]),⟨(some 25),none,(.p (.build [cJ,(.sc (.string ⟨#[]⟩)),cJ] [(0,1,(.t 21)),(1,1,(.t 24))]))⟩,⟨(some 26),none,(.p (.build [cJ,(.sc (.string ⟨#[]⟩)),cJ,(.sc (.int .i64 0))] [(0,3,(.t 25))]))⟩,iH 27 (.box 4 107 (.t 26)),iM 10 27] [[],[0],[],[2],[3,2,1,0],[1,0,4,3,2],[5,1,0,4,3,2],[6,5,1,0,4,3,2],[7,6,5,1,0,4,3,2]]) (.seq (.ops [iP 28 (.av 1 (.t 6)),iH 29 (yD 1 28),iP 30 (.av 1 (.t 7)),iH 31 (yD 1 30),iM 32 10,⟨none,none,(.h (.gx (.eA none) [(.t 29),(.t 31),(.t 32)]))⟩]) (.ops [iM 33 0,iM 34 0,iP 35 (.cI (.t 34)),iP 36 (.av 2 (.t 35)),iH 37 (yD 1 36),iM 38 10,iH 39 (.eE 1 105 (.sc (.pointer none)) 1 [(0,(.t 38))]),iH 40 (.eN 1 105 (.t 37) (.t 39)),iP 41 (.cI (.t 33)),iP 42 (.av 2 (.t 41)),iS 1 42 40])))))
theorem aby:Dk Tryz.prog 111 Uk [] 43:=bj (fn:=Tryz.f111) Tryz.func111 (by kernel_rfl) (by kernel_rfl) (by kernel_rfl)
def Ul:IC:=(.seq (.ops [iH 6 (.box 2 164 (.t 1)),iH 7 (.box 4 25 (.t 2))]) (.seq (.ops [iH 11 (yA 2 6),iP 12 (.av 1 (.t 7)),iH 13 (yD 1 12),iH 14 (yC 191 11 13),iM 10 14]) (.block 0 (.seq (.ops [iM 29 10,iH 30 (.gx (.nt .true) [(.t 29)]),iM 28 30]) (.cond (.t 28) (.ops [iM 31 0,iM 32 4,iH 33 (.call 169 [(.t 31),(kI 111),(.t 32)])]) (.seq (.dL [iP 35 (.av 0 (.t 7)),iH 36 (yD 1 35),iP 37 (.bP .eql (.t 36) (.k (.sc (.int .u8 25)))),iM 38 37,gM 39 38 .true 10,gP 40 38 .true (.cI (.t 39)),gP 41 38 .true (.av 3 (.t 40)),gH 42 38 .true (yD 1 41),gP 43 38 .true (.av 3 (.t 7)),gH 44 38 .true (yD 1 43),gP 45 38 .true (xL 44),gP 46 38 .true (xB .neq 42 45),iP 47 (.pick (.t 38) (.t 46) kF),iM 34 47] [[],[0],[1,0],[2,1,0],[3,2,1,0],[4,3,2,1,0],[5,4,3,2,1,0],[6,5,4,3,2,1,0],[3,2,1,0],[8,3,2,1,0],[9,8,3,2,1,0],[7,6,5,4,3,2,1,0,10,9,8],[3,2,1,0,11,7,6,5,4,10,9,8],[12,3,2,1,0,11,7,6,5,4,10,9,8]]) (.cond (.t 34) (.ops [iM 48 0,iM 49 4,iH 50 (.call 169 [(.t 48),(kI 112),(.t 49)])]) (.dL [iM 15 10,iM 16 10,iP 17 (.cI (.t 16)),iP 18 (.av 0 (.t 17)),iP 19 (.av 2 (.t 18)),iH 20 (yD 1 19),iM 21 3,iH 22 (.call 170 [(.t 21)]),iH 23 (.eE 1 30 cJ 1 [(0,(.t 22))]),iH 24 (.eN 1 30 (.t 20) (.t 23)),iP 25 (.cI (.t 15)),iP 26 (.av 0 (.t 25)),iP 27 (.av 2 (.t 26)),iS 1 27 24] [[],[],[1],[2,1],[3,2,1],[4,3,2,1],[],[6],[7,6],[5,4,3,2,1,8,7,6],[0,1,2,3,4,5,6,7,8,9],[10,0,1,2,3,4,5,6,7,8,9],[11,10,0,1,2,3,4,5,6,7,8,9],[12,11,10,0,1,2,3,4,5,6,7,8,9]]))))))))
theorem abz:Dk Tryz.prog 174 Ul [] 51:=bj (fn:=Tryz.f174) Tryz.func174 (by kernel_rfl) (by kernel_rfl) (by kernel_rfl)
def Um:IC:=(.ops [iM 6 0,iP 7 (.cI (.t 6)),iP 8 (.av 4 (.t 7)),iH 9 (yD 1 8),iM 10 1,iM 11 2,iP 12 (.build [(.sc (.int .i64 0)),(.sc (.int .i64 0))] [(0,1,(.t 10)),(1,1,(.t 11))]),iH 13 (.bD (.t 9) [(.t 12)])])
theorem abA:Dk Tryz.prog 169 Um [] 14:=bj (fn:=Tryz.f169) Tryz.func169 (by kernel_rfl) (by kernel_rfl) (by kernel_rfl)
def Ln:IC:=(.seq (.ops [iH 2 (.box 2 164 (.t 0)),iP 4 (.mv (.k (.sc (.pointer none))))]) (.seq (.seq (.ops [iP 6 (.av 1 (.t 2)),iH 7 (yD 1 6),iM 8 1,iH 9 (.gx (.mG none (.sc (.pointer none)) .false) [(.t 7),(.t 8)]),iM 5 9]) (.seq (.ops [iM 10 5,iH 11 (.gx (.nt .false) [(.t 10)]),iM 12 11,gP 13 12 .false (.av 0 (.t 2)),gH 14 12 .false (yD 1 13),gH 15 12 .false (.gx (.nt .true) [(.t 14)]),iP 16 (.pick (.t 12) kT (.t 15))]) (.cond (.t 16) (.seq (.ops [iM 17 5,iM 4 17]) .ret) .skip))) (.seq (.ops [iP 18 (.av 0 (.t 2)),iH 19 (yD 1 18),iP 20 (.cI (.t 19)),iP 21 (.av 0 (.t 20)),iH 22 (yA 2 21),iM 23 1,iH 24 (yC 191 22 23),iM 4 24]) .ret)))
theorem Un:Dk Tryz.prog 191 Ln [(.t 4)] 25:=bj (fn:=Tryz.f191) Tryz.func191 (by kernel_rfl) (by kernel_rfl) (by kernel_rfl)
def Uo:IC:=(.seq (.ops [iH 1 (.box 2 164 (.t 0)),iH 2 (.alloc (.agg [(.sc (.pointer none)),(.sc (.map none))]) 164)]) (.seq (.ops [iH 3 (yA 2 1),iP 4 (.build [(.sc (.pointer none)),(.sc (.map none))] [(0,2,(.t 3))]),iH 5 (.box 2 275 (.t 4)),iH 6 (.gx .lC []),iP 7 (.build [(.sc (.pointer none)),(.sc (.map none))] [(0,1,(.t 5)),(1,1,(.t 6))]),iS 2 2 7]) .ret))
theorem abB:Dk Tryz.prog 172 Uo [(.c 2 2 .true)] 8:=bj (fn:=Tryz.f172) Tryz.func172 (by kernel_rfl) (by kernel_rfl) (by kernel_rfl)
set_option maxRecDepth 100000
def kV(n:Nd)(x:ByteArray):Bool:=ej x && !lg (lQ (cU [n])) x
theorem Uq(t:Nd):∀(p:List Int)(b:Pl),b∈aM t p→dF b.n.kind=true→b.n.text∈Lf t:=by
 induction t using Nd.ind with
 | _ t ih =>
  intro p b hb hk
  rw[bZ] at hb
  rw[EX]
  rcases List.mem_cons.1 hb with rfl | hb
  ·simp[A1,hk]
  ·obtain ⟨j,u,⟨h1,h2⟩,h3⟩:=dN _ _ _ _ hb
   have hm:=List.mem_of_getElem? h2
   have:=ih u hm _ b h3 hk
   have key:∀l:List Nd,u∈l→b.n.text∈cU l:=by
    intro l
    induction l with
    | nil=>intro h;simp at h
    | cons x r fA =>
     intro h
     simp only[cU,List.mem_append]
     rcases List.mem_cons.1 h with rfl | h
     ·exact .inl this
     ·exact .inr (fA h)
   exact List.mem_append_right _ (key _ hm)
theorem Ic{n:Nd}{x:ByteArray}(h:kV n x=true):ej x=true∧nI (aM n []) x:=by
 simp only[kV,Bool.and_eq_true,Bool.not_eq_true'] at h
 refine ⟨h.1,fun i hi hk e=>?_⟩
 have h1:=Uq n [] _ (sr hi) hk
 rw[e] at h1
 have h2:x∈lQ (cU [n]):=(A5 _ _).2 (by simpa [cU] using h1)
 have h3:=h.2
 unfold lg at h3
 rw[List.any_eq_false] at h3
 exact h3 x h2 (decide_eq_true rfl)
set_option maxHeartbeats 0 in
theorem Ur(n:Nd)(x:ByteArray)(hw:n.wt≤1000000)(hs:n.size≤500000)(H:Y):D Tryz.prog 25 [eG n none,.sc (.string x)] H (.ret (.sc (.bool (kV n x)))) H:=by
 have hnm:=fun H=>EN x H
 have Wg:=fun H=>Ub [n] (some []) (by simp only[Nd.ju];omega) (by simp only[Nd.aw];omega) H
 have qp:(lQ (cU [n])).length≤1000000:=by
  have h1:=PN (a:=cU [n]) (b:=cU [n]) fun _ h=>h
  have h2:=w8 [n]
  simp only[Nd.aw] at h2
  omega
 have hct:=fun H=>pA (lQ (cU [n])) none x qp H
 rw[C3,TB,fS] at Wg
 rw[aH]
 refine aF (Nat.le_refl _) (adm (aE ?_))
 simp only[Zq,ux]
 refine ae fun L hL=>?_
 refine ax ?_
 refine hL _ _ ?_
 clear hL
 refine ae fun L hL=>?_
 cases c:ej x
 ·refine ax ?_
  refine af (hnm _) ?_
  rw[c]
  refine ax ?_
  refine hL _ _ ?_
  clear hL
  refine ax ?_
  exact az (.cons .refl) (by simp[kV,c])
 refine ax ?_
 refine af (hnm _) ?_
 rw[c]
 refine ax ?_
 refine af (Wg _) ?_
 refine ax ?_
 refine af (hct _) ?_
 refine ax ?_
 refine hL _ _ ?_
 clear hL
 refine ax ?_
 exact az (.cons .refl) (by simp[kV,c])
mutual
def dW:Nd→Nat→Z
 | ⟨k,s,n,l⟩,a=>.agg [.sc (.int .u8 k),.sc (.string s),.sc (.int .i64 n),aW 4 (eo l (a+1)) a]
def eo:List Nd→Nat→List Z
 | [],_=>[]
 | t::r,a=>dW t a::eo r (a+t.size)
end
mutual
def dD:Nd→Nat→Y
 | ⟨_,_,_,l⟩,a=>oQ l (a+1)++[cA 4 25 (eo l (a+1))]
def oQ:List Nd→Nat→Y
 | [],_=>[]
 | t::r,a=>oQ r (a+t.size)++dD t a
end
theorem cM(t:Nd)(a:Nat):dW t a = .agg [.sc (.int .u8 t.kind),.sc (.string t.text),.sc (.int .i64 t.num),aW 4 (eo t.kids (a+1)) a]:=by cases t;simp[dW,Nd.kind,Nd.text,Nd.num,Nd.kids]
theorem vD(t:Nd)(a:Nat):dD t a=oQ t.kids (a+1)++[cA 4 25 (eo t.kids (a+1))]:=by cases t;simp[dD,Nd.kids]
theorem dA(l:List Nd):∀a,(eo l a).length=l.length:=by
 induction l with
 | nil=>intro a;rfl
 | cons x r ih=>intro a;simp[eo,ih]
theorem fh(t:Nd):∀a,(dD t a).length=t.size:=by
 induction t using Nd.ind with
 | _ t ih =>
  intro a
  have key:∀(l:List Nd),(∀k∈l,∀a,(dD k a).length=k.size)→∀a,(oQ l a).length=Nd.aw l:=by
   intro l
   induction l with
   | nil=>intro _ a;rfl
   | cons x r fA =>
    intro h a
    simp only[oQ,List.length_append,Nd.aw,fA fun k hk=>h k (by simp[hk]),h x (by simp)]
    omega
  rw[vD,List.length_append,key _ ih,Nd.size_eq]
  simp
  omega
theorem A8(l:List Nd):∀(j a:Nat),j<l.length→(eo l a)[j]? = some (dW (au l j) (a+Nd.aw (l.take j))):=by
 induction l with
 | nil=>intro j a h;simp at h
 | cons x r ih =>
  intro j a h
  cases j with
  | zero=>simp[eo,au,Nd.aw]
  | succ j =>
   simp only[eo,List.getElem?_cons_succ,List.take_succ_cons,Nd.aw]
   rw[ih j (a+x.size) (by simpa using h)]
   simp[au,Nat.add_assoc]
mutual
def xa:Nd→Nat→List (List Z)
 | ⟨_,_,_,l⟩,a=>eo l (a+1)::jo l (a+1)
def jo:List Nd→Nat→List (List Z)
 | [],_=>[]
 | t::r,a=>xa t a++jo r (a+t.size)
end
theorem y2(t:Nd)(a:Nat):xa t a=eo t.kids (a+1)::jo t.kids (a+1):=by cases t;simp[xa,Nd.kids]
theorem Dr:∀(p q:List (Option aD))(H:Y),lays (p++q) H=lays q (lays p H)
 | [],_,_=>rfl
 | x::r,q,H=>by simp only[List.cons_append,lays,Dr r q]
def Ch(l:List (List Z)):List (Option aD):=l.map (cA 4 25)
theorem xb(t:Nd):∀(a:Nat)(H:Y),dD t a++H=lays (Ch (xa t a)) H:=by
 induction t using Nd.ind with
 | _ t ih =>
  intro a H
  have key:∀(l:List Nd),(∀k∈l,∀(a:Nat)(H:Y),dD k a++H=lays (Ch (xa k a)) H)→∀(a:Nat)(H:Y),oQ l a++H=lays (Ch (jo l a)) H:=by
   intro l
   induction l with
   | nil=>intro _ a H;rfl
   | cons x r fA =>
    intro h a H
    simp only[oQ,jo,Ch,List.map_append,Dr,List.append_assoc]
    have h1:=h x (by simp) a H
    have h2:=fA (fun k hk=>h k (by simp[hk])) (a+x.size) (lays (Ch (xa x a)) H)
    rw[h1,h2]
    rfl
  rw[vD,y2,List.append_assoc]
  have:=key t.kids ih (a+1) (cA 4 25 (eo t.kids (a+1))::H)
  rw[List.singleton_append,this]
  rfl
theorem xc{k id:Nat}{xs ys:List Z}(h:xs.length=ys.length):aW k xs id=aW k ys id:=by
 cases xs<;>cases ys<;>simp_all [aW]
theorem eD(t:Nd):∀a,(xa t a).length=t.size:=by
 induction t using Nd.ind with
 | _ t ih =>
  intro a
  have key:∀(l:List Nd),(∀k∈l,∀a,(xa k a).length=k.size)→∀a,(jo l a).length=Nd.aw l:=by
   intro l
   induction l with
   | nil=>intro _ a;rfl
   | cons x r fA =>
    intro h a
    simp only[jo,List.length_append,Nd.aw,fA fun k hk=>h k (by simp[hk]),h x (by simp)]
  rw[y2,List.length_cons,key _ ih,Nd.size_eq]
  omega
theorem pJ{n0:Nat}{src:List Nat}(hn:src.Nodup){i s:Nat}(h:src[i]? = some s)(hs:n0≤s):dj n0 src s=some (n0+i):=by
 unfold dj
 rw[if_neg (by omega),rk hn h]
 rfl
def iZ:Nd→List Int→Option Nd
 | t,[]=>some t
 | t,k::r=>if 0≤k∧k<t.kids.length then iZ (au t.kids k.toNat) r else none
theorem Lo{t:Nd}{p:List Int}{k:Nat}(h:k<p.length):iZ t (p.drop k)=if 0≤p.getD k 0∧p.getD k 0<t.kids.length then iZ (au t.kids (p.getD k 0).toNat) (p.drop (k+1)) else none:=by
 rw[List.drop_eq_getElem_cons h]
 simp[iZ,List.getD,h]
def dx(F:Y)(t:Nd)(a:Nat):Prop:=∀(i:Nat)(xs:List Z),(xa t a)[i]? = some xs→Y.find F (a+i)=cA 4 25 xs
def fV(F:Y)(l:List Nd)(a:Nat):Prop:=∀(i:Nat)(xs:List Z),(jo l a)[i]? = some xs→Y.find F (a+i)=cA 4 25 xs
theorem dx.head{F:Y}{t:Nd}{a:Nat}(h:dx F t a):Y.find F a=cA 4 25 (eo t.kids (a+1)):=h 0 _ (by rw[y2];rfl)
theorem dx.kids{F:Y}{t:Nd}{a:Nat}(h:dx F t a):fV F t.kids (a+1):=fun i xs hx=>by
 rw[show a+1+i=a+(i+1) by omega]
 exact h (i+1) xs (by rw[y2,List.getElem?_cons_succ];exact hx)
theorem fV.first{F:Y}{t:Nd}{r:List Nd}{a:Nat}(h:fV F (t::r) a):dx F t a:=fun i xs hx=>by
 refine h i xs ?_
 simp only[jo]
 rw[List.getElem?_append_left (List.getElem?_eq_some_iff.1 hx).1]
 exact hx
theorem fV.rest{F:Y}{t:Nd}{r:List Nd}{a:Nat}(h:fV F (t::r) a):fV F r (a+t.size):=fun i xs hx=>by
 rw[show a+t.size+i=a+(t.size+i) by omega]
 refine h (t.size+i) xs ?_
 simp only[jo]
 rw[List.getElem?_append_right (by rw[eD];omega),eD,Nat.add_sub_cancel_left]
 exact hx
theorem fp{t:Nd}{H:Y}:dx (dD t H.length++H) t H.length:=fun i xs hx=>by
 rw[xb]
 exact w5 (by simp[Ch,hx])
theorem dx.of{F G:Y}{t:Nd}{a:Nat}(h:dx F t a)(hs:∀i,a≤i→i<a+t.size→Y.find G i=Y.find F i):dx G t a:=fun i xs hx=>by
 have hi:=(List.getElem?_eq_some_iff.1 hx).1
 rw[eD] at hi
 rw[hs _ (by omega) (by omega)]
 exact h i xs hx
theorem Ut{F:Y}{n0:Nat}(t:Nd):∀{a:Nat},n0≤a→dx F t a→Gz F n0 [] (dW t a) (fI t):=by
 induction t using Nd.ind with
 | _ t ih =>
  intro a ha h
  have key:∀(l:List Nd),(∀k∈l,∀{a:Nat},n0≤a→dx F k a→Gz F n0 [] (dW k a) (fI k))→∀a,n0≤a→fV F l a→dB F n0 [] (eo l a) (bM l):=by
   intro l
   induction l with
   | nil=>intro _ a _ _;exact .nil
   | cons x r fA =>
    intro hx a ha hl
    exact .cons (hx x (by simp) ha hl.first) (fA (fun k hk=>hx k (by simp[hk])) _ (by omega) hl.rest)
  rw[cM,fS]
  exact .agg (.cons (.same trivial) (.cons (.same trivial) (.cons (.same trivial) (.cons (Ah (fun _=>by unfold dj;rw[if_neg (by omega)];rfl) (fun _=>h.head) (key _ ih _ (by omega) h.kids)) .nil))))
theorem sw{F:Y}(t:Nd):∀{a:Nat},dx F t a→View F (dW t a) (fI t):=by
 induction t using Nd.ind with
 | _ t ih =>
  intro a h
  have key:∀(l:List Nd),(∀k∈l,∀{a:Nat},dx F k a→View F (dW k a) (fI k))→∀a,fV F l a→cq F (eo l a) (bM l):=by
   intro l
   induction l with
   | nil=>intro _ a _;exact .nil
   | cons x r fA =>
    intro hx a hl
    exact .cons (hx x (by simp) hl.first) (fA (fun k hk=>hx k (by simp[hk])) _ hl.rest)
  rw[cM,fS]
  exact .agg (.cons .sc (.cons .sc (.cons .sc (.cons (cq.own (fun _=>h.head) (key _ ih _ h.kids)) .nil))))
def E0(x:ByteArray):List Int→Nd→Nd
 | [],t=>⟨t.kind,x,t.num,t.kids⟩
 | q::r,t=>⟨t.kind,t.text,t.num,t.kids.set q.toNat (E0 x r (au t.kids q.toNat))⟩
theorem Ds{l m:List Nd}(h:l.length=m.length)(k:∀j,j<l.length→au l j=au m j):l=m :=
 List.ext_getElem h fun j h1 h2=>by
  have:=k j h1
  rwa [dM h1,dM h2] at this
theorem pK(t:Nd):∀(p:List Int)(b:Pl),b∈aM t p→∃s,b.p=p++s∧(iZ t s).isSome=true:=by
 induction t using Nd.ind with
 | _ t ih =>
  intro p b hb
  rw[bZ] at hb
  rcases List.mem_cons.1 hb with rfl | hb
  ·exact ⟨[],by simp,rfl⟩
  ·obtain ⟨j,u,⟨h1,h2⟩,h3⟩:=dN _ _ _ _ hb
   rw[Nat.sub_zero] at h2
   obtain ⟨hl,he⟩:=List.getElem?_eq_some_iff.1 h2
   obtain ⟨s,e1,e2⟩:=ih u (List.mem_of_getElem? h2) _ b h3
   refine ⟨(j:Int)::s,by rw[e1];simp,?_⟩
   rw[iZ,if_pos ⟨by omega,by omega⟩,Int.toNat_natCast,dM hl,he]
   exact e2
theorem Ie(x:ByteArray):∀(s:List Int)(t:Nd)(p:List Int),(iZ t s).isSome=true→bc (bH [p++s]) x t p=E0 x s t
 | [],t,p,_=>by
  refine Nd.ext' lq ?_ pE ?_
  ·rw[lu,if_pos (by simp[bH])]
   rfl
  ·rw[lv]
   show _=t.kids
   refine Ds (cP _ _ _ _ _) fun j hj=>?_
   rw[cP] at hj
   rw[gU _ _ _ _ _ _ hj]
   refine AO _ _ _ _ fun b hb hf=>?_
   obtain ⟨s,e1,_⟩:=pK _ _ _ hb
   simp[bH,e1] at hf
 | q::r,t,p,h=>by
  rw[iZ] at h
  split at h
  ·rename_i c
   have hl:q.toNat<t.kids.length:=by omega
   obtain ⟨m,rfl⟩:∃m:Nat,q=m:=⟨q.toNat,by omega⟩
   rw[Int.toNat_natCast] at h hl
   refine Nd.ext' lq ?_ pE ?_
   ·rw[lu,if_neg (by simp[bH])]
    rfl
   ·rw[lv]
    show _=t.kids.set (Int.toNat (m:Int)) (E0 x r (au t.kids (Int.toNat (m:Int))))
    rw[Int.toNat_natCast]
    refine Ds (by rw[cP,List.length_set]) fun j hj=>?_
    rw[cP] at hj
    rw[gU _ _ _ _ _ _ hj,Nat.zero_add]
    by_cases e:j=m
    ·subst e
     have e2:p++((j:Int)::r)=(p++[(j:Int)])++r:=by simp
     rw[e2,Ie x r _ _ h]
     rw[dM (l:=t.kids.set _ _) (by rw[List.length_set];exact hj),List.getElem_set_self]
    ·rw[dM (l:=t.kids.set _ _) (by rw[List.length_set];exact hj),List.getElem_set_ne (fun h=>e h.symm),←dM hj]
     refine AO _ _ _ _ fun b hb hf=>?_
     obtain ⟨s,e1,_⟩:=pK _ _ _ hb
     simp only[bH,e1,List.any_cons,List.any_nil,Bool.or_false,decide_eq_true_eq] at hf
     have hs:(m:Int)=(j:Int):=by
      have:=List.append_cancel_left (hf.trans (List.append_assoc p [(j:Int)] s))
      simpa using (List.cons.inj this).1
     omega
  ·simp at h
theorem PP{x:ByteArray}{n:Nd}{q:List Int}(h:(iZ n q).isSome=true):E0 x q n=bc (bH [q]) x n []:=(Ie x q n [] h).symm
theorem Ig{n:Nd}{i:Nat}{q:List Int}(h:q∈ez (aM n []) (aM n []) i):(iZ n q).isSome=true:=by
 unfold ez at h
 obtain ⟨b,hb,rfl⟩:=List.mem_map.1 h
 obtain ⟨s,e1,e2⟩:=pK _ _ _ ((List.mem_filter.1 hb).1)
 rw[List.nil_append] at e1
 rw[e1]
 exact e2
theorem Ci{n:Nd}(h:dl n=true){b:gv}(hb:b∈aI n):(iZ n b.1).isSome=true∧∀q∈b.2.2,(iZ n q).isSome=true:=by
 rw[eC h] at hb
 obtain ⟨i,hi,rfl⟩:=List.mem_map.1 hb
 refine ⟨?_,fun q hq=>Ig hq⟩
 obtain ⟨s,e1,e2⟩:=pK _ _ _ (sr (oM.1 hi).1)
 rw[List.nil_append] at e1
 show (iZ n (aA (aM n []) i).p).isSome=true
 rw[e1]
 exact e2
theorem A9:∀(p:List Int)(t:Nd),(iZ t p).isSome=true→p.length≤t.size
 | [],t,_=>by simp
 | q::r,t,h=>by
  rw[iZ] at h
  split at h
  ·rename_i c
   have h1:=A9 r _ h
   have h2:=Nd.pz (eF (l:=t.kids) (k:=q.toNat) (by omega))
   simp only[List.length_cons]
   omega
  ·simp at h
set_option maxRecDepth 1000000
set_option maxRecDepth 100000
def abC(k i:Int):Int:=IntKind.i64.wrap (IntKind.i64.wrap (1000003*IntKind.i64.wrap (k+7))+i)
set_option maxRecDepth 1000000
def Zr:IC:=(.seq (.ops [iP 4 (.mv kF)]) (.seq (.seq (.ops [iM 6 0,iP 7 (xL 6),iM 8 1,iP 9 (xL 8),iP 10 (xB .neq 7 9)]) (.cond (.t 10) (.seq (.ops [iP 4 (.mv kF)]) .ret) .skip)) (.seq (.seq (.ops [iP 5 (xI 0)]) (.block 0 (.loop (.seq (.seq (.ops [iM 11 5,iM 12 0,iP 13 (xL 12),iP 14 (xB .lss 11 13)]) (.cond (.t 14) .skip (.exit 0))) (.seq (.block 1 (.seq (.dL [iM 17 0,iM 18 5,iP 19 (xA 1 17 18),iH 20 (yD 1 19),iM 21 1,iM 22 5,iP 23 (xA 1 21 22),iH 24 (yD 1 23),iP 25 (xB .neq 20 24)] [[],[],[0,1],[2,0,1],[],[],[4,5],[6,4,5],[3,2,0,1,7,6,4,5]]) (.cond (.t 25) (.seq (.ops [iP 4 (.mv kF)]) .ret) .skip))) (.ops [iM 15 5,iP 16 (.bP .add (.t 15) (kI 1)),iM 5 16])))))) (.seq (.ops [iP 4 (.mv kT)]) .ret))))
theorem adn:Dk Tryz.prog 26 Zr [(.t 4)] 26:=bj (fn:=Tryz.f26) Tryz.func26 (by kernel_rfl) (by kernel_rfl) (by kernel_rfl)
set_option maxRecDepth 100000
def aZ(l:List Int):List Z:=l.map fun i=>.sc (.int .i64 i)
theorem bI(l:List Int):(aZ l).length=l.length:=by simp[aZ]
theorem PQ:aZ []=[]:=rfl
theorem Lp(s:Int)(l:List Int):aZ (s::l) = .sc (.int .i64 s)::aZ l:=rfl
def mZ(xs:List Int)(k:Nat):Int:=xs.getD k 0
theorem Ih{xs:List Int}{k:Nat}(h:k<xs.length):mZ xs k=xs[k]:=by simp[mZ,List.getD,h]
theorem oS{l:List Int}{k:Nat}(h:k<l.length):(aZ l).getD k .top = .sc (.int .i64 (mZ l k)):=by
 simp[aZ,mZ,List.getD,h]
theorem Dt{xs ys:List Int}(hl:xs.length=ys.length)(h:∀i,i<xs.length→mZ xs i=mZ ys i):xs=ys:=by
 apply List.ext_getElem hl
 intro i h1 h2
 have:=h i h1
 rwa [Ih h1,Ih h2] at this
theorem rI{H:Y}{n:Nat}{src:List Nat}:∀{l:List Int},dB H n src (aZ l) (aZ l)
 | []=>.nil
 | _::_=>.cons (.same trivial) rI
theorem Ba{H:Y}{l:List Int}{r:Option (List Z)}:View H (.ak 1 (aZ l) r) (.ak 1 (aZ l) none):=.ak cq.WR
theorem rJ(a b:List Int)(ra rb:Option (List Z))(H:Y)(hl:a.length≤100000000):D Tryz.prog 26 [.ak 1 (aZ a) ra,.ak 1 (aZ b) rb] H (.ret (.sc (.bool (decide (a=b))))) H:=by
 refine aF (Nat.le_refl _) (adn (aE ?_))
 simp -implicitDefEqProofs (maxSteps:=99999999) (disch:=omega) only[bI,Zr,va,vg,vs,vh,vk,simprocAttr]
 refine ko (fun h=>?_) (fun h=>?_)
 ·have hne:¬a=b:=fun e=>by simp[e] at h
  refine zD2 @bI hne ?_
  exact cy .refl
 have dz:a.length=b.length:=by omega
 refine Pc @bI ?_
 refine Aa (fun ts H'=>H'=H∧∃k:Nat,(k≤a.length∧∀j,j<k→mZ a j=mZ b j)∧Fr [some (.ak 1 (aZ a) ra),some (.ak 1 (aZ b) rb),none,none,some (.sc (.bool false)),some (.sc (.int .i64 k)),none,none,none,none,none,none,none,none,none,none,none,none,none,none,none,none,none,none,none,none] ts) (fun ts _=>a.length - (bL (ts.getD 5 .top)).toNat) ?_ ?_
 ·exact ⟨rfl,0,⟨Nat.zero_le _,fun j h=>absurd h (Nat.not_lt_zero _)⟩,by simp[Fr]⟩
 rintro ts _ ⟨rfl,k,⟨hk,hp⟩,cv⟩
 obtain ⟨js,rfl⟩:=cv.opened
 clear cv
 refine zI1 @bI ?_
 refine ko (fun h=>?_) (fun h=>?_)
 ·have h1:k<a.length:=by omega
  have h2:k<b.length:=by omega
  simp -implicitDefEqProofs (maxSteps:=99999999) (disch:=omega) only[bI,oS h1,oS h2,va,vg,vs,vh,vk,simprocAttr]
  refine ⟨by omega,by omega,ko (fun h=>?_) (fun h=>?_)⟩
  ·have hne:¬a=b:=fun e=>by simp[e] at h
   refine zD2 @bI hne ?_
   exact cy .refl
  ·refine Pc @bI ?_
   refine ⟨⟨k+1,⟨by omega,fun j hj=>?_⟩,by simp[Fr]⟩,by omega⟩
   rcases Nat.lt_succ_iff_lt_or_eq.1 hj with h' | rfl
   ·exact hp j h'
   ·exact Classical.not_not.1 h
 ·have hab:a=b:=Dt dz (fun i hi=>hp i (by omega))
  refine zD2 @bI hab ?_
  exact cy .refl
set_option maxRecDepth 1000000
def Zs:IC:=(.seq (.ops [iP 4 (.mv kF)]) (.seq (.seq (.ops [iM 6 0,iP 7 (xL 6),iM 8 1,iP 9 (xL 8),iP 10 (xB .neq 7 9)]) (.cond (.t 10) (.seq (.ops [iP 4 (.mv kF)]) .ret) .skip)) (.seq (.seq (.ops [iM 11 0,iP 12 (xL 11),iP 13 (xI 0)]) (.block 0 (.loop (.seq (.ops [iP 14 (xB .lss 13 12)]) (.seq (.cond (.t 14) .skip (.exit 0)) (.seq (.block 1 (.seq (.ops [iM 15 13,iM 5 15]) (.seq (.dL [iM 16 0,iM 17 5,iP 18 (xA 1 16 17),iH 19 (yD 1 18),iM 20 1,iM 21 5,iP 22 (xA 1 20 21),iH 23 (yD 1 22),iP 24 (xB .neq 19 23)] [[],[],[0,1],[2,0,1],[],[],[4,5],[6,4,5],[3,2,0,1,7,6,4,5]]) (.cond (.t 24) (.seq (.ops [iP 4 (.mv kF)]) .ret) .skip)))) (.ops [iP 25 (.bP .add (.t 13) (kI 1)),iM 13 25]))))))) (.seq (.ops [iP 4 (.mv kT)]) .ret))))
theorem ado:Dk Tryz.prog 31 Zs [(.t 4)] 26:=bj (fn:=Tryz.f31) Tryz.func31 (by kernel_rfl) (by kernel_rfl) (by kernel_rfl)
def Lq:IC:=(.seq (.ops [iP 2 (.mv (.k cJ))]) (.seq (.seq (.ops [iM 3 0,iP 4 (.um .true (.t 3))]) (.cond (.t 4) (.seq (.ops [iP 2 (.mv (.k cJ))]) .ret) .skip)) (.seq (.ops [iH 5 (.eE 1 3 (.sc (.int .i64 0)) 0 []),iM 6 0,iH 7 (.eN 1 3 (.t 5) (.t 6)),iM 2 7]) .ret)))
theorem abD:Dk Tryz.prog 170 Lq [(.t 2)] 8:=bj (fn:=Tryz.f170) Tryz.func170 (by kernel_rfl) (by kernel_rfl) (by kernel_rfl)
set_option maxRecDepth 100000
theorem sx(a b:List Int)(ra rb:Option (List Z))(H:Y)(hl:a.length≤100000000):D Tryz.prog 31 [.ak 1 (aZ a) ra,.ak 1 (aZ b) rb] H (.ret (.sc (.bool (decide (a=b))))) H:=by
 refine aF (Nat.le_refl _) (ado (aE ?_))
 simp -implicitDefEqProofs (maxSteps:=99999999) (disch:=omega) only[Zs,bI,va,vg,vs,vh,vk,simprocAttr]
 refine ko (fun h=>?_) (fun h=>?_)
 ·have hne:¬a=b:=fun e=>by simp[e] at h
  refine Pc hne ?_
  exact cy .refl
 have dz:a.length=b.length:=by omega
 refine Pc @bI ?_
 refine Aa (fun ts H'=>H'=H∧∃k:Nat,(k≤a.length∧∀j,j<k→mZ a j=mZ b j)∧Fr [some (.ak 1 (aZ a) ra),some (.ak 1 (aZ b) rb),none,none,some (.sc (.bool false)),none,none,none,none,none,none,none,some (.sc (.int .i64 a.length)),some (.sc (.int .i64 k)),none,none,none,none,none,none,none,none,none,none,none,none] ts) (fun ts _=>a.length - (bL (ts.getD 13 .top)).toNat) ?_ ?_
 ·exact ⟨rfl,0,⟨Nat.zero_le _,fun j h=>absurd h (Nat.not_lt_zero _)⟩,by simp[Fr]⟩
 rintro ts _ ⟨rfl,k,⟨hk,hp⟩,cv⟩
 obtain ⟨js,rfl⟩:=cv.opened
 clear cv
 refine zI0 ?_
 refine ko (fun h=>?_) (fun h=>?_)
 ·have h1:k<a.length:=by omega
  have h2:k<b.length:=by omega
  simp -implicitDefEqProofs (maxSteps:=99999999) (disch:=omega) only[oS h1,oS h2,bI,va,vg,vs,vh,vk,simprocAttr]
  refine ⟨by omega,by omega,ko (fun h=>?_) (fun h=>?_)⟩
  ·have hne:¬a=b:=fun e=>by simp[e] at h
   refine Pc hne ?_
   exact cy .refl
  ·refine zD0 ?_
   refine ⟨⟨k+1,⟨by omega,fun j hj=>?_⟩,by simp[Fr]⟩,by omega⟩
   rcases Nat.lt_succ_iff_lt_or_eq.1 hj with h' | rfl
   ·exact hp j h'
   ·exact Classical.not_not.1 h
 ·have hab:a=b:=Dt dz (fun i hi=>hp i (by omega))
  refine Pc hab ?_
  exact cy .refl
def bp(B:List Nat)(j:Nat):Z:=.ptr 4 (B.getD j 0) 0 0
def ja:Z:=.sc (.pointer none)
def dm(a:Z)(m:Nat):Z:=.agg [a,.ptr 0 m 0 0]
def qc(s:Z):aD:=⟨2,[s],true,275⟩
def gY(B:List Nat)(f:aO):aD:=⟨0,mE (bp B) f,true,0⟩
def iK(n:Nat)(f:aO):Prop:=∀p∈f,p.2<n
def eL(B:List Nat)(H:Y):List aO→Z→List Nat→Prop
 | [],_,_=>False
 | [f],s,ms=>∃m,ms=[m]∧Y.find H m=some (gY B f)∧s=dm ja m
 | f::g::r,s,ms=>∃m qu a s',ms=m::qu∧Y.find H m=some (gY B f)∧s=dm (.ptr 2 a 0 0) m∧Y.find H a=some (qc s')∧eL B H (g::r) s' qu
theorem eL.keep{B:List Nat}{H G:Y}:∀{env:List aO}{s:Z}{ms:List Nat},eL B H env s ms→(∀id b,Y.find H id=some b→((id∈ms∧b.k=0)∨(b.ty=275∧b.k=2))→Y.find G id=some b)→eL B G env s ms
 | [],_,_,h,_=>h.elim
 | [f],s,ms,h,k=>by
  obtain ⟨m,rfl,h1,h2⟩:=h
  exact ⟨m,rfl,k m _ h1 (.inl ⟨by simp,rfl⟩),h2⟩
 | f::g::r,s,ms,h,k=>by
  obtain ⟨m,qu,a,s',rfl,h1,h2,h3,h4⟩:=h
  exact ⟨m,qu,a,s',rfl,k m _ h1 (.inl ⟨by simp,rfl⟩),h2,k a _ h3 (.inr ⟨rfl,rfl⟩),h4.keep fun id b hb hc=>k id b hb (hc.imp (fun h=>⟨by simp[h.1],h.2⟩) (fun h=>h))⟩
theorem eL.form{B:List Nat}{H:Y}{env:List aO}{s:Z}{ms:List Nat}(h:eL B H env s ms):∃a m qu,s=dm a m∧ms=m::qu∧Y.find H m=some (gY B (env.headD [])):=by
 match env,h with
 | [f],h=>obtain ⟨m,e,h1,h2⟩:=h;exact ⟨_,m,_,h2,e,h1⟩
 | f::g::r,h=>obtain ⟨m,qu,a,s',e,h1,h2,h3,h4⟩:=h;exact ⟨_,m,_,h2,e,h1⟩
theorem oT{B:List Nat}{f:aO}{x:ByteArray}:k8 (.string x) ja (mE (bp B) f)=match bX x f with
  | some j=>bp B j
  | none=>ja:=by
 rw[Hr]
 cases bX x f<;>rfl
theorem xd(B:List Nat)(f:aO):ef none (mE (bp B) f)=True:=XH (bp B) f
theorem xe(l:List Int)(ro:Option (List Z))(H:Y)(hl:l.length≤100000000):D Tryz.prog 170 [.ak 1 (aZ l) ro] H (.ret (.ak 1 (aZ l) none)) H:=by
 refine aF (Nat.le_refl _) (abD (aE ?_))
 cases l with
 | nil =>
  simp -implicitDefEqProofs (maxSteps:=99999999) (disch:=omega) only[Lq,PQ,va,vg,vs,vh,vk,simprocAttr]
  refine ⟨?_,?_⟩
  ·refine zD0 ?_
   exact di .refl .nil
  ·refine zD0 ?_
   exact di .refl .nil
 | cons x r =>
  simp only[List.length_cons] at hl
  simp -implicitDefEqProofs (maxSteps:=99999999) (disch:=omega) only[Lq,Lp,bI,va,vg,vs,vh,vk,simprocAttr]
  refine ⟨by omega,w6 (fun i hi=>by rw[ai hi]) (.aB (by unfold dj;rw[if_neg (by omega)];rfl) (aN rfl) rfl (by simp[bI]) ?_)⟩
  simp only[List.drop_zero]
  rw[List.take_of_length_le (by simp[bI])]
  exact rI (l:=x::r)
def fdV(B:List Nat):Option Nat→Z
 | some j=>bp B j
 | none=>ja
def pL(f:fJ):Z:=.dK 159 (.agg [.sc (.int .i64 f.1),.sc (.int .i64 f.2)])
def dX(bB aY:Nat)(B:List Nat)(ws:WS):aD:=⟨5,[.agg [.sc (.pointer none),.ptr 0 bB 0 0,aW 1 (ws.all.map (bp B)) aY,.sc (.int .i64 ws.at_),.fn (.func 110) [] []]],true,167⟩
def aJ(l:List (List Int)):List Z:=l.map fun p=>.ak 1 (aZ p) none
def ga(u:Nat)(b:Bd):aD:=⟨4,[.agg [.ak 1 (aZ b.path) none,.sc (.string b.name),aW 1 (aJ b.ct) u,.sc (.int .i64 b.many)]],true,107⟩
set_option maxHeartbeats 0 in
theorem Du(s:Z)(hs:s.cells.length=2∧s.isAgg=true)(H:Y):DK Tryz.prog 172 [s] H (fun e H'=>∃v,e = .ret v∧∃a m,v=dm (.ptr 2 a 0 0) m∧(H.length≤a∧H.length≤m)∧Y.find H' a=some (qc s)∧Y.find H' m=some (gY [] [])∧H.length≤H'.length∧∀id,id<H.length→Y.find H' id=Y.find H id):=by
 obtain ⟨c1,c2⟩:=hs
 match s,c1,c2 with
 | .agg [x,y],_,_ =>
  refine abB (aE ?_)
  simp only[Uo,ux]
  refine ae fun L hL=>?_
  refine ax ?_
  refine hL _ _ ?_
  clear hL
  refine ae fun L hL=>?_
  refine ax ?_
  refine hL _ _ ?_
  clear hL
  refine ax ?_
  refine ⟨_,rfl,H.length+2,H.length+3,rfl,⟨by omega,by omega⟩,?_,?_,by omega,fun id hid=>?_⟩
  ·rw[ai (by simp only[List.length_cons];omega),aN (by simp only[List.length_cons])]
   rfl
  ·rw[aN (by simp only[List.length_cons])]
   rfl
  ·rw[ai (by simp;omega),ai (by simp;omega),ai (by simp;omega),ai hid]
theorem Bb{H G:Y}{x y:Z}(h:Over H G)(hz:Gz G H.length [] x y):eJ H (.bu x) G (.bu y) H:=by
 obtain ⟨A,rfl⟩:=h.split
 exact mr [] (by simp) (by simp) (by simp) (fun id k hid hk=>.inl ⟨hk,by rw[Y.bx hid];exact hk⟩) (fun i s k hs=>by simp at hs) hz
theorem Uu(f:fJ)(H:Y):D Tryz.prog 110 [.agg [.sc (.int .i64 f.1),.sc (.int .i64 f.2)]] H (.bu (pL f)) H:=by
 refine aF (Nat.le_refl _) (abv (aE ?_))
 simp only[Uh,ux]
 refine ax ?_
 exact Bb (by repeat constructor) (.dK (.agg (.cons (.same trivial) (.cons (.same trivial) .nil))))
set_option maxHeartbeats 0 in
theorem vE(f:fJ)(wid bB aY:Nat)(B:List Nat)(ws:WS)(H:Y)(hw:Y.find H wid=some (dX bB aY B ws)):D Tryz.prog 169 [.ptr 5 wid 0 0,.sc (.int .i64 f.1),.sc (.int .i64 f.2)] H (.bu (pL f)) H:=by
 have hw':=hw
 unfold dX at hw'
 have hl:=Uu f H
 refine aF (Nat.le_refl _) (abA (aE ?_))
 simp only[Um,ux]
 refine de hw' ?_
 refine ⟨rfl,mP hl ?_⟩
 exact Bb .refl (.dK (.agg (.cons (.same trivial) (.cons (.same trivial) .nil))))
set_option maxHeartbeats 0 in
theorem MQ(B:List Nat)(x:ByteArray):∀(env:List aO)(s:Z)(ms:List Nat)(H:Y),eL B H env s ms→DK Tryz.prog 191 [s,.sc (.string x)] H (fun e H'=>∃v,e = .ret v∧v=fdV B (bR env x)∧H.length≤H'.length∧∀id,id<H.length→Y.find H' id=Y.find H id)
 | [],_,_,_,h=>h.elim
 | [f],s,ms,H,h=>by
  obtain ⟨m,rfl,h1,rfl⟩:=h
  have sG:=Y.am h1
  have hY:=h1
  unfold gY at hY
  have hok:=xd B f
  have fK:=oT (B:=B) (f:=f) (x:=x)
  unfold ja at fK
  refine Un (aE ?_)
  simp only[Ln,ux]
  unfold dm ja
  cases hg:bX x f with
  | some j =>
   have Lr:bR [f] x=some j:=by rw[bR];rw[hg]
   rw[Lr]
   simp only[hg] at fK
   unfold bp at fK hok hY
   refine ae fun L hL=>?_
   refine ax ?_
   refine hL _ _ ?_
   clear hL
   refine ae fun L hL=>?_
   refine nY hY hok fK ?_
   exact ⟨_,rfl,rfl,by omega,fun id hid=>ai hid⟩
  | none =>
   have Lr:bR [f] x=none:=by rw[bR];rw[hg];rfl
   rw[Lr]
   simp only[hg] at fK
   unfold bp at fK hok hY
   refine ae fun L hL=>?_
   refine ax ?_
   refine hL _ _ ?_
   clear hL
   refine ae fun L hL=>?_
   refine nY hY hok fK ?_
   exact ⟨_,rfl,rfl,by omega,fun id hid=>ai hid⟩
 | f::g::r,s,ms,H,h=>by
  obtain ⟨m,qu,a,s',rfl,h1,rfl,h3,h4⟩:=h
  have sG:=Y.am h1
  have hal:=Y.am h3
  have hY:=h1
  unfold gY at hY
  have QD:=h3
  unfold qc at QD
  have hok:=xd B f
  have fK:=oT (B:=B) (f:=f) (x:=x)
  unfold ja at fK
  refine Un (aE ?_)
  simp only[Ln,ux]
  unfold dm
  cases hg:bX x f with
  | some j =>
   have Lr:bR (f::g::r) x=some j:=by rw[bR];rw[hg]
   rw[Lr]
   simp only[hg] at fK
   unfold bp at fK hok hY
   refine ae fun L hL=>?_
   refine ax ?_
   refine hL _ _ ?_
   clear hL
   refine ae fun L hL=>?_
   refine nY hY hok fK ?_
   exact ⟨_,rfl,rfl,by omega,fun id hid=>ai hid⟩
  | none =>
   have Lr:bR (f::g::r) x=bR (g::r) x:=by conv=>lhs;rw[bR];simp only[hg]
   rw[Lr]
   simp only[hg] at fK
   unfold bp at fK hok hY
   have FF:∀b,eL B (b::H) (g::r) s' qu:=fun b=>h4.keep fun id k hk _=>by rw[ai (Y.am hk)];exact hk
   refine ae fun L hL=>?_
   refine ax ?_
   refine hL _ _ ?_
   clear hL
   refine ae fun L hL=>?_
   refine nY hY hok fK ?_
   refine hL _ _ ?_
   clear hL
   obtain ⟨a',m',ms2,rfl,-,-⟩:=h4.form
   unfold dm at QD FF
   refine de QD ?_
   refine jd (MQ B x (g::r) _ qu _ (FF _)) ?_
   rintro v H' hle ⟨rfl,q1,q2⟩
   refine ax ?_
   simp only[List.length_cons] at q1 q2
   exact ⟨_,rfl,rfl,by omega,fun id hid=>by rw[q2 id (by omega),ai hid]⟩
theorem Dv{k:ByteArray}{a:Nat}:∀{M:aO}{p:ByteArray×Nat},p∈dV k a M→p=(k,a)∨p∈M
 | [],p,h=>by simp only[dV,List.mem_singleton] at h;exact .inl h
 | q::r,p,h=>by
  simp only[dV] at h
  split at h
  ·rcases List.mem_cons.1 h with h | h
   ·exact .inl h
   ·exact .inr (by simp[h])
  ·rcases List.mem_cons.1 h with h | h
   ·exact .inr (by simp[h])
   ·rcases Dv h with h | h
    ·exact .inl h
    ·exact .inr (by simp[h])
theorem iK.set{n m:Nat}{f:aO}(h:iK n f)(hm:n≤m){k:ByteArray}{a:Nat}(ha:a<m):iK m (dV k a f):=fun p hp=>by
 rcases Dv hp with rfl | h1
 ·exact ha
 ·have:=h p h1;omega
theorem iK.le{n m:Nat}{f:aO}(h:iK n f)(hm:n≤m):iK m f:=fun p hp=>by have:=h p hp;omega
theorem MR{B C:List Nat}{j:Nat}(h:j<B.length):bp (B++C) j=bp B j:=by unfold bp;rw[List.getD,List.getD,List.getElem?_append_left h]
theorem sy{B C:List Nat}{f:aO}(h:iK B.length f):gY (B++C) f=gY B f:=by
 unfold gY
 congr 1
 unfold mE
 apply List.map_congr_left
 intro p hp
 rw[MR (h p hp)]
theorem Uv{B C:List Nat}{l:List Nat}(h:∀j∈l,j<B.length):l.map (bp (B++C))=l.map (bp B):=List.map_congr_left fun j hj=>MR (h j hj)
theorem eL.ext{B C:List Nat}{H:Y}:∀{env:List aO}{s:Z}{ms:List Nat},eL B H env s ms→(∀f∈env,iK B.length f)→eL (B++C) H env s ms
 | [],_,_,h,_=>h.elim
 | [f],s,ms,h,k=>by
  obtain ⟨m,rfl,h1,h2⟩:=h
  exact ⟨m,rfl,by rw[sy (k f (by simp))];exact h1,h2⟩
 | f::g::r,s,ms,h,k=>by
  obtain ⟨m,qu,a,s',rfl,h1,h2,h3,h4⟩:=h
  exact ⟨m,qu,a,s',rfl,by rw[sy (k f (by simp))];exact h1,h2,h3,h4.ext fun x hx=>k x (by simp[hx])⟩
def nc(b:aD):Prop:=b.k≠0∧b.k≠5∧b.ty≠107∧(b.k=1→b.exact=true)
def cH(m:Nat)(H G:Y):Prop:=H.length≤G.length∧∀id b,Y.find H id=some b→(nc b∨(b.k=0∧id≠m))→Y.find G id=some b
theorem cH.refl{m:Nat}{H:Y}:cH m H H:=⟨Nat.le_refl _,fun _ _ h _=>h⟩
theorem cH.trans{m:Nat}{H G K:Y}(h:cH m H G)(k:cH m G K):cH m H K:=⟨Nat.le_trans h.1 k.1,fun id b hb hs=>k.2 id b (h.2 id b hb hs) hs⟩
theorem cH.cons{m:Nat}{H G:Y}(h:cH m H G)(b:Option aD):cH m H (b::G):=⟨by simp only[List.length_cons];have:=h.1;omega,fun id k hk hs=>by
 have:=h.2 id k hk hs
 rw[ai (Y.am this)];exact this⟩
theorem cH.all{m:Nat}{H G:Y}(hl:H.length≤G.length)(h:∀id,id<H.length→Y.find G id=Y.find H id):cH m H G:=⟨hl,fun id b hb _=>by rw[h id (Y.am hb)];exact hb⟩
structure BS(wid bB aY:Nat)(B U:List Nat)(ws:WS)(H:Y):Prop where
 w:Y.find H wid=some (dX bB aY B ws)
 al:ws.all≠[]→Y.find H aY=some ⟨1,ws.all.map (bp B),false,105⟩
 bl:B.length=ws.bs.length
 ul:U.length=ws.bs.length
 bd:∀j,j<ws.bs.length→Y.find H (B.getD j 0)=some (ga (U.getD j 0) (aR ws.bs j))
 us:∀j,j<ws.bs.length→(aR ws.bs j).ct≠[]→Y.find H (U.getD j 0)=some ⟨1,aJ (aR ws.bs j).ct,false,30⟩
 nd:∀i j,i<ws.bs.length→j<ws.bs.length→B.getD i 0=B.getD j 0→i=j
 ud:∀i j,i<ws.bs.length→j<ws.bs.length→(aR ws.bs i).ct≠[]→(aR ws.bs j).ct≠[]→U.getD i 0=U.getD j 0→i=j
 ao:∀j∈ws.all,j<ws.bs.length
theorem BS.keep{wid bB aY:Nat}{B U:List Nat}{ws:WS}{H G:Y}(h:BS wid bB aY B U ws H)(k:∀id b,Y.find H id=some b→(b.k=5∨b.k=1∨b.k=4)→Y.find G id=some b):BS wid bB aY B U ws G :=
 ⟨k _ _ h.w (.inl rfl),fun e=>k _ _ (h.al e) (.inr (.inl rfl)),h.bl,h.ul,fun j hj=>k _ _ (h.bd j hj) (.inr (.inr rfl)),fun j hj e=>k _ _ (h.us j hj e) (.inr (.inl rfl)),h.nd,h.ud,h.ao⟩
theorem BS.cons{wid bB aY:Nat}{B U:List Nat}{ws:WS}{H:Y}(h:BS wid bB aY B U ws H)(b:Option aD):BS wid bB aY B U ws (b::H):=h.keep fun id k hk _=>by rw[ai (Y.am hk)];exact hk
theorem eL.cons{B:List Nat}{H:Y}{env:List aO}{s:Z}{ms:List Nat}(h:eL B H env s ms)(b:Option aD):eL B (b::H) env s ms:=h.keep fun id k hk _=>by rw[ai (Y.am hk)];exact hk
theorem eL.top{B:List Nat}{H G:Y}{env:List aO}{s:Z}{m:Nat}{ms:List Nat}(h:eL B H env s (m::ms))(hnd:m∉ms){f:aO}(hm:Y.find G m=some (gY B f))(k:∀id b,Y.find H id=some b→id≠m→(b.k=0∨(b.ty=275∧b.k=2))→Y.find G id=some b):eL B G (f::env.tail) s (m::ms):=by
 match env,h with
 | [g],h =>
  obtain ⟨m',e,h1,h2⟩:=h
  cases e
  exact ⟨m,rfl,hm,h2⟩
 | g::g'::r,h =>
  obtain ⟨m',qu,a,s',e,h1,h2,h3,h4⟩:=h
  cases e
  refine ⟨m,ms,a,s',rfl,hm,h2,k a _ h3 (fun e=>?_) (.inr ⟨rfl,rfl⟩),h4.keep fun id b hb hc=>?_⟩
  rotate_left
  ·rcases hc with ⟨h5,h6⟩ | h5
   ·exact k id b hb (fun e=>hnd (e▸h5)) (.inl h6)
   ·refine k id b hb (fun e=>?_) (.inr h5)
    rw[e,h1] at hb
    cases hb
    simp[gY] at h5
  rw[e] at h3
  rw[h3] at h1
  cases h1
def Ls(wid bB:Nat)(s:Z)(m:Nat)(ms:List Nat)(B:List Nat)(H:Y)(r:Except fJ (List aO×WS))(e:cm)(H':Y):Prop:=match r with
 | .error f=>e = .bu (pL f)∧cH m H H'
 | .ok q=>e = .ret (.aK [])∧cH m H H'∧∃aY C U,BS wid bB aY (B++C) U q.2 H'∧eL (B++C) H' q.1 s (m::ms)∧∀f∈q.1,iK q.2.bs.length f
set_option maxHeartbeats 0 in
theorem MS(wid bB aY:Nat)(B U:List Nat)(ws:WS)(H:Y)(env:List aO)(s:Z)(m:Nat)(ms:List Nat)(hB:BS wid bB aY B U ws H)(hE:eL B H env s (m::ms))(hnd:m∉ms)(hfo:∀f∈env,iK ws.bs.length f)
  (t:Nd)(ro:Option (List Z))(p:List Int)(hp:p.length≤1000000)(hts:t.text.size≤100000000)(hal:ws.all.length≤90000000)(a:Nat) :
  DK Tryz.prog 111 [.ptr 5 wid 0 0,s,eG t ro,.ak 1 (aZ p) none,.sc (.int .i64 a)] H (Ls wid bB s m ms B H (cK env ws t.text p a)):=by
 obtain ⟨a0,m',ms2,rfl,e1,hm⟩:=hE.form
 cases e1
 have sG:=Y.am hm
 have hwl:=Y.am hB.w
 have hw:=hB.w
 have hm':=hm
 have hok:=xd B (env.headD [])
 have fK:=oT (B:=B) (f:=env.headD []) (x:=t.text)
 unfold ja at fK
 unfold dX at hw
 unfold gY at hm'
 rw[aH]
 refine aby (aE ?_)
 simp only[Uk,ux]
 unfold dm
 cases hg:bX t.text (env.headD []) with
 | some j =>
  have hb:cK env ws t.text p a = .error (110,a):=by unfold cK;rw[hg]
  rw[hb]
  simp only[hg] at fK
  unfold bp at fK hok hm'
  refine ae fun L hL=>?_
  refine ax ?_
  refine hL _ _ ?_
  clear hL
  refine ae fun L hL=>?_
  refine nY hm' hok fK ?_
  have hc:=(hB.cons (some ⟨2,[.agg [a0,.ptr 0 m 0 0]],true,164⟩)).cons (some ⟨4,[.agg [.sc (.int .u8 t.kind),.sc (.string t.text),.sc (.int .i64 t.num),.ak 4 (bM t.kids) ro]],true,25⟩)
  refine mP (vE (110,a) wid bB aY B ws _ hc.w) ?_
  exact ⟨rfl,(cH.refl.cons _).cons _⟩
 | none =>
  have hb:cK env ws t.text p a = .ok (dV t.text ws.bs.length (env.headD [])::env.tail,{ ws with bs:=ws.bs++[⟨p,t.text,[],0⟩],all:=ws.all++[ws.bs.length] }):=by unfold cK;rw[hg]
  rw[hb]
  simp only[hg] at fK
  refine ae fun L hL=>?_
  refine ax ?_
  refine hL _ _ ?_
  clear hL
  refine ae fun L hL=>?_
  refine nY hm' hok fK ?_
  have Zt:iK B.length (env.headD []):=by
   rw[hB.bl]
   cases env with
   | nil=>exact fun p hp=>by simp at hp
   | cons f r=>exact hfo f (by simp)
  have pM:bp (B++[H.length+2]) B.length = .ptr 4 (H.length+2) 0 0:=by simp[bp,List.getD]
  have hmp:nu (.string t.text) (.ptr 4 (H.length+2) 0 0) (mE (bp B) (env.headD []))=mE (bp (B++[H.length+2])) (dV t.text B.length (env.headD [])):=by
   have h1:mE (bp B) (env.headD [])=mE (bp (B++[H.length+2])) (env.headD []):=by
    have:=sy (C:=[H.length+2]) Zt
    unfold gY at this
    simp only[aD.mk.injEq,true_and,and_true] at this
    exact this.symm
   rw[h1,←pM]
   exact Ht
  refine hL _ _ ?_
  clear hL
  refine ae fun L hL=>?_
  refine ax ?_
  refine aP (xe p none _ (by omega)) ?_
  refine ax ?_
  refine aP (vA _ _ hts) ?_
  refine ax ?_
  refine hL _ _ ?_
  clear hL
  refine ae fun L hL=>?_
  refine nY hm' hok hmp ?_
  refine hL _ _ ?_
  clear hL
  have XX:wid≠m:=fun e=>by rw[e,hm] at hw;simp[gY] at hw
  have Zu:ws.all≠[]→aY<H.length:=fun e=>Y.am (hB.al e)
  have ham:ws.all≠[]→aY≠m:=fun e e2=>by
   have:=hB.al e
   rw[e2,hm] at this
   simp[gY] at this
  have nN:ws.all.map (bp B)≠[]→ws.all≠[]:=fun e e2=>e (by rw[e2];rfl)
  obtain ⟨qd,F,p1,p2,p3,p4,p5,p6⟩:=tU (H:=some ⟨4,[.agg [.ak 1 (aZ p) none,.sc (.string t.text),.ak 0 [] (some []),.sc (.int .i64 0)]],true,107⟩::some ⟨4,[.agg [.sc (.int .u8 t.kind),.sc (.string t.text),.sc (.int .i64 t.num),.ak 4 (bM t.kids) ro]],true,25⟩::some ⟨2,[.agg [a0,.ptr 0 m 0 0]],true,164⟩::Y.set H m (some ⟨0,mE (bp (B++[H.length+2])) (dV t.text B.length (env.headD [])),true,0⟩)) (k:=1) (ty:=105) (xs:=ws.all.map (bp B)) (ys:=[.ptr 4 (H.length+2) 0 0]) (id:=aY)
   (fun e=>by
    have e:=nN e
    have:=Zu e
    rw[ai (by simp only[List.length_cons,Y.aj];omega),ai (by simp only[List.length_cons,Y.aj];omega),ai (by rw[Y.aj];omega),Y.ah (ham e),hB.al e,bC (by simpa using e)]) (by simp only[List.length_map,List.length_cons,List.length_nil];omega)
  have hne:ws.all.map (bp B)++[Z.ptr 4 (H.length+2) 0 0]≠[]:=by simp
  obtain ⟨A2,PJ⟩:=p4 hne
  simp only[List.length_cons,Y.aj] at PJ p5 p6
  have bV:∀id b,Y.find H id=some b→id≠m→(ws.all≠[]→id≠aY)→Y.find F id=some b:=fun id b hb h1 h2=>by
   have:=Y.am hb
   rw[p6 id (by omega) (fun e=>h2 (nN e)),ai (by simp only[List.length_cons,Y.aj];omega),ai (by simp only[List.length_cons,Y.aj];omega),ai (by rw[Y.aj];omega),Y.ah h1,hb]
  have pe:=bV wid _ hw XX (fun e e2=>by have:=hB.al e;rw[←e2,hw] at this;simp at this)
  refine Pb hw p1 p2 p3 pe ?_
  have hwF:wid<F.length:=by omega
  have hk:∀(x:Option aD) id b,Y.find H id=some b→id≠m→id≠wid→(ws.all≠[]→id≠aY)→Y.find (Y.set F wid x) id=some b:=fun x id b hb h1 h2 h3=>by
   rw[Y.ah h2]
   exact bV id b hb h1 h3
  have wQ:∀id b,Y.find H id=some b→(b.k≠5→id≠wid)∧((b.k≠1∨b.ty≠105∨b.exact=true)→ws.all≠[]→id≠aY)∧(b.k≠0→id≠m):=fun id b hb=>by
   refine ⟨fun h e=>?_,fun h e1 e=>?_,fun h e=>?_⟩
   ·rw[e,hw] at hb;cases hb;simp at h
   ·rw[e,hB.al e1] at hb;cases hb;simp at h
   ·rw[e,hm] at hb;cases hb;simp[gY] at h
  have qy:Y.find F (H.length+2)=some ⟨4,[.agg [.ak 1 (aZ p) none,.sc (.string t.text),.ak 0 [] (some []),.sc (.int .i64 0)]],true,107⟩:=by
   rw[p6 (H.length+2) (by omega) (fun e=>by have:=Zu (nN e);omega),aN (by simp only[List.length_cons,Y.aj])]
  have hmF:Y.find F m=some (gY (B++[H.length+2]) (dV t.text B.length (env.headD []))):=by
   rw[p6 m (by omega) (fun e=>(ham (nN e)).symm),ai (by simp only[List.length_cons,Y.aj];omega),ai (by simp only[List.length_cons,Y.aj];omega),ai (by rw[Y.aj];omega),Y.ay sG]
   rfl
  have gz:=hB.bl
  have qp:=hB.ul
  have MT:∀j,j<ws.bs.length→aR (ws.bs++[(⟨p,t.text,[],0⟩:Bd)]) j=aR ws.bs j:=fun j hj=>by simp[aR,List.getD,List.getElem?_append_left hj]
  have MU:aR (ws.bs++[(⟨p,t.text,[],0⟩:Bd)]) ws.bs.length=⟨p,t.text,[],0⟩:=by simp[aR,List.getD]
  have Uw:∀j,j<ws.bs.length→(B++[H.length+2]).getD j 0=B.getD j 0:=fun j hj=>by rw[List.getD,List.getD,List.getElem?_append_left (by omega)]
  have X3:∀j,j<ws.bs.length→(U++[0]).getD j 0=U.getD j 0:=fun j hj=>by rw[List.getD,List.getD,List.getElem?_append_left (by omega)]
  have Hz:(B++[H.length+2]).getD ws.bs.length 0=H.length+2:=by simp[List.getD,←gz]
  have Zv:∀j,j<ws.bs.length→B.getD j 0<H.length:=fun j hj=>Y.am (hB.bd j hj)
  have hall:ws.all.map (bp B)++[Z.ptr 4 (H.length+2) 0 0]=(ws.all++[ws.bs.length]).map (bp (B++[H.length+2])):=by
   rw[List.map_append,Uv fun j hj=>by rw[gz];exact hB.ao j hj]
   simp only[List.map_cons,List.map_nil]
   rw[←gz,pM]
  refine ⟨rfl,⟨by rw[Y.aj];omega,fun id b hb hs=>?_⟩,qd,[H.length+2],U++[0],⟨?_,fun _=>?_,?_,?_,fun j hj=>?_,fun j hj e=>?_,fun i j hi hj e=>?_,fun i j hi hj e1 e2 e=>?_,fun j hj=>?_⟩,?_,fun f hf=>?_⟩
  ·obtain ⟨g1,g2,g3⟩:=wQ id b hb
   rcases hs with hs | ⟨h0,hs⟩
   ·exact hk _ id b hb (g3 hs.1) (g1 hs.2.1) (g2 (by
     by_cases c:b.k=1
     ·exact .inr (.inr (hs.2.2.2 c))
     ·exact .inl c))
   ·exact hk _ id b hb hs (g1 (by omega)) (g2 (.inl (by omega)))
  ·rw[Y.ay hwF]
   unfold dX
   rw[hall]
  ·rw[Y.ah (by omega),A2,bC hne,hall]
  ·simp[gz]
  ·simp[qp]
  ·simp only[List.length_append,List.length_cons,List.length_nil] at hj
   by_cases c:j<ws.bs.length
   ·have hb:=hB.bd j c
    obtain ⟨g1,g2,g3⟩:=wQ _ _ hb
    simp only[MT j c,Uw j c,X3 j c]
    exact hk _ _ _ hb (g3 (by simp[ga])) (g1 (by simp[ga])) (g2 (.inl (by simp[ga])))
   ·have e:j=ws.bs.length:=by omega
    subst e
    simp only[MU,Hz]
    rw[Y.ah (by omega),qy]
    rfl
  ·simp only[List.length_append,List.length_cons,List.length_nil] at hj
   by_cases c:j<ws.bs.length
   ·simp only[MT j c] at e ⊢
    simp only[X3 j c]
    have hb:=hB.us j c e
    obtain ⟨g1,g2,g3⟩:=wQ _ _ hb
    exact hk _ _ _ hb (g3 (by simp)) (g1 (by simp)) (g2 (.inr (.inl (by simp))))
   ·have e2:j=ws.bs.length:=by omega
    subst e2
    simp only[MU] at e
    exact absurd rfl e
  ·simp only[List.length_append,List.length_cons,List.length_nil] at hi hj
   by_cases c:i<ws.bs.length<;>by_cases c2:j<ws.bs.length
   ·rw[Uw i c,Uw j c2] at e
    exact hB.nd i j c c2 e
   ·have e2:j=ws.bs.length:=by omega
    subst e2
    rw[Uw i c,Hz] at e
    have:=Zv i c
    omega
   ·have e2:i=ws.bs.length:=by omega
    subst e2
    rw[Uw j c2,Hz] at e
    have:=Zv j c2
    omega
   ·omega
  ·simp only[List.length_append,List.length_cons,List.length_nil] at hi hj
   by_cases c:i<ws.bs.length<;>by_cases c2:j<ws.bs.length
   ·simp only[MT i c] at e1
    simp only[MT j c2] at e2
    rw[X3 i c,X3 j c2] at e
    exact hB.ud i j c c2 e1 e2 e
   ·have e3:j=ws.bs.length:=by omega
    subst e3
    simp only[MU] at e2
    exact absurd rfl e2
   ·have e3:i=ws.bs.length:=by omega
    subst e3
    simp only[MU] at e1
    exact absurd rfl e1
   ·omega
  ·simp only[List.length_append,List.length_cons,List.length_nil]
   rcases List.mem_append.1 hj with h | h
   ·have:=hB.ao j h;omega
   ·rw[List.mem_singleton] at h;omega
  ·refine (hE.ext (C:=[H.length+2]) (by rw[gz];exact hfo)).top hnd ?_ (fun id b hb h1 h2=>?_)
   ·rw[Y.ah XX.symm,hmF,gz]
   ·obtain ⟨g1,g2,g3⟩:=wQ id b hb
    have h3:b.k≠5∧b.k≠1:=by rcases h2 with h | ⟨_,h⟩<;>omega
    exact hk _ id b hb h1 (g1 h3.1) (g2 (.inl h3.2))
  ·simp only[List.length_append,List.length_cons,List.length_nil]
   rcases List.mem_cons.1 hf with rfl | h
   ·exact (gz▸Zt).set (by omega) (by omega)
   ·exact (hfo f (List.mem_of_mem_tail h)).le (by omega)
def cY(H G:Y):Prop:=H.length≤G.length∧∀id b,Y.find H id=some b→(nc b∨b.k=0)→Y.find G id=some b
theorem cY.m{H G:Y}(h:cY H G)(m:Nat):cH m H G:=⟨h.1,fun id b hb hs=>h.2 id b hb (hs.imp (fun h=>h) fun h=>h.1)⟩
theorem cY.refl{H:Y}:cY H H:=⟨Nat.le_refl _,fun _ _ h _=>h⟩
theorem cY.trans{H G K:Y}(h:cY H G)(k:cY G K):cY H K:=⟨Nat.le_trans h.1 k.1,fun id b hb hs=>k.2 id b (h.2 id b hb hs) hs⟩
theorem cY.cons{H G:Y}(h:cY H G)(b:Option aD):cY H (b::G):=⟨by simp only[List.length_cons];have:=h.1;omega,fun id k hk hs=>by
 have:=h.2 id k hk hs
 rw[ai (Y.am this)];exact this⟩
theorem cY.all{H G:Y}(hl:H.length≤G.length)(h:∀id,id<H.length→Y.find G id=Y.find H id):cY H G:=⟨hl,fun id b hb _=>by rw[h id (Y.am hb)];exact hb⟩
theorem eL.xf{B:List Nat}{H G:Y}{env:List aO}{s:Z}{ms:List Nat}(h:eL B H env s ms)(k:cY H G):eL B G env s ms:=h.keep fun id b hb hc=>k.2 id b hb (hc.elim (fun h=>.inr h.2) fun h=>.inl ⟨by omega,by omega,by rw[h.1];decide,by omega⟩)
theorem BS.same{wid bB aY:Nat}{B U:List Nat}{ws:WS}{H G:Y}(h:BS wid bB aY B U ws H)(k:∀id,id<H.length→Y.find G id=Y.find H id):BS wid bB aY B U ws G:=h.keep fun id b hb _=>by rw[k id (Y.am hb)];exact hb
def Lt(wid bB:Nat)(B:List Nat)(H:Y)(r:Except fJ WS)(e:cm)(H':Y):Prop:=match r with
 | .error f=>e = .bu (pL f)∧cY H H'
 | .ok ws=>e = .ret (.aK [])∧cY H H'∧∃aY U,BS wid bB aY B U ws H'
theorem pN(a:List (List Int))(p:List Int):aJ (a++[p])=aJ a++[.ak 1 (aZ p) none]:=by simp[aJ]
theorem BS.used{wid bB aY:Nat}{B U:List Nat}{ws:WS}{G:Y}(hB:BS wid bB aY B U ws G){j:Nat}(hj:j<ws.bs.length)(p:List Int)(WH:(aR ws.bs j).ct.length≤90000000) :
  ∃u' F,iv G 1 30 [.ak 1 (aZ p) none] (aW 1 (aJ (aR ws.bs j).ct) (U.getD j 0))∧nW G 1 [.ak 1 (aZ p) none] (aW 1 (aJ (aR ws.bs j).ct) (U.getD j 0))=aW 1 (aJ (aR ws.bs j).ct++[.ak 1 (aZ p) none]) u'∧
   kj G 1 30 [.ak 1 (aZ p) none] (aW 1 (aJ (aR ws.bs j).ct) (U.getD j 0))=F∧Y.find F (B.getD j 0)=some (ga (U.getD j 0) (aR ws.bs j))∧
   cY G (Y.set F (B.getD j 0) (some (ga u' { aR ws.bs j with ct:=(aR ws.bs j).ct++[p] })))∧
   BS wid bB aY B (U.set j u') { ws with bs:=ws.bs.set j { aR ws.bs j with ct:=(aR ws.bs j).ct++[p] } } (Y.set F (B.getD j 0) (some (ga u' { aR ws.bs j with ct:=(aR ws.bs j).ct++[p] }))):=by
 have HJ:aJ (aR ws.bs j).ct≠[]→(aR ws.bs j).ct≠[]:=fun e e2=>e (by rw[e2];rfl)
 obtain ⟨u',F,p1,p2,p3,p4,p5,p6⟩:=tU (H:=G) (k:=1) (ty:=30) (xs:=aJ (aR ws.bs j).ct) (ys:=[.ak 1 (aZ p) none]) (id:=U.getD j 0) (fun e=>by rw[hB.us j hj (HJ e),bC e]) (by simp only[aJ,List.length_map,List.length_cons,List.length_nil];omega)
 have hne:aJ (aR ws.bs j).ct++[Z.ak 1 (aZ p) none]≠[]:=by simp
 obtain ⟨A2,PJ⟩:=p4 hne
 rw[bC hne] at A2
 have hbd:=hB.bd j hj
 have gz:=Y.am hbd
 have bV:∀id b,Y.find G id=some b→(b.k≠1∨b.ty≠30∨b.exact=true∨id≠U.getD j 0)→Y.find F id=some b:=fun id b hb h=>by
  rw[p6 id (Y.am hb) fun e e2=>?_]
  ·exact hb
  ·rw[e2,hB.us j hj (HJ e)] at hb
   cases hb
   rcases h with h | h | h | h
   ·simp at h
   ·simp at h
   ·simp at h
   ·exact h e2
 have pe:Y.find F (B.getD j 0)=some (ga (U.getD j 0) (aR ws.bs j)):=bV _ _ hbd (.inl (by simp[ga]))
 have hk:∀(x:Option aD) id b,Y.find G id=some b→(b.k≠1∨b.ty≠30∨b.exact=true∨id≠U.getD j 0)→id≠B.getD j 0→Y.find (Y.set F (B.getD j 0) x) id=some b:=fun x id b hb h h2=>by
  rw[Y.ah h2];exact bV id b hb h
 have pM:∀id b,Y.find G id=some b→(b.k≠4∨b.ty≠107)→id≠B.getD j 0:=fun id b hb h e=>by
  rw[e,hbd] at hb;cases hb;simp[ga] at h
 have Cj:∀i,aR (ws.bs.set j { aR ws.bs j with ct:=(aR ws.bs j).ct++[p] }) i=if i=j then { aR ws.bs j with ct:=(aR ws.bs j).ct++[p] } else aR ws.bs i:=fun i=>by
  by_cases e:i=j
  ·subst e;simp[aR,List.getD,hj]
  ·rw[if_neg e];simp[aR,List.getD,List.getElem?_set_ne (Ne.symm e)]
 have X4:∀i,i<ws.bs.length→(U.set j u').getD i 0=if i=j then u' else U.getD i 0:=fun i hi=>by
  have:=hB.ul
  by_cases e:i=j
  ·subst e
   have h:i<U.length:=by omega
   simp[List.getD,h]
  ·rw[if_neg e];simp[List.getD,List.getElem?_set_ne (Ne.symm e)]
 refine ⟨u',F,p1,p2,p3,pe,⟨by rw[Y.aj];exact p5,fun id b hb hs=>?_⟩,⟨?_,fun e=>?_,?_,?_,fun i hi=>?_,fun i hi e=>?_,fun i i' hi hi' e=>?_,fun i i' hi hi' e1 e2 e=>?_,fun i hi=>?_⟩⟩
 ·refine hk _ id b hb ?_ (pM id b hb ?_)
  ·rcases hs with hs | hs
   ·by_cases c:b.k=1
    ·exact .inr (.inr (.inl (hs.2.2.2 c)))
    ·exact .inl c
   ·exact .inl (by omega)
  ·rcases hs with hs | hs
   ·exact .inr hs.2.2.1
   ·exact .inl (by omega)
 ·exact hk _ _ _ hB.w (.inl (by simp[dX])) (pM _ _ hB.w (.inl (by simp[dX])))
 ·exact hk _ _ _ (hB.al e) (.inr (.inl (by simp))) (pM _ _ (hB.al e) (.inl (by simp)))
 ·rw[List.length_set];exact hB.bl
 ·rw[List.length_set,List.length_set];exact hB.ul
 ·simp only[List.length_set] at hi
  simp only[Cj,X4 i hi]
  by_cases e:i=j
  ·subst e
   simp only[if_true]
   rw[Y.ay (by omega)]
  ·simp only[if_neg e]
   exact hk _ _ _ (hB.bd i hi) (.inl (by simp[ga])) (fun h=>e (hB.nd i j hi hj h))
 ·simp only[List.length_set] at hi
  simp only[Cj] at e
  simp only[Cj,X4 i hi]
  by_cases c:i=j
  ·subst c
   simp only[if_true]
   rw[Y.ah (by omega),A2,pN]
  ·simp only[if_neg c] at e ⊢
   have hb:=hB.us i hi e
   by_cases c2:(aR ws.bs j).ct=[]
   ·have h3:Y.find F (U.getD i 0)=some ⟨1,aJ (aR ws.bs i).ct,false,30⟩:=by
     rw[p6 _ (Y.am hb) fun h=>absurd c2 (HJ h)];exact hb
    rw[Y.ah (pM _ _ hb (.inl (by simp)))]
    exact h3
   ·exact hk _ _ _ hb (.inr (.inr (.inr fun h=>c (hB.ud i j hi hj e c2 h)))) (pM _ _ hb (.inl (by simp)))
 ·simp only[List.length_set] at hi hi'
  exact hB.nd i i' hi hi' e
 ·simp only[List.length_set] at hi hi'
  simp only[Cj] at e1 e2
  rw[X4 i hi,X4 i' hi'] at e
  by_cases c:i=j<;>by_cases c2:i'=j
  ·omega
  ·rw[if_pos c,if_neg c2] at e
   rw[if_neg c2] at e2
   have:=Y.am (hB.us i' hi' e2)
   omega
  ·rw[if_neg c,if_pos c2] at e
   rw[if_neg c] at e1
   have:=Y.am (hB.us i hi e1)
   omega
  ·rw[if_neg c,if_neg c2] at e
   rw[if_neg c] at e1
   rw[if_neg c2] at e2
   exact hB.ud i i' hi hi' e1 e2 e
 ·simp only[List.length_set]
  exact hB.ao i hi
set_option maxHeartbeats 0 in
theorem Ux(wid bB aY:Nat)(B U:List Nat)(ws:WS)(H:Y)(env:List aO)(s:Z)(ms:List Nat)(hB:BS wid bB aY B U ws H)(hE:eL B H env s ms)(hfo:∀x j,bR env x=some j→j<ws.bs.length)
  (t:Nd)(ro:Option (List Z))(hk:t.kind=22∨t.kind=25)(p:List Int)(hp:p.length≤1000000)(WH:∀j,(aR ws.bs j).ct.length≤90000000)(a:Nat) :
  DK Tryz.prog 174 [.ptr 5 wid 0 0,s,eG t ro,.ak 1 (aZ p) none,.sc (.int .i64 a)] H (Lt wid bB B H (gS env ws t.kind t.text t.kids.length p a)):=by
 obtain ⟨a0,m,ms2,rfl,e1,hm⟩:=hE.form
 have hnm:cY H (some ⟨4,[.agg [.sc (.int .u8 t.kind),.sc (.string t.text),.sc (.int .i64 t.num),.ak 4 (bM t.kids) ro]],true,25⟩::some ⟨2,[.agg [a0,.ptr 0 m 0 0]],true,164⟩::H):=(cY.refl.cons _).cons _
 have hBc:=(hB.cons (some ⟨2,[.agg [a0,.ptr 0 m 0 0]],true,164⟩)).cons (some ⟨4,[.agg [.sc (.int .u8 t.kind),.sc (.string t.text),.sc (.int .i64 t.num),.ak 4 (bM t.kids) ro]],true,25⟩)
 have hEc:=(hE.cons (some ⟨2,[.agg [a0,.ptr 0 m 0 0]],true,164⟩)).cons (some ⟨4,[.agg [.sc (.int .u8 t.kind),.sc (.string t.text),.sc (.int .i64 t.num),.ak 4 (bM t.kids) ro]],true,25⟩)
 rw[aH]
 refine abz (aE ?_)
 simp only[Ul,ux]
 unfold dm
 unfold dm at hEc
 refine ae fun L hL=>?_
 refine ax ?_
 refine hL _ _ ?_
 clear hL
 refine ae fun L hL=>?_
 refine ax ?_
 refine jd (MQ B t.text env _ ms _ hEc) ?_
 rintro v G hle ⟨rfl,q1,q2⟩
 simp only[List.length_cons] at q1 q2
 have Uy:=hBc.same q2
 have X5:cY H G:=hnm.trans (.all q1 q2)
 have hnb:Y.find G (H.length+1)=some ⟨4,[.agg [.sc (.int .u8 t.kind),.sc (.string t.text),.sc (.int .i64 t.num),.ak 4 (bM t.kids) ro]],true,25⟩:=by
  rw[q2 _ (by omega),aN (by simp only[List.length_cons])]
 refine ax ?_
 refine hL _ _ ?_
 clear hL
 cases hf:bR env t.text with
 | none =>
  have hu:gS env ws t.kind t.text t.kids.length p a = .error (111,a):=by unfold gS;rw[hf]
  rw[hu]
  unfold fdV
  unfold ja
  refine ax ?_
  refine mP (vE (111,a) wid bB aY B ws _ Uy.w) ?_
  exact ⟨rfl,X5⟩
 | some j =>
  have hj:=hfo _ _ hf
  unfold fdV bp
  have hbd:=Uy.bd j hj
  unfold ga at hbd
  have hwG:=Uy.w
  obtain ⟨u',F,p1,p2,p3,pe,wP,Bc⟩:=Uy.used hj p (WH j)
  have Uz:=pe
  unfold ga at Uz wP
  rw[pN] at wP
  rcases hk with hk | hk
  ·have hu:gS env ws t.kind t.text t.kids.length p a = .ok { ws with bs:=ws.bs.set j { aR ws.bs j with ct:=(aR ws.bs j).ct++[p] } }:=by unfold gS;rw[hf,hk];rfl
   rw[hu]
   rw[hk] at hnb
   simp -implicitDefEqProofs (maxSteps:=99999999) (disch:=first | omega | (simp only[vl];first | done | omega)) only[vu,vg,hbd,hnb,aL,hk,va,vg,vs,vw,vk,simprocAttr]
   refine aP (xe p none _ (by omega)) ?_
   refine sJ p1 p2 p3 Uz ?_
   refine ⟨rfl,X5.trans wP,aY,U.set j u',?_⟩
   unfold ga at Bc
   rw[pN] at Bc
   exact Bc
  ·rw[hk] at hnb
   by_cases c:(aR ws.bs j).many=t.kids.length
   ·have hu:gS env ws t.kind t.text t.kids.length p a = .ok { ws with bs:=ws.bs.set j { aR ws.bs j with ct:=(aR ws.bs j).ct++[p] } }:=by
     unfold gS
     rw[hf,hk]
     simp only
     rw[if_neg (fun h=>h.2 c)]
    rw[hu]
    have hc:(decide ¬(aR ws.bs j).many=(t.kids.length:Int))=false:=by simp[c]
    simp -implicitDefEqProofs (maxSteps:=99999999) (disch:=first | omega | (simp only[vl];first | done | omega)) only[vu,vg,hbd,hnb,aL,hk,hc,va,vg,vs,vw,vk,simprocAttr]
    refine aP (xe p none _ (by omega)) ?_
    refine sJ p1 p2 p3 Uz ?_
    refine ⟨rfl,X5.trans wP,aY,U.set j u',?_⟩
    unfold ga at Bc
    rw[pN] at Bc
    exact Bc
   ·have hu:gS env ws t.kind t.text t.kids.length p a = .error (112,a):=by
     unfold gS
     rw[hf,hk]
     simp only
     rw[if_pos ⟨trivial,c⟩]
    rw[hu]
    simp -implicitDefEqProofs (maxSteps:=99999999) (disch:=first | omega | (simp only[vl];first | done | omega)) only[vu,vg,hbd,hnb,aL,hk,c,va,vg,vs,vw,vk,simprocAttr]
    refine mP (vE (112,a) wid bB aY B ws _ Uy.w) ?_
    exact ⟨rfl,X5⟩
theorem Ii{fu:aO}{p:List Int}:∀{l:List Nd}{env:List aO}{ws:WS}{i k:Nat},k<l.length→bo fu (l.take (k+1)) env ws p i=match bo fu (l.take k) env ws p i with
  | .error e=>.error e
  | .ok q=>bw fu (au l k) q.1 q.2 (p++[((i+k:Nat):Int)]):=by
 intro l
 induction l with
 | nil=>intro env ws i k h;simp at h
 | cons t r ih =>
  intro env ws i k h
  cases k with
  | zero =>
   have hn:au (t::r) 0=t:=by simp[au]
   simp only[List.take_succ_cons,List.take_zero,bo,hn,Nat.add_zero]
   cases bw fu t env ws (p++[(i:Int)])<;>rfl
  | succ k =>
   have hn:au (t::r) (k+1)=au r k:=by simp[au]
   rw[List.take_succ_cons]
   rw[List.take_succ_cons (i:=k)]
   simp only[bo,hn]
   cases bw fu t env ws (p++[(i:Int)]) with
   | error e=>rfl
   | ok q =>
    simp only
    rw[ih (by simpa using h)]
    rw[show i+(k+1)=i+1+k by omega]
theorem Ij{fu:aO}{p:List Int}{e:fJ}:∀{l:List Nd}{env:List aO}{ws:WS}{i k:Nat},bo fu (l.take k) env ws p i = .error e→bo fu l env ws p i = .error e:=by
 intro l
 induction l with
 | nil=>intro env ws i k h;simpa using h
 | cons t r ih =>
  intro env ws i k h
  cases k with
  | zero=>simp[bo] at h
  | succ k =>
   rw[List.take_succ_cons] at h
   simp only[bo] at h ⊢
   cases hn:bw fu t env ws (p++[(i:Int)]) with
   | error e'=>rw[hn] at h;simpa using h
   | ok q =>
    rw[hn] at h
    simp only at h ⊢
    exact ih h
theorem Bf{env:List aO}{ws:WS}{s:ByteArray}{p:List Int}{a:Nat}{r:List aO×WS}(h:cK env ws s p a = .ok r):r.1.tail=env.tail∧r.1≠[]:=by
 unfold cK at h
 split at h
 ·cases h
 ·cases h
  exact ⟨rfl,by simp⟩
theorem tX{fu:aO}{p:List Int}:∀(l:List Nd),(∀u∈l,∀(env:List aO)(ws:WS)(p:List Int)(r:List aO×WS),env≠[]→bw fu u env ws p = .ok r→r.1.tail=env.tail∧r.1≠[])→
  ∀(env:List aO)(ws:WS)(i:Nat)(r:List aO×WS),env≠[]→bo fu l env ws p i = .ok r→r.1.tail=env.tail∧r.1≠[]
 | [],_,env,ws,i,r,he,h=>by
  simp only[bo] at h
  cases h
  exact ⟨rfl,he⟩
 | t::l,hc,env,ws,i,r,he,h=>by
  simp only[bo] at h
  cases hn:bw fu t env ws (p++[(i:Int)]) with
  | error e=>rw[hn] at h;cases h
  | ok q =>
   rw[hn] at h
   obtain ⟨h1,h2⟩:=hc t (by simp) env ws _ q he hn
   obtain ⟨h3,h4⟩:=tX l (fun u hu=>hc u (by simp[hu])) q.1 q.2 (i+1) r h2 h
   exact ⟨h3.trans h1,h4⟩
theorem Lu{fu:aO}(t:Nd):∀(env:List aO)(ws:WS)(p:List Int)(r:List aO×WS),env≠[]→bw fu t env ws p = .ok r→r.1.tail=env.tail∧r.1≠[]:=by
 induction t using Nd.ind with
 | _ t ih =>
  intro env ws p r he h
  have hk:=fun (p:List Int)=>tX (fu:=fu) (p:=p) t.kids ih
  obtain ⟨k,s,m,l⟩:=t
  simp only[Nd.kids] at hk
  simp only[bw] at h
  split at h
  ·split at h
   ·cases h
   ·cases h;exact ⟨rfl,he⟩
  split at h
  ·split at h
   ·cases h
   ·rename_i q hb
    obtain ⟨h1,h2⟩:=Bf hb
    obtain ⟨h3,h4⟩:=hk p q.1 q.2 0 r h2 h
    exact ⟨h3.trans h1,h4⟩
  split at h
  ·split at h
   ·cases h
   ·cases h;exact ⟨rfl,he⟩
  split at h
  ·split at h
   ·cases h
   split at h
   ·cases h
   ·rename_i q hb
    obtain ⟨h1,h2⟩:=hk p _ _ 0 q he hb
    obtain ⟨h3,h4⟩:=Bf h
    exact ⟨h3.trans h1,h4⟩
  split at h
  ·split at h
   ·cases h
   ·exact hk p _ _ 0 r he h
  split at h
  ·split at h
   ·cases h
   ·exact hk p _ _ 0 r he h
  ·exact hk p _ _ 0 r he h
theorem Ik{fu:aO}{p:List Int}(l:List Nd)(env:List aO)(ws:WS)(i:Nat)(r:List aO×WS)(he:env≠[])(h:bo fu l env ws p i = .ok r):r.1.tail=env.tail∧r.1≠[]:=tX l (fun u _=>Lu u) env ws i r he h
def SZ(ws:WS)(N:Nat):Prop:=ws.all.length≤N∧∀j,(aR ws.bs j).ct.length≤N
theorem SZ.le{ws:WS}{N M:Nat}(h:SZ ws N)(k:N≤M):SZ ws M:=⟨Nat.le_trans h.1 k,fun j=>Nat.le_trans (h.2 j) k⟩
theorem SZ.at_{ws:WS}{N a:Nat}(h:SZ ws N):SZ { ws with at_:=a } N:=h
theorem PR{bs:List Bd}{b:Bd}{j:Nat}:aR (bs++[b]) j=aR bs j∨aR (bs++[b]) j=b:=by
 by_cases h:j<bs.length
 ·left;simp[aR,List.getD,List.getElem?_append_left h]
 ·by_cases h2:j=bs.length
  ·right;subst h2;simp[aR,List.getD]
  ·left
   have h3:bs.length+1≤j:=by omega
   simp[aR,List.getD,List.getElem?_eq_none (show (bs++[b]).length≤j by simp;omega),List.getElem?_eq_none (show bs.length≤j by omega)]
theorem Dw{bs:List Bd}{b:Bd}{i j:Nat}:aR (bs.set i b) j=aR bs j∨aR (bs.set i b) j=b:=by
 by_cases h:i=j
 ·subst h
  by_cases h2:i<bs.length
  ·right;simp[aR,List.getD,h2]
  ·left;simp[aR,List.getD,List.getElem?_eq_none (show (bs.set i b).length≤i by simp;omega),List.getElem?_eq_none (show bs.length≤i by omega)]
 ·left;simp[aR,List.getD,List.getElem?_set_ne h]
theorem vF{env:List aO}{ws:WS}{s:ByteArray}{p:List Int}{a N:Nat}{r:List aO×WS}(hz:SZ ws N)(h:cK env ws s p a = .ok r):SZ r.2 (N+1):=by
 unfold cK at h
 split at h
 ·cases h
 ·cases h
  refine ⟨by simp only[List.length_append,List.length_cons,List.length_nil];have:=hz.1;omega,fun j=>?_⟩
  simp only
  rcases PR (bs:=ws.bs) (b:=⟨p,s,[],0⟩) (j:=j) with h | h<;>rw[h]
  ·have:=hz.2 j;omega
  ·simp
theorem y3{env:List aO}{ws yE:WS}{k:Int}{s:ByteArray}{n:Nat}{p:List Int}{a N:Nat}(hz:SZ ws N)(h:gS env ws k s n p a = .ok yE):SZ yE (N+1):=by
 unfold gS at h
 split at h
 ·cases h
 split at h
 ·cases h
 cases h
 refine ⟨by have:=hz.1;simp only;omega,fun j=>?_⟩
 simp only
 rename_i i _ _
 rcases Dw (bs:=ws.bs) (b:={ aR ws.bs i with ct:=(aR ws.bs i).ct++[p] }) (i:=i) (j:=j) with h | h<;>rw[h]
 ·have:=hz.2 j;omega
 ·have:=hz.2 i;simp;omega
theorem Bg{fu:aO}{p:List Int}:∀(l:List Nd),(∀u∈l,∀(env:List aO)(ws:WS)(p:List Int)(r:List aO×WS)(N:Nat),SZ ws N→bw fu u env ws p = .ok r→SZ r.2 (N+u.size))→
  ∀(env:List aO)(ws:WS)(i:Nat)(r:List aO×WS)(N:Nat),SZ ws N→bo fu l env ws p i = .ok r→SZ r.2 (N+Nd.aw l)
 | [],_,env,ws,i,r,N,hz,h=>by
  simp only[bo] at h
  cases h
  exact hz.le (by omega)
 | t::l,hc,env,ws,i,r,N,hz,h=>by
  simp only[bo] at h
  cases hn:bw fu t env ws (p++[(i:Int)]) with
  | error e=>rw[hn] at h;cases h
  | ok q =>
   rw[hn] at h
   have h1:=hc t (by simp) env ws _ q N hz hn
   have h2:=Bg l (fun u hu=>hc u (by simp[hu])) q.1 q.2 (i+1) r _ h1 h
   exact h2.le (by simp[Nd.aw];omega)
theorem Il{fu:aO}(t:Nd):∀(env:List aO)(ws:WS)(p:List Int)(r:List aO×WS)(N:Nat),SZ ws N→bw fu t env ws p = .ok r→SZ r.2 (N+t.size):=by
 induction t using Nd.ind with
 | _ t ih =>
  intro env ws p r N hz h
  have hk:=fun (p:List Int)=>Bg (fu:=fu) (p:=p) t.kids ih
  have hs:t.size=1+Nd.aw t.kids:=by rw[Nd.size_eq]
  obtain ⟨k,s,m,l⟩:=t
  simp only[Nd.kids] at hk hs
  simp only[bw] at h
  have hA:∀j,SZ { ws with at_:=ws.at_+1,all:=ws.all++[j] } (N+1):=fun j=>⟨by simp;exact hz.1,fun j=>by have:=hz.2 j;simp only;omega⟩
  split at h
  ·split at h
   ·cases h
   ·rename_i q hb
    cases h
    exact (hk p _ _ 0 q _ (hA _) hb).le (by omega)
  split at h
  ·split at h
   ·cases h
   ·rename_i q hb
    exact (hk p _ _ 0 r _ (vF hz.at_ hb) h).le (by omega)
  split at h
  ·split at h
   ·cases h
   ·rename_i q hb
    cases h
    exact (hk p _ _ 0 q _ hz.at_ hb).le (by omega)
  split at h
  ·split at h
   ·cases h
   split at h
   ·cases h
   ·rename_i q hb
    exact (vF (hk p _ _ 0 q _ hz.at_ hb) h).le (by omega)
  split at h
  ·split at h
   ·cases h
   ·rename_i w hu
    exact (hk p _ _ 0 r _ (y3 hz.at_ hu) h).le (by omega)
  split at h
  ·split at h
   ·cases h
   ·rename_i w hu
    exact (hk p _ _ 0 r _ (y3 hz.at_ hu) h).le (by omega)
  ·exact (hk p _ _ 0 r _ hz.at_ h).le (by omega)
theorem Dx{fu:aO}{p:List Int}(l:List Nd)(env:List aO)(ws:WS)(i:Nat)(r:List aO×WS)(N:Nat)(hz:SZ ws N)(h:bo fu l env ws p i = .ok r):SZ r.2 (N+Nd.aw l):=Bg l (fun u _=>Il u) env ws i r N hz h
theorem Bh{env:List aO}{ws:WS}{s:ByteArray}{p:List Int}{a:Nat}{r:List aO×WS}(h:cK env ws s p a = .ok r):r.2.at_=ws.at_:=by
 unfold cK at h
 split at h
 ·cases h
 ·cases h;rfl
theorem y4{env:List aO}{ws yE:WS}{k:Int}{s:ByteArray}{n:Nat}{p:List Int}{a:Nat}(h:gS env ws k s n p a = .ok yE):yE.at_=ws.at_:=by
 unfold gS at h
 split at h
 ·cases h
 split at h
 ·cases h
 cases h
 rfl
theorem Bi{fu:aO}{p:List Int}:∀(l:List Nd),(∀u∈l,∀(env:List aO)(ws:WS)(p:List Int)(r:List aO×WS),bw fu u env ws p = .ok r→r.2.at_=ws.at_+u.size)→
  ∀(env:List aO)(ws:WS)(i:Nat)(r:List aO×WS),bo fu l env ws p i = .ok r→r.2.at_=ws.at_+Nd.aw l
 | [],_,env,ws,i,r,h=>by
  simp only[bo] at h
  cases h
  simp[Nd.aw]
 | t::l,hc,env,ws,i,r,h=>by
  simp only[bo] at h
  cases hn:bw fu t env ws (p++[(i:Int)]) with
  | error e=>rw[hn] at h;cases h
  | ok q =>
   rw[hn] at h
   have h1:=hc t (by simp) env ws _ q hn
   have h2:=Bi l (fun u hu=>hc u (by simp[hu])) q.1 q.2 (i+1) r h
   simp only[Nd.aw]
   omega
theorem UA{fu:aO}(t:Nd):∀(env:List aO)(ws:WS)(p:List Int)(r:List aO×WS),bw fu t env ws p = .ok r→r.2.at_=ws.at_+t.size:=by
 induction t using Nd.ind with
 | _ t ih =>
  intro env ws p r h
  have hk:=fun (p:List Int)=>Bi (fu:=fu) (p:=p) t.kids ih
  have hs:t.size=1+Nd.aw t.kids:=by rw[Nd.size_eq]
  obtain ⟨k,s,m,l⟩:=t
  simp only[Nd.kids] at hk hs
  rw[hs]
  simp only[bw] at h
  split at h
  ·split at h
   ·cases h
   ·rename_i q hb
    cases h
    have:=hk p _ _ 0 q hb
    simp only at this ⊢;omega
  split at h
  ·split at h
   ·cases h
   ·rename_i q hb
    have h1:=Bh hb
    have:=hk p _ _ 0 r h
    simp only at h1;omega
  split at h
  ·split at h
   ·cases h
   ·rename_i q hb
    cases h
    have:=hk p _ _ 0 q hb
    simp only at this ⊢;omega
  split at h
  ·split at h
   ·cases h
   split at h
   ·cases h
   ·rename_i q hb
    have h1:=Bh h
    have:=hk p _ _ 0 q hb
    simp only at this;omega
  split at h
  ·split at h
   ·cases h
   ·rename_i w hu
    have h1:=y4 hu
    have:=hk p _ _ 0 r h
    simp only at h1;omega
  split at h
  ·split at h
   ·cases h
   ·rename_i w hu
    have h1:=y4 hu
    have:=hk p _ _ 0 r h
    simp only at h1;omega
  ·have:=hk p _ _ 0 r h
   simp only at this;omega
theorem PS{fu:aO}{p:List Int}(l:List Nd)(env:List aO)(ws:WS)(i:Nat)(r:List aO×WS)(h:bo fu l env ws p i = .ok r):r.2.at_=ws.at_+Nd.aw l:=Bi l (fun u _=>UA u) env ws i r h
section
variable {fu:aO}{t:Nd}{env:List aO}{ws:WS}{p:List Int}
theorem UB(h:t.kind=2):bw fu t env ws p=match bo fu t.kids ([]::env) { ws with at_:=ws.at_+1,all:=ws.all++[(bX t.text fu).getD 0] } p 0 with
  | .error e=>.error e
  | .ok r=>.ok (env,r.2):=by
 obtain ⟨k,s,m,l⟩:=t
 have h:k=2:=h
 subst h
 simp only[bw]
 rw[if_pos trivial]
 rfl
theorem UC(h:t.kind=4):bw fu t env ws p=match cK env { ws with at_:=ws.at_+1 } t.text p ws.at_ with
  | .error e=>.error e
  | .ok r=>bo fu t.kids r.1 r.2 p 0:=by
 obtain ⟨k,s,m,l⟩:=t
 have h:k=4:=h
 subst h
 simp only[bw]
 rw[if_neg (by decide),if_pos trivial]
 rfl
theorem UD(h:t.kind=5):bw fu t env ws p=match bo fu t.kids ([]::env) { ws with at_:=ws.at_+1 } p 0 with
  | .error e=>.error e
  | .ok r=>.ok (env,r.2):=by
 obtain ⟨k,s,m,l⟩:=t
 have h:k=5:=h
 subst h
 simp only[bw]
 rw[if_neg (by decide),if_neg (by decide),if_pos trivial]
 rfl
theorem UE(h:t.kind=6):bw fu t env ws p=if (bX t.text (env.headD [])).isSome=true then .error (110,ws.at_)
   else match bo fu t.kids env { ws with at_:=ws.at_+1 } p 0 with
    | .error e=>.error e
    | .ok r=>cK r.1 r.2 t.text p ws.at_:=by
 obtain ⟨k,s,m,l⟩:=t
 have h:k=6:=h
 subst h
 simp only[bw]
 rw[if_neg (by decide),if_neg (by decide),if_neg (by decide),if_pos trivial]
 rfl
theorem PT(h:t.kind=22):bw fu t env ws p=match gS env { ws with at_:=ws.at_+1 } t.kind t.text t.kids.length p ws.at_ with
  | .error e=>.error e
  | .ok w=>bo fu t.kids env w p 0:=by
 obtain ⟨k,s,m,l⟩:=t
 have h:k=22:=h
 subst h
 simp only[bw]
 rw[if_neg (by decide),if_neg (by decide),if_neg (by decide),if_neg (by decide),if_pos trivial]
 rfl
theorem PU(h:t.kind=25):bw fu t env ws p=match gS [fu] { ws with at_:=ws.at_+1 } t.kind t.text t.kids.length p ws.at_ with
  | .error e=>.error e
  | .ok w=>bo fu t.kids env w p 0:=by
 obtain ⟨k,s,m,l⟩:=t
 have h:k=25:=h
 subst h
 simp only[bw]
 rw[if_neg (by decide),if_neg (by decide),if_neg (by decide),if_neg (by decide),if_neg (by decide),if_pos trivial]
 rfl
theorem UF(h2:¬t.kind=2)(h4:¬t.kind=4)(h5:¬t.kind=5)(h6:¬t.kind=6)(yB:¬t.kind=22)(yz:¬t.kind=25):bw fu t env ws p=bo fu t.kids env { ws with at_:=ws.at_+1 } p 0:=by
 obtain ⟨k,s,m,l⟩:=t
 simp only[Nd.kind] at h2 h4 h5 h6 yB yz
 simp only[bw]
 rw[if_neg h2,if_neg h4,if_neg h5,if_neg h6,if_neg yB,if_neg yz]
 rfl
end
structure St(wid bB:Nat)(fu:aO)(B:List Nat)(ws:WS)(env:List aO)(s:Z)(m:Nat)(ms:List Nat)(H:Y):Prop where
 bs:∃aY U,BS wid bB aY B U ws H
 er:eL B H env s (m::ms)
 fm:Y.find H bB=some (gY B fu)
 nf:bB≠m∧bB∉ms
 nd:m∉ms∧ms.Nodup
 fo:∀f∈env,iK ws.bs.length f
 ff:iK ws.bs.length fu
theorem eL.ne{B:List Nat}{H:Y}{env:List aO}{s:Z}{ms:List Nat}(h:eL B H env s ms):env≠[]:=by
 cases env with
 | nil=>exact h.elim
 | cons f r=>simp
theorem sA{n:Nat}:∀{env:List aO},(∀f∈env,iK n f)→∀x j,bR env x=some j→j<n
 | [],_,x,j,h=>by simp[bR] at h
 | f::r,hf,x,j,h=>by
  rw[bR] at h
  cases hg:bX x f with
  | none=>rw[hg] at h;exact sA (fun g hg=>hf g (by simp[hg])) x j h
  | some i =>
   rw[hg] at h
   cases h
   have:∀{M:aO},bX x M=some j→∃p∈M,p.2=j:=by
    intro M
    induction M with
    | nil=>intro h;simp[bX] at h
    | cons q r ih =>
     intro h
     rw[bX] at h
     split at h
     ·cases h;exact ⟨q,by simp,rfl⟩
     ·obtain ⟨p,h1,h2⟩:=ih h
      exact ⟨p,by simp[h1],h2⟩
   obtain ⟨p,h1,h2⟩:=this hg
   have:=hf f (by simp) p h1
   omega
theorem St.same{wid bB:Nat}{fu:aO}{B:List Nat}{ws:WS}{env:List aO}{s:Z}{m:Nat}{ms:List Nat}{H G:Y}(h:St wid bB fu B ws env s m ms H)(k:∀id,id<H.length→Y.find G id=Y.find H id):St wid bB fu B ws env s m ms G:=by
 obtain ⟨aY,U,hb⟩:=h.bs
 exact ⟨⟨aY,U,hb.same k⟩,h.er.keep fun id b hb _=>by rw[k id (Y.am hb)];exact hb,by rw[k _ (Y.am h.fm)];exact h.fm,h.nf,h.nd,h.fo,h.ff⟩
theorem St.cons{wid bB:Nat}{fu:aO}{B:List Nat}{ws:WS}{env:List aO}{s:Z}{m:Nat}{ms:List Nat}{H:Y}(h:St wid bB fu B ws env s m ms H)(b:Option aD):St wid bB fu B ws env s m ms (b::H):=h.same fun id hid=>ai hid
theorem St.post{wid bB:Nat}{fu:aO}{B:List Nat}{ws:WS}{env:List aO}{s:Z}{m:Nat}{ms:List Nat}{H:Y}(h:St wid bB fu B ws env s m ms H){C:List Nat}{q:List aO×WS}{G:Y}(hk:cH m H G)(hb:∃aY U,BS wid bB aY (B++C) U q.2 G)(he:eL (B++C) G q.1 s (m::ms))(hf:∀f∈q.1,iK q.2.bs.length f)(hl:ws.bs.length≤q.2.bs.length):St wid bB fu (B++C) q.2 q.1 s m ms G:=by
 obtain ⟨aY,U,hB⟩:=h.bs
 refine ⟨hb,he,?_,h.nf,h.nd,hf,h.ff.le hl⟩
 rw[sy (by rw[hB.bl];exact h.ff)]
 exact hk.2 bB _ h.fm (.inr ⟨rfl,h.nf.1⟩)
def jh(wid bB:Nat)(fu:aO)(B:List Nat)(s:Z)(m:Nat)(ms:List Nat)(H:Y)(r:Except fJ (List aO×WS))(e:cm)(H':Y):Prop:=match r with
 | .error f=>e = .bu (pL f)∧cH m H H'
 | .ok q=>e = .ret (.aK [])∧cH m H H'∧∃C,St wid bB fu (B++C) q.2 q.1 s m ms H'
theorem Lv{env:List aO}{ws:WS}{s:ByteArray}{p:List Int}{a:Nat}{q:List aO×WS}(h:cK env ws s p a = .ok q):ws.bs.length≤q.2.bs.length:=by
 unfold cK at h
 split at h
 ·cases h
 ·cases h;simp
theorem Im{wid bB:Nat}{fu:aO}{B:List Nat}{ws:WS}{env:List aO}{s:Z}{m:Nat}{ms:List Nat}{H:Y}(h:St wid bB fu B ws env s m ms H)
  (t:Nd)(ro:Option (List Z))(p:List Int)(hp:p.length≤1000000)(hts:t.text.size≤100000000)(hal:ws.all.length≤90000000)(a:Nat) :
  DK Tryz.prog 111 [.ptr 5 wid 0 0,s,eG t ro,.ak 1 (aZ p) none,.sc (.int .i64 a)] H (jh wid bB fu B s m ms H (cK env ws t.text p a)):=by
 obtain ⟨aY,U,hB⟩:=h.bs
 refine (MS wid bB aY B U ws H env s m ms hB h.er h.nd.1 h.fo t ro p hp hts hal a).mono fun e H' _ hq=>?_
 unfold Ls at hq
 unfold jh
 cases hb:cK env ws t.text p a with
 | error f=>rw[hb] at hq;exact hq
 | ok q =>
  rw[hb] at hq
  obtain ⟨h1,h2,qd,C,U',h3,h4,h5⟩:=hq
  exact ⟨h1,h2,C,h.post h2 ⟨qd,U',h3⟩ h4 h5 (Lv hb)⟩
set_option maxHeartbeats 0 in
theorem PV{wid bB:Nat}{fu:aO}{B:List Nat}{ws:WS}{env:List aO}{s:Z}{m:Nat}{ms:List Nat}{H:Y}(h:St wid bB fu B ws env s m ms H)
  (t:Nd)(ro:Option (List Z))(p:List Int)(hp:p.length≤1000000)(hts:t.text.size≤100000000)(hal:ws.all.length≤90000000)(a:Nat)(b:Nat)
  (f1:Y.find H b=some ⟨1,[.ptr 5 wid 0 0],true,160⟩)(f2:Y.find H (b+1)=some ⟨2,[s],true,164⟩)(f3:Y.find H (b+2)=some ⟨4,[eG t ro],true,25⟩)(f4:Y.find H (b+3)=some ⟨1,[.ak 1 (aZ p) none],true,30⟩)(f5:Y.find H (b+4)=some ⟨1,[.sc (.int .i64 a)],true,3⟩) :
  DK Tryz.prog 173 [.ptr 1 b 0 0,.ptr 2 (b+1) 0 0,.ptr 4 (b+2) 0 0,.ptr 1 (b+3) 0 0,.ptr 1 (b+4) 0 0] H (jh wid bB fu B s m ms H (cK env ws t.text p a)):=by
 obtain ⟨a0,m',qu,rfl,e,hm⟩:=h.er.form
 have hb:=Im h t ro p hp hts hal a
 rw[aH] at f3 hb
 unfold dm at f2 hb
 refine abx (aE ?_)
 simp only[Uj,ux]
 refine Pb f1 f2 f3 f4 f5 ?_
 refine gi hb fun e H' hle hq=>?_
 unfold jh at hq ⊢
 cases hr:cK env ws t.text p a with
 | error f =>
  rw[hr] at hq
  obtain ⟨rfl,h2⟩:=hq
  exact ⟨rfl,h2⟩
 | ok q =>
  rw[hr] at hq
  obtain ⟨rfl,h2⟩:=hq
  refine ax ?_
  exact h2
theorem BS.abE{wid bB aY:Nat}{B U:List Nat}{ws:WS}{H:Y}(h:BS wid bB aY B U ws H)(a:Nat):BS wid bB aY B U { ws with at_:=a } (Y.set H wid (some (dX bB aY B { ws with at_:=a })))∧cY H (Y.set H wid (some (dX bB aY B { ws with at_:=a }))):=by
 have hl:=Y.am h.w
 have hk:∀id b,Y.find H id=some b→b.k≠5→Y.find (Y.set H wid (some (dX bB aY B { ws with at_:=a }))) id=some b:=fun id b hb h5=>by
  rw[Y.ah fun e=>?_]
  ·exact hb
  ·rw[e,h.w] at hb;cases hb;simp[dX] at h5
 refine ⟨⟨Y.ay hl,fun e=>hk _ _ (h.al e) (by simp),h.bl,h.ul,fun j hj=>hk _ _ (h.bd j hj) (by simp[ga]),fun j hj e=>hk _ _ (h.us j hj e) (by simp),h.nd,h.ud,h.ao⟩,by rw[Y.aj];exact Nat.le_refl _,fun id b hb hs=>hk id b hb ?_⟩
 rcases hs with hs | hs
 ·exact hs.2.1
 ·omega
theorem BS.more{wid bB aY:Nat}{B U:List Nat}{ws:WS}{G:Y}(hB:BS wid bB aY B U ws G){j:Nat}(hj:j<ws.bs.length)(hal:ws.all.length≤90000000) :
  ∃qd F,iv G 1 105 [bp B j] (aW 1 (ws.all.map (bp B)) aY)∧nW G 1 [bp B j] (aW 1 (ws.all.map (bp B)) aY)=aW 1 ((ws.all++[j]).map (bp B)) qd∧
   kj G 1 105 [bp B j] (aW 1 (ws.all.map (bp B)) aY)=F∧Y.find F wid=some (dX bB aY B ws)∧
   cY G (Y.set F wid (some (dX bB qd B { ws with all:=ws.all++[j] })))∧
   BS wid bB qd B U { ws with all:=ws.all++[j] } (Y.set F wid (some (dX bB qd B { ws with all:=ws.all++[j] }))):=by
 have nN:ws.all.map (bp B)≠[]→ws.all≠[]:=fun e e2=>e (by rw[e2];rfl)
 obtain ⟨qd,F,p1,p2,p3,p4,p5,p6⟩:=tU (H:=G) (k:=1) (ty:=105) (xs:=ws.all.map (bp B)) (ys:=[bp B j]) (id:=aY) (fun e=>by rw[hB.al (nN e),bC e]) (by simp only[List.length_map,List.length_cons,List.length_nil];omega)
 have hne:ws.all.map (bp B)++[bp B j]≠[]:=by simp
 obtain ⟨A2,PJ⟩:=p4 hne
 rw[bC hne] at A2
 have hall:ws.all.map (bp B)++[bp B j]=(ws.all++[j]).map (bp B):=by simp
 have hwl:=Y.am hB.w
 have bV:∀id b,Y.find G id=some b→(b.k≠1∨b.ty≠105∨b.exact=true)→Y.find F id=some b:=fun id b hb h=>by
  rw[p6 id (Y.am hb) fun e e2=>?_]
  ·exact hb
  ·rw[e2,hB.al (nN e)] at hb
   cases hb
   simp at h
 have hk:∀(x:Option aD) id b,Y.find G id=some b→(b.k≠1∨b.ty≠105∨b.exact=true)→b.k≠5→Y.find (Y.set F wid x) id=some b:=fun x id b hb h h2=>by
  rw[Y.ah fun e=>?_]
  ·exact bV id b hb h
  ·rw[e,hB.w] at hb;cases hb;simp[dX] at h2
 refine ⟨qd,F,p1,by rw[p2,hall],p3,bV _ _ hB.w (.inl (by simp[dX])),⟨by rw[Y.aj];exact p5,fun id b hb hs=>?_⟩,⟨Y.ay (Nat.lt_of_lt_of_le hwl p5),fun _=>?_,hB.bl,hB.ul,fun j hj=>hk _ _ _ (hB.bd j hj) (.inl (by simp[ga])) (by simp[ga]),fun j hj e=>hk _ _ _ (hB.us j hj e) (.inr (.inl (by simp))) (by simp),hB.nd,hB.ud,fun i hi=>?_⟩⟩
 ·refine hk _ id b hb ?_ ?_
  ·rcases hs with hs | hs
   ·by_cases c:b.k=1
    ·exact .inr (.inr (hs.2.2.2 c))
    ·exact .inl c
   ·exact .inl (by omega)
  ·rcases hs with hs | hs
   ·exact hs.2.1
   ·omega
 ·rw[Y.ah (by omega),A2,hall]
 ·rcases List.mem_append.1 hi with h | h
  ·exact hB.ao i h
  ·rw[List.mem_singleton] at h;exact h▸hj
theorem St.xf{wid bB:Nat}{fu:aO}{B:List Nat}{ws yE:WS}{env:List aO}{s:Z}{m:Nat}{ms:List Nat}{H G:Y}(h:St wid bB fu B ws env s m ms H)(k:cY H G)(hb:∃aY U,BS wid bB aY B U yE G)(hl:yE.bs.length=ws.bs.length):St wid bB fu B yE env s m ms G :=
 ⟨hb,h.er.xf k,k.2 bB _ h.fm (.inr rfl),h.nf,h.nd,by rw[hl];exact h.fo,by rw[hl];exact h.ff⟩
inductive rK(fu:aO):Nd→Prop where
 | mk {t:Nd}:(t.kind=2→∃j,bX t.text fu=some j)→(∀k∈t.kids,rK fu k)→rK fu t
theorem rK.fn{fu:aO}{t:Nd}(h:rK fu t):t.kind=2→∃j,bX t.text fu=some j:=by cases h;assumption
theorem rK.ry{fu:aO}{t:Nd}(h:rK fu t):∀k∈t.kids,rK fu k:=by cases h;assumption
def Lw(fu:aO)(t:Nd):Prop:=∀(wid bB:Nat)(B:List Nat)(ws:WS)(env:List aO)(s:Z)(m:Nat)(ms:List Nat)(H:Y)(p:List Int)(pv:Z)(N:Nat),St wid bB fu B ws env s m ms H→
 (pv = .ak 1 (aZ p) none∨(p=[]∧pv = .ak 0 [] (some [])∧t.kind=1))→p.length+t.size≤1000000→t.wt≤2000000→rK fu t→SZ ws N→N+t.size≤80000000→ws.at_+t.size≤80000000→∀ro,
 DK Tryz.prog 113 [.ptr 5 wid 0 0,s,eG t ro,pv] H (jh wid bB fu B s m ms H (bw fu t env ws p))
structure E1(wid b:Nat)(s1:Z)(t:Nd)(ro:Option (List Z))(pv:Z)(a:Nat)(F:Y):Prop where
 f1:Y.find F b=some ⟨1,[.ptr 5 wid 0 0],true,160⟩
 f2:Y.find F (b+1)=some ⟨2,[s1],true,164⟩
 f3:Y.find F (b+2)=some ⟨4,[eG t ro],true,25⟩
 f4:Y.find F (b+3)=some ⟨1,[pv],true,30⟩
 f5:Y.find F (b+4)=some ⟨1,[.sc (.int .i64 a)],true,3⟩
 le:b+5≤F.length
theorem E1.keep{wid b:Nat}{s1:Z}{t:Nd}{ro:Option (List Z)}{pv:Z}{a:Nat}{F G:Y}(h:E1 wid b s1 t ro pv a F){m:Nat}(k:cH m F G):E1 wid b s1 t ro pv a G :=
 ⟨k.2 _ _ h.f1 (.inl ⟨by simp,by simp,by simp,by simp⟩),k.2 _ _ h.f2 (.inl ⟨by simp,by simp,by simp,by simp⟩),k.2 _ _ h.f3 (.inl ⟨by simp,by simp,by simp,by simp⟩),k.2 _ _ h.f4 (.inl ⟨by simp,by simp,by simp,by simp⟩),k.2 _ _ h.f5 (.inl ⟨by simp,by simp,by simp,by simp⟩),by have:=h.le;have:=k.1;omega⟩
theorem eL.lt{B:List Nat}{F:Y}:∀{env:List aO}{s:Z}{ms:List Nat},eL B F env s ms→∀x∈ms,x<F.length
 | [],_,_,h,_,_=>h.elim
 | [f],s,ms,h,x,hx=>by
  obtain ⟨m',rfl,g1,g2⟩:=h
  simp only[List.mem_singleton] at hx
  subst hx
  exact Y.am g1
 | f::g::r,s,ms,h,x,hx=>by
  obtain ⟨m',qu,a',s',rfl,g1,g2,g3,g4⟩:=h
  rcases List.mem_cons.1 hx with rfl | hx
  ·exact Y.am g1
  ·exact g4.lt x hx
theorem Dy{wid bB:Nat}{fu:aO}{B:List Nat}{ws:WS}{env:List aO}{a0:Z}{m:Nat}{ms:List Nat}{b:Nat}{t:Nd}{ro:Option (List Z)}{pv:Z}{a:Nat}{F F':Y}(hS:St wid bB fu B ws env (dm a0 m) m ms F)(hX:E1 wid b (dm a0 m) t ro pv a F)
  {a1 m1:Nat}(h1:F.length≤a1∧F.length≤m1)(h2:Y.find F' a1=some (qc (dm a0 m)))(h3:Y.find F' m1=some (gY [] []))(h4:F.length≤F'.length)(h5:∀id,id<F.length→Y.find F' id=Y.find F id) :
  St wid bB fu B ws ([]::env) (dm (.ptr 2 a1 0 0) m1) m1 (m::ms) (Y.set F' (b+1) (some ⟨2,[dm (.ptr 2 a1 0 0) m1],true,164⟩))∧
   E1 wid b (dm (.ptr 2 a1 0 0) m1) t ro pv a (Y.set F' (b+1) (some ⟨2,[dm (.ptr 2 a1 0 0) m1],true,164⟩))∧
   (∀H,cH m H F→H.length≤b→cH m H (Y.set F' (b+1) (some ⟨2,[dm (.ptr 2 a1 0 0) m1],true,164⟩)))∧
   Y.find (Y.set F' (b+1) (some ⟨2,[dm (.ptr 2 a1 0 0) m1],true,164⟩)) a1=some (qc (dm a0 m)):=by
 have hle:=hX.le
 have hk:∀id b',Y.find F id=some b'→id≠b+1→Y.find (Y.set F' (b+1) (some ⟨2,[dm (.ptr 2 a1 0 0) m1],true,164⟩)) id=some b':=fun id b' hb hne=>by
  rw[Y.ah hne,h5 id (Y.am hb)];exact hb
 have hne:∀id b',Y.find F id=some b'→b'.ty≠164∨b'.k≠2→id≠b+1:=fun id b' hb hc e=>by
  rw[e,hX.f2] at hb;cases hb;simp at hc
 have hm1:m1∉m::ms:=fun hc=>by
  have:=hS.er.lt _ hc
  omega
 obtain ⟨aY,U,hB⟩:=hS.bs
 have Io:Y.find (Y.set F' (b+1) (some ⟨2,[dm (.ptr 2 a1 0 0) m1],true,164⟩)) a1=some (qc (dm a0 m)):=by rw[Y.ah (by omega)];exact h2
 have o9:=Y.am hS.fm
 refine ⟨⟨⟨aY,U,hB.keep fun id b' hb hc=>hk id b' hb (hne id b' hb (.inr (by omega)))⟩,?_,hk _ _ hS.fm (hne _ _ hS.fm (.inr (by simp[gY]))),⟨by omega,fun hc=>?_⟩,⟨hm1,List.nodup_cons.2 hS.nd⟩,fun f hf=>?_,hS.ff⟩,⟨?_,?_,?_,?_,?_,by rw[Y.aj];omega⟩,fun H hH hb=>⟨by rw[Y.aj];have:=hH.1;omega,fun id b' hb' hs=>hk id b' (hH.2 id b' hb' hs) (by have:=Y.am hb';omega)⟩,Io⟩
 ·have E2:eL B (Y.set F' (b+1) (some ⟨2,[dm (.ptr 2 a1 0 0) m1],true,164⟩)) env (dm a0 m) (m::ms):=hS.er.keep fun id b' hb hc=>hk id b' hb (hne id b' hb (by rcases hc with h | h;exact .inr (by omega);exact .inl (by rw[h.1];decide)))
  match env,E2 with
  | g::r,E2=>exact ⟨m1,m::ms,a1,dm a0 m,rfl,by rw[Y.ah (by omega)];exact h3,rfl,Io,E2⟩
 ·rcases List.mem_cons.1 hc with h | h
  ·exact hS.nf.1 h
  ·exact hS.nf.2 h
 ·rcases List.mem_cons.1 hf with rfl | h
  ·exact fun p hp=>by simp at hp
  ·exact hS.fo f h
 ·exact hk _ _ hX.f1 (by omega)
 ·rw[Y.ay (by omega)]
 ·exact hk _ _ hX.f3 (by omega)
 ·exact hk _ _ hX.f4 (by omega)
 ·exact hk _ _ hX.f5 (by omega)
theorem Ip{env:List aO}{ws yE:WS}{k:Int}{s:ByteArray}{n:Nat}{p:List Int}{a:Nat}(h:gS env ws k s n p a = .ok yE):yE.bs.length=ws.bs.length:=by
 unfold gS at h
 split at h
 ·cases h
 split at h
 ·cases h
 cases h
 simp
theorem UG{P:Program}{f:FuncId}{args args':List Z}{H:Y}{K:cm→Y→Prop}{id:Nat}{blk:aD}(hf:Y.find H id=some blk)(hz:oC id blk args args')(h:DK P f args' (Y.set H id none) K):DK P f args H K:=fun φ w vs hR ha=>by
 obtain ⟨r1,r2⟩:=hR.kill id
 exact (h φ w vs r1 (hz.Rt hR hf ha)).mono fun en w' ⟨e,H',φ',h1,h2,h3,h4⟩=>⟨e,H',φ',h1,h2,h3,r2.trans h4⟩
set_option maxHeartbeats 0 in
theorem UH(fu:aO)(t:Nd)(ih:∀k∈t.kids,Lw fu k):Lw fu t:=by
 intro wid bB B ws env s m ms H p pv N hS hpv hps hwt hfn hsz hN df ro
 have aea:=t.size_pos
 obtain ⟨aY,U,hB⟩:=hS.bs
 obtain ⟨a0,m',qu,rfl,e1,hm⟩:=hS.er.form
 cases e1
 have hw:=hB.w
 unfold dX at hw
 have hwl:=Y.am hB.w
 obtain ⟨FP,FQ,NJ,hv4⟩:pv.bO=false∧pv.an=1∧pv.cells=[pv]∧pv.isAgg=false:=by
  rcases hpv with rfl | ⟨_,rfl,_⟩<;>exact ⟨rfl,rfl,rfl,rfl⟩
 refine abw (aE ?_)
 rw[aH]
 simp only[Ui,ux]
 unfold dm
 refine ae fun L hL=>?_
 refine sJ FP FQ NJ hv4 ?_
 refine hL _ _ ?_
 clear hL
 refine ae fun L hL=>?_
 refine de hw ?_
 refine hL _ _ ?_
 clear hL
 refine ae fun L hL=>?_
 refine de hw ?_
 refine hL _ _ ?_
 clear hL
 refine ae fun L hL=>?_
 refine de hw ?_
 refine hL _ _ ?_
 clear hL
 refine ae fun L hL=>?_
 have hv5:nV pv=True∧p8 pv=p.length∧zX 1 (some p.length) true p.length 0 pv=True∧Gn 1 (some p.length) p.length 0 pv = .ak 1 (aZ p) (some []):=by
  rcases hpv with rfl | ⟨rfl,rfl,_⟩
  ·simp[nV,p8,zX,Gn,bI,List.take_of_length_le,List.drop_of_length_le]
  ·simp[nV,p8,zX,Gn,aZ]
 obtain ⟨hv5,hv6,hv7,hv8⟩:=hv5
 have wG:∀(ts:List Z)(F:Y)(B1:List Nat)(jU:WS)(lX:List aO)(s1:Z)(m1:Nat)(PW:List Nat)(UI:Z),
   Fr [none,none,none,none,some (.ptr 1 H.length 0 0),some (.ptr 2 (H.length+1) 0 0),some (.ptr 4 (H.length+2) 0 0),some (.ptr 1 (H.length+3) 0 0),some (.ptr 1 (H.length+4) 0 0),some (UI),none,none,none,none,none,none,none,none,none,none,none,none,none,none,none,none,none,none,none,none,none,none,none,none,none,none,none,none,none,none,none,none,none,none,none,none,none,none,none,none,none,none,none,none,none,none,none,none,none,none,none,none,none,none,none,none,none,none,none,none,none,none,none,none,none,none,none,none,none,none,none,none,none,none,none,none,none,none,none,none,none,none,none,none,none,none,none,none,none,none,none,none,none,none,none,none,none,none,none,none,none,none,none,none,none] ts→
   St wid bB fu B1 jU lX s1 m1 PW F→E1 wid H.length s1 t ro pv ws.at_ F→SZ jU (N+1)→jU.at_=ws.at_+1→
   ((UI = .sc .nilFunc∧∀q C F',bo fu t.kids lX jU p 0 = .ok q→St wid bB fu (B1++C) q.2 q.1 s1 m1 PW F'→cH m1 F F'→jh wid bB fu B (dm a0 m) m ms H (bw fu t env ws p) (.ret (.aK [])) F')∨
    (UI = .fn (.func 173) [] [.ptr 1 H.length 0 0,.ptr 2 (H.length+1) 0 0,.ptr 4 (H.length+2) 0 0,.ptr 1 (H.length+3) 0 0,.ptr 1 (H.length+4) 0 0]∧(s1=dm a0 m∧m1=m∧PW=ms∧B1=B∧pv = .ak 1 (aZ p) none)∧(∀q,bo fu t.kids lX jU p 0 = .ok q→bw fu t env ws p=cK q.1 q.2 t.text p ws.at_)∧cH m H F))→
   (∀f F',bo fu t.kids lX jU p 0 = .error f→cH m1 F F'→jh wid bB fu B (dm a0 m) m ms H (bw fu t env ws p) (.bu (pL f)) F')→L ts F:=by
  intro ts F B1 jU lX s1 m1 PW UI cv k9 hX hz1 MV adp adq
  obtain ⟨js,rfl⟩:=cv.opened
  clear cv
  obtain ⟨a1,m1',aeb,hs1,e1,-⟩:=k9.er.form
  cases e1
  subst hs1
  refine hL _ _ ?_
  clear hL
  have f3:=hX.f3
  rw[aH] at f3
  refine ae fun L hL=>?_
  refine ae fun L hL=>?_
  refine zG2 f3 @aL ?_
  refine hL _ _ ?_
  clear hL
  refine tF ?_
  refine cO (fun ts G=>∃(k:Nat)(q:List aO×WS)(C:List Nat),k≤t.kids.length∧bo fu (t.kids.take k) lX jU p 0 = .ok q∧St wid bB fu (B1++C) q.2 q.1 (dm a1 m1) m1 PW G∧cH m1 F G∧
   Fr [none,none,none,none,some (.ptr 1 H.length 0 0),some (.ptr 2 (H.length+1) 0 0),some (.ptr 4 (H.length+2) 0 0),some (.ptr 1 (H.length+3) 0 0),some (.ptr 1 (H.length+4) 0 0),some (UI),none,none,none,none,none,none,none,none,none,none,none,none,none,none,none,none,none,none,none,none,none,none,none,none,none,none,none,none,none,none,none,none,none,none,none,none,none,none,none,none,none,none,none,none,none,none,none,none,none,none,none,none,none,none,none,none,none,none,none,none,none,none,none,none,none,none,none,none,none,none,none,none,none,none,none,none,none,none,none,none,some (.ak 4 (bM t.kids) ro),some (.sc (.int .i64 t.kids.length)),some (.sc (.int .i64 k)),none,none,none,none,none,none,none,none,none,none,none,none,none,none,none,none,none,none,none,none,none,none] ts) (fun ts _=>t.kids.length - (bL (ts.getD 92 .top)).toNat) ?_ ?_
  ·exact ⟨0,(lX,jU),[],Nat.zero_le _,by simp[bo],by simpa using k9,.refl,by simp[Fr]⟩
  rintro ts G ⟨k,q,C,hk,hq,hSk,UJ,cv⟩ L2 dY
  obtain ⟨js,rfl⟩:=cv.opened
  clear cv
  have E3:=hX.keep UJ
  have gle:=E3.le
  have g1:=E3.f1
  have g2:=E3.f2
  have g4:=E3.f4
  unfold dm at g2
  by_cases hd:k<t.kids.length
  ·have d1:(k:Int)<t.kids.length:=by omega
   have hg:=eK hd
   refine acS d1 hg @aL g1 g2 g4 FP FQ NJ hv4 hv5 hv6 hv7 hv8 ?_
   have yu:=jn hd
   have Ca:=Nd.kR t.kids
   have adr:=mw t.kids (k+1)
   have htz:=t.size_eq
   have fM:au t.kids k∈t.kids:=by rw[dM hd];exact List.getElem_mem hd
   have UK:=Dx (t.kids.take k) lX jU 0 q _ hz1 hq
   have ads:=Nd.vt fM
   have aec:=PS (t.kids.take k) lX jU 0 q hq
   have UL:=t.lP
   have hX2:=(hSk.cons (some ⟨4,[.agg [.sc (.int .u8 (au t.kids k).kind),.sc (.string (au t.kids k).text),.sc (.int .i64 (au t.kids k).num),.ak 4 (bM (au t.kids k).kids) none]],true,25⟩)).cons none
   have X6:=ih _ fM wid bB (B1++C) q.2 q.1 (dm a1 m1) m1 PW _ (p++[(k:Int)]) _ _ hX2 (.inl rfl) (by simp only[List.length_append,List.length_cons,List.length_nil];omega) (by omega) (hfn.ry _ fM) UK (by omega) (by omega) none
   rw[aH] at X6
   unfold dm at X6
   have hkX:cH m1 F (none::some ⟨4,[.agg [.sc (.int .u8 (au t.kids k).kind),.sc (.string (au t.kids k).text),.sc (.int .i64 (au t.kids k).num),.ak 4 (bM (au t.kids k).kids) none]],true,25⟩::G):=(UJ.cons _).cons _
   have htk:=Ii (fu:=fu) (p:=p) (env:=lX) (ws:=jU) (i:=0) hd
   rw[hq] at htk
   simp only[Nat.zero_add] at htk
   have e1:((aZ p++[Z.sc (.int .i64 (k:Int))]).drop 0).take ((aZ p).length+1)=aZ (p++[(k:Int)]):=by
    rw[List.drop_zero,List.take_of_length_le (by simp)]
    simp[aZ]
   rw[←e1] at X6
   have J4:=UG (H:=some ⟨1,aZ p++[.sc (.int .i64 (k:Int))],false,3⟩::some ⟨4,[.agg [.sc (.int .u8 (au t.kids k).kind),.sc (.string (au t.kids k).text),.sc (.int .i64 (au t.kids k).num),.ak 4 (bM (au t.kids k).kids) none]],true,25⟩::G) (id:=G.length+1) (aN rfl) (.keep (.keep (.keep (.aB (k:=1) (off:=0) (n:=(aZ p).length+1) (c:=none) rfl (by simp) .nil)))) (by rw[Af (by simp only[List.length_cons])];exact X6)
   refine ⟨by omega,by omega,by rw[bI];omega,gi J4 fun e H' hle fF=>?_⟩
   ·unfold jh at fF
    cases hr:bw fu (au t.kids k) q.1 q.2 (p++[(k:Int)]) with
    | error f =>
     rw[hr] at fF htk
     obtain ⟨rfl,h2⟩:=fF
     exact adq f H' (Ij htk) (hkX.trans h2)
    | ok r =>
     rw[hr] at fF htk
     obtain ⟨rfl,h2,C',h3⟩:=fF
     refine ax ?_
     refine dY _ _ ⟨k+1,r,C++C',by omega,htk,by rw[←List.append_assoc];exact h3,hkX.trans h2,by simp[Fr]⟩ (by simp[bL,mk];omega)
  ·have d1:¬(k:Int)<t.kids.length:=by omega
   have UM:t.kids.take k=t.kids:=List.take_of_length_le (by omega)
   rw[UM] at hq
   refine Tj d1 ?_
   clear dY
   refine hL _ _ ?_
   clear hL
   rcases adp with ⟨rfl,hend⟩ | ⟨rfl,⟨g1',rfl,rfl,rfl,rfl⟩,iL,hkF⟩
   ·simp -implicitDefEqProofs (maxSteps:=99999999) (disch:=first | omega | (simp only[vl];first | done | omega)) only[vu,vg,vf,va,vg,vs,vw,vk,simprocAttr]
    exact hend q C G hq hSk UJ
   ·cases g1'
    have UN:=Dx t.kids lX jU 0 q _ hz1 hq
    have htz:=t.size_eq
    have UL:=t.lP
    have hbd:=PV hSk t ro p (by omega) (by omega) (by have:=UN.1;omega) ws.at_ H.length E3.f1 E3.f2 E3.f3 E3.f4 E3.f5
    unfold dm at hbd
    simp -implicitDefEqProofs (maxSteps:=99999999) (disch:=first | omega | (simp only[vl];first | done | omega)) only[vu,vg,vf,va,vg,vs,vw,vk,simprocAttr]
    refine ⟨rfl,gi hbd fun e H' hle BX=>?_⟩
    rw[iL q hq]
    unfold jh at BX ⊢
    cases hr:cK q.1 q.2 t.text p ws.at_ with
    | error f =>
     rw[hr] at BX
     obtain ⟨rfl,h2⟩:=BX
     exact ⟨rfl,hkF.trans (UJ.trans h2)⟩
    | ok r =>
     rw[hr] at BX
     obtain ⟨rfl,h2,C',h3⟩:=BX
     refine ax ?_
     exact ⟨hkF.trans (UJ.trans h2),C++C',by rw[←List.append_assoc];exact h3⟩
 have E4:∀(ts:List Z)(F:Y)(C0:List Nat)(jU:WS)(lX:List aO),
   Fr [none,none,none,none,some (.ptr 1 H.length 0 0),some (.ptr 2 (H.length+1) 0 0),some (.ptr 4 (H.length+2) 0 0),some (.ptr 1 (H.length+3) 0 0),some (.ptr 1 (H.length+4) 0 0),some (.sc .nilFunc),none,none,none,none,none,none,none,none,none,none,none,none,none,none,none,none,none,none,none,none,none,none,none,none,none,none,none,none,none,none,none,none,none,none,none,none,none,none,none,none,none,none,none,none,none,none,none,none,none,none,none,none,none,none,none,none,none,none,none,none,none,none,none,none,none,none,none,none,none,none,none,none,none,none,none,none,none,none,none,none,none,none,none,none,none,none,none,none,none,none,none,none,none,none,none,none,none,none,none,none,none,none,none,none,none] ts→
   St wid bB fu (B++C0) jU lX (dm a0 m) m ms F→E1 wid H.length (dm a0 m) t ro pv ws.at_ F→SZ jU (N+1)→jU.at_=ws.at_+1→cH m H F→bw fu t env ws p=bo fu t.kids lX jU p 0→L ts F:=by
  intro ts F C0 jU lX cv k9 hX hz1 MV lR iL
  refine wG ts F _ jU lX _ m ms _ cv k9 hX hz1 MV (.inl ⟨rfl,fun q C F' hq E5 Ck=>?_⟩) fun f F' he Ck=>?_
  ·rw[iL,hq]
   exact ⟨rfl,lR.trans Ck,C0++C,by rw[←List.append_assoc];exact E5⟩
  ·rw[iL,he]
   exact ⟨rfl,lR.trans Ck⟩
 have UO:∀(ts:List Z)(F:Y)(jU:WS)(a1 m1:Nat),
   Fr [none,none,none,none,some (.ptr 1 H.length 0 0),some (.ptr 2 (H.length+1) 0 0),some (.ptr 4 (H.length+2) 0 0),some (.ptr 1 (H.length+3) 0 0),some (.ptr 1 (H.length+4) 0 0),some (.sc .nilFunc),none,none,none,none,none,none,none,none,none,none,none,none,none,none,none,none,none,none,none,none,none,none,none,none,none,none,none,none,none,none,none,none,none,none,none,none,none,none,none,none,none,none,none,none,none,none,none,none,none,none,none,none,none,none,none,none,none,none,none,none,none,none,none,none,none,none,none,none,none,none,none,none,none,none,none,none,none,none,none,none,none,none,none,none,none,none,none,none,none,none,none,none,none,none,none,none,none,none,none,none,none,none,none,none,none] ts→
   St wid bB fu B jU ([]::env) (dm (.ptr 2 a1 0 0) m1) m1 (m::ms) F→E1 wid H.length (dm (.ptr 2 a1 0 0) m1) t ro pv ws.at_ F→SZ jU (N+1)→jU.at_=ws.at_+1→cH m H F→H.length≤m1→Y.find F a1=some (qc (dm a0 m))→
   bw fu t env ws p=(match bo fu t.kids ([]::env) jU p 0 with
    | .error e=>.error e
    | .ok r=>.ok (env,r.2))→L ts F:=by
  intro ts F jU a1 m1 cv k9 hX hz1 MV lR hm1 Io iL
  have hKm:∀F',cH m1 F F'→cH m H F':=fun F' hk=>⟨Nat.le_trans lR.1 hk.1,fun id b hb hs=>hk.2 id b (lR.2 id b hb hs) (hs.imp (fun h=>h) fun h=>⟨h.1,by have:=Y.am hb;omega⟩)⟩
  refine wG ts F _ jU _ _ m1 (m::ms) _ cv k9 hX hz1 MV (.inl ⟨rfl,fun q C F' hq E5 Ck=>?_⟩) fun f F' he Ck=>?_
  ·rw[iL,hq]
   refine ⟨rfl,hKm F' Ck,C,?_⟩
   have th:=(Ik t.kids ([]::env) jU 0 q (by simp) hq).1
   have hne:=hS.er.ne
   have AP:=Ck.2 a1 _ Io (.inl ⟨by simp[qc],by simp[qc],by simp[qc],by simp[qc]⟩)
   have E2:=E5.er
   have hfo:=E5.fo
   match q,th,E2,hfo,E5 with
   | ([],w),_,E2,_,_=>exact E2.elim
   | ([f],w),th,_,_,_=>exact absurd th.symm hne
   | (f::g::r,w),th,E2,hfo,E5 =>
    have th:g::r=env:=th
    obtain ⟨m',qu,a',s',e1,h1,e2,h3,h4⟩:=E2
    cases e1
    simp only[dm,Z.agg.injEq,List.cons.injEq,Z.ptr.injEq,true_and,and_true] at e2
    subst e2
    rw[AP] at h3
    simp only[qc,Option.some.injEq,aD.mk.injEq,List.cons.injEq,and_true,true_and] at h3
    subst h3
    rw[th] at h4
    exact ⟨E5.bs,h4,E5.fm,hS.nf,hS.nd,fun x hx=>hfo x (by simp only;rw[th];simp[hx]),E5.ff⟩
  ·rw[iL,he]
   exact ⟨rfl,hKm F' Ck⟩
 refine ae fun L hL=>?_
 refine de hw ?_
 refine hL _ _ ?_
 clear hL
 clear hL
 generalize mR:(some ⟨1,[Z.sc (.int .i64 ws.at_)],true,3⟩:Option aD)::_=F0
 have jV:=hB.abE (ws.at_+1)
 have yu:(Y.set H wid (some (dX bB aY B { ws with at_:=ws.at_+1 }))).length=H.length:=Y.aj ..
 have tY:St wid bB fu B { ws with at_:=ws.at_+1 } env (dm a0 m) m ms F0:=by
  rw[←mR]
  exact (((((hS.xf jV.2 ⟨aY,U,jV.1⟩ rfl).cons _).cons _).cons _).cons _).cons _
 have uB:cH m H F0:=by
  rw[←mR]
  exact (((((jV.2.m m).cons _).cons _).cons _).cons _).cons _
 have xg:E1 wid H.length (dm a0 m) t ro pv ws.at_ F0:=by
  rw[←mR]
  have e:∀(x:Option aD),(Y.set H wid x).length=H.length:=fun x=>Y.aj ..
  refine ⟨?_,?_,?_,?_,?_,by simp only[List.length_cons,e];omega⟩
  ·rw[ai (by simp only[List.length_cons,e];omega),ai (by simp only[List.length_cons,e];omega),ai (by simp only[List.length_cons,e];omega),ai (by simp only[List.length_cons,e];omega),aN (by rw[e])]
  ·rw[ai (by simp only[List.length_cons,e];omega),ai (by simp only[List.length_cons,e];omega),ai (by simp only[List.length_cons,e];omega),aN (by simp only[List.length_cons,e])]
   rfl
  ·rw[ai (by simp only[List.length_cons,e];omega),ai (by simp only[List.length_cons,e];omega),aN (by simp only[List.length_cons,e])]
   rfl
  ·rw[ai (by simp only[List.length_cons,e];omega),aN (by simp only[List.length_cons,e])]
  ·rw[aN (by simp only[List.length_cons,e])]
 clear mR
 have yf:SZ { ws with at_:=ws.at_+1 } (N+1):=hsz.at_.le (by omega)
 have aed:=xg.le
 have b1:=xg.f1
 have b2:=xg.f2
 have b3:=xg.f3
 have b5:=xg.f5
 rw[aH] at b3
 unfold dm at b2
 have MW:¬t.kind=1→pv = .ak 1 (aZ p) none:=fun h=>by
  rcases hpv with h1 | ⟨_,_,h3⟩
  ·exact h1
  ·exact absurd h3 h
 have UL:=t.lP
 have b4:=xg.f4
 obtain ⟨UQ,U0,UR⟩:=tY.bs
 have Cf:=UR.w
 unfold dX at Cf
 by_cases k2:t.kind=2
 ·obtain ⟨j,hj⟩:=hfn.fn k2
  have ou:j<ws.bs.length:=sA (env:=[fu]) (by simpa using tY.ff) t.text j (by rw[bR,hj])
  obtain ⟨qd,F1,p1,p2,p3,p4,NL,hB1⟩:=UR.more (j:=j) ou (by have:=yf.1;omega)
  have hX1:=xg.keep (NL.m m)
  have k9:=tY.xf NL ⟨qd,U0,hB1⟩ rfl
  have c2:=hX1.f2
  rw[Y.ah (by omega)] at c2
  have c1:=hX1.f1
  rw[Y.ah (by omega)] at c1
  have o9:=Y.am p4
  have tj:F0.length≤F1.length:=by have:=NL.1;rwa [Y.aj] at this
  have qf:=tY.fm
  have hok:=xd B fu
  have fK:=oT (B:=B) (f:=fu) (x:=t.text)
  simp only[hj] at fK
  unfold ja at fK
  unfold gY at qf
  unfold dX at p4
  unfold dm at c2
  dsimp only at p1 p2 p3 p4
  unfold bp at p1 p2 p3 p4 fK hok qf Cf
  simp -implicitDefEqProofs (maxSteps:=99999999) (disch:=first | omega | (simp only[vl];first | done | omega)) only[vu,vg,k2,b1,b2,b3,b4,b5,Cf,qf,hok,fK,p1,p2,p3,p4,c2,va,vg,vs,vw,vk,simprocAttr]
  refine ⟨c1,jd (Du (.agg [a0,.ptr 0 m 0 0]) ⟨rfl,rfl⟩ _) ?_⟩
  rintro v F' hle ⟨a1,m1,rfl,h1,h2,h3,h4,h5⟩
  obtain ⟨g1,g2,g3,g4⟩:=Dy k9 hX1 h1 h2 h3 h4 h5
  rw[Y.aj] at h1 h4
  have pe:Y.find F' (H.length+1)=some ⟨2,[.agg [a0,.ptr 0 m 0 0]],true,164⟩:=by
   rw[h5 _ (by rw[Y.aj];omega),Y.ah (by omega)]
   exact c2
  have iL:=UB (fu:=fu) (env:=env) (ws:=ws) (p:=p) k2
  rw[hj] at iL
  have adt:SZ { ws with at_:=ws.at_+1,all:=ws.all++[j] } (N+1):=⟨by simp only[List.length_append,List.length_cons,List.length_nil];have:=hsz.1;omega,fun i=>yf.2 i⟩
  unfold dm at *
  refine de pe ?_
  exact UO _ _ _ a1 m1 (by simp[Fr]) g1 g2 adt rfl (g3 H (uB.trans (NL.m m)) (Nat.le_refl _)) (by omega) g4 iL
 by_cases k4:t.kind=4
 ·have e:=MW (by omega)
  subst e
  have hbd:=Im tY t ro p (by omega) (by omega) (by have:=yf.1;omega) ws.at_
  rw[aH] at hbd
  unfold dm at hbd
  simp -implicitDefEqProofs (maxSteps:=99999999) (disch:=first | omega | (simp only[vl];first | done | omega)) only[vu,vg,k2,k4,b1,b2,b3,b4,b5,va,vg,vs,vw,vk,simprocAttr]
  rw[k4] at hbd
  refine gi hbd fun e H' hle hq=>?_
  unfold jh at hq
  have iL:=UC (fu:=fu) (env:=env) (ws:=ws) (p:=p) k4
  cases hr:cK env { ws with at_:=ws.at_+1 } t.text p ws.at_ with
  | error f =>
   rw[hr] at hq iL
   obtain ⟨rfl,h2⟩:=hq
   show jh wid bB fu B _ m ms H (bw fu t env ws p) _ _
   rw[iL]
   exact ⟨rfl,uB.trans h2⟩
  | ok r =>
   rw[hr] at hq iL
   obtain ⟨rfl,h2,C,h3⟩:=hq
   refine ax ?_
   exact E4 _ H' C r.2 r.1 (by simp[Fr]) h3 (xg.keep h2) (vF hsz.at_ hr) (Bh hr) (uB.trans h2) iL
 by_cases k5:t.kind=5
 ·simp -implicitDefEqProofs (maxSteps:=99999999) (disch:=first | omega | (simp only[vl];first | done | omega)) only[vu,vg,k2,k4,k5,b1,b2,b3,b5,va,vg,vs,vw,vk,simprocAttr]
  refine jd (Du (.agg [a0,.ptr 0 m 0 0]) ⟨rfl,rfl⟩ F0) ?_
  rintro v F' hle ⟨a1,m1,rfl,h1,h2,h3,h4,h5⟩
  have pe:Y.find F' (H.length+1)=some ⟨2,[.agg [a0,.ptr 0 m 0 0]],true,164⟩:=by rw[h5 _ (by omega)];exact b2
  obtain ⟨g1,g2,g3,g4⟩:=Dy tY xg h1 h2 h3 h4 h5
  unfold dm at *
  refine de pe ?_
  exact UO _ _ _ a1 m1 (by simp[Fr]) g1 g2 yf rfl (g3 H uB (Nat.le_refl _)) (by omega) g4 (UD k5)
 by_cases k6:t.kind=6
 ·have e:=MW (by omega)
  subst e
  obtain ⟨a0',m',qu,e0,e1,hm0⟩:=tY.er.form
  cases e1
  have qf:=hm0
  unfold gY at qf
  have hok:=xd B (env.headD [])
  have fK:=oT (B:=B) (f:=env.headD []) (x:=t.text)
  unfold ja at fK
  have iL:=UE (fu:=fu) (env:=env) (ws:=ws) (p:=p) k6
  cases hg:bX t.text (env.headD []) with
  | some j =>
   simp only[hg] at fK
   rw[hg,if_pos (by simp)] at iL
   unfold bp at fK hok qf
   simp -implicitDefEqProofs (maxSteps:=99999999) (disch:=first | omega | (simp only[vl];first | done | omega)) only[vu,vg,k2,k4,k5,k6,b1,b2,b3,b4,b5,qf,hok,fK,va,vg,vs,vw,vk,simprocAttr]
   refine mP (vE (110,ws.at_) wid bB UQ B _ F0 UR.w) ?_
   show jh wid bB fu B _ m ms H (bw fu t env ws p) _ _
   rw[iL]
   exact ⟨rfl,uB⟩
  | none =>
   simp only[hg] at fK
   rw[hg,if_neg (by simp)] at iL
   simp -implicitDefEqProofs (maxSteps:=99999999) (disch:=first | omega | (simp only[vl];first | done | omega)) only[vu,vg,k2,k4,k5,k6,b1,b2,b3,b4,b5,qf,hok,fK,va,vg,vs,vw,vk,simprocAttr]
   exact wG _ F0 B { ws with at_:=ws.at_+1 } env (dm a0 m) m ms _ (by simp[Fr]) tY xg yf rfl (.inr ⟨rfl,⟨rfl,rfl,rfl,rfl,rfl⟩,fun q hq=>by rw[iL,hq],uB⟩) (fun f F' he Ck=>by rw[iL,he];exact ⟨rfl,uB.trans Ck⟩)
 by_cases Lx:t.kind=22
 ·have e:=MW (by omega)
  subst e
  have hbd:=Ux wid bB UQ B U0 { ws with at_:=ws.at_+1 } F0 env (dm a0 m) (m::ms) UR tY.er (sA tY.fo) t ro (.inl Lx) p (by omega) (fun j=>by have:=yf.2 j;omega) ws.at_
  have iL:=PT (fu:=fu) (env:=env) (ws:=ws) (p:=p) Lx
  rw[aH] at hbd
  rw[Lx] at hbd iL
  unfold dm at hbd
  simp -implicitDefEqProofs (maxSteps:=99999999) (disch:=first | omega | (simp only[vl];first | done | omega)) only[vu,vg,k2,k4,k5,k6,Lx,b1,b2,b3,b4,b5,va,vg,vs,vw,vk,simprocAttr]
  refine gi hbd fun e H' hle hq=>?_
  unfold Lt at hq
  cases hr:gS env { ws with at_:=ws.at_+1 } 22 t.text t.kids.length p ws.at_ with
  | error f =>
   rw[hr] at hq iL
   obtain ⟨rfl,h2⟩:=hq
   show jh wid bB fu B _ m ms H (bw fu t env ws p) _ _
   rw[iL]
   exact ⟨rfl,uB.trans (h2.m m)⟩
  | ok r =>
   rw[hr] at hq iL
   obtain ⟨rfl,h2,Iq,U2,h3⟩:=hq
   refine ax ?_
   exact E4 _ H' [] r env (by simp[Fr]) (by simpa using tY.xf h2 ⟨Iq,U2,h3⟩ (Ip hr)) (xg.keep (h2.m m)) (y3 hsz.at_ hr) (y4 hr) (uB.trans (h2.m m)) iL
 by_cases qq:t.kind=25
 ·have e:=MW (by omega)
  subst e
  have hbd:=Ux wid bB UQ B U0 { ws with at_:=ws.at_+1 } F0 [fu] (dm ja bB) [bB] UR ⟨bB,rfl,tY.fm,rfl⟩ (sA (by simpa using tY.ff)) t ro (.inr qq) p (by omega) (fun j=>by have:=yf.2 j;omega) ws.at_
  have iL:=PU (fu:=fu) (env:=env) (ws:=ws) (p:=p) qq
  rw[aH] at hbd
  rw[qq] at hbd iL
  unfold dm at hbd
  unfold ja at hbd
  simp -implicitDefEqProofs (maxSteps:=99999999) (disch:=first | omega | (simp only[vl];first | done | omega)) only[vu,vg,k2,k4,k5,k6,Lx,qq,Cf,b1,b2,b3,b4,b5,va,vg,vs,vw,vk,simprocAttr]
  refine gi hbd fun e H' hle hq=>?_
  unfold Lt at hq
  cases hr:gS [fu] { ws with at_:=ws.at_+1 } 25 t.text t.kids.length p ws.at_ with
  | error f =>
   rw[hr] at hq iL
   obtain ⟨rfl,h2⟩:=hq
   show jh wid bB fu B _ m ms H (bw fu t env ws p) _ _
   rw[iL]
   exact ⟨rfl,uB.trans (h2.m m)⟩
  | ok r =>
   rw[hr] at hq iL
   obtain ⟨rfl,h2,Iq,U2,h3⟩:=hq
   refine ax ?_
   exact E4 _ H' [] r env (by simp[Fr]) (by simpa using tY.xf h2 ⟨Iq,U2,h3⟩ (Ip hr)) (xg.keep (h2.m m)) (y3 hsz.at_ hr) (y4 hr) (uB.trans (h2.m m)) iL
 ·simp -implicitDefEqProofs (maxSteps:=99999999) (disch:=first | omega | (simp only[vl];first | done | omega)) only[vu,vg,k2,k4,k5,k6,Lx,qq,va,vg,vs,vw,vk,simprocAttr]
  exact E4 _ F0 [] { ws with at_:=ws.at_+1 } env (by simp[Fr]) (by simpa using tY) xg yf rfl uB (UF k2 k4 k5 k6 Lx qq)
theorem X7(fu:aO)(t:Nd):Lw fu t:=by
 induction t using Nd.ind with
 | _ t ih=>exact UH fu t ih
end Go.Proofs.YtnoplgongieehaaGreatDoor
