import Derived.Test.YtnoplgongieehaaGreatDoorM4
import Derived.Test.YtnoplgongieehaaGreatDoorM3
import Derived.Test.YtnoplgongieehaaGreatDoorProg
import Derived.KernelRfl
namespace Go.Proofs.YtnoplgongieehaaGreatDoor
open Go.RowKit
set_option maxRecDepth 100000
set_option linter.unusedVariables false
set_option linter.unusedSimpArgs false
theorem BS.many{wid bB aY:Nat}{B U:List Nat}{ws:WS}{G:Y}(hB:BS wid bB aY B U ws G){j:Nat}(hj:j<ws.bs.length)(v:Int) :
  cY G (Y.set G (B.getD j 0) (some (ga (U.getD j 0) { aR ws.bs j with many:=v })))∧
   BS wid bB aY B U { ws with bs:=ws.bs.set j { aR ws.bs j with many:=v } } (Y.set G (B.getD j 0) (some (ga (U.getD j 0) { aR ws.bs j with many:=v }))):=by
 have hbd:=hB.bd j hj
 have gz:=Y.am hbd
 have hk:∀(x:Option aD) id b,Y.find G id=some b→id≠B.getD j 0→Y.find (Y.set G (B.getD j 0) x) id=some b:=fun x id b hb h2=>by
  rw[Y.ah h2];exact hb
 have pM:∀id b,Y.find G id=some b→(b.k≠4∨b.ty≠107)→id≠B.getD j 0:=fun id b hb h e=>by
  rw[e,hbd] at hb;cases hb;simp[ga] at h
 have Cj:∀i,aR (ws.bs.set j { aR ws.bs j with many:=v }) i=if i=j then { aR ws.bs j with many:=v } else aR ws.bs i:=fun i=>by
  by_cases e:i=j
  ·subst e;simp[aR,List.getD,hj]
  ·rw[if_neg e];simp[aR,List.getD,List.getElem?_set_ne (Ne.symm e)]
 have hu:∀i,(aR (ws.bs.set j { aR ws.bs j with many:=v }) i).ct=(aR ws.bs i).ct:=fun i=>by
  rw[Cj]
  split
  ·rename_i e;rw[e]
  ·rfl
 refine ⟨⟨by rw[Y.aj];exact Nat.le_refl _,fun id b hb hs=>hk _ id b hb (pM id b hb ?_)⟩,⟨?_,fun e=>?_,?_,?_,fun i hi=>?_,fun i hi e=>?_,fun i i' hi hi' e=>?_,fun i i' hi hi' e1 e2 e=>?_,fun i hi=>?_⟩⟩
 ·rcases hs with hs | hs
  ·exact .inr hs.2.2.1
  ·exact .inl (by omega)
 ·exact hk _ _ _ hB.w (pM _ _ hB.w (.inl (by simp[dX])))
 ·exact hk _ _ _ (hB.al e) (pM _ _ (hB.al e) (.inl (by simp)))
 ·rw[List.length_set];exact hB.bl
 ·rw[List.length_set];exact hB.ul
 ·simp only[List.length_set] at hi
  simp only[Cj]
  by_cases e:i=j
  ·subst e
   simp only[if_true]
   rw[Y.ay gz]
  ·simp only[if_neg e]
   exact hk _ _ _ (hB.bd i hi) (fun h=>e (hB.nd i j hi hj h))
 ·simp only[List.length_set] at hi
  simp only[hu] at e ⊢
  have hb:=hB.us i hi e
  exact hk _ _ _ hb (pM _ _ hb (.inl (by simp)))
 ·simp only[List.length_set] at hi hi'
  exact hB.nd i i' hi hi' e
 ·simp only[List.length_set] at hi hi'
  simp only[hu] at e1 e2
  exact hB.ud i i' hi hi' e1 e2 e
 ·simp only[List.length_set]
  exact hB.ao i hi
theorem pO{H F:Y}{x y:Z}(h:∀id,id<H.length→Y.find F id=Y.find H id)(hz:Gz F H.length [] x y):eJ H (.ret x) F (.ret y) H :=
 mr [] (by simp) (by simp) (by simp) (fun id k hid hk=>.inl ⟨hk,by rw[h id hid];exact hk⟩) (fun i s k hs=>by simp at hs) hz
def pP(f:Nd)(k:Nat)(fu:aO)(ws:WS)(a:Nat):Except fJ (aO×WS):=match cK [fu] ws f.text [(k:Int)] a with
 | .error e=>.error e
 | .ok q=>.ok (q.1.headD [],{ q.2 with bs:=q.2.bs.set ws.bs.length { aR q.2.bs ws.bs.length with many:=(au f.kids 0).kids.length } })
theorem jp(f:Nd)(r:List Nd)(k:Nat)(fu:aO)(ws:WS)(a:Nat):eQ (f::r) k fu ws a=match pP f k fu ws a with
  | .error e=>.error e
  | .ok q=>eQ r (k+1) q.1 q.2 (a+f.size):=by
 simp only[eQ,pP]
 cases cK [fu] ws f.text [(k:Int)] a<;>rfl
theorem Ir:∀{l:List Nd}{i k:Nat}{fu:aO}{ws:WS}{a:Nat},k<l.length→eQ (l.take (k+1)) i fu ws a=match eQ (l.take k) i fu ws a with
  | .error e=>.error e
  | .ok q=>pP (au l k) (i+k) q.1 q.2 (a+Nd.aw (l.take k)):=by
 intro l
 induction l with
 | nil=>intro i k fu ws a h;simp at h
 | cons t r ih =>
  intro i k fu ws a h
  cases k with
  | zero =>
   have hn:au (t::r) 0=t:=by simp[au]
   simp only[List.take_succ_cons,List.take_zero,jp,hn,Nat.add_zero,Nd.aw]
   simp only[eQ,Nd.aw,Nat.add_zero]
   cases pP t i fu ws a<;>rfl
  | succ k =>
   have hn:au (t::r) (k+1)=au r k:=by simp[au]
   rw[List.take_succ_cons,List.take_succ_cons (i:=k),jp,jp,hn]
   cases pP t i fu ws a with
   | error e=>rfl
   | ok q =>
    simp only
    rw[ih (by simpa using h)]
    simp only[Nd.aw]
    rw[show i+(k+1)=i+1+k by omega,show a+(t.size+Nd.aw (r.take k))=a+t.size+Nd.aw (r.take k) by omega]
theorem Iu{e:fJ}:∀{l:List Nd}{i k:Nat}{fu:aO}{ws:WS}{a:Nat},eQ (l.take k) i fu ws a = .error e→eQ l i fu ws a = .error e:=by
 intro l
 induction l with
 | nil=>intro i k fu ws a h;simpa using h
 | cons t r ih =>
  intro i k fu ws a h
  cases k with
  | zero=>simp[eQ] at h
  | succ k =>
   rw[List.take_succ_cons,jp] at h
   rw[jp]
   cases hn:pP t i fu ws a with
   | error e'=>rw[hn] at h;simpa using h
   | ok q=>rw[hn] at h;exact ih h
theorem X8{P:Program}{f:FuncId}{args args':List Z}{H:Y}{K:cm→Y→Prop}(hl:mT args args')(h:DK P f args' H K):DK P f args H K:=fun φ w vs hR ha=>h φ w vs hR (hl.Rt ha)
theorem Iv:∀{l:List Nd}{i:Nat}{fu:aO}{ws:WS}{a N:Nat}{q:aO×WS},SZ ws N→eQ l i fu ws a = .ok q→SZ q.2 (N+l.length):=by
 intro l
 induction l with
 | nil=>intro i fu ws a N q hz h;simp only[eQ] at h;cases h;exact hz
 | cons t r ih =>
  intro i fu ws a N q hz h
  rw[jp] at h
  cases hs:pP t i fu ws a with
  | error e=>rw[hs] at h;cases h
  | ok q' =>
   rw[hs] at h
   have h1:SZ q'.2 (N+1):=by
    unfold pP at hs
    cases hb:cK [fu] ws t.text [(i:Int)] a with
    | error e=>rw[hb] at hs;cases hs
    | ok q2 =>
     rw[hb] at hs
     cases hs
     have h2:=vF hz hb
     refine ⟨h2.1,fun j=>?_⟩
     simp only
     rcases Dw (bs:=q2.2.bs) (b:={ aR q2.2.bs ws.bs.length with many:=((au t.kids 0).kids.length:Nat) }) (i:=ws.bs.length) (j:=j) with h | h<;>rw[h]
     ·exact h2.2 j
     ·exact h2.2 ws.bs.length
   have h3:=ih h1 h
   exact h3.le (by simp only[List.length_cons];omega)
theorem BS.clear{wid bB aY:Nat}{B U:List Nat}{ws:WS}{H:Y}(h:BS wid bB aY B U ws H):BS wid bB aY B U { ws with all:=[] } (Y.set H wid (some (dX bB aY B { ws with all:=[] })))∧cY H (Y.set H wid (some (dX bB aY B { ws with all:=[] }))):=by
 have hl:=Y.am h.w
 have hk:∀id b,Y.find H id=some b→b.k≠5→Y.find (Y.set H wid (some (dX bB aY B { ws with all:=[] }))) id=some b:=fun id b hb h5=>by
  rw[Y.ah fun e=>?_]
  ·exact hb
  ·rw[e,h.w] at hb;cases hb;simp[dX] at h5
 refine ⟨⟨Y.ay hl,fun e=>absurd rfl e,h.bl,h.ul,fun j hj=>hk _ _ (h.bd j hj) (by simp[ga]),fun j hj e=>hk _ _ (h.us j hj e) (by simp),h.nd,h.ud,fun j hj=>by simp at hj⟩,by rw[Y.aj];exact Nat.le_refl _,fun id b hb hs=>hk id b hb ?_⟩
 rcases hs with hs | hs
 ·exact hs.2.1
 ·omega
theorem BS.abF{wid bB aY:Nat}{B U:List Nat}{ws:WS}{H G:Y}(h:BS wid bB aY B U ws H)(k:∀id b,Y.find H id=some b→(b.k=5∨(b.k=1∧b.exact=false)∨b.k=4)→Y.find G id=some b):BS wid bB aY B U ws G :=
 ⟨k _ _ h.w (.inl rfl),fun e=>k _ _ (h.al e) (.inr (.inl ⟨rfl,rfl⟩)),h.bl,h.ul,fun j hj=>k _ _ (h.bd j hj) (.inr (.inr rfl)),fun j hj e=>k _ _ (h.us j hj e) (.inr (.inl ⟨rfl,rfl⟩)),h.nd,h.ud,h.ao⟩
theorem cY.up{H F G:Y}(h:cY H F){m:Nat}(hm:H.length≤m)(k:cH m F G):cY H G:=⟨Nat.le_trans h.1 k.1,fun id b hb hs=>k.2 id b (h.2 id b hb hs) (hs.imp (fun h=>h) fun h0=>⟨h0,by have:=Y.am hb;omega⟩)⟩
theorem cY.set{H G:Y}(h:cY H G){i:Nat}{x:Option aD}(hi:H.length≤i):cY H (Y.set G i x):=⟨by rw[Y.aj];exact h.1,fun id b hb hs=>by
 have:=Y.am hb
 rw[Y.ah (by omega)];exact h.2 id b hb hs⟩
def xh(n:Nd)(H:Y)(e:cm)(H':Y):Prop:=cY H H'∧match iI n with
 | .error f=>e = .ret (.aK [.ak 0 [] (some []),.agg [.sc (.int .i64 f.1),.sc (.int .i64 f.2)]])
 | .ok ws=>∃wid bB aY B U,e = .ret (.aK [aW 1 (ws.all.map (bp B)) aY,.agg [.sc (.int .i64 0),.sc (.int .i64 0)]])∧BS wid bB aY B U ws H'
set_option maxHeartbeats 0 in
theorem MX(n:Nd)(Z7:∀f∈n.kids,f.kids≠[])(hfn:∀q,eQ n.kids 0 [] ⟨[],[],0⟩ 1 = .ok q→rK q.1 n)(hk:n.kind=1)(hs:n.size≤500000)(hw:n.wt≤2000000)(ro:Option (List Z))(H:Y):DK Tryz.prog 58 [eG n ro] H (xh n H):=by
 refine adj ?_
 rw[aH]
 simp -implicitDefEqProofs (maxSteps:=99999999) (disch:=first | omega | (simp only[vl];first | done | omega)) only[Zn,vu,va,vg,vs,vw,vk,simprocAttr]
 simp only[Ug,ux]
 refine ae fun L hL=>?_
 refine ax ?_
 refine hL _ _ ?_
 clear hL
 refine ae fun L hL=>?_
 refine ax ?_
 refine hL _ _ ?_
 clear hL
 refine ae fun L hL=>?_
 refine ae fun L hL=>?_
 refine ax ?_
 refine hL _ _ ?_
 clear hL
 refine cO (fun ts F=>∃(k:Nat)(q:aO×WS)(aY:Nat)(B U:List Nat),(k≤n.kids.length∧eQ (n.kids.take k) 0 [] ⟨[],[],0⟩ 1 = .ok q∧q.2.all.length=k∧q.2.at_=0)∧BS (H.length+4) (H.length+3) aY B U q.2 F∧eL B F [q.1] (dm ja (H.length+3)) [H.length+3]∧iK q.2.bs.length q.1∧
  (cY H F∧Y.find F H.length=some ⟨4,[eG n ro],true,25⟩∧Y.find F (H.length+1)=some ⟨1,[.ak 0 [] (some [])],true,102⟩∧Y.find F (H.length+2)=some ⟨2,[.agg [.sc (.int .i64 0),.sc (.int .i64 0)]],true,93⟩)∧
  Fr [none,some (.ptr 4 H.length 0 0),some (.ptr 1 (H.length+1) 0 0),some (.ptr 2 (H.length+2) 0 0),some (.ptr 5 (H.length+4) 0 0),some (.sc (.int .i64 ((1+Nd.aw (n.kids.take k):Nat):Int))),none,none,none,none,none,none,none,none,some (.ak 4 (bM n.kids) ro),some (.sc (.int .i64 n.kids.length)),some (.sc (.int .i64 k)),none,none,none,none,none,none,none,none,none,none,none,none,none,none,none,none,none,none,none,none,none,none,none,none,none,none,none,none,none,none,none,none,none,none,none,none,none,none,none,none,none,none,none,none,none,none,none,none] ts) (fun ts _=>n.kids.length - (bL (ts.getD 16 .top)).toNat) ?_ ?_
 ·refine ⟨0,([],⟨[],[],0⟩),0,[],[],⟨Nat.zero_le _,rfl,rfl,rfl⟩,⟨aN (by simp only[List.length_cons]),fun e=>absurd rfl e,rfl,rfl,fun j hj=>by simp at hj,fun j hj=>by simp at hj,fun i j hi=>by simp at hi,fun i j hi=>by simp at hi,fun j hj=>by simp at hj⟩,⟨H.length+3,rfl,?_,rfl⟩,fun p hp=>by simp at hp,⟨((((cY.refl.cons _).cons _).cons _).cons _).cons _,?_,?_,?_⟩,by simp[Fr,Nd.aw,aL]⟩
  ·rw[ai (by simp only[List.length_cons];omega),aN (by simp only[List.length_cons])]
   rfl
  ·rw[ai (by simp only[List.length_cons];omega),ai (by simp only[List.length_cons];omega),ai (by simp only[List.length_cons];omega),ai (by simp only[List.length_cons];omega),aN rfl]
   rfl
  ·rw[ai (by simp only[List.length_cons];omega),ai (by simp only[List.length_cons];omega),ai (by simp only[List.length_cons];omega),aN (by simp only[List.length_cons])]
  ·rw[ai (by simp only[List.length_cons];omega),ai (by simp only[List.length_cons];omega),aN (by simp only[List.length_cons])]
 rintro ts F ⟨k,q,aY,B,U,⟨tg,hq,hql,Lz⟩,hB,hE,hF,⟨X9,b0,b1,b2⟩,cv⟩ L2 dY
 obtain ⟨js,rfl⟩:=cv.opened
 clear cv
 rw[aH] at b0
 have hF5:H.length+5≤F.length:=by have:=Y.am hB.w;omega
 have Cf:=hB.w
 unfold dX at Cf
 have htz:=n.size_eq
 by_cases hd:k<n.kids.length
 ·have d1:(k:Int)<n.kids.length:=by omega
  have hg:=eK hd
  have Ca:=Nd.kR n.kids
  refine zG4 d1 hg Cf @aL ?_
  have fM:au n.kids k∈n.kids:=by rw[dM hd];exact List.getElem_mem hd
  have ads:=Nd.vt fM
  have UL:=n.lP
  have aee:=(au n.kids k).lP
  have UK:=Nd.kr fM
  have yu:=jn hd
  have adr:=mw n.kids (k+1)
  have hb:=MS (H.length+4) (H.length+3) aY B U q.2 (some ⟨4,[.agg [.sc (.int .u8 (au n.kids k).kind),.sc (.string (au n.kids k).text),.sc (.int .i64 (au n.kids k).num),.ak 4 (bM (au n.kids k).kids) none]],true,25⟩::F) [q.1] (dm ja (H.length+3)) (H.length+3) [] (hB.cons _) (hE.cons _) (by simp) (by simpa using hF) (au n.kids k) none [(k:Int)] (by simp) (by omega) (by rw[hql];omega) (1+Nd.aw (n.kids.take k))
  rw[aH] at hb
  unfold dm ja at hb
  have htk:=Ir (l:=n.kids) (i:=0) (fu:=[]) (ws:=⟨[],[],0⟩) (a:=1) hd
  rw[hq] at htk
  simp only[Nat.zero_add] at htk
  unfold pP at htk
  refine ⟨by omega,gi (X8 (.cons .refl (.cons .refl (.cons .refl (.cons (.ak .refl) (.cons .refl .nil))))) hb) fun e H' hle fF=>?_⟩
  unfold Ls at fF
  cases hr:cK [q.1] q.2 (au n.kids k).text [(k:Int)] (1+Nd.aw (n.kids.take k)) with
  | error f =>
   rw[hr] at fF htk
   obtain ⟨rfl,h2⟩:=fF
   have hlp:iI n = .error f:=by unfold iI;rw[Iu htk]
   have lR:cH (H.length+3) F H':=(cH.refl.cons _).trans h2
   have c1:=lR.2 _ _ b1 (.inl ⟨by simp,by simp,by simp,by simp⟩)
   have c2:=lR.2 _ _ b2 (.inl ⟨by simp,by simp,by simp,by simp⟩)
   have PL:H.length+5≤H'.length:=by have:=lR.1;omega
   unfold pL
   simp only[cm.post]
   simp -implicitDefEqProofs (maxSteps:=99999999) (disch:=first | omega | (simp only[vl];first | done | omega)) only[A7,vC,vu,vg,vf,c1,c2,va,vg,vs,vw,vk,simprocAttr]
   unfold xh
   rw[hlp]
   exact ⟨((X9.up (Nat.le_add_right _ _) lR).set (by omega)).set (by omega),rfl⟩
  | ok r =>
   rw[hr] at fF htk
   obtain ⟨rfl,h2,Iq,C,U2,Bc,XL,nX⟩:=fF
   have hrf:=hr
   unfold cK at hrf
   split at hrf
   ·cases hrf
   simp only[List.headD_cons,List.tail_cons,Except.ok.injEq] at hrf
   subst hrf
   simp only[List.headD_cons] at htk
   dsimp only at Bc XL nX
   obtain ⟨m0,e0,hm0,-⟩:=XL
   cases e0
   have lR:cH (H.length+3) F H':=(cH.refl.cons _).trans h2
   have c0:=lR.2 _ _ b0 (.inl ⟨by simp,by simp,by simp,by simp⟩)
   have c1:=lR.2 _ _ b1 (.inl ⟨by simp,by simp,by simp,by simp⟩)
   have c2:=lR.2 _ _ b2 (.inl ⟨by simp,by simp,by simp,by simp⟩)
   have c7:=h2.2 F.length _ (aN rfl) (.inl ⟨by simp,by simp,by simp,by simp⟩)
   have n9:=Bc.w
   unfold dX at n9
   dsimp only at n9
   have hok:=xd (B++C) (dV (au n.kids k).text q.2.bs.length q.1)
   have fK:=oT (B:=B++C) (f:=dV (au n.kids k).text q.2.bs.length q.1) (x:=(au n.kids k).text)
   rw[gj,if_pos rfl] at fK
   simp only at fK
   unfold ja at fK
   have qf:=hm0
   unfold gY at qf
   unfold bp at fK hok qf 
   have ou:q.2.bs.length<(q.2.bs++[(⟨[(k:Int)],(au n.kids k).text,[],0⟩:Bd)]).length:=by simp
   have hbd:=Bc.bd q.2.bs.length ou
   obtain ⟨Iw,Ya⟩:=Bc.many ou ((au (au n.kids k).kids 0).kids.length:Nat)
   unfold ga at hbd
   have hn0:0<(au n.kids k).kids.length:=List.length_pos_iff.2 (Z7 _ fM)
   have Pr:=eK hn0
   have Xq:=fun H=>XV (au n.kids k) (by omega) H
   simp only[aH] at Xq
   have PL:F.length<H'.length:=Y.am c7
   have CH:=Y.am hbd
   have aef:F.length≠(B++C).getD q.2.bs.length 0:=fun e=>by
    rw[e,hbd] at c7
    simp at c7
   have D7:(0:Int)<(au n.kids k).kids.length:=by omega
   simp only[cm.post]
   refine zB9 n9 c7 qf hok fK Pr hbd @aL D7 ?_
   refine af (Xq _) ?_
   refine ax ?_
   have sf:∀id b,Y.find H' id=some b→nc b→Y.find (Y.set H' ((B++C).getD q.2.bs.length 0) (some (ga (U2.getD q.2.bs.length 0) { aR (q.2.bs++[(⟨[(k:Int)],(au n.kids k).text,[],0⟩:Bd)]) q.2.bs.length with many:=((au (au n.kids k).kids 0).kids.length:Nat) }))) id=some b:=fun id b hb hs=>Iw.2 id b hb (.inl hs)
   refine dY _ _ ⟨k+1,_,Iq,B++C,U2,⟨by omega,htk,by simp[hql],Lz⟩,Ya,⟨H.length+3,rfl,Iw.2 _ _ hm0 (.inr rfl),rfl⟩,?_,⟨(X9.up (Nat.le_add_right _ _) lR).trans Iw,?_,?_,?_⟩,?_⟩ (by simp[bL,mk];omega)
   ·have:=nX _ (List.mem_singleton.2 rfl)
    simpa using this
   ·exact sf _ _ c0 ⟨by simp,by simp,by simp,by simp⟩
   ·exact sf _ _ c1 ⟨by simp,by simp,by simp,by simp⟩
   ·exact sf _ _ c2 ⟨by simp,by simp,by simp,by simp⟩
   ·simp[Fr,yu]
    omega
 ·have UM:n.kids.take k=n.kids:=List.take_of_length_le (by omega)
  have d1:¬(k:Int)<n.kids.length:=by omega
  rw[UM] at hq
  refine Tj d1 ?_
  clear dY
  refine hL _ _ ?_
  clear hL
  refine fE Cf b0 ?_
  obtain ⟨m0,e0,hm0,-⟩:=hE
  cases e0
  obtain ⟨hBc,hKc⟩:=hB.clear
  have hSn:St (H.length+4) (H.length+3) q.1 B { q.2 with all:=[] } [[]] (dm ja F.length) F.length [] (some ⟨0,[],true,0⟩::Y.set F (H.length+4) (some (dX (H.length+3) aY B { q.2 with all:=[] }))):=by
   have e:(Y.set F (H.length+4) (some (dX (H.length+3) aY B { q.2 with all:=[] }))).length=F.length:=Y.aj ..
   refine ⟨⟨aY,U,hBc.cons _⟩,⟨F.length,rfl,aN e.symm,rfl⟩,?_,⟨by omega,by simp⟩,⟨by simp,by simp⟩,fun f hf=>?_,hF⟩
   ·rw[ai (by omega)]
    exact hKc.2 _ _ hm0 (.inr rfl)
   ·rw[List.mem_singleton] at hf
    subst hf
    exact fun p hp=>by simp at hp
  have UN:SZ q.2 (0+n.kids.length):=Iv (ws:=⟨[],[],0⟩) ⟨Nat.le_refl _,fun j=>by simp[aR,Bd.none,List.getD]⟩ hq
  have Ca:=Nd.kR n.kids
  have hnd:=X7 q.1 n (H.length+4) (H.length+3) B { q.2 with all:=[] } [[]] (dm ja F.length) F.length [] _ [] (.ak 0 [] (some [])) n.kids.length hSn (.inr ⟨rfl,rfl,hk⟩) (by simp;omega) hw (hfn q hq) ⟨Nat.zero_le _,fun j=>Nat.le_trans (UN.2 j) (by omega)⟩ (by omega) (by simp only[Lz];omega) ro
  rw[aH] at hnd
  unfold dm ja dX at hnd
  refine gi hnd fun e H' hle fF=>?_
  have e4:(Y.set F (H.length+4) (some (dX (H.length+3) aY B { q.2 with all:=[] }))).length=F.length:=Y.aj ..
  have hKn:cH F.length F (some ⟨0,[],true,0⟩::Y.set F (H.length+4) (some (dX (H.length+3) aY B { q.2 with all:=[] }))):=(hKc.m _).cons _
  have sM:iI n=match bw q.1 n [[]] { q.2 with all:=[] } [] with
    | .error e=>.error e
    | .ok r=>.ok r.2:=by unfold iI;rw[hq]<;>rfl
  unfold jh at fF
  cases hr:bw q.1 n [[]] { q.2 with all:=[] } [] with
  | error f =>
   rw[hr] at sM
   replace fF:e = .bu (pL f)∧cH F.length (some ⟨0,[],true,0⟩::Y.set F (H.length+4) (some (dX (H.length+3) aY B { q.2 with all:=[] }))) H':=by rw[hr] at fF;exact fF
   obtain ⟨rfl,h2⟩:=fF
   have lR:=hKn.trans h2
   have c1:=lR.2 _ _ b1 (.inl ⟨by simp,by simp,by simp,by simp⟩)
   have c2:=lR.2 _ _ b2 (.inl ⟨by simp,by simp,by simp,by simp⟩)
   have PL:H.length+5≤H'.length:=by have:=lR.1;omega
   unfold pL
   simp only[cm.post]
   simp -implicitDefEqProofs (maxSteps:=99999999) (disch:=first | omega | (simp only[vl];first | done | omega)) only[A7,vC,vu,vg,vf,c1,c2,va,vg,vs,vw,vk,simprocAttr]
   unfold xh
   rw[sM]
   exact ⟨((X9.up (by omega) lR).set (by omega)).set (by omega),rfl⟩
  | ok r =>
   rw[hr] at sM
   replace fF:e = .ret (.aK [])∧cH F.length (some ⟨0,[],true,0⟩::Y.set F (H.length+4) (some (dX (H.length+3) aY B { q.2 with all:=[] }))) H'∧∃C,St (H.length+4) (H.length+3) q.1 (B++C) r.2 r.1 (dm ja F.length) F.length [] H':=by rw[hr] at fF;exact fF
   obtain ⟨rfl,h2,C,hS⟩:=fF
   obtain ⟨adu,U3,Ya⟩:=hS.bs
   have lR:=hKn.trans h2
   have c1:=lR.2 _ _ b1 (.inl ⟨by simp,by simp,by simp,by simp⟩)
   have c2:=lR.2 _ _ b2 (.inl ⟨by simp,by simp,by simp,by simp⟩)
   have PL:H.length+5≤H'.length:=by have:=lR.1;omega
   have hw3:=Ya.w
   unfold dX at hw3
   simp only[cm.post]
   simp -implicitDefEqProofs (maxSteps:=99999999) (disch:=first | omega | (simp only[vl];first | done | omega)) only[A7,vC,vu,vg,vf,hw3,c1,c2,va,vg,vs,vw,vk,simprocAttr]
   unfold xh
   rw[sM]
   refine ⟨((X9.up (by omega) lR).set (by omega)).set (by omega),H.length+4,H.length+3,adu,B++C,U3,rfl,Ya.abF fun id b hb hc=>?_⟩
   rw[Y.ah fun e=>?_,Y.ah fun e=>?_]
   ·exact hb
   ·rw[e,c1] at hb;cases hb;simp at hc
   ·rw[e,c2] at hb;cases hb;simp at hc
theorem Ix:∀(l:List Nd)(p:List Int)(i j:Nat)(hj:j<l.length)(b:Pl),b∈aM l[j] (p++[((i+j:Nat):Int)])→b∈bN l p i
 | t::r,p,i,0,_,b,hb=>by simp only[bN,List.mem_append];left;simpa using hb
 | t::r,p,i,j+1,hj,b,hb=>by
  simp only[bN,List.mem_append]
  right
  refine Ix r p (i+1) j (by simpa using hj) b ?_
  rw[show i+1+j=i+(j+1) by omega]
  simpa using hb
theorem UT(fu:aO)(t:Nd):∀p,(∀b∈aM t p,b.n.kind=2→∃j,bX b.n.text fu=some j)→rK fu t:=by
 induction t using Nd.ind with
 | _ t ih =>
  intro p h
  refine .mk (fun hk=>h ⟨t,p⟩ (by rw[bZ];simp) hk) fun k hk=>?_
  obtain ⟨j,hj,rfl⟩:=List.getElem_of_mem hk
  refine ih _ hk (p++[((0+j:Nat):Int)]) fun b hb=>h b ?_
  rw[bZ]
  exact List.mem_cons_of_mem _ (Ix _ _ 0 j hj b hb)
theorem Dz{n:Nd}(hk:n.kind=1)(h:bU n 40=true){q:aO×WS}(hq:eQ n.kids 0 [] ⟨[],[],0⟩ 1 = .ok q):rK q.1 n:=by
 have hr:∀f∈n.kids,∃P B,Fn f P B:=fun f hf=>sn hk h hf
 obtain ⟨l,hl⟩:∃l,aM n []=l:=⟨_,rfl⟩
 have heq:l=[⟨n,[]⟩]++bN n.kids [] 0:=by rw[←hl,bZ];rfl
 have B2:TX l [⟨n,[]⟩] [] [] ⟨[],[],0⟩:=by
  refine ⟨rfl,rfl,by simp,by simp,fun x=>by simp[jS,hk,enc,bX],fun x j hj=>by simp[bX] at hj,fun a c u hu h2=>?_,fun b hb h2=>?_⟩
  ·cases a with
   | nil=>simp at hu;rw[←hu.1] at h2;simp[hk] at h2
   | cons z a=>simp at hu
  ·simp at hb;rw[hb] at h2;simp[hk] at h2
 have hA:=Dg n.kids hr l [⟨n,[]⟩] 0 [] [] ⟨[],[],0⟩ heq B2
 rw[show ([(⟨n,[]⟩:Pl)]).length=1 from rfl,hq] at hA
 obtain ⟨_,ix,hH⟩:=hA
 refine UT q.1 n [] fun b hb h2=>?_
 rw[hl] at hb
 obtain ⟨a,c,e⟩:=List.append_of_mem hb
 obtain ⟨j,hj,_⟩:=hH.fi a c b e h2
 exact ⟨j,hj⟩
theorem rL:∀F:Y,Over [] F
 | []=>.refl
 | _::r=>.cons (rL r)
def MY(f:fJ):Z:=.agg [.sc (.int .i64 f.1),.sc (.int .i64 f.2)]
set_option maxHeartbeats 0 in
theorem UU(n:Nd)(hw:n.wt≤500000)(hs:n.size≤500000)(ro:Option (List Z)):D Tryz.prog 57 [eG n ro] [] (.ret (MY (fT n))) []:=by
 have htr:=fun H=>Dc n ro (by omega) H
 refine aF (Nat.le_refl _) (adk (aE ?_))
 rw[aH] at htr ⊢
 simp only[Zo,ux]
 refine ae fun L hL=>?_
 refine ax ?_
 refine hL _ _ ?_
 clear hL
 refine ae fun L hL=>?_
 by_cases hk:n.kind=1
 ·have sM:=fun (hR:bU n 40=true) H=>MX n (fun f hf=>by
    obtain ⟨P,B,h⟩:=sn hk hR hf
    rw[h.kids];simp) (fun q hq=>Dz hk hR hq) hk hs (by omega) ro H
  simp only[aH,hk] at sM
  rw[hk] at htr
  simp -implicitDefEqProofs (maxSteps:=99999999) (disch:=first | omega | (simp only[vl];first | done | omega)) only[vu,vg,hk,va,vg,vs,vw,vk,simprocAttr]
  refine af (htr _) ?_
  cases hR:bU n 40 with
  | false =>
   have hc:fT n=(4,0):=by unfold fT;rw[if_neg (fun h=>by rw[hR] at h;simp at h)]
   rw[hc]
   refine ax ?_
   exact di (rL _) (.agg (.cons (.same trivial) (.cons (.same trivial) .nil)))
  | true =>
   have hc:fT n=match iI n with
    | .error e=>e
    | .ok _=>(0,0):=by unfold fT;rw[if_pos ⟨hk,hR⟩]<;>rfl
   refine ax ?_
   refine hL _ _ ?_
   clear hL
   refine ae fun L hL=>?_
   refine ax ?_
   refine gi (sM hR _) fun e H' hle fF=>?_
   unfold xh at fF
   obtain ⟨hK,fF⟩:=fF
   have c1:=hK.2 1 _ rfl (.inl ⟨by simp,by simp,by simp,by simp⟩)
   have dz:2≤H'.length:=hK.1
   cases hl:iI n with
   | error f =>
    rw[hl] at fF hc
    subst fF
    simp only[cm.post]
    refine de c1 ?_
    refine hL _ _ ?_
    clear hL
    refine de c1 ?_
    rw[hc]
    exact di (rL _) (.agg (.cons (.same trivial) (.cons (.same trivial) .nil)))
   | ok ws =>
    rw[hl] at fF hc
    obtain ⟨wid,bB,aY,B,U,rfl,hB⟩:=fF
    simp only[cm.post]
    refine de c1 ?_
    refine hL _ _ ?_
    clear hL
    refine de c1 ?_
    rw[hc]
    exact di (rL _) (.agg (.cons (.same trivial) (.cons (.same trivial) .nil)))
 ·have hc:fT n=(4,0):=by unfold fT;rw[if_neg (fun h=>hk h.1)]
  rw[hc]
  simp -implicitDefEqProofs (maxSteps:=99999999) (disch:=first | omega | (simp only[vl];first | done | omega)) only[vu,vg,hk,va,vg,vs,vw,vk,simprocAttr]
  exact di (rL _) (.agg (.cons (.same trivial) (.cons (.same trivial) .nil)))
theorem UV{P:Program}{f:FuncId}{args args':List Z}{v:Z}{H:Y}(hv:cq H args args')(hp:∀{φ φ':aC}{O O':Nat→Prop}{w w':World}{g:Nat→Option Value},R φ O w v g→R φ' O' w' v g)(h:D P f args' [] (.ret v) []):D P f args H (.ret v) H:=by
 refine ⟨Nat.le_refl _,fun φ w vs hR ha=>(h.2 eZ w vs (MF (hR.gD.less fun b ho=>(p9 ho).elim)) (hv.Rt hR ha)).mono fun en w' ⟨φ',h1,h2,h3⟩=>?_⟩
 have hb:=mQ h3
 refine ⟨φ,?_,hR.grow hb.size hb.block,grow_step hb.os hb.tape hb.output hb.size hb.block⟩
 cases en with
 | returned u=>exact ⟨h1.1,hp h1.2⟩
 | _=>exact h1.elim
theorem Iy(n:Nd)(hw:n.wt≤500000)(hs:n.size≤500000){x:Z}{H:Y}(hx:View H x (fI n)):D Tryz.prog 57 [x] H (.ret (MY (fT n))) H:=by
 have h:=UU n hw hs none
 rw[ku] at h
 refine UV (.cons hx .nil) (fun {φ φ' O O' w w' g} hr=>?_) h
 obtain ⟨h1,h2,h3,h4,h5,h6,h7⟩:=hr
 exact ⟨h1,h2,h3,h4,h5,h6,h7⟩
def yF(U:List Nat)(ws:WS)(j:Nat):Z:=.agg [.ak 1 (aZ (aR ws.bs j).path) none,.sc (.string (aR ws.bs j).name),aW 1 (aJ (aR ws.bs j).ct) (U.getD j 0)]
def fN(b:gv):Z:=.agg [.ak 1 (aZ b.1) none,.sc (.string b.2.1),.ak 1 (aJ b.2.2) none]
theorem Iz{F:Y}{n:Nat}{src:List Nat}:∀{l:List (List Int)},dB F n src (aJ l) (aJ l)
 | []=>.nil
 | p::l=>.cons (.ak rI) Iz
theorem IA{wid bB aY n0:Nat}{B U:List Nat}{ws:WS}{F G:Y}(hB:BS wid bB aY B U ws F)(hk:∀id,id<F.length→Y.find G id=Y.find F id)(hlo:∀id,id<n0→∀b,Y.find F id=some b→nc b):∀{l:List Nat},(∀j∈l,j<ws.bs.length)→dB G n0 [] (l.map (yF U ws)) (l.map fun j=>fN ((aR ws.bs j).path,(aR ws.bs j).name,(aR ws.bs j).ct))
 | [],_=>.nil
 | j::l,h=>by
  have hu0:aJ (aR ws.bs j).ct≠[]→Y.find F (U.getD j 0)=some ⟨1,aJ (aR ws.bs j).ct,false,30⟩:=fun e=>hB.us j (h j (by simp)) fun e2=>e (by rw[e2];rfl)
  refine .cons (.agg (.cons (.ak rI) (.cons (.same trivial) (.cons (Ah (ty:=30) (fun e=>?_) (fun e=>?_) Iz) .nil)))) (IA hB hk hlo fun i hi=>h i (by simp[hi]))
  ·unfold dj
   rw[if_neg fun c=>?_]
   ·simp
   ·have:=(hlo _ c _ (hu0 e)).2.2.2 rfl
    simp at this
  ·rw[hk _ (Y.am (hu0 e)),hu0 e,bC e]
theorem PX{n:Nd}{ws:WS}(h:iI n = .ok ws):ws.all.length≤n.kids.length+n.size:=by
 unfold iI at h
 cases hq:eQ n.kids 0 [] ⟨[],[],0⟩ 1 with
 | error e=>rw[hq] at h;cases h
 | ok q =>
  rw[hq] at h
  simp only at h
  cases hr:bw q.1 n [[]] { q.2 with all:=[] } [] with
  | error e=>rw[hr] at h;cases h
  | ok r =>
   rw[hr] at h
   cases h
   have h1:SZ q.2 (0+n.kids.length):=Iv (ws:=⟨[],[],0⟩) ⟨Nat.le_refl _,fun j=>by simp[aR,Bd.none,List.getD]⟩ hq
   have h2:SZ { q.2 with all:=[] } n.kids.length:=⟨Nat.zero_le _,fun j=>Nat.le_trans (h1.2 j) (by omega)⟩
   exact (Il n _ _ _ r _ h2 hr).1
theorem E6{H F:Y}{x y:Z}(h:∀id b,Y.find H id=some b→Y.find F id=some b)(hz:Gz F H.length [] x y):eJ H (.ret x) F (.ret y) H :=
 mr [] (by simp) (by simp) (by simp) (fun id k hid hk=>.inl ⟨hk,h id k hk⟩) (fun i s k hs=>by simp at hs) hz
set_option maxHeartbeats 0 in
theorem ng(n:Nd)(hw:n.wt≤500000)(hs:n.size≤500000)(ro:Option (List Z))(hv:∀H,View H (eG n ro) (fI n))(H:Y)(pQ:∀id,id<H.length→∃b,Y.find H id=some b∧nc b):D Tryz.prog 23 [eG n ro] H (.ret (.ak 3 ((aI n).map fN) none)) H:=by
 have lF:=fun H=>Iy n hw hs (hv H)
 have sM:=fun (hk:n.kind=1)(hR:bU n 40=true) H=>MX n (fun f hf=>by
    obtain ⟨P,B,h⟩:=sn hk hR hf
    rw[h.kids];simp) (fun q hq=>Dz hk hR hq) hk hs (by omega) ro H
 simp only[aH] at sM lF
 unfold MY at lF
 refine aF (Nat.le_refl _) (adl (aE ?_))
 rw[aH]
 simp only[Zp,ux]
 refine ae fun L hL=>?_
 refine ax ?_
 refine hL _ _ ?_
 clear hL
 refine ae fun L hL=>?_
 refine ax ?_
 refine af (lF _) ?_
 by_cases hc:(fT n).1=0
 ·refine de hc ?_
  refine hL _ _ ?_
  clear hL
  refine ae fun L hL=>?_
  refine ax ?_
  refine hL _ _ ?_
  clear hL
  refine ae fun L hL=>?_
  refine ax ?_
  by_cases c:n.kind=1∧bU n 40=true
  case neg =>
   unfold fT at hc
   rw[if_neg c] at hc
   simp at hc
  have Wz:=wS c.1 c.2
  refine gi (sM c.1 c.2 _) fun e H' hle fF=>?_
  unfold xh at fF
  obtain ⟨hK,fF⟩:=fF
  cases hl:iI n with
  | error f =>
   rw[hl] at Wz
   unfold fT at hc
   rw[if_pos c,hl] at hc
   exact absurd hc Wz.2
  | ok ws =>
   rw[hl] at fF
   obtain ⟨wid,bB,aY,B,U,rfl,hB⟩:=fF
   have pM:aI n=ws.all.map fun j=>((aR ws.bs j).path,(aR ws.bs j).name,(aR ws.bs j).ct):=by
    unfold aI
    rw[if_pos hc,hl]
   simp only[cm.post]
   refine ax ?_
   refine hL _ _ ?_
   clear hL
   refine ae fun L hL=>?_
   refine ae fun L hL=>?_
   refine fE @Ag @xT ?_
   refine hL _ _ ?_
   clear hL
   refine cO (fun ts F=>∃(k io:Nat),k≤ws.all.length∧((∀id,id<H'.length→Y.find F id=Y.find H' id)∧H'.length≤F.length∧((ws.all.take k).map (yF U ws)≠[]→Y.find F io=cA 3 47 ((ws.all.take k).map (yF U ws))∧H'.length≤io))∧
    Fr [none,none,none,some (aW 3 ((ws.all.take k).map (yF U ws)) io),none,none,none,none,none,none,none,none,none,none,none,none,none,some (aW 1 (ws.all.map (bp B)) aY),some (.sc (.int .i64 ws.all.length)),some (.sc (.int .i64 k)),none,none,none,none,none,none,none,none,none,none,none,none] ts) (fun ts _=>ws.all.length - (bL (ts.getD 19 .top)).toNat) ?_ ?_
   ·exact ⟨0,0,Nat.zero_le _,⟨fun id hid=>ai hid,by simp only[List.length_cons];omega,fun e=>absurd rfl e⟩,by simp[Fr,aW]⟩
   rintro ts F ⟨k,io,hk,⟨h1,h2,h3⟩,cv⟩ L2 dY
   obtain ⟨js,rfl⟩:=cv.opened
   clear cv
   have hBF:=hB.same h1
   have sD:=PX hl
   have Ca:=Nd.kR n.kids
   have Ee:=n.size_eq
   by_cases hd:k<ws.all.length
   ·have d1:(k:Int)<ws.all.length:=by omega
    have hne:ws.all≠[]:=fun e=>by rw[e] at hd;simp at hd
    obtain ⟨j,hj⟩:∃j,ws.all[k]? = some j:=⟨ws.all[k],by simp[hd]⟩
    have hjm:j∈ws.all:=List.mem_of_getElem? hj
    have hV:aW 1 (ws.all.map (bp B)) aY = .aB 1 aY 0 ws.all.length none:=by rw[lc (by simpa using hne)];simp
    have hal:=hBF.al hne
    have hg:(ws.all.map (bp B)).getD k .top = .ptr 4 (B.getD j 0) 0 0:=by simp[List.getD,hj,bp]
    have hbd:=hBF.bd j (hB.ao j hjm)
    unfold ga at hbd
    have htk:(ws.all.take (k+1)).map (yF U ws)=(ws.all.take k).map (yF U ws)++[yF U ws j]:=by
     rw[List.take_add_one,hj];simp
    obtain ⟨w7,F',p1,p2,p3,p4,p5,p6⟩:=tU (H:=F) (k:=3) (ty:=47) (xs:=(ws.all.take k).map (yF U ws)) (ys:=[yF U ws j]) (id:=io) (fun e=>(h3 e).1) (by simp only[List.length_map,List.length_take,List.length_cons,List.length_nil];omega)
    have adw:(ws.all.take k).map (yF U ws)++[yF U ws j]≠[]:=by simp
    obtain ⟨A2,PJ⟩:=p4 adw
    have e3:yF U ws j = .agg [.ak 1 (aZ (aR ws.bs j).path) none,.sc (.string (aR ws.bs j).name),aW 1 (aJ (aR ws.bs j).ct) (U.getD j 0)]:=rfl
    have p1':=p1
    have p2':=p2
    have p3':=p3
    rw[e3] at p1' p2' p3'
    have hwr:IntKind.i64.wrap ((k:Int)+1)=(k:Int)+1:=by simpa using wrap_i64 (by omega) (by omega)
    have hlen:(ws.all.map (bp B)).length=ws.all.length:=by simp
    refine acR hV d1 hal hg hbd p1' p2' p3' hlen hd hwr ?_
    refine ⟨by omega,dY _ _ ⟨k+1,w7,by omega,⟨fun id hid=>?_,by omega,fun _=>?_⟩,?_⟩ (by simp[bL,mk];omega)⟩
    ·rw[p6 id (by omega) (fun e=>by have:=(h3 e).2;omega),h1 id hid]
    ·rw[htk]
     exact ⟨A2,by omega⟩
    ·rw[htk,hV,e3]
     simp[Fr]
   ·have d1:¬(k:Int)<ws.all.length:=by omega
    have UM:ws.all.take k=ws.all:=List.take_of_length_le (by omega)
    rw[UM] at h3 ⊢
    refine Tj d1 ?_
    clear dY
    refine hL _ _ ?_
    clear hL
    refine ax ?_
    rw[pM,List.map_map]
    refine E6 (fun id b hb=>?_) (Ah (ty:=47) (fun e=>?_) (fun e=>(h3 e).1) (IA hB h1 (fun id c b hb=>?_) fun j hj=>hB.ao j hj))
    ·have hid:=Y.am hb
     rw[h1 id (by have:=hK.1;simp only[List.length_cons] at this;omega)]
     obtain ⟨b',e1,e2⟩:=pQ id hid
     rw[hb] at e1
     cases e1
     exact hK.2 id b (by rw[ai hid];exact hb) (.inl e2)
    ·unfold dj
     rw[if_neg (by have:=(h3 e).2;have:=hK.1;simp only[List.length_cons] at this;omega)]
     simp
    ·obtain ⟨b',e1,e2⟩:=pQ id c
     have:=hK.2 id b' (by rw[ai c];exact e1) (.inl e2)
     rw[hb] at this
     cases this
     exact e2
 ·have hb:aI n=[]:=by unfold aI;rw[if_neg hc]
  rw[hb]
  refine de hc ?_
  exact di (.cons .refl) .nil
set_option maxRecDepth 1000000
def Zw:IC:=(.seq (.ops [iH 2 (.box 4 25 (.t 0)),iH 3 (.box 4 25 (.t 1)),iP 4 (.mv kF)]) (.seq (.ops [iP 5 (.mv (.k (.fn (.func 30) [] [])))]) (.seq (.dL [iH 6 (yA 4 2),iH 7 (.call 33 [(.t 6)]),iM 8 7,gH 9 8 .true (yA 4 3),gH 10 8 .true (.call 33 [(.t 9)]),iP 11 (.pick (.t 8) (.t 10) kF),iM 12 11,gH 13 12 .true (yA 4 2),gH 14 12 .true (yA 4 3),gH 15 12 .true (yC 34 13 14),iP 16 (.pick (.t 12) (.t 15) kF),iM 17 16,gH 18 17 .true (yA 4 2),gH 19 17 .true (.call 23 [(.t 18)]),gH 20 17 .true (yA 4 3),gH 21 17 .true (.call 23 [(.t 20)]),gM 22 17 .true 5,gH 23 17 .true (.call 35 [(.t 19),(.t 21),(.t 22)]),iP 24 (.pick (.t 17) (.t 23) kF),iM 4 24] [[],[0],[1,0],[2,1,0],[3,2,1,0],[2,1,0,4,3],[5,2,1,0,4,3],[6,5,2,1,0,4,3],[6,5,2,1,0,4,3],[7,6,5,2,1,0,4,3,8],[6,5,2,1,0,4,3,9,7,8],[10,6,5,2,1,0,4,3,9,7,8],[11,10,6,5,2,1,0,4,3,9,7,8],[12,11,10,6,5,2,1,0,4,3,9,7,8],[11,10,6,5,2,1,0,4,3,9,7,8],[14,11,10,6,5,2,1,0,4,3,9,7,8,13,12],[11,10,6,5,2,1,0,4,3,9,7,8],[13,12,11,10,6,5,2,1,0,4,3,9,7,8,15,14,16],[11,10,6,5,2,1,0,4,3,9,7,8,17,13,12,15,14,16],[18,11,10,6,5,2,1,0,4,3,9,7,8,17,13,12,15,14,16]]) .ret)))
theorem adx:Dk Tryz.prog 10 Zw [(.t 4)] 25:=bj (fn:=Tryz.f10) Tryz.func10 (by kernel_rfl) (by kernel_rfl) (by kernel_rfl)
def Zx:IC:=(.seq (.ops [iH 2 (.box 3 47 (.t 0)),iH 3 (.box 3 47 (.t 1)),iP 4 (.mv kF)]) (.seq (.ops [iP 5 (.av 0 (.t 2)),iH 6 (yD 1 5),iP 7 (.av 0 (.t 3)),iH 8 (yD 1 7),iH 9 (yC 31 6 8),iM 10 9,gP 11 10 .true (.av 2 (.t 2)),gH 12 10 .true (yD 1 11),gP 13 10 .true (.av 2 (.t 3)),gH 14 10 .true (yD 1 13),gH 15 10 .true (.call 32 [(.t 12),(.t 14),(.k (.fn (.func 31) [] []))]),iP 16 (.pick (.t 10) (.t 15) kF),iM 4 16]) .ret))
theorem ady:Dk Tryz.prog 30 Zx [(.t 4)] 17:=bj (fn:=Tryz.f30) Tryz.func30 (by kernel_rfl) (by kernel_rfl) (by kernel_rfl)
def Zy:IC:=(.seq (.ops [iH 3 (.box 4 25 (.t 0)),iH 5 (.box 1 30 (.t 2)),⟨(some 6),none,(.h (.alloc (.agg [(.sc (.int .u8 0)),(.sc (.string ⟨#[]⟩)),(.sc (.int .i64 0)),cJ]) 25))⟩,iP 7 (xI 0)]) (.seq (.block 0 (.seq (.ops [iP 13 (.av 0 (.t 3)),iH 14 (yD 1 13),iP 15 (.bP .neq (.t 14) (.k (.sc (.int .u8 1)))),iM 16 15,gH 17 16 .false (yA 4 3),gH 18 16 .false (.call 40 [(.t 17)]),gP 19 16 .false (xN 18),iP 20 (.pick (.t 16) kT (.t 19)),iM 12 20]) (.cond (.t 12) (.seq (.ops [⟨(some 21),none,(.p (.build [(.sc (.int .u8 0)),(.sc (.string ⟨#[]⟩)),(.sc (.int .i64 0)),cJ] []))⟩,iS 4 6 21,iP 7 (xI 4)]) .ret) (.seq (.ops [iH 23 (yA 4 3),iH 24 (.call 33 [(.t 23)]),iP 25 (xN 24),iM 22 25]) (.cond (.t 22) (.seq (.ops [⟨(some 26),none,(.p (.build [(.sc (.int .u8 0)),(.sc (.string ⟨#[]⟩)),(.sc (.int .i64 0)),cJ] []))⟩,iS 4 6 26,iP 7 (xI 122)]) .ret) .skip))))) (.seq (.ops [iH 27 (yA 4 3),iH 28 (.call 23 [(.t 27)]),iM 8 28]) (.seq (.ops [iM 29 8,iP 30 (.kZ (.func 42) [] [(.t 5)]),iH 31 (yC 41 29 30),iM 9 31]) (.seq (.block 1 (.seq (.ops [iM 33 9,iP 34 (.bP .lss (.t 33) (kI 0)),iM 32 34]) (.cond (.t 32) (.seq (.ops [⟨(some 35),none,(.p (.build [(.sc (.int .u8 0)),(.sc (.string ⟨#[]⟩)),(.sc (.int .i64 0)),cJ] []))⟩,iS 4 6 35,iP 7 (xI 6)]) .ret) (.seq (.ops [iM 37 1,iH 38 (.call 43 [(.t 37)]),iP 39 (xN 38),iM 36 39]) (.cond (.t 36) (.seq (.ops [⟨(some 40),none,(.p (.build [(.sc (.int .u8 0)),(.sc (.string ⟨#[]⟩)),(.sc (.int .i64 0)),cJ] []))⟩,iS 4 6 40,iP 7 (xI 2)]) .ret) .skip))))) (.seq (.ops [iM 41 1,⟨(some 42),none,(.p (.build [cJ,(.sc (.string ⟨#[]⟩))] [(1,1,(.t 41))]))⟩,iH 43 (.box 2 66 (.t 42)),iM 10 43]) (.seq (.dL [iM 44 10,iP 45 (.cI (.t 44)),iP 46 (.av 0 (.t 45)),iH 47 (yD 1 5),iH 48 (.eE 1 30 cJ 1 [(0,(.t 47))]),iH 49 (yC 44 46 48)] [[],[0],[1,0],[],[3],[2,1,0,4,3]]) (.seq (.dL [iM 50 10,iP 51 (.cI (.t 50)),iP 52 (.av 0 (.t 51)),iM 53 8,iM 54 9,iP 55 (xA 3 53 54),iP 56 (.av 2 (.t 55)),iH 57 (yD 1 56),iH 58 (yC 44 52 57)] [[],[0],[1,0],[],[],[3,4],[5,3,4],[6,5,3,4],[2,1,0,7,6,5,3,4]]) (.seq (.ops [iM 59 10,iH 60 (yA 4 3),iH 61 (yC 45 59 60),⟨(some 11),none,(.h (.alloc (.agg [(.sc (.int .u8 0)),(.sc (.string ⟨#[]⟩)),(.sc (.int .i64 0)),cJ]) 25))⟩,iS 4 11 61]) (.seq (.seq (.ops [iH 62 (yA 4 3),iH 63 (yA 4 11),iH 64 (yC 10 62 63),iP 65 (xN 64)]) (.cond (.t 65) (.seq (.ops [⟨(some 66),none,(.p (.build [(.sc (.int .u8 0)),(.sc (.string ⟨#[]⟩)),(.sc (.int .i64 0)),cJ] []))⟩,iS 4 6 66,iP 7 (xI 120)]) .ret) .skip)) (.seq (.ops [iH 67 (yA 4 11),iS 4 6 67,iP 7 (xI 0)]) .ret)))))))))))
theorem adz:Dk Tryz.prog 14 Zy [(.c 6 4 .true),(.t 7)] 68:=bj (fn:=Tryz.f14) Tryz.func14 (by kernel_rfl) (by kernel_rfl) (by kernel_rfl)
def Zz:IC:=(.seq (.ops [iH 2 (.box 3 47 (.t 0)),iP 3 (.mv kF)]) (.seq (.ops [iP 4 (.av 0 (.t 2)),iH 5 (yD 1 4),iH 6 (yD 1 1),iH 7 (yC 31 5 6),iM 3 7]) .ret))
theorem adA:Dk Tryz.prog 42 Zz [(.t 3)] 8:=bj (fn:=Tryz.f42) Tryz.func42 (by kernel_rfl) (by kernel_rfl) (by kernel_rfl)
def ZA:IC:=(.seq (.ops [iH 1 (.box 4 25 (.t 0)),iP 2 (.mv kF)]) (.seq (.ops [iP 3 (.av 0 (.t 1)),iH 4 (yD 1 3),iP 5 (.bP .eql (.t 4) (.k (.sc (.int .u8 1)))),iM 6 5,gH 7 6 .true (yA 4 1),gH 8 6 .true (.call 57 [(.t 7)]),gP 9 6 .true (.field 0 1 .false (.t 8)),gP 10 6 .true (.bP .eql (.t 9) (kI 0)),iP 11 (.pick (.t 6) (.t 10) kF),iM 2 11]) .ret))
theorem adB:Dk Tryz.prog 33 ZA [(.t 2)] 12:=bj (fn:=Tryz.f33) Tryz.func33 (by kernel_rfl) (by kernel_rfl) (by kernel_rfl)
def ZB:IC:=(.seq (.ops [iH 2 (.box 4 25 (.t 0)),iH 3 (.box 4 25 (.t 1)),iP 4 (.mv kF)]) (.seq (.ops [iP 5 (.av 0 (.t 2)),iH 6 (yD 1 5),iP 7 (.av 0 (.t 3)),iH 8 (yD 1 7),iP 9 (xB .eql 6 8),iM 10 9,gP 11 10 .true (.av 2 (.t 2)),gH 12 10 .true (yD 1 11),gP 13 10 .true (.av 2 (.t 3)),gH 14 10 .true (yD 1 13),gP 15 10 .true (xB .eql 12 14),iP 16 (.pick (.t 10) (.t 15) kF),iM 17 16,gP 18 17 .true (.av 0 (.t 2)),gH 19 17 .true (yD 1 18),gH 20 17 .true (.call 64 [(.t 19)]),gM 21 17 .true 20,gP 22 21 .false (.av 1 (.t 2)),gH 23 21 .false (yD 1 22),gP 24 21 .false (.av 1 (.t 3)),gH 25 21 .false (yD 1 24),gP 26 21 .false (xB .eql 23 25),gP 27 17 .true (.pick (.t 21) kT (.t 26)),iP 28 (.pick (.t 17) (.t 27) kF),iM 29 28,gP 30 29 .true (.av 3 (.t 2)),gH 31 29 .true (yD 1 30),gP 32 29 .true (.av 3 (.t 3)),gH 33 29 .true (yD 1 32),gH 34 29 .true (.call 65 [(.t 31),(.t 33),(.k (.fn (.func 34) [] []))]),iP 35 (.pick (.t 29) (.t 34) kF),iM 4 35]) .ret))
theorem adC:Dk Tryz.prog 34 ZB [(.t 4)] 36:=bj (fn:=Tryz.f34) Tryz.func34 (by kernel_rfl) (by kernel_rfl) (by kernel_rfl)
def ZC:IC:=(.seq (.ops [iP 2 (.mv kF)]) (.seq (.ops [iH 3 (.eE 1 22 (.sc (.int .u8 0)) 5 [(0,(.k (.sc (.int .u8 2)))),(1,(.k (.sc (.int .u8 4)))),(2,(.k (.sc (.int .u8 6)))),(3,(.k (.sc (.int .u8 22)))),(4,(.k (.sc (.int .u8 25))))]),iM 4 0,iH 5 (yC 121 3 4),iM 2 5]) .ret))
theorem adD:Dk Tryz.prog 64 ZC [(.t 2)] 6:=bj (fn:=Tryz.f64) Tryz.func64 (by kernel_rfl) (by kernel_rfl) (by kernel_rfl)
def ZD:IC:=(.seq (.ops [iP 6 (.mv kF)]) (.seq (.ops [iM 7 0,iM 8 1,iM 9 2,iH 10 (.call 63 [(.t 7),(.t 8),(.t 9)]),iM 6 10]) .ret))
theorem adE:Dk Tryz.prog 32 ZD [(.t 6)] 11:=bj (fn:=Tryz.f32) Tryz.func32 (by kernel_rfl) (by kernel_rfl) (by kernel_rfl)
def ZE:IC:=(.seq (.ops [iP 6 (.mv kF)]) (.seq (.ops [iM 7 0,iM 8 1,iM 9 2,iH 10 (.call 66 [(.t 7),(.t 8),(.t 9)]),iM 6 10]) .ret))
theorem adF:Dk Tryz.prog 35 ZE [(.t 6)] 11:=bj (fn:=Tryz.f35) Tryz.func35 (by kernel_rfl) (by kernel_rfl) (by kernel_rfl)
def ZF:IC:=(.seq (.ops [iP 6 (.mv kF)]) (.seq (.ops [iM 7 0,iM 8 1,iM 9 2,iH 10 (.call 122 [(.t 7),(.t 8),(.t 9)]),iM 6 10]) .ret))
theorem adG:Dk Tryz.prog 65 ZF [(.t 6)] 11:=bj (fn:=Tryz.f65) Tryz.func65 (by kernel_rfl) (by kernel_rfl) (by kernel_rfl)
def ZG:IC:=(.seq (.ops [iP 4 (xI 0)]) (.seq (.seq (.ops [iM 6 0,iP 7 (xL 6),iP 8 (xI 0)]) (.block 0 (.loop (.seq (.ops [iP 9 (xB .lss 8 7)]) (.seq (.cond (.t 9) .skip (.exit 0)) (.seq (.block 1 (.seq (.ops [iM 10 8,iM 5 10]) (.seq (.ops [iM 11 1,iM 12 0,iM 13 5,iP 14 (xA 3 12 13),iH 15 (yA 3 14),iH 16 (.bD (.t 11) [(.t 15)])]) (.cond (.t 16) (.seq (.ops [iM 17 5,iM 4 17]) .ret) .skip)))) (.ops [iP 18 (.bP .add (.t 8) (kI 1)),iM 8 18]))))))) (.seq (.ops [iP 4 (xI (-1))]) .ret)))
theorem adH:Dk Tryz.prog 41 ZG [(.t 4)] 19:=bj (fn:=Tryz.f41) Tryz.func41 (by kernel_rfl) (by kernel_rfl) (by kernel_rfl)
def ZH:IC:=(.seq (.ops [iP 6 (.mv kF)]) (.seq (.seq (.ops [iM 10 0,iP 11 (xL 10),iM 12 1,iP 13 (xL 12),iP 14 (xB .neq 11 13)]) (.cond (.t 14) (.seq (.ops [iP 6 (.mv kF)]) .ret) .skip)) (.seq (.seq (.ops [iM 15 0,iP 16 (xL 15),iP 17 (xI 0)]) (.block 0 (.loop (.seq (.ops [iP 18 (xB .lss 17 16)]) (.seq (.cond (.t 18) .skip (.exit 0)) (.seq (.block 1 (.seq (.ops [iM 19 17,iP 20 (xA 1 15 17),iH 21 (yD 1 20),iM 7 19,iM 8 21]) (.seq (.ops [iM 22 1,iM 23 7,iP 24 (xA 1 22 23),iH 25 (yD 1 24),iM 9 25]) (.seq (.ops [iM 26 2,iM 27 8,iM 28 9,iH 29 (.bD (.t 26) [(.t 27),(.t 28)]),iP 30 (xN 29)]) (.cond (.t 30) (.seq (.ops [iP 6 (.mv kF)]) .ret) .skip))))) (.ops [iP 31 (.bP .add (.t 17) (kI 1)),iM 17 31]))))))) (.seq (.ops [iP 6 (.mv kT)]) .ret))))
theorem adI:Dk Tryz.prog 63 ZH [(.t 6)] 32:=bj (fn:=Tryz.f63) Tryz.func63 (by kernel_rfl) (by kernel_rfl) (by kernel_rfl)
def ZI:IC:=(.seq (.ops [iP 6 (.mv kF)]) (.seq (.seq (.ops [iM 10 0,iP 11 (xL 10),iM 12 1,iP 13 (xL 12),iP 14 (xB .neq 11 13)]) (.cond (.t 14) (.seq (.ops [iP 6 (.mv kF)]) .ret) .skip)) (.seq (.seq (.ops [iM 15 0,iP 16 (xL 15),iP 17 (xI 0)]) (.block 0 (.loop (.seq (.ops [iP 18 (xB .lss 17 16)]) (.seq (.cond (.t 18) .skip (.exit 0)) (.seq (.block 1 (.seq (.ops [iM 19 17,iP 20 (xA 3 15 17),iH 21 (yA 3 20),⟨(some 8),none,(.h (.alloc (.agg [cJ,(.sc (.string ⟨#[]⟩)),cJ]) 47))⟩,iM 7 19,iS 3 8 21]) (.seq (.ops [iM 22 1,iM 23 7,iP 24 (xA 3 22 23),iH 25 (yA 3 24),⟨(some 9),none,(.h (.alloc (.agg [cJ,(.sc (.string ⟨#[]⟩)),cJ]) 47))⟩,iS 3 9 25]) (.seq (.ops [iM 26 2,iH 27 (yA 3 8),iH 28 (yA 3 9),iH 29 (.bD (.t 26) [(.t 27),(.t 28)]),iP 30 (xN 29)]) (.cond (.t 30) (.seq (.ops [iP 6 (.mv kF)]) .ret) .skip))))) (.ops [iP 31 (.bP .add (.t 17) (kI 1)),iM 17 31]))))))) (.seq (.ops [iP 6 (.mv kT)]) .ret))))
theorem adJ:Dk Tryz.prog 66 ZI [(.t 6)] 32:=bj (fn:=Tryz.f66) Tryz.func66 (by kernel_rfl) (by kernel_rfl) (by kernel_rfl)
def UW:IC:=(.seq (.ops [iP 4 (.mv kF)]) (.seq (.ops [iM 5 0,iM 6 1,iH 7 (yC 181 5 6),iP 8 (.bP .geq (.t 7) (kI 0)),iM 4 8]) .ret))
theorem abG:Dk Tryz.prog 128 UW [(.t 4)] 9:=bj (fn:=Tryz.f128) Tryz.func128 (by kernel_rfl) (by kernel_rfl) (by kernel_rfl)
def UX:IC:=(.seq (.ops [iP 4 (xI 0)]) (.seq (.seq (.ops [iM 6 0,iP 7 (xL 6),iP 8 (xI 0)]) (.block 0 (.loop (.seq (.ops [iP 9 (xB .lss 8 7)]) (.seq (.cond (.t 9) .skip (.exit 0)) (.seq (.block 1 (.seq (.ops [iM 10 8,iM 5 10]) (.seq (.ops [iM 11 1,iM 12 0,iM 13 5,iP 14 (xA 1 12 13),iH 15 (yD 1 14),iH 16 (.bD (.t 11) [(.t 15)])]) (.cond (.t 16) (.seq (.ops [iM 17 5,iM 4 17]) .ret) .skip)))) (.ops [iP 18 (.bP .add (.t 8) (kI 1)),iM 8 18]))))))) (.seq (.ops [iP 4 (xI (-1))]) .ret)))
theorem abH:Dk Tryz.prog 181 UX [(.t 4)] 19:=bj (fn:=Tryz.f181) Tryz.func181 (by kernel_rfl) (by kernel_rfl) (by kernel_rfl)
def ZJ:IC:=(.ops [iM 4 0,iM 5 0,iP 6 (.cI (.t 5)),iP 7 (.av 0 (.t 6)),iH 8 (yD 1 7),iM 9 1,iH 10 (.eN 1 30 (.t 8) (.t 9)),iP 11 (.cI (.t 4)),iP 12 (.av 0 (.t 11)),iS 1 12 10])
theorem adK:Dk Tryz.prog 44 ZJ [] 13:=bj (fn:=Tryz.f44) Tryz.func44 (by kernel_rfl) (by kernel_rfl) (by kernel_rfl)
def ZK:IC:=(.seq (.ops [iH 3 (.box 1 30 (.t 1)),iP 4 (.mv kF)]) (.seq (.ops [iM 5 0,iP 6 (.cI (.t 5)),iP 7 (.av 0 (.t 6)),iH 8 (yD 1 7),iP 9 (.kZ (.func 129) [] [(.t 3)]),iH 10 (yC 128 8 9),iM 4 10]) .ret))
theorem adL:Dk Tryz.prog 76 ZK [(.t 4)] 11:=bj (fn:=Tryz.f76) Tryz.func76 (by kernel_rfl) (by kernel_rfl) (by kernel_rfl)
def UY:IC:=(.seq (.ops [iP 3 (.mv kF)]) (.seq (.ops [iM 4 0,iH 5 (yD 1 1),iH 6 (yC 31 4 5),iM 3 6]) .ret))
theorem abI:Dk Tryz.prog 129 UY [(.t 3)] 7:=bj (fn:=Tryz.f129) Tryz.func129 (by kernel_rfl) (by kernel_rfl) (by kernel_rfl)
def ZL:IC:=(.seq (.ops [iH 2 (.box 1 62 (.t 0)),iH 3 (.box 4 25 (.t 1)),⟨(some 4),none,(.h (.alloc (.agg [(.sc (.int .u8 0)),(.sc (.string ⟨#[]⟩)),(.sc (.int .i64 0)),cJ]) 25))⟩]) (.seq (.ops [iH 5 (.alloc cJ 30)]) (.seq (.ops [iH 6 (.alloc (.sc .nilFunc) 28)]) (.seq (.ops [iP 7 (.kZ (.func 75) [] [(.t 2),(.t 5),(.t 6)]),iS 1 6 7]) (.seq (.ops [iH 8 (yD 1 6),iH 9 (yA 4 3),iH 10 (.bD (.t 8) [(.t 9)]),iS 4 4 10]) .ret)))))
theorem adM:Dk Tryz.prog 45 ZL [(.c 4 4 .true)] 11:=bj (fn:=Tryz.f45) Tryz.func45 (by kernel_rfl) (by kernel_rfl) (by kernel_rfl)
def gb:IC:=(.seq (.ops [iH 4 (.box 4 25 (.t 0)),⟨(some 5),none,(.h (.alloc (.agg [(.sc (.int .u8 0)),(.sc (.string ⟨#[]⟩)),(.sc (.int .i64 0)),cJ]) 25))⟩]) (.seq (.seq (.dL [iH 9 (yD 1 1),iP 10 (.cI (.t 9)),iP 11 (.av 0 (.t 10)),iH 12 (yD 1 2),iH 13 (yC 76 11 12)] [[],[0],[1,0],[],[2,1,0,3]]) (.cond (.t 13) (.ops [iH 14 (yD 1 1),iP 15 (.cI (.t 14)),iP 16 (.av 1 (.t 15)),iH 17 (yD 1 16),iP 18 (.av 1 (.t 4)),iS 1 18 17]) .skip)) (.seq (.ops [iP 19 (.av 3 (.t 4)),iH 20 (yD 1 19),iM 6 20]) (.seq (.ops [iP 21 (.av 3 (.t 4)),⟨none,none,(.h (.store 1 (.t 21) (.k cJ)))⟩]) (.seq (.seq (.ops [iM 22 6,iP 23 (xL 22),iP 24 (xI 0)]) (.block 0 (.loop (.seq (.ops [iP 25 (xB .lss 24 23)]) (.seq (.cond (.t 25) .skip (.exit 0)) (.seq (.block 1 (.seq (.ops [iM 26 24,iP 27 (xA 4 22 24),iH 28 (yA 4 27),⟨(some 8),none,(.h (.alloc (.agg [(.sc (.int .u8 0)),(.sc (.string ⟨#[]⟩)),(.sc (.int .i64 0)),cJ]) 25))⟩,iM 7 26,iS 4 8 28]) (.seq (.ops [iH 29 (yD 1 2),iM 30 7,iH 31 (.eE 1 3 (.sc (.int .i64 0)) 1 [(0,(.t 30))]),iH 32 (.eN 1 3 (.t 29) (.t 31)),iS 1 2 32]) (.seq (.dL [iP 33 (.av 3 (.t 4)),iH 34 (yD 1 33),iH 35 (yD 1 3),iH 36 (yA 4 8),iH 37 (.bD (.t 35) [(.t 36)]),⟨(some 38),none,(.h (.eE 4 25 (.agg [(.sc (.int .u8 0)),(.sc (.string ⟨#[]⟩)),(.sc (.int .i64 0)),cJ]) 1 [(0,(.t 37))]))⟩,iH 39 (.eN 4 25 (.t 34) (.t 38)),iP 40 (.av 3 (.t 4)),iS 1 40 39] [[],[0],[],[],[2,3],[4,2,3],[1,0,5,4,2,3],[0,1,2,3,4,5,6],[7,0,1,2,3,4,5,6]]) (.ops [iH 41 (yD 1 2),iH 42 (yD 1 2),iP 43 (xL 42),iP 44 (.bP .sub (.t 43) (kI 1)),iP 45 (.yq 1 (.t 41) none (some (.t 44)) none),iS 1 2 45]))))) (.ops [iP 46 (.bP .add (.t 24) (kI 1)),iM 24 46]))))))) (.seq (.ops [iH 47 (yA 4 4),iS 4 5 47]) .ret))))))
set_option maxRecDepth 100000
theorem PY(k:Int)(H:Y):D Tryz.prog 64 [.sc (.int .u8 k)] H (.ret (.sc (.bool (dF k)))) H:=by
 refine aF (Nat.le_refl _) (adD (aE ?_))
 simp only[ZC,ux]
 have hc:=uY [2,4,6,22,25] (some []) k (by decide)
 rw[show An [2,4,6,22,25]=[.sc (.int .u8 2),.sc (.int .u8 4),.sc (.int .u8 6),.sc (.int .u8 22),.sc (.int .u8 25)] from rfl] at hc
 refine ax ?_
 refine af (hc _) ?_
 refine ax ?_
 exact az .refl (Ap k)
set_option maxHeartbeats 0 in
theorem IB(l:List Nd)(hz:Nd.aw l≤1000000)(ih:∀a∈l,∀(b:Nd)(H:Y),D Tryz.prog 34 [eG a none,eG b none] H (.ret (.sc (.bool (jN a b)))) H)(m:List Nd)(ro lz:Option (List Z))(H:Y):D Tryz.prog 122 [.ak 4 (bM l) ro,.ak 4 (bM m) lz,.fn (.func 34) [] []] H (.ret (.sc (.bool (jg l m)))) H:=by
 have hl:=Nd.kR l
 have cl:bA Tryz.prog 34=true:=by kernel_rfl
 refine aF (Nat.le_refl _) (abi (aE ?_))
 simp only[Tv,ux]
 refine ae fun L hL=>?_
 refine ax ?_
 refine hL _ _ ?_
 clear hL
 refine ae fun L hL=>?_
 by_cases c1:l.length=m.length
 rotate_left
 ·have c2:¬(l.length:Int)=m.length:=by omega
  refine fE @aL c2 ?_
  exact az .refl (AF c1).symm
 have c2:(l.length:Int)=m.length:=by omega
 refine fE @aL c2 ?_
 refine hL _ _ ?_
 clear hL
 refine ae fun L hL=>?_
 refine de @aL ?_
 refine cO (fun ts F=>∃k:Nat,(k≤l.length∧∀j,j<k→jN (au l j) (au m j)=true)∧Over H F∧Fr [some (.ak 4 (bM l) ro),some (.ak 4 (bM m) lz),some (.fn (.func 34) [] []),none,none,none,some (.sc (.bool false)),none,none,none,none,none,none,none,none,some (.ak 4 (bM l) ro),some (.sc (.int .i64 l.length)),some (.sc (.int .i64 k)),none,none,none,none,none,none,none,none,none,none,none,none,none,none] ts) (fun ts _=>l.length - (bL (ts.getD 17 .top)).toNat) ?_ ?_
 ·exact ⟨0,⟨Nat.zero_le _,fun j h=>absurd h (Nat.not_lt_zero _)⟩,.refl,by simp[Fr]⟩
 rintro ts F ⟨k,⟨hk,hp⟩,hF,cv⟩ L2 dY
 obtain ⟨js,rfl⟩:=cv.opened
 clear cv
 by_cases hd:k<l.length
 ·have d1:(k:Int)<l.length:=by omega
  have d2:(k:Int)<m.length:=by omega
  have hg:=eK hd
  have yG:=eK (l:=m) (k:=k) (by omega)
  have hi:=fun H=>ih _ (eF hd) (au m k) H
  rw[aH,aH] at hi
  refine KG d1 d2 hg yG @aL ?_
  refine ⟨by omega,by omega,cl,af (hi _) ?_⟩
  cases e1:jN (au l k) (au m k)
  ·refine ax ?_
   exact az (.cons (.cons hF)) (TZ c1 hd e1).symm
  refine ax ?_
  refine dY _ _ ⟨k+1,⟨by omega,fun j hj=>?_⟩,.cons (.cons hF),by simp[Fr]⟩ (by simp[bL,mk];omega)
  rcases Nat.lt_succ_iff_lt_or_eq.1 hj with h' | rfl
  ·exact hp j h'
  ·exact e1
 ·have d1:¬(k:Int)<l.length:=by omega
  refine Ak d1 ?_
  refine hL _ _ ?_
  clear hL
  refine tF ?_
  exact az hF (AG c1 fun j hj=>hp j (by omega)).symm
set_option maxHeartbeats 0 in
theorem Yb(a:Nd):∀(hz:a.size≤1000000)(b:Nd)(ro lz:Option (List Z))(H:Y),D Tryz.prog 34 [eG a ro,eG b lz] H (.ret (.sc (.bool (jN a b)))) H:=by
 induction a using Nd.ind with
 | _ a ih =>
  intro hz b ro lz H
  have hs:=Nd.size_eq a
  have hk:=fun H=>IB a.kids (by omega) (fun x hx b H=>ih x hx (by have:=Nd.pz hx;omega) b none none H) b.kids ro lz H
  have he:∀H,D Tryz.prog 65 [.ak 4 (bM a.kids) ro,.ak 4 (bM b.kids) lz,.fn (.func 34) [] []] H (.ret (.sc (.bool (jg a.kids b.kids)))) H:=fun H=>by
   refine aF (Nat.le_refl _) (adG (aE ?_))
   simp only[ZF,ux]
   refine ax ?_
   refine af (hk _) ?_
   refine ax ?_
   exact az .refl rfl
  have hq:=wT a b
  rw[aH,aH]
  refine aF (Nat.le_refl _) (adC (aE ?_))
  simp only[ZB,ux]
  refine ae fun L hL=>?_
  refine ax ?_
  refine hL _ _ ?_
  clear hL
  refine ae fun L hL=>?_
  by_cases c1:a.kind=b.kind
  rotate_left
  ·refine de c1 ?_
   refine hL _ _ ?_
   clear hL
   refine ax ?_
   exact az (.cons (.cons .refl)) (by rw[hq];simp[c1])
  have zG:=decide_eq_true c1
  by_cases c3:a.num=b.num
  rotate_left
  ·refine fE zG c3 ?_
   refine hL _ _ ?_
   clear hL
   refine ax ?_
   exact az (.cons (.cons .refl)) (by rw[hq];simp[c3])
  have c3':=decide_eq_true c3
  refine fE zG c3' ?_
  refine af (PY _ _) ?_
  cases cn:dF a.kind
  ·by_cases c2:a.text=b.text
   rotate_left
   ·refine fE cn c2 ?_
    refine hL _ _ ?_
    clear hL
    refine ax ?_
    exact az (.cons (.cons .refl)) (by rw[hq];simp[cn,c2])
   ·have Yc:=decide_eq_true c2
    refine fE cn Yc ?_
    refine af (he _) ?_
    refine ax ?_
    refine hL _ _ ?_
    clear hL
    refine ax ?_
    exact az (.cons (.cons .refl)) (by rw[hq];simp[cn,c1,c2,c3])
  ·refine de cn ?_
   refine af (he _) ?_
   refine ax ?_
   refine hL _ _ ?_
   clear hL
   refine ax ?_
   exact az (.cons (.cons .refl)) (by rw[hq,cn];simp[c1,c3])
mutual
theorem LA(H:Y):∀t:Nd,View H (fI t) (fI t)
 | ⟨k,s,n,l⟩=>by
  simp only[fI]
  exact .agg (.cons .sc (.cons .sc (.cons .sc (.cons (.ak (tZ H l)) .nil))))
theorem tZ(H:Y):∀l:List Nd,cq H (bM l) (bM l)
 | []=>.nil
 | t::r=>by
  simp only[bM]
  exact .cons (LA H t) (tZ H r)
end
theorem cZ(t:Nd)(ro:Option (List Z))(H:Y):View H (eG t ro) (fI t):=by
 rw[fS,aH]
 exact .agg (.cons .sc (.cons .sc (.cons .sc (.cons (.ak (tZ H t.kids)) .nil))))
set_option maxHeartbeats 0 in
theorem ua(n:Nd)(hw:n.wt≤500000)(hs:n.size≤500000)(ro:Option (List Z))(H:Y):D Tryz.prog 33 [eG n ro] H (.ret (.sc (.bool (dl n)))) H:=by
 have lF:=fun H=>Iy n hw hs (cZ n ro H)
 rw[aH] at lF ⊢
 unfold MY at lF
 refine aF (Nat.le_refl _) (adB (aE ?_))
 simp only[ZA,ux]
 refine ae fun L hL=>?_
 refine ax ?_
 refine hL _ _ ?_
 clear hL
 refine ae fun L hL=>?_
 by_cases c1:n.kind=1
 rotate_left
 ·refine de c1 ?_
  refine hL _ _ ?_
  clear hL
  refine ax ?_
  exact az (.cons .refl) (by simp[dl,c1])
 rw[c1] at lF
 refine de c1 ?_
 refine af (lF _) ?_
 refine ax ?_
 refine hL _ _ ?_
 clear hL
 refine ax ?_
 exact az (.cons .refl) (by simp[dl,c1])
def c9(l:List (List Int))(k:Nat):List Int:=l.getD k []
theorem cE(l:List (List Int)):(aJ l).length=l.length:=by simp[aJ]
theorem kJ{l:List (List Int)}{k:Nat}(h:k<l.length):(aJ l).getD k .top = .ak 1 (aZ (c9 l k)) none:=by simp[aJ,c9,List.getD,h]
theorem vG{l:List (List Int)}{k:Nat}(h:k<l.length):c9 l k=l[k]:=by simp[c9,List.getD,h]
theorem DA{a b:List (List Int)}(h:a.length=b.length)(e:∀j,j<a.length→c9 a j=c9 b j):a=b:=by
 refine List.ext_getElem h fun i h1 h2=>?_
 have:=e i h1
 rwa [vG h1,vG h2] at this
set_option maxHeartbeats 0 in
theorem LB(l m:List (List Int))(ro lz:Option (List Z))(hz:l.length≤1000000)(hp:∀k,k<l.length→(c9 l k).length≤1000000)(H:Y):D Tryz.prog 63 [.ak 1 (aJ l) ro,.ak 1 (aJ m) lz,.fn (.func 31) [] []] H (.ret (.sc (.bool (decide (l=m))))) H:=by
 have cl:bA Tryz.prog 31=true:=by kernel_rfl
 refine aF (Nat.le_refl _) (adI (aE ?_))
 simp only[ZH,ux]
 refine ae fun L hL=>?_
 refine ax ?_
 refine hL _ _ ?_
 clear hL
 refine ae fun L hL=>?_
 by_cases c1:l.length=m.length
 rotate_left
 ·have c2:¬(l.length:Int)=m.length:=by omega
  refine fE @cE c2 ?_
  exact az .refl (by simp;intro e;exact c1 (by rw[e]))
 have c2:(l.length:Int)=m.length:=by omega
 refine fE @cE c2 ?_
 refine hL _ _ ?_
 clear hL
 refine ae fun L hL=>?_
 refine de @cE ?_
 refine cO (fun ts F=>∃k:Nat,(k≤l.length∧∀j,j<k→c9 l j=c9 m j)∧F=H∧Fr [some (.ak 1 (aJ l) ro),some (.ak 1 (aJ m) lz),some (.fn (.func 31) [] []),none,none,none,some (.sc (.bool false)),none,none,none,none,none,none,none,none,some (.ak 1 (aJ l) ro),some (.sc (.int .i64 l.length)),some (.sc (.int .i64 k)),none,none,none,none,none,none,none,none,none,none,none,none,none,none] ts) (fun ts _=>l.length - (bL (ts.getD 17 .top)).toNat) ?_ ?_
 ·exact ⟨0,⟨Nat.zero_le _,fun j h=>absurd h (Nat.not_lt_zero _)⟩,rfl,by simp[Fr]⟩
 rintro ts F ⟨k,⟨hk,ob⟩,rfl,cv⟩ L2 dY
 obtain ⟨js,rfl⟩:=cv.opened
 clear cv
 by_cases hd:k<l.length
 ·have d1:(k:Int)<l.length:=by omega
  have d2:(k:Int)<m.length:=by omega
  have hg:=kJ hd
  have yG:=kJ (l:=m) (k:=k) (by omega)
  have hi:=fun H=>sx (c9 l k) (c9 m k) none none H (by have:=hp k hd;omega)
  refine KG d1 d2 hg yG @cE ?_
  refine ⟨by omega,by omega,cl,af (hi _) ?_⟩
  by_cases e1:c9 l k=c9 m k
  ·refine de e1 ?_
   refine dY _ _ ⟨k+1,⟨by omega,fun j hj=>?_⟩,rfl,by simp[Fr]⟩ (by simp[bL,mk];omega)
   rcases Nat.lt_succ_iff_lt_or_eq.1 hj with h' | rfl
   ·exact ob j h'
   ·exact e1
  ·refine de e1 ?_
   exact az .refl (by simp;intro e;exact e1 (by rw[e]))
 ·have d1:¬(k:Int)<l.length:=by omega
  refine Ak d1 ?_
  refine hL _ _ ?_
  clear hL
  refine tF ?_
  have Ed:l=m:=DA c1 fun j hj=>ob j (by omega)
  exact az .refl (by simp[Ed])
theorem UZ(l m:List (List Int))(ro lz:Option (List Z))(hz:l.length≤1000000)(hp:∀k,k<l.length→(c9 l k).length≤1000000)(H:Y):D Tryz.prog 32 [.ak 1 (aJ l) ro,.ak 1 (aJ m) lz,.fn (.func 31) [] []] H (.ret (.sc (.bool (decide (l=m))))) H:=by
 refine aF (Nat.le_refl _) (adE (aE ?_))
 simp only[ZD,ux]
 refine ax ?_
 refine af (LB l m ro lz hz hp _) ?_
 refine ax ?_
 exact az .refl rfl
def E7(b:gv):Prop:=b.1.length≤1000000∧b.2.2.length≤1000000∧∀k,k<b.2.2.length→(c9 b.2.2 k).length≤1000000
set_option maxHeartbeats 0 in
theorem U1(x y:gv)(hx:E7 x)(H:Y):D Tryz.prog 30 [fN x,fN y] H (.ret (.sc (.bool (gy x y)))) H:=by
 have h1:=fun H=>sx x.1 y.1 none none H (by have:=hx.1;omega)
 have h2:=fun H=>UZ x.2.2 y.2.2 none none hx.2.1 hx.2.2 H
 unfold fN
 refine aF (Nat.le_refl _) (ady (aE ?_))
 simp only[Zx,ux]
 refine ae fun L hL=>?_
 refine ax ?_
 refine hL _ _ ?_
 clear hL
 refine ae fun L hL=>?_
 refine ax ?_
 refine af (h1 _) ?_
 by_cases e1:x.1=y.1
 ·refine de e1 ?_
  refine af (h2 _) ?_
  refine ax ?_
  refine hL _ _ ?_
  clear hL
  refine ax ?_
  exact az (.cons (.cons .refl)) (by simp[gy,e1])
 ·refine de e1 ?_
  refine hL _ _ ?_
  clear hL
  refine ax ?_
  exact az (.cons (.cons .refl)) (by simp[gy,e1])
def gv.none:gv:=([],⟨#[]⟩,[])
def cS(l:List gv)(k:Nat):gv:=l.getD k gv.none
theorem kK{l:List gv}{k:Nat}(h:k<l.length):(l.map fN).getD k .top = .agg [.ak 1 (aZ (cS l k).1) none,.sc (.string (cS l k).2.1),.ak 1 (aJ (cS l k).2.2) none]:=by simp[cS,List.getD,h,fN]
theorem rM:∀{a b:List gv},a.length=b.length→(dh a b=true↔∀j,j<a.length→gy (cS a j) (cS b j)=true)
 | [],[],_=>by simp[dh]
 | [],_::_,h=>by simp at h
 | _::_,[],h=>by simp at h
 | x::r,y::s,h=>by
  simp only[dh,Bool.and_eq_true]
  rw[rM (by simpa using h)]
  constructor
  ·rintro ⟨h1,h2⟩ j hj
   cases j with
   | zero=>simpa [cS] using h1
   | succ j=>simpa [cS] using h2 j (by simpa using hj)
  ·intro h
   exact ⟨by simpa [cS] using h 0 (by simp),fun j hj=>by simpa [cS] using h (j+1) (by simpa using hj)⟩
theorem DB:∀{a b:List gv},¬a.length=b.length→dh a b=false
 | [],[],h=>absurd rfl h
 | [],_::_,_=>by simp[dh]
 | _::_,[],_=>by simp[dh]
 | a::r,b::q,h=>by
  simp only[dh,Bool.and_eq_false_iff]
  exact .inr (DB (by simpa using h))
set_option maxHeartbeats 0 in
theorem LC(l m:List gv)(ro lz:Option (List Z))(hz:l.length≤1000000)(hp:∀k,k<l.length→E7 (cS l k))(H:Y):D Tryz.prog 66 [.ak 3 (l.map fN) ro,.ak 3 (m.map fN) lz,.fn (.func 30) [] []] H (.ret (.sc (.bool (dh l m)))) H:=by
 have cl:bA Tryz.prog 30=true:=by kernel_rfl
 have eI:∀l:List gv,(l.map fN).length=l.length:=fun l=>by simp
 refine aF (Nat.le_refl _) (adJ (aE ?_))
 simp only[ZI,ux]
 refine ae fun L hL=>?_
 refine ax ?_
 refine hL _ _ ?_
 clear hL
 refine ae fun L hL=>?_
 by_cases c1:l.length=m.length
 rotate_left
 ·have c2:¬(l.length:Int)=m.length:=by omega
  refine fE eI c2 ?_
  exact az .refl (DB c1).symm
 have c2:(l.length:Int)=m.length:=by omega
 refine fE eI c2 ?_
 refine hL _ _ ?_
 clear hL
 refine ae fun L hL=>?_
 refine de eI ?_
 refine cO (fun ts F=>∃k:Nat,(k≤l.length∧∀j,j<k→gy (cS l j) (cS m j)=true)∧Over H F∧Fr [some (.ak 3 (l.map fN) ro),some (.ak 3 (m.map fN) lz),some (.fn (.func 30) [] []),none,none,none,some (.sc (.bool false)),none,none,none,none,none,none,none,none,some (.ak 3 (l.map fN) ro),some (.sc (.int .i64 l.length)),some (.sc (.int .i64 k)),none,none,none,none,none,none,none,none,none,none,none,none,none,none] ts) (fun ts _=>l.length - (bL (ts.getD 17 .top)).toNat) ?_ ?_
 ·exact ⟨0,⟨Nat.zero_le _,fun j h=>absurd h (Nat.not_lt_zero _)⟩,.refl,by simp[Fr]⟩
 rintro ts F ⟨k,⟨hk,ob⟩,hF,cv⟩ L2 dY
 obtain ⟨js,rfl⟩:=cv.opened
 clear cv
 by_cases hd:k<l.length
 ·have d1:(k:Int)<l.length:=by omega
  have d2:(k:Int)<m.length:=by omega
  have hg:=kK hd
  have yG:=kK (l:=m) (k:=k) (by omega)
  have hi:=fun H=>U1 (cS l k) (cS m k) (hp k hd) H
  unfold fN at hi
  refine KG d1 d2 hg yG eI ?_
  refine ⟨by omega,by omega,cl,af (hi _) ?_⟩
  cases e1:gy (cS l k) (cS m k)
  ·refine ax ?_
   exact az (.cons (.cons hF)) (by
    cases h2:dh l m
    ·rfl
    ·rw[(rM c1).1 h2 k hd] at e1;cases e1)
  refine ax ?_
  refine dY _ _ ⟨k+1,⟨by omega,fun j hj=>?_⟩,.cons (.cons hF),by simp[Fr]⟩ (by simp[bL,mk];omega)
  rcases Nat.lt_succ_iff_lt_or_eq.1 hj with h' | rfl
  ·exact ob j h'
  ·exact e1
 ·have d1:¬(k:Int)<l.length:=by omega
  refine Ak d1 ?_
  refine hL _ _ ?_
  clear hL
  refine tF ?_
  exact az hF ((rM c1).2 fun j hj=>ob j (by omega)).symm
theorem PZ(t:Nd):∀(p:List Int)(b:Pl),b∈aM t p→b.p.length<p.length+t.size:=by
 induction t using Nd.ind with
 | _ t ih =>
  intro p b hb
  rw[bZ] at hb
  rcases List.mem_cons.1 hb with rfl | hb
  ·have:=t.size_pos;simp only;omega
  ·obtain ⟨j,u,⟨_,h2⟩,h3⟩:=dN _ _ _ _ hb
   have hu:=List.mem_of_getElem? h2
   have:=ih u hu _ b h3
   have:=Nd.pz hu
   simp at *
   omega
theorem xj(n:Nd):(aI n).length≤n.size:=by
 rw[iY]
 unfold eS
 split
 ·rw[List.length_map]
  refine Nat.le_trans (List.length_filter_le _ _) ?_
  rw[List.length_range,e8]
  exact Nat.le_refl _
 ·simp
theorem Bj(n:Nd)(hs:n.size≤1000000):∀k,k<(aI n).length→E7 (cS (aI n) k):=by
 rw[iY]
 intro k hk
 have hm:cS (eS n) k∈eS n:=by
  have:cS (eS n) k=(eS n)[k]:=by simp[cS,List.getD,hk]
  rw[this]
  exact List.getElem_mem _
 generalize cS (eS n) k=b at hm ⊢
 unfold eS at hm
 split at hm
 ·obtain ⟨i,hi,rfl⟩:=List.mem_map.1 hm
  have hi2:=List.mem_range.1 (List.mem_filter.1 hi).1
  have fy:∀u∈aM n [],u.p.length≤1000000:=fun u hu=>by
   have:=PZ n [] u hu
   simp at this
   omega
  refine ⟨?_,?_,fun j hj=>?_⟩
  ·have:aA (aM n []) i=(aM n [])[i]:=by simp[aA,List.getD,hi2]
   rw[this]
   exact fy _ (List.getElem_mem _)
  ·unfold ez
   rw[List.length_map]
   refine Nat.le_trans (List.length_filter_le _ _) ?_
   rw[e8]
   exact hs
  ·rw[vG hj]
   have:=List.getElem_mem hj
   simp only at this
   obtain ⟨u,hu,e⟩:=List.mem_map.1 this
   rw[←e]
   exact fy u (List.mem_filter.1 hu).1
 ·simp at hm
theorem P0(H:Y)(a b:Z)(h:∀id,id<H.length→∃x,Y.find H id=some x∧nc x):∀id,id<(some (⟨4,[a],true,25⟩:aD)::some ⟨4,[b],true,25⟩::H).length→∃x,Y.find (some (⟨4,[a],true,25⟩:aD)::some ⟨4,[b],true,25⟩::H) id=some x∧nc x:=by
 intro id hid
 simp only[List.length_cons] at hid
 by_cases c:id=H.length+1
 ·exact ⟨_,aN (by simpa using c),by simp,by simp,by simp,by simp⟩
 by_cases c2:id=H.length
 ·exact ⟨_,by rw[ai (by simp;omega),aN c2],by simp,by simp,by simp,by simp⟩
 ·obtain ⟨x,h1,h2⟩:=h id (by omega)
  exact ⟨x,by rw[ai (by simp;omega),ai (by omega),h1],h2⟩
set_option maxHeartbeats 0 in
theorem U4(a b:Nd)(Yd:a.wt≤500000)(Js:a.size≤500000)(Ye:b.wt≤500000)(NT:b.size≤500000)(ra rb:Option (List Z))(H:Y)(pQ:∀id,id<H.length→∃x,Y.find H id=some x∧nc x):D Tryz.prog 10 [eG a ra,eG b rb] H (.ret (.sc (.bool (cX a b)))) H:=by
 have LD:=fun H=>ua a Yd Js ra H
 have hpb:=fun H=>ua b Ye NT rb H
 have sM:=fun H=>Yb a (by omega) b ra rb H
 have hba:=fun H h=>ng a Yd Js ra (cZ a ra) H h
 have Wv:=fun H h=>ng b Ye NT rb (cZ b rb) H h
 have hee:∀H,D Tryz.prog 35 [.ak 3 ((aI a).map fN) none,.ak 3 ((aI b).map fN) none,.fn (.func 30) [] []] H (.ret (.sc (.bool (dh (aI a) (aI b))))) H:=fun H=>by
  have hk:=fun H=>LC (aI a) (aI b) none none (by have:=xj a;omega) (Bj a (by omega)) H
  refine aF (Nat.le_refl _) (adF (aE ?_))
  simp only[ZE,ux]
  refine ax ?_
  refine af (hk _) ?_
  refine ax ?_
  exact az .refl rfl
 have qm:=P0 H (eG b rb) (eG a ra) pQ
 have ZM:=hba _ qm
 have ZN:=Wv _ qm
 rw[aH,aH] at ZM ZN
 clear hba Wv
 rw[aH] at LD hpb
 rw[aH,aH] at sM
 rw[aH,aH]
 refine aF (Nat.le_refl _) (adx (aE ?_))
 simp only[Zw,ux]
 refine ae fun L hL=>?_
 refine ax ?_
 refine hL _ _ ?_
 clear hL
 refine ae fun L hL=>?_
 refine ax ?_
 refine hL _ _ ?_
 clear hL
 refine ae fun L hL=>?_
 cases c1:dl a
 ·rw[c1] at LD
  refine ax ?_
  refine aP (LD _) ?_
  refine ax ?_
  refine hL _ _ ?_
  clear hL
  refine ax ?_
  exact az (.cons (.cons .refl)) (by simp[cX,c1])
 rw[c1] at LD
 cases c2:dl b
 ·rw[c2] at hpb
  refine ax ?_
  refine aP (LD _) ?_
  refine ax ?_
  refine aP (hpb _) ?_
  refine ax ?_
  refine hL _ _ ?_
  clear hL
  refine ax ?_
  exact az (.cons (.cons .refl)) (by simp[cX,c2])
 rw[c2] at hpb
 cases c3:jN a b
 ·rw[c3] at sM
  refine ax ?_
  refine aP (LD _) ?_
  refine ax ?_
  refine aP (hpb _) ?_
  refine ax ?_
  refine aP (sM _) ?_
  refine ax ?_
  refine hL _ _ ?_
  clear hL
  refine ax ?_
  exact az (.cons (.cons .refl)) (by simp[cX,c3])
 rw[c3] at sM
 refine ax ?_
 refine aP (LD _) ?_
 refine ax ?_
 refine aP (hpb _) ?_
 refine ax ?_
 refine aP (sM _) ?_
 refine ax ?_
 refine aP ZM ?_
 refine ax ?_
 refine aP ZN ?_
 refine ax ?_
 refine aP (hee _) ?_
 refine ax ?_
 refine hL _ _ ?_
 clear hL
 refine ax ?_
 exact az (.cons (.cons .refl)) (by simp[cX,c1,c2,c3])
theorem oU(a b:Nd)(Yd:a.wt≤500000)(Js:a.size≤500000)(Ye:b.wt≤500000)(NT:b.size≤500000){x y:Z}{H:Y}(hx:View H x (fI a))(hy:View H y (fI b)):D Tryz.prog 10 [x,y] H (.ret (.sc (.bool (cX a b)))) H:=by
 have h:=U4 a b Yd Js Ye NT none none [] fun id h=>by simp at h
 rw[ku,ku] at h
 exact yS (.cons hx (.cons hy .nil)) .sc h
def s6(p:List Int):List (List Int)→Nat→Int
 | [],_=>-1
 | q::r,i=>if q=p then i else s6 p r (i+1)
theorem IE{p:List Int}:∀{l:List (List Int)}{i k:Nat},k<l.length→(∀j,j<k→¬c9 l j=p)→c9 l k=p→s6 p l i=(i+k:Nat)
 | [],_,_,h,_,_=>by simp at h
 | q::r,i,0,_,_,h=>by simp[c9] at h;simp[s6,h]
 | q::r,i,k+1,h,hn,he=>by
  have h0:¬q=p:=by simpa [c9] using hn 0 (by omega)
  rw[s6,if_neg h0,IE (i:=i+1) (k:=k) (by simpa using h) (fun j hj=>by simpa [c9] using hn (j+1) (by omega)) (by simpa [c9] using he)]
  omega
theorem Bk{p:List Int}:∀{l:List (List Int)}{i:Nat},(∀j,j<l.length→¬c9 l j=p)→s6 p l i=-1
 | [],_,_=>rfl
 | q::r,i,hn=>by
  have h0:¬q=p:=by simpa [c9] using hn 0 (by simp)
  rw[s6,if_neg h0,Bk fun j hj=>by simpa [c9] using hn (j+1) (by simpa using hj)]
theorem yg{p:List Int}:∀{l:List (List Int)}{i:Nat},bH l p=decide (s6 p l i≥0)
 | [],i=>by simp[bH,s6]
 | q::r,i=>by
  rw[s6]
  by_cases c:q=p
  ·rw[if_pos c]
   simp[bH,c]
  ·rw[if_neg c,←yg (l:=r)]
   simp[bH,c]
set_option maxHeartbeats 0 in
theorem Yf(l:List (List Int))(p:List Int)(ro:Option (List Z))(hz:l.length≤1000000)(hp:∀k,k<l.length→(c9 l k).length≤1000000)(vH:Nat)(H:Y)(hb:Y.find H vH=some ⟨1,[.ak 1 (aZ p) none],true,30⟩) :
  D Tryz.prog 181 [.ak 1 (aJ l) ro,.fn (.func 129) [] [.ptr 1 vH 0 0]] H (.ret (.sc (.int .i64 (s6 p l 0)))) H:=by
 have cl:bA Tryz.prog 129=true:=by kernel_rfl
 have hone:∀(q:List Int)(hq:q.length≤1000000),D Tryz.prog 129 [.ak 1 (aZ q) none,.ptr 1 vH 0 0] H (.ret (.sc (.bool (decide (q=p))))) H:=fun q hq=>by
  have hlt:=Y.am hb
  have h1:=fun H=>sx q p none none H (by omega)
  refine aF (Nat.le_refl _) (abI (aE ?_))
  simp only[UY,ux]
  refine de hb ?_
  refine af (h1 _) ?_
  refine ax ?_
  exact az .refl rfl
 refine aF (Nat.le_refl _) (abH (aE ?_))
 simp only[UX,ux]
 refine ae fun L hL=>?_
 refine ax ?_
 refine hL _ _ ?_
 clear hL
 refine ae fun L hL=>?_
 refine ae fun L hL=>?_
 refine de @cE ?_
 refine hL _ _ ?_
 clear hL
 refine cO (fun ts F=>∃k:Nat,(k≤l.length∧∀j,j<k→¬c9 l j=p)∧F=H∧Fr [some (.ak 1 (aJ l) ro),some (.fn (.func 129) [] [.ptr 1 vH 0 0]),none,none,some (.sc (.int .i64 0)),none,none,some (.sc (.int .i64 l.length)),some (.sc (.int .i64 k)),none,none,none,none,none,none,none,none,none,none] ts) (fun ts _=>l.length - (bL (ts.getD 8 .top)).toNat) ?_ ?_
 ·exact ⟨0,⟨Nat.zero_le _,fun j h=>absurd h (Nat.not_lt_zero _)⟩,rfl,by simp[Fr]⟩
 rintro ts F ⟨k,⟨hk,ob⟩,hFF,cv⟩ L2 dY
 rw[hFF]
 obtain ⟨js,rfl⟩:=cv.opened
 clear cv
 by_cases hd:k<l.length
 ·have d1:(k:Int)<l.length:=by omega
  have hg:=kJ hd
  by_cases e1:c9 l k=p
  ·have hi:=hone (c9 l k) (hp k hd)
   rw[decide_eq_true e1] at hi
   have B3:=IE (i:=0) hd ob e1
   rw[Nat.zero_add] at B3
   refine EL d1 hg @cE ?_
   refine ⟨by omega,cl,af hi ?_⟩
   refine ax ?_
   rw[B3]
   exact cy .refl
  ·have hi:=hone (c9 l k) (hp k hd)
   rw[decide_eq_false e1] at hi
   refine EL d1 hg @cE ?_
   refine ⟨by omega,cl,af hi ?_⟩
   refine ax ?_
   refine dY _ _ ⟨k+1,⟨by omega,fun j hj=>?_⟩,rfl,by simp[Fr]⟩ (by simp[bL,mk];omega)
   rcases Nat.lt_succ_iff_lt_or_eq.1 hj with h' | rfl
   ·exact ob j h'
   ·exact e1
 ·have d1:¬(k:Int)<l.length:=by omega
  have B3:=Bk (i:=0) fun j hj=>ob j (by omega)
  refine Ak d1 ?_
  clear dY
  refine hL _ _ ?_
  clear hL
  refine ax ?_
  rw[B3]
  exact cy .refl
set_option maxHeartbeats 0 in
theorem abJ(l:List (List Int))(x:ByteArray)(p:List Int)(hz:l.length≤1000000)(hp:∀k,k<l.length→(c9 l k).length≤1000000) :
  D Tryz.prog 76 [.lp (.agg [.ak 1 (aJ l) none,.sc (.string x)]) 0,.ak 1 (aZ p) none] [] (.ret (.sc (.bool (bH l p)))) []:=by
 have h1:∀(vH:Nat)(H:Y),Y.find H vH=some ⟨1,[.ak 1 (aZ p) none],true,30⟩→D Tryz.prog 128 [.ak 1 (aJ l) none,.fn (.func 129) [] [.ptr 1 vH 0 0]] H (.ret (.sc (.bool (bH l p)))) H:=fun vH H hb=>by
  refine aF (Nat.le_refl _) (abG (aE ?_))
  simp only[UW,ux]
  refine ax ?_
  refine af (Yf l p none hz hp vH _ hb) ?_
  refine ax ?_
  rw[yg (i:=0)]
  exact az .refl rfl
 refine aF (Nat.le_refl _) (adL (aE ?_))
 simp only[ZK,ux]
 refine ae fun L hL=>?_
 refine ax ?_
 refine hL _ _ ?_
 clear hL
 refine ae fun L hL=>?_
 refine ax ?_
 refine af (h1 _ _ (aN rfl)) ?_
 refine ax ?_
 refine hL _ _ ?_
 clear hL
 refine ax ?_
 exact az (.cons .refl) rfl
def oV:Nd→Nat→Nat→Nat→List Int→Option (Nat×Nat)
 | _,id,j,_,[]=>some (id,j)
 | t,id,j,a,k::r=>if 0≤k∧k<t.kids.length then oV (au t.kids k.toNat) a k.toNat (a+1+Nd.aw (t.kids.take k.toNat)) r else none
theorem LF{t:Nd}{id j a:Nat}{p:List Int}{k:Nat}(h:k<p.length):oV t id j a (p.drop k)=if 0≤p.getD k 0∧p.getD k 0<t.kids.length then oV (au t.kids (p.getD k 0).toNat) a (p.getD k 0).toNat (a+1+Nd.aw (t.kids.take (p.getD k 0).toNat)) (p.drop (k+1)) else none:=by
 rw[List.drop_eq_getElem_cons h]
 simp[oV,List.getD,h]
theorem fV.at_{F:Y}:∀{l:List Nd}{a k:Nat},fV F l a→k<l.length→dx F (au l k) (a+Nd.aw (l.take k))
 | [],_,_,_,h=>by simp at h
 | t::r,a,0,hl,_=>by simpa [au,Nd.aw] using hl.first
 | t::r,a,k+1,hl,h=>by
  have:=hl.rest.at_ (k:=k) (by simpa using h)
  simp only[List.take_succ_cons,Nd.aw]
  rw[show a+(t.size+Nd.aw (r.take k))=a+t.size+Nd.aw (r.take k) by omega]
  simpa [au] using this
theorem P3{l:List Nd}{k a:Nat}(h:k<l.length):(eo l a).getD k .top=dW (au l k) (a+Nd.aw (l.take k)):=by
 rw[List.getD_eq_getElem?_getD,A8 l k a h]
 rfl
def xk:Nd→Nd→List Int→Nd
 | _,ry,[]=>ry
 | t,ry,k::r=>⟨t.kind,t.text,t.num,t.kids.set k.toNat (xk (au t.kids k.toNat) ry r)⟩
theorem vI{l:List Nd}{k:Nat}(h:k<l.length):Nd.aw (l.take k)+(au l k).size≤Nd.aw l:=by
 have h1:=jn h
 have h2:=mw l (k+1)
 omega
theorem IG{l:List Nd}{m q:Nat}(h:m<q)(hm:m<l.length):Nd.aw (l.take m)+(au l m).size≤Nd.aw (l.take q):=by
 have h1:=jn hm
 have h2:=mw (l.take q) (m+1)
 rw[List.take_take,Nat.min_eq_left (by omega)] at h2
 omega
theorem II{t:Nd}{id j a i m:Nat}{q:Int}{r:List Int}(h:oV t id j a (q::r)=some (i,m)):a≤i∧i<a+t.size:=by
 induction r generalizing t id j a q with
 | nil =>
  simp only[oV] at h
  split at h
  ·simp only[Option.some.injEq,Prod.mk.injEq] at h
   have:=t.size_pos
   omega
  ·cases h
 | cons q2 r ih =>
  rw[oV] at h
  split at h
  ·rename_i hk
   have h1:=ih h
   have h2:=vI (l:=t.kids) (k:=q.toNat) (by omega)
   have h3:=Nd.size_eq t
   omega
  ·cases h
theorem DC{H:Y}:∀{xs ys:List Z},xs.length=ys.length→(∀(m:Nat)(x y:Z),xs[m]? = some x→ys[m]? = some y→View H x y)→cq H xs ys
 | [],[],_,_=>.nil
 | x::r,y::s,hl,h=>.cons (h 0 x y rfl rfl) (DC (by simpa using hl) fun m x y hx hy=>h (m+1) x y (by simpa using hx) (by simpa using hy))
 | [],_::_,hl,_=>by simp at hl
 | _::_,[],hl,_=>by simp at hl
theorem IJ{l:List Nd}{m:Nat}(h:m<l.length):(bM l)[m]? = some (fI (au l m)):=by
 rw[uU,dM h]
 simp[h]
structure ZO(G:Y)(n0:Nat)(R:Z→Z→Prop):Prop where
 same:∀{t:Nd}{a:Nat},n0≤a→dx G t a→R (dW t a) (fI t)
 node:∀{k n:Int}{s:ByteArray}{xs xs':List Z}{ys:List Z}{a:Nat},n0≤a→xs.length=xs'.length→(xs'≠[]→Y.find G a=some ⟨4,xs',false,25⟩)→xs'.length=ys.length→(∀(m:Nat)(x y:Z),xs'[m]? = some x→ys[m]? = some y→R x y)→R (.agg [.sc (.int .u8 k),.sc (.string s),.sc (.int .i64 n),aW 4 xs a]) (.agg [.sc (.int .u8 k),.sc (.string s),.sc (.int .i64 n),.ak 4 ys none])
theorem LG{G:Y}:ZO G 0 (View G):=by
 refine ⟨fun _ h=>sw _ h,fun _ h1 h2 h3 h4=>?_⟩
 rw[xc h1]
 exact .agg (.cons .sc (.cons .sc (.cons .sc (.cons (cq.own (fun e=>by rw[h2 e,bC e]) (DC h3 h4)) .nil))))
theorem IK{l:List Nd}{k m:Nat}{x:Nd}(hk:k<l.length):au (l.set k x) m=if m=k then x else au l m:=by
 unfold au
 rw[List.getD_eq_getElem?_getD,List.getElem?_set,List.getD_eq_getElem?_getD]
 by_cases e:k=m
 ·subst e
  simp[hk]
 ·rw[if_neg e,if_neg (fun h=>e h.symm)]
theorem U5{F G:Y}{n0:Nat}{R:Z→Z→Prop}(hR:ZO G n0 R){ry:Nd}{b:Nat}(U6:R (dW ry b) (fI ry))(r:List Int):∀{t:Nd}{id j a i m:Nat}{q:Int}{es:List Z},n0≤a→dx F t a→oV t id j a (q::r)=some (i,m)→Y.find F i=some ⟨4,es,false,25⟩→Y.find G i=some ⟨4,es.set m (dW ry b),false,25⟩→(∀x,a≤x→x<a+t.size→x≠i→Y.find G x=Y.find F x)→R (dW t a) (fI (xk t ry (q::r))):=by
 induction r with
 | nil =>
  intro t id j a i m q es hn hl hp hf hg ho
  simp only[oV] at hp
  split at hp
  case isFalse=>cases hp
  rename_i hq
  simp only[Option.some.injEq,Prod.mk.injEq] at hp
  obtain ⟨rfl,rfl⟩:=hp
  have Bl:q.toNat<t.kids.length:=by omega
  have hne:eo t.kids (a+1)≠[]:=fun e=>by have:=dA t.kids (a+1);rw[e] at this;simp at this;omega
  have j7:es=eo t.kids (a+1):=by
   have:=hl.head
   rw[hf,bC hne] at this
   simpa using this
  subst j7
  rw[cM,fS]
  show R (.agg [.sc (.int .u8 t.kind),.sc (.string t.text),.sc (.int .i64 t.num),aW 4 (eo t.kids (a+1)) a]) (.agg [.sc (.int .u8 t.kind),.sc (.string t.text),.sc (.int .i64 t.num),.ak 4 (bM (t.kids.set q.toNat ry)) none])
  refine hR.node hn (xs':=(eo t.kids (a+1)).set q.toNat (dW ry b)) (by simp) (fun _=>hg) (by rw[List.length_set,dA,aL,List.length_set]) (fun m x y hx hy=>?_)
  have sG:m<t.kids.length:=by
   have:=(List.getElem?_eq_some_iff.1 hx).1
   rwa [List.length_set,dA] at this
  rw[IJ (by rw[List.length_set];exact sG),IK Bl] at hy
  cases hy
  rw[List.getElem?_set] at hx
  by_cases e:q.toNat=m
  ·rw[if_pos e,if_pos (by rw[dA];omega)] at hx
   cases hx
   rw[if_pos e.symm]
   exact U6
  ·rw[if_neg e,A8 _ _ _ sG] at hx
   cases hx
   rw[if_neg (fun h=>e h.symm)]
   have hsz:=vI sG
   have Ee:=Nd.size_eq t
   exact hR.same (by omega) ((hl.kids.at_ sG).of fun x h1 h2=>ho x (by omega) (by omega) (by omega))
 | cons q2 r ih =>
  intro t id j a i m q es hn hl hp hf hg ho
  rw[oV] at hp
  split at hp
  case isFalse=>cases hp
  rename_i hq
  have Bl:q.toNat<t.kids.length:=by omega
  have hin:=II hp
  have hne:eo t.kids (a+1)≠[]:=fun e=>by have:=dA t.kids (a+1);rw[e] at this;simp at this;omega
  have hsz:=vI Bl
  have Ee:=Nd.size_eq t
  have hG:Y.find G a=some ⟨4,eo t.kids (a+1),false,25⟩:=by
   rw[ho a (by omega) (by omega) (by omega),hl.head,bC hne]
  have h1:=ih (by omega) (hl.kids.at_ Bl) hp hf hg (fun x h1 h2 h3=>ho x (by omega) (by omega) h3)
  rw[cM,fS]
  show R (.agg [.sc (.int .u8 t.kind),.sc (.string t.text),.sc (.int .i64 t.num),aW 4 (eo t.kids (a+1)) a]) (.agg [.sc (.int .u8 t.kind),.sc (.string t.text),.sc (.int .i64 t.num),.ak 4 (bM (t.kids.set q.toNat (xk (au t.kids q.toNat) ry (q2::r)))) none])
  refine hR.node hn (xs':=eo t.kids (a+1)) rfl (fun _=>hG) (by rw[dA,aL,List.length_set]) (fun m x y hx hy=>?_)
  have sG:m<t.kids.length:=by
   have:=(List.getElem?_eq_some_iff.1 hx).1
   rwa [dA] at this
  rw[IJ (by rw[List.length_set];exact sG),IK Bl] at hy
  cases hy
  rw[A8 _ _ _ sG] at hx
  cases hx
  by_cases e:q.toNat=m
  ·subst e
   rw[if_pos rfl]
   exact h1
  ·rw[if_neg (fun h=>e h.symm)]
   have Q3:=vI sG
   refine hR.same (by omega) ((hl.kids.at_ sG).of fun x h1 h2=>ho x (by omega) (by omega) ?_)
   rcases Nat.lt_or_gt_of_ne e with g | g
   ·have:=IG g (by omega:q.toNat<t.kids.length)
    omega
   ·have:=IG g sG
    omega
theorem U7{l m:List Nd}(h:l.length=m.length)(hp:∀j,j<l.length→kw (au l j) (au m j)=true):lN l m=true:=by
 rw[tK]
 refine List.ext_getElem h fun j h1 h2=>?_
 have:=(tJ _ _).1 (hp j h1)
 rwa [dM h1,dM h2] at this
theorem U8{l m:List Nd}(h:¬l.length=m.length):lN l m=false:=by
 rw[←Bool.not_eq_true,tK]
 exact fun e=>h (by rw[e])
theorem U9{l m:List Nd}{k:Nat}(hk:k<l.length)(h:kw (au l k) (au m k)=false):lN l m=false:=by
 rw[←Bool.not_eq_true,tK]
 rintro rfl
 rw[rr] at h
 cases h
set_option maxHeartbeats 0 in
theorem Cl(l:List Nd)(hz:Nd.aw l≤1000000)(ih:∀a∈l,∀(b:Nd)(H:Y),D Tryz.prog 16 [eG a none,eG b none] H (.ret (.sc (.bool (kw a b)))) H)(m:List Nd)(ro lz:Option (List Z))(H:Y):D Tryz.prog 49 [.ak 4 (bM l) ro,.ak 4 (bM m) lz] H (.ret (.sc (.bool (lN l m)))) H:=by
 have hl:=Nd.kR l
 refine aF (Nat.le_refl _) (adg (aE ?_))
 simp only[Zg,ux]
 refine ae fun L hL=>?_
 refine ax ?_
 refine hL _ _ ?_
 clear hL
 refine ae fun L hL=>?_
 by_cases c1:l.length=m.length
 rotate_left
 ·have c2:¬(l.length:Int)=m.length:=by omega
  refine fE @aL c2 ?_
  exact az .refl (U8 c1).symm
 have c2:(l.length:Int)=m.length:=by omega
 refine fE @aL c2 ?_
 refine hL _ _ ?_
 clear hL
 refine ae fun L hL=>?_
 refine ax ?_
 refine cO (fun ts F=>∃k:Nat,(k≤l.length∧∀j,j<k→kw (au l j) (au m j)=true)∧F=H∧Fr [some (.ak 4 (bM l) ro),some (.ak 4 (bM m) lz),none,none,some (.sc (.bool false)),some (.sc (.int .i64 k)),none,none,none,none,none,none,none,none,none,none,none,none,none,none,none,none,none,none,none,none,none] ts) (fun ts _=>l.length - (bL (ts.getD 5 .top)).toNat) ?_ ?_
 ·exact ⟨0,⟨Nat.zero_le _,fun j h=>absurd h (Nat.not_lt_zero _)⟩,rfl,by simp[Fr]⟩
 rintro ts F ⟨k,⟨hk,hp⟩,rfl,cv⟩ L2 dY
 obtain ⟨js,rfl⟩:=cv.opened
 clear cv
 by_cases hd:k<l.length
 ·have d1:(k:Int)<l.length:=by omega
  have d2:(k:Int)<m.length:=by omega
  have hg:=eK hd
  have yG:=eK (l:=m) (k:=k) (by omega)
  have hi:=fun H=>ih _ (eF hd) (au m k) H
  rw[aH,aH] at hi
  refine KG d1 d2 hg yG @aL ?_
  refine ⟨by omega,by omega,aP (hi _) ?_⟩
  cases e1:kw (au l k) (au m k)
  ·refine ax ?_
   exact az .refl (U9 hd e1).symm
  refine ax ?_
  refine dY _ _ ⟨k+1,⟨by omega,fun j hj=>?_⟩,rfl,by simp[Fr]⟩ (by simp[bL,mk];omega)
  rcases Nat.lt_succ_iff_lt_or_eq.1 hj with h' | rfl
  ·exact hp j h'
  ·exact e1
 ·have d1:¬(k:Int)<l.length:=by omega
  refine KF d1 @aL ?_
  refine hL _ _ ?_
  clear hL
  refine tF ?_
  exact az .refl (U7 c1 fun j hj=>hp j (by omega)).symm
set_option maxHeartbeats 0 in
theorem rN(a:Nd):∀(hz:a.size≤1000000)(b:Nd)(ro lz:Option (List Z))(H:Y),D Tryz.prog 16 [eG a ro,eG b lz] H (.ret (.sc (.bool (kw a b)))) H:=by
 induction a using Nd.ind with
 | _ a ih =>
  intro hz b ro lz H
  have hs:=Nd.size_eq a
  have hk:=fun H=>Cl a.kids (by omega) (fun x hx b H=>ih x hx (by have:=Nd.pz hx;omega) b none none H) b.kids ro lz H
  have hq:=Pg a b
  rw[aH,aH]
  refine aF (Nat.le_refl _) (adf (aE ?_))
  simp only[Zf,ux]
  refine ae fun L hL=>?_
  refine ax ?_
  refine hL _ _ ?_
  clear hL
  refine ae fun L hL=>?_
  by_cases c1:a.kind=b.kind
  rotate_left
  ·refine de c1 ?_
   refine hL _ _ ?_
   clear hL
   refine ax ?_
   exact az (.cons (.cons .refl)) (by rw[hq];simp[c1])
  have zG:=decide_eq_true c1
  by_cases c2:a.text=b.text
  rotate_left
  ·refine fE zG c2 ?_
   refine hL _ _ ?_
   clear hL
   refine ax ?_
   exact az (.cons (.cons .refl)) (by rw[hq];simp[c2])
  have Yc:=decide_eq_true c2
  by_cases c3:a.num=b.num
  rotate_left
  ·refine nY zG Yc c3 ?_
   refine hL _ _ ?_
   clear hL
   refine ax ?_
   exact az (.cons (.cons .refl)) (by rw[hq];simp[c3])
  have c3':=decide_eq_true c3
  refine nY zG Yc c3' ?_
  refine af (hk _) ?_
  refine ax ?_
  refine hL _ _ ?_
  clear hL
  refine ax ?_
  exact az (.cons (.cons .refl)) (by rw[hq];simp[c1,c2,c3])
def abK(k i:Int):Z:=.agg [.sc (.int .u8 0),.sc (.string ⟨#[]⟩),.sc (.int .i64 (abC k i)),.ak 0 [] (some [])]
def Yg(j:Nat):List Z:=(List.range j).map fun i:Nat=>abK 1 (i:Int)
abbrev adN(n a:Nat):Z:=.aB 4 a 0 n (some (n+12))
def adO(t:Nd)(a:Nat):Z:=.agg [.sc (.int .u8 t.kind),.sc (.string t.text),.sc (.int .i64 t.num),adN t.kids.length a]
def ZP:List Nd→Nat→List Z
 | [],_=>[]
 | t::r,a=>adO t a::ZP r (a+t.size)
def Va(l:List Nd)(a:Nat):List Z:=ZP l (a+1)++Yg 12
abbrev LH(xs:List Z):Option aD:=some ⟨4,xs,true,25⟩
mutual
def DD:Nd→Nat→List (List Z)
 | ⟨_,_,_,l⟩,a=>Va l a::rO l (a+1)
def rO:List Nd→Nat→List (List Z)
 | [],_=>[]
 | t::r,a=>DD t a++rO r (a+t.size)
end
theorem Bm(t:Nd)(a:Nat):DD t a=Va t.kids a::rO t.kids (a+1):=by cases t;simp[DD,Nd.kids]
theorem pR(t:Nd):∀a,(DD t a).length=t.size:=by
 induction t using Nd.ind with
 | _ t ih =>
  intro a
  have key:∀(l:List Nd),(∀k∈l,∀a,(DD k a).length=k.size)→∀a,(rO l a).length=Nd.aw l:=by
   intro l
   induction l with
   | nil=>intro _ a;rfl
   | cons x r fA =>
    intro h a
    simp only[rO,List.length_append,Nd.aw,fA fun k hk=>h k (by simp[hk]),h x (by simp)]
  rw[Bm,List.length_cons,key _ ih,Nd.size_eq]
  omega
def rP(F:Y)(t:Nd)(a:Nat):Prop:=∀(i:Nat)(xs:List Z),(DD t a)[i]? = some xs→Y.find F (a+i)=LH xs
def vJ(F:Y)(l:List Nd)(a:Nat):Prop:=∀(i:Nat)(xs:List Z),(rO l a)[i]? = some xs→Y.find F (a+i)=LH xs
structure MZ(F:Y)(l:List Nd)(a:Nat):Prop where
 row:Y.find F a=LH (Va l a)
 kids:vJ F l (a+1)
theorem rP.row{F:Y}{t:Nd}{a:Nat}(h:rP F t a):MZ F t.kids a where
 row:=h 0 _ (by rw[Bm];rfl)
 kids:=fun i xs hx=>by
  rw[show a+1+i=a+(i+1) by omega]
  exact h (i+1) xs (by rw[Bm,List.getElem?_cons_succ];exact hx)
theorem vJ.first{F:Y}{t:Nd}{r:List Nd}{a:Nat}(h:vJ F (t::r) a):rP F t a:=fun i xs hx=>by
 refine h i xs ?_
 simp only[rO]
 rw[List.getElem?_append_left (List.getElem?_eq_some_iff.1 hx).1]
 exact hx
theorem vJ.rest{F:Y}{t:Nd}{r:List Nd}{a:Nat}(h:vJ F (t::r) a):vJ F r (a+t.size):=fun i xs hx=>by
 rw[show a+t.size+i=a+(t.size+i) by omega]
 refine h (t.size+i) xs ?_
 simp only[rO]
 rw[List.getElem?_append_right (by rw[pR];omega),pR,Nat.add_sub_cancel_left]
 exact hx
theorem vJ.at_{F:Y}:∀{l:List Nd}{a k:Nat},vJ F l a→k<l.length→rP F (au l k) (a+Nd.aw (l.take k))
 | [],_,_,_,hk=>by simp at hk
 | x::r,a,0,h,_=>by simpa [au,Nd.aw] using h.first
 | x::r,a,k+1,h,hk=>by
  have:=vJ.at_ (k:=k) h.rest (by simpa using hk)
  simp only[List.take_succ_cons,Nd.aw]
  rw[show a+(x.size+Nd.aw (r.take k))=a+x.size+Nd.aw (r.take k) by omega]
  exact this
theorem rP.of{F G:Y}{t:Nd}{a:Nat}(h:rP F t a)(hs:∀i,a≤i→i<a+t.size→Y.find G i=Y.find F i):rP G t a:=fun i xs hx=>by
 have hi:=(List.getElem?_eq_some_iff.1 hx).1
 rw[pR] at hi
 rw[hs _ (by omega) (by omega)]
 exact h i xs hx
def vK(F:Y):List Nd→Nat→Prop
 | [],_=>True
 | t::r,b=>rP F t b∧vK F r (b+t.size+1)
theorem vK.append{F:Y}:∀{p q:List Nd}{b:Nat},vK F p b→vK F q (b+Nd.aw p+p.length)→vK F (p++q) b
 | [],q,b,_,h=>by simpa [Nd.aw] using h
 | x::r,q,b,h,k=>by
  refine ⟨h.1,vK.append h.2 ?_⟩
  simp only[Nd.aw,List.length_cons] at k
  rw[show b+x.size+1+Nd.aw r+r.length=b+(x.size+Nd.aw r)+(r.length+1) by omega]
  exact k
theorem vK.of{F G:Y}:∀{l:List Nd}{b:Nat},vK F l b→(∀i,b≤i→i<b+Nd.aw l+l.length→Y.find G i=Y.find F i)→vK G l b
 | [],_,_,_=>trivial
 | t::r,b,h,hs=>by
  simp only[Nd.aw,List.length_cons] at hs
  exact ⟨h.1.of fun i h1 h2=>hs i h1 (by omega),h.2.of fun i h1 h2=>hs i (by omega) (by omega)⟩
theorem rP.over{H G:Y}{t:Nd}{a:Nat}(h:rP H t a)(ho:Over H G):rP G t a:=fun i xs hx=>by
 have h1:=h i xs hx
 rw[Over.find ho (Y.am h1)]
 exact h1
theorem MZ.over{H G:Y}{l:List Nd}{a:Nat}(h:MZ H l a)(ho:Over H G):MZ G l a where
 row:=by rw[Over.find ho (Y.am h.row)];exact h.row
 kids:=fun i xs hx=>by
  have h1:=h.kids i xs hx
  rw[Over.find ho (Y.am h1)]
  exact h1
mutual
inductive OW(F:Y):Nd→Z→List Nat→Prop
 | mk {k:Int}{s:ByteArray}{n:Int}{l:List Nd}{xs:List Z}{i:Nat}{is:List Nat}:(xs≠[]→Y.find F i=cA 4 25 xs)→jv F l xs is→OW F ⟨k,s,n,l⟩ (.agg [.sc (.int .u8 k),.sc (.string s),.sc (.int .i64 n),aW 4 xs i]) (i::is)
inductive jv(F:Y):List Nd→List Z→List Nat→Prop
 | nil:jv F [] [] []
 | cons {t:Nd}{l:List Nd}{x:Z}{xs:List Z}{a b:List Nat}:OW F t x a→jv F l xs b→jv F (t::l) (x::xs) (a++b)
end
theorem jv.append{F:Y}:∀{l m:List Nd}{xs ys:List Z}{a b:List Nat},jv F l xs a→jv F m ys b→jv F (l++m) (xs++ys) (a++b)
 | [],_,_,_,_,_,.nil,h=>h
 | _::_,_,_,_,_,_,.cons h1 h2,h=>by
  rw[List.append_assoc]
  exact .cons h1 (jv.append h2 h)
theorem jv.len{F:Y}:∀{l:List Nd}{xs:List Z}{a:List Nat},jv F l xs a→xs.length=l.length
 | [],_,_,.nil=>rfl
 | _::_,_,_,.cons _ h=>by simp[jv.len h]
theorem OW.E8{F:Y}(t:Nd):∀{x:Z}{is:List Nat},OW F t x is→is.length=t.size:=by
 induction t using Nd.ind with
 | _ t ih =>
  intro x is h
  have key:∀(l:List Nd),(∀k∈l,∀{x:Z}{is:List Nat},OW F k x is→is.length=k.size)→∀{xs:List Z}{is:List Nat},jv F l xs is→is.length=Nd.aw l:=by
   intro l
   induction l with
   | nil=>intro _ xs is h;cases h;rfl
   | cons y r fA =>
    intro hk xs is h
    cases h with
    | cons h1 h2 =>
     rw[List.length_append,hk y (by simp) h1,fA (fun k hk'=>hk k (by simp[hk'])) h2]
     rfl
  cases h with
  | mk h1 h2 =>
   rw[List.length_cons,key _ ih h2]
   simp only[Nd.size,Nd.kids]
   omega
theorem Bn{F:Y}(t:Nd):∀{a:Nat},dx F t a→OW F t (dW t a) (List.range' a t.size):=by
 induction t using Nd.ind with
 | _ t ih =>
  intro a h
  have key:∀(l:List Nd),(∀k∈l,∀{a:Nat},dx F k a→OW F k (dW k a) (List.range' a k.size))→∀a,fV F l a→jv F l (eo l a) (List.range' a (Nd.aw l)):=by
   intro l
   induction l with
   | nil=>intro _ a _;exact .nil
   | cons x r fA =>
    intro hx a hl
    simp only[eo,Nd.aw]
    rw[←List.range'_append_1]
    exact .cons (hx x (by simp) hl.first) (fA (fun k hk=>hx k (by simp[hk])) _ hl.rest)
  have h1:=h.head
  have h2:=key _ ih _ h.kids
  cases t with
  | mk k s n l =>
   simp only[dW,Nd.size,Nd.kids] at *
   rw[Nat.add_comm 1,List.range'_succ]
   exact .mk (fun _=>h1) h2
theorem LI{F K:Y}{n0:Nat}{src:List Nat}(t:Nd):∀{x:Z}{is:List Nat}{c:Nat},OW F t x is→(∀(k i:Nat),is[k]? = some i→dj n0 src i=some (c+k))→
  Gz K n0 src x (dW t c)∧∀(k:Nat)(ys:List Z),(xa t c)[k]? = some ys→∃(i:Nat)(xs:List Z),is[k]? = some i∧(xs≠[]→Y.find F i=cA 4 25 xs)∧dB K n0 src xs ys:=by
 induction t using Nd.ind with
 | _ t ih =>
  intro x is c h hN
  have key:∀(l:List Nd),(∀k∈l,∀{x:Z}{is:List Nat}{c:Nat},OW F k x is→(∀(k i:Nat),is[k]? = some i→dj n0 src i=some (c+k))→
    Gz K n0 src x (dW k c)∧∀(j:Nat)(ys:List Z),(xa k c)[j]? = some ys→∃(i:Nat)(xs:List Z),is[j]? = some i∧(xs≠[]→Y.find F i=cA 4 25 xs)∧dB K n0 src xs ys)→
    ∀{xs:List Z}{is:List Nat}{c:Nat},jv F l xs is→(∀(k i:Nat),is[k]? = some i→dj n0 src i=some (c+k))→
    dB K n0 src xs (eo l c)∧∀(j:Nat)(ys:List Z),(jo l c)[j]? = some ys→∃(i:Nat)(xs:List Z),is[j]? = some i∧(xs≠[]→Y.find F i=cA 4 25 xs)∧dB K n0 src xs ys:=by
   intro l
   induction l with
   | nil=>intro _ xs is c h _;cases h;exact ⟨.nil,fun j ys h=>by simp[jo] at h⟩
   | cons y r fA =>
    intro hk xs is c h hN
    cases h with
    | @cons _ _ x xs a b h1 h2 =>
     have hal:=OW.E8 _ h1
     have k1:=hk y (by simp) h1 (c:=c) (fun k i hi=>hN k i (by rw[List.getElem?_append_left (List.getElem?_eq_some_iff.1 hi).1];exact hi))
     have k2:=fA (fun k hk'=>hk k (by simp[hk'])) h2 (c:=c+y.size) (fun k i hi=>by
      rw[show c+y.size+k=c+(a.length+k) by omega]
      exact hN _ i (by rw[List.getElem?_append_right (by omega),Nat.add_sub_cancel_left];exact hi))
     refine ⟨.cons k1.1 k2.1,fun j ys hj=>?_⟩
     simp only[jo] at hj
     by_cases hlt:j<y.size
     ·rw[List.getElem?_append_left (by rw[eD];exact hlt)] at hj
      obtain ⟨i,zs,e1,e2⟩:=k1.2 j ys hj
      exact ⟨i,zs,by rw[List.getElem?_append_left (by omega)];exact e1,e2⟩
     ·rw[List.getElem?_append_right (by rw[eD];omega),eD] at hj
      obtain ⟨i,zs,e1,e2⟩:=k2.2 _ ys hj
      exact ⟨i,zs,by rw[List.getElem?_append_right (by omega),hal];exact e1,e2⟩
  cases h with
  | @mk k s n l xs i is h1 h2 =>
   have h3:=key l ih h2 (c:=c+1) (fun k j hj=>by
    rw[show c+1+k=c+(k+1) by omega]
    exact hN (k+1) j (by rw[List.getElem?_cons_succ];exact hj))
   refine ⟨?_,fun j ys hj=>?_⟩
   ·simp only[dW]
    refine .agg (.cons (.same trivial) (.cons (.same trivial) (.cons (.same trivial) (.cons ?_ .nil))))
    rw[xc (show (eo l (c+1)).length=xs.length by rw[dA,h2.len])]
    exact GQ fun _=>hN 0 i rfl
   ·simp only[xa] at hj
    cases j with
    | zero =>
     simp only[List.getElem?_cons_zero,Option.some.injEq] at hj
     exact ⟨i,xs,rfl,h1,hj▸h3.1⟩
    | succ j =>
     rw[List.getElem?_cons_succ] at hj
     obtain ⟨i',zs,e1,e2⟩:=h3.2 j ys hj
     exact ⟨i',zs,by rw[List.getElem?_cons_succ];exact e1,e2⟩
theorem IL{H F:Y}{t:Nd}{x:Z}{is:List Nat}{v:Value}(h:OW F t x is)(hn:is.Nodup)(hge:∀i∈is,H.length≤i)(ho:∀i,i<H.length→Y.find F i=Y.find H i) :
  eJ H (.ret (.aK [x,.sc v])) F (.ret (.aK [dW t H.length,.sc v])) (dD t H.length++H):=by
 have hN:∀(k i:Nat),is[k]? = some i→dj H.length is i=some (H.length+k):=fun k i hi=>pJ hn hi (hge i (List.mem_of_getElem? hi))
 obtain ⟨g1,g2⟩:=LI (K:=F) t h hN
 rw[xb]
 refine AY _ is (by rw[OW.E8 _ h];simp[Ch,eD]) hn hge ho (fun i k s hb hs=>?_) (.aK (.cons g1 (.cons (.same trivial) .nil)))
 simp only[Ch,List.getElem?_map,Option.map_eq_some_iff] at hb
 obtain ⟨ys,hy,hk⟩:=hb
 obtain ⟨hne,rfl⟩:=py hk
 obtain ⟨i',xs,e1,e2,e3⟩:=g2 i ys hy
 rw[hs] at e1
 cases e1
 have uD:xs≠[]:=fun e=>hne (by have:=e3.len;rw[e] at this;exact List.length_eq_zero_iff.1 (by simpa using this))
 have e4:=e2 uD
 rw[bC uD] at e4
 exact ⟨_,e4,rfl,rfl,fun h=>h,e3⟩
theorem E9(p q:List Nd):∀a,jo (p++q) a=jo p a++jo q (a+Nd.aw p):=by
 induction p with
 | nil=>intro a;simp[jo,Nd.aw]
 | cons x r ih =>
  intro a
  simp only[List.cons_append,jo,ih,Nd.aw,List.append_assoc]
  rw[show a+(x.size+Nd.aw r)=a+x.size+Nd.aw r by omega]
theorem pS(l:List Nd):∀a,(jo l a).length=Nd.aw l:=by
 induction l with
 | nil=>intro a;rfl
 | cons x r ih=>intro a;simp only[jo,List.length_append,eD,ih,Nd.aw]
theorem fV.split{F:Y}{p q:List Nd}{a:Nat}(h:fV F (p++q) a):fV F p a∧fV F q (a+Nd.aw p):=by
 unfold fV at *
 rw[E9] at h
 refine ⟨fun i xs hx=>h i xs ?_,fun i xs hx=>?_⟩
 ·rw[List.getElem?_append_left (List.getElem?_eq_some_iff.1 hx).1]
  exact hx
 ·rw[Nat.add_assoc]
  refine h _ xs ?_
  rw[List.getElem?_append_right (by rw[pS];omega),pS,Nat.add_sub_cancel_left]
  exact hx
theorem fV.of{F G:Y}{l:List Nd}{a:Nat}(h:fV F l a)(hs:∀i,a≤i→i<a+Nd.aw l→Y.find G i=Y.find F i):fV G l a:=fun i xs hx=>by
 have hi:=(List.getElem?_eq_some_iff.1 hx).1
 rw[pS] at hi
 rw[hs _ (by omega) (by omega)]
 exact h i xs hx
theorem mg{a n y:Nat}(h:y∈List.range' a n):a≤y∧y<a+n:=by
 obtain ⟨i,hi,rfl⟩:=List.mem_range'.1 h
 omega
theorem Fa(n:Nat)(t:Nd):∀a,(dW t a).up n=dW t (n+a)∧Y.up n (dD t a)=dD t (n+a)∧(dW t a).op=true∧∀b∈dD t a,∀k,b=some k→Z.mW k.es=true:=by
 induction t using Nd.ind with
 | _ t ih =>
  intro a
  have key:∀l:List Nd,(∀k∈l,∀a,(dW k a).up n=dW k (n+a)∧Y.up n (dD k a)=dD k (n+a)∧(dW k a).op=true∧∀b∈dD k a,∀c,b=some c→Z.mW c.es=true)→
    ∀a,Z.jT n (eo l a)=eo l (n+a)∧Y.up n (oQ l a)=oQ l (n+a)∧Z.mW (eo l a)=true∧∀b∈oQ l a,∀c,b=some c→Z.mW c.es=true:=by
   intro l
   induction l with
   | nil=>intro _ a;exact ⟨rfl,rfl,rfl,fun b h=>by simp[oQ] at h⟩
   | cons x r fA =>
    intro hk a
    obtain ⟨h1,h2,h3,h4⟩:=hk x (by simp) a
    obtain ⟨g1,g2,g3,g4⟩:=fA (fun k h=>hk k (by simp[h])) (a+x.size)
    rw[show n+(a+x.size)=n+a+x.size by omega] at g1 g2
    refine ⟨by simp only[eo,Z.jT,h1,g1],?_,by simp only[eo,Z.mW,h3,g3,Bool.and_self],?_⟩
    ·simp only[oQ]
     rw[←h2,←g2]
     unfold Y.up
     rw[List.map_append]
    ·intro b hb c hc
     simp only[oQ,List.mem_append] at hb
     exact hb.elim (fun h=>g4 b h c hc) fun h=>h4 b h c hc
  obtain ⟨k1,k2,k3,k4⟩:=key t.kids ih (a+1)
  rw[show n+(a+1)=n+a+1 by omega] at k1 k2
  have hup:∀(xs:List Z)(i:Nat),(aW 4 xs i).up n=aW 4 (Z.jT n xs) (n+i):=by
   intro xs i
   cases xs with
   | nil=>rfl
   | cons x r =>
    rw[lc (by simp),lc (by simp[Z.jT])]
    simp[Z.up,Z.gW]
  have Je:∀(xs:List Z),(cA 4 25 xs).map (aD.up n)=cA 4 25 (Z.jT n xs):=by
   intro xs
   cases xs with
   | nil=>rfl
   | cons x r=>rw[bC (by simp),bC (by simp[Z.jT])];rfl
  have hop:∀(xs:List Z)(i:Nat),(aW 4 xs i).op=true:=by
   intro xs i
   cases xs with
   | nil=>rfl
   | cons x r=>rw[lc (by simp)];rfl
  refine ⟨?_,?_,?_,?_⟩
  ·rw[cM,cM]
   simp only[Z.up,Z.jT,hup,k1]
  ·rw[vD,vD]
   unfold Y.up at k2 ⊢
   rw[List.map_append,k2,List.map_cons,List.map_nil,Je,k1]
  ·rw[cM]
   simp only[Z.op,Z.mW,hop,Bool.and_self]
  ·intro b hb c hc
   rw[vD,List.mem_append] at hb
   rcases hb with h | h
   ·exact k4 b h c hc
   ·rw[List.mem_singleton.1 h] at hc
    obtain ⟨h1,rfl⟩:=py hc
    exact k3
theorem Vb{G:Y}(h:∀b∈G,∀k,b=some k→Z.mW k.es=true):Y.op G:=by
 intro id b hb
 induction G with
 | nil=>simp[Y.find] at hb
 | cons x r ih =>
  simp only[Y.find] at hb
  split at hb
  ·exact h x (by simp) b hb
  ·exact ih (fun b hb=>h b (by simp[hb])) hb
def CP(P:Program)(aX:List Nat)(c:Code)(ic:IC):Prop:=c6 P aX c=some ic∧∀id:Nat,aX.contains (id+1000)=false
def SE(P:Program)(aX:List Nat)(ic:IC)(K:Post)(ts:List Z)(H:Y):Prop :=
 ∀c,CP P aX c ic→∀(φ:aC)(w:World)(a:Act),Rel φ H w→FR φ (Own φ H) w ts a→c.wp P (CK K φ H w a.defers) a w
section
variable {P:Program}{aX:List Nat}
theorem SE.jQ{ic:IC}{K:Post}{ts:List Z}{H:Y}(h:ES P ic K ts H):SE P aX ic K ts H:=fun c hc φ w a hR hF=>qT c ic hc.1 K φ H w ts a hR hF (Gq h)
theorem xl{id:Nat}{ops:Array Oper}{draw:Bool}{ic:IC}(h:CP P aX (.region id ops draw) ic):(∃l,ic = .ops l)∨∃l A,ic = .dL l A:=by
 obtain ⟨h,hv⟩:=h
 simp only[c6] at h
 split at h
 ·cases h
 split at h
 ·split at h
  ·rw[hv id] at h
   cases h
   exact .inr ⟨_,_,rfl⟩
  ·unfold Ep at h
   simp only at h
   split at h
   ·cases h
   split at h
   ·cases h
    exact .inr ⟨_,_,rfl⟩
   ·cases h
 ·cases h
  exact .inl ⟨_,rfl⟩
theorem P4{c:Code}{x y:IC}(h:CP P aX c (.seq x y)):∃c1 c2,c = .seq c1 c2∧CP P aX c1 x∧CP P aX c2 y:=by
 obtain ⟨h,hv⟩:=h
 cases c with
 | seq a b =>
  simp only[c6] at h
  split at h
  ·rename_i h1 h2
   cases h
   exact ⟨a,b,rfl,⟨h1,hv⟩,h2,hv⟩
  ·cases h
 | region id ops draw =>
  rcases xl ⟨h,hv⟩ with ⟨l,e⟩ | ⟨l,A,e⟩<;>cases e
 | cond c a b =>
  simp only[c6] at h
  split at h<;>cases h
 | _=>simp[c6,Er] at h
theorem IM{c:Code}{id:Nat}{x:IC}(h:CP P aX c (.block id x)):∃c1,c = .block id c1∧CP P aX c1 x:=by
 obtain ⟨h,hv⟩:=h
 cases c with
 | block i a =>
  simp only[c6,Option.map_eq_some_iff] at h
  obtain ⟨y,h1,h2⟩:=h
  cases h2
  exact ⟨a,rfl,h1,hv⟩
 | region id ops draw =>
  rcases xl ⟨h,hv⟩ with ⟨l,e⟩ | ⟨l,A,e⟩<;>cases e
 | cond c a b =>
  simp only[c6] at h
  split at h<;>cases h
 | seq a b =>
  simp only[c6] at h
  split at h<;>cases h
 | _=>simp[c6,Er] at h
theorem LJ{c:Code}{x:IC}(h:CP P aX c (.loop x)):∃c1,c = .loop c1∧CP P aX c1 x:=by
 obtain ⟨h,hv⟩:=h
 cases c with
 | loop a =>
  simp only[c6,Option.map_eq_some_iff] at h
  obtain ⟨y,h1,h2⟩:=h
  cases h2
  exact ⟨a,rfl,h1,hv⟩
 | region id ops draw =>
  rcases xl ⟨h,hv⟩ with ⟨l,e⟩ | ⟨l,A,e⟩<;>cases e
 | cond c a b =>
  simp only[c6] at h
  split at h<;>cases h
 | seq a b =>
  simp only[c6] at h
  split at h<;>cases h
 | _=>simp[c6,Er] at h
theorem SE.seq{x y:IC}{K:Post}{ts:List Z}{H:Y}(h:SE P aX x (iC (SE P aX y K) K) ts H):SE P aX (.seq x y) K ts H:=by
 intro c hc φ w a hR hF
 obtain ⟨c1,c2,rfl,h1,h2⟩:=P4 hc
 refine wp_seq (wp_mono (h c1 h1 φ w a hR hF) ?_)
 rintro e a' w' ⟨x',ts',H',φ',k1,k2,k3,k4,k5,k6⟩
 cases x' with
 | normal =>
  cases e<;>try exact k1.elim
  show c2.wp P _ a' w'
  have:=k2 c2 h2 φ' w' a' k4 k3
  rw[k6] at this
  exact wp_mono this fun e a2 w2 hc=>hc.step k5
 | exit i =>
  cases e<;>try exact k1.elim
  exact ⟨_,ts',H',φ',k1,k2,k3,k4,k5,k6⟩
 | ret =>
  cases e<;>try exact k1.elim
  exact ⟨.ret,ts',H',φ',k1,k2,k3,k4,k5,k6⟩
 | bu v =>
  cases e<;>try exact k1.elim
  exact ⟨_,ts',H',φ',k1,k2,k3,k4,k5,k6⟩
theorem SE.block{id:Nat}{x:IC}{K:Post}{ts:List Z}{H:Y}(h:SE P aX x (jI id K) ts H):SE P aX (.block id x) K ts H:=by
 intro c hc φ w a hR hF
 obtain ⟨c1,rfl,h1⟩:=IM hc
 refine wp_block (wp_mono (h c1 h1 φ w a hR hF) ?_)
 rintro e a' w' ⟨x',ts',H',φ',k1,k2,k3,k4,k5,k6⟩
 cases x' with
 | normal =>
  cases e<;>try exact k1.elim
  exact ⟨.normal,ts',H',φ',k1,k2,k3,k4,k5,k6⟩
 | exit i =>
  cases e<;>try exact k1.elim
  rename_i j
  have:i=j:=k1
  subst this
  simp only[jI] at k2
  simp only[Exit.inBlock]
  split
  ·rename_i e2
   rw[if_pos e2] at k2
   exact ⟨.normal,ts',H',φ',trivial,k2,k3,k4,k5,k6⟩
  ·rename_i e2
   rw[if_neg e2] at k2
   exact ⟨.exit i,ts',H',φ',rfl,k2,k3,k4,k5,k6⟩
 | ret =>
  cases e<;>try exact k1.elim
  exact ⟨.ret,ts',H',φ',k1,k2,k3,k4,k5,k6⟩
 | bu v =>
  cases e<;>try exact k1.elim
  exact ⟨.bu v,ts',H',φ',k1,k2,k3,k4,k5,k6⟩
theorem SE.loop{x:IC}{K:Post}{ts:List Z}{H:Y}(I:List Z→Y→Prop)(μ:List Z→Y→Nat)(h2:I ts H)(h3:∀ts H,I ts H→SE P aX x (iC (fun ts' H'=>I ts' H'∧μ ts' H'<μ ts H) K) ts H):SE P aX (.loop x) K ts H:=by
 intro c0 hc φ w a hR hF
 obtain ⟨c,rfl,h1⟩:=LJ hc
 intro b k cs
 have key:∀n fx H1 bq w1 a1,μ fx H1=n→I fx H1→FR bq (Own bq H1) w1 fx a1→Rel bq H1 w1→Step φ H w bq H1 w1→a1.defers=a.defers→
   ∃e a' w',CK K φ H w a.defers e a' w'∧Arrives P (lone (b.at a1 (.code c::.inLoop c::k)) cs w1) b k cs e a' w':=by
  intro n
  induction n using Nat.strongRecOn with
  | _ n ihn =>
   intro fx H1 bq w1 a1 hn hI sI wc k9 Es
   obtain ⟨e,a2,w2,⟨x',ts',H',φ',k1,k2,k3,k4,k5,k6⟩,jE⟩:=h3 fx H1 hI c h1 bq w1 a1 wc sI b (.inLoop c::k) cs
   cases x' with
   | normal =>
    cases e<;>try exact k1.elim
    obtain ⟨g1,g2⟩:=k2
    obtain ⟨e3,a3,w3,hq3,JC⟩:=ihn (μ ts' H') (hn▸g2) ts' H' φ' w2 a2 rfl g1 k3 k4 (k9.trans k5) (by rw[k6,Es])
    exact ⟨e3,a3,w3,hq3,.of_steps (Steps.trans jE (.one step_inLoop)) JC⟩
   | exit i =>
    cases e<;>try exact k1.elim
    exact ⟨_,a2,w2,⟨.exit i,ts',H',φ',k1,k2,k3,k4,k9.trans k5,by rw[k6,Es]⟩,.pass (x:=.inLoop c) rfl (fun _ _=>.inl (by simp)) jE⟩
   | ret =>
    cases e<;>try exact k1.elim
    exact ⟨_,a2,w2,⟨.ret,ts',H',φ',k1,k2,k3,k4,k9.trans k5,by rw[k6,Es]⟩,.pass (x:=.inLoop c) rfl (fun _ _=>.inl (by simp)) jE⟩
   | bu v =>
    cases e<;>try exact k1.elim
    exact ⟨_,a2,w2,⟨.bu v,ts',H',φ',k1,k2,k3,k4,k9.trans k5,by rw[k6,Es]⟩,.pass (x:=.inLoop c) rfl (fun _ _=>.inl (by simp)) jE⟩
 obtain ⟨e,a',w',hq,jE⟩:=key _ ts H φ w a rfl h2 hF hR (Step.refl _ _ _) rfl
 exact ⟨e,a',w',hq,.of_steps (.one step_loop) jE⟩
theorem SE.opened{ic:IC}{K:Post}{ts:List Z}{H:Y}(i:Nat){k id off n:Nat}(hi:ts[i]? = some (.aB k id off n none))(h:∀c,n≤c→c≤maxLen→SE P aX ic K (ts.set i (.aB k id off n (some c))) H):SE P aX ic K ts H:=by
 intro c0 hc φ w a hR hF
 have lI:i<ts.length:=(List.getElem?_eq_some_iff.1 hi).1
 have hv:=hF.2 i
 have hg:ts.getD i .top = .aB k id off n none:=by simp[List.getD,hi]
 rw[hg] at hv
 obtain ⟨b,c',cur,e,fr,v1,v2,v3,v4,v5,v6,v7⟩:=eV hv
 refine h c' v3 v4 c0 hc φ w a hR ⟨by rw[List.length_set];exact hF.1,fun j=>?_⟩
 by_cases hj:i=j
 ·subst hj
  have:(ts.set i (.aB k id off n (some c'))).getD i .top = .aB k id off n (some c'):=by simp[List.getD,lI]
  rw[this,v2]
  exact ⟨rfl,b,c',cur,e,fr,v1,rfl,v3,v4,fun m hm=>by cases hm;rfl,v6,v7⟩
 ·have:(ts.set i (.aB k id off n (some c'))).getD j .top=ts.getD j .top:=by simp[List.getD,List.getElem?_set_ne hj]
  rw[this]
  exact hF.2 j
theorem SE.mono{ic:IC}{K K':Post}{ts:List Z}{H:Y}(h:SE P aX ic K ts H)(hk:∀x ts H,K x ts H→K' x ts H):SE P aX ic K' ts H:=fun c hc φ w a hR hF =>
 wp_mono (h c hc φ w a hR hF) fun e a' w' ⟨x',ts',H',φ',k1,k2,k3⟩=>⟨x',ts',H',φ',k1,hk _ _ _ k2,k3⟩
theorem SE.gen{ic:IC}{K:Post}{ts:List Z}{H:Y}(h:∀L:Post,(∀x ts H,K x ts H→L x ts H)→SE P aX ic L ts H):SE P aX ic K ts H:=h K fun _ _ _ h=>h
theorem SE.abL{x:IC}{K:Post}{ts:List Z}{H:Y}(I:List Z→Y→Prop)(μ:List Z→Y→Nat)(h0:I ts H)(h:∀ts H,I ts H→∀L:List Z→Y→Prop,(∀ts' H',I ts' H'→μ ts' H'<μ ts H→L ts' H')→SE P aX x (iC L K) ts H):SE P aX (.loop x) K ts H :=
 SE.loop I μ h0 fun ts H hI=>h ts H hI _ fun ts' H' h1 h2=>⟨h1,h2⟩
def oc(H:Y):Y:=H.map fun _=>none
theorem s7(H:Y):(oc H).length=H.length:=by simp[oc]
theorem rQ(H:Y)(i:Nat):Y.find (oc H) i=none:=by
 induction H with
 | nil=>rfl
 | cons b r ih =>
  simp only[oc,List.map_cons,Y.find]
  split
  ·rfl
  ·exact ih
inductive kW(H:Y):List Z→List Z→Prop where
 | nil:kW H [] []
 | view {x y:Z}{r s:List Z}:View H x y→kW H r s→kW H (x::r) (y::s)
 | top {x:Z}{r s:List Z}:kW H r s→kW H (x::r) (.top::s)
theorem kW.len{H:Y}:∀{xs ys:List Z},kW H xs ys→ys.length=xs.length
 | _,_,.nil=>rfl
 | _,_,.view _ h=>by simp[h.len]
 | _,_,.top h=>by simp[h.len]
theorem kW.get{H:Y}:∀{xs ys:List Z},kW H xs ys→∀i,View H (xs.getD i .top) (ys.getD i .top)∨ys.getD i .top = .top
 | _,_,.nil,i=>.inr (by simp)
 | _,_,.view h r,0=>.inl (by simpa using h)
 | _,_,.view h r,i+1=>by simpa using r.get i
 | _,_,.top r,0=>.inr (by simp)
 | _,_,.top r,i+1=>by simpa using r.get i
theorem SE.freeze{ic:IC}{K:Post}{ts ts':List Z}{H:Y}(hv:kW H ts ts')(h:SE P aX ic K ts' (oc H)):SE P aX ic K ts H:=by
 intro c0 hc φ w a hR hF
 have hno:∀b,¬Own φ (oc H) b:=fun b ⟨id,blk,h1,h2⟩=>by rw[rQ] at h2;cases h2
 have KV:Later (fun _=>True) φ φ (Own φ H) (Own φ (oc H)) w w:=⟨fun _ _ _ h=>h,Nat.le_refl _,fun b _ _=>hno b,fun _ _ _=>rfl,fun _ _=>rfl⟩
 have hL1:Later (fun _=>True) eZ φ O0 (Own φ (oc H)) w w:=⟨fun id b _ h=>by simp[eZ] at h,Nat.le_refl _,fun b _ _=>hno b,fun _ _ _=>rfl,fun _ _=>rfl⟩
 have hS:Step φ H w φ (oc H) w:={ KV with os:=rfl,tape:=rfl,output:=rfl,len:=by rw[s7];exact Nat.le_refl _,old:=fun _ _=>rfl }
 have zA:Rel φ (oc H) w:={ gD:=hR.gD.less (fun b ho=>(hno b ho).elim),dom:=fun id b h=>by rw[s7];exact hR.dom id b h,inj:=fun i j b _ _ h1 _=>by rw[rQ] at h1;simp at h1,blk:=fun id b k _ h=>by rw[rQ] at h;cases h }
 refine wp_mono (h c0 hc φ w a zA ⟨by rw[hv.len];exact hF.1,fun i=>?_⟩) fun e a' w' hh=>hh.step hS
 have hi:=hF.2 i
 rcases hv.get i with hw | hw
 ·exact ⟨hw.iA hi.1,iO hL1 _ _ _ (Z.jj _) (fun _ _ h=>h) (hw.R hR hi.2)⟩
 ·rw[hw]
  exact ⟨trivial,trivial⟩
theorem P5{f:FuncId}{fn:Func}{c:Code}{ic:IC}{rs:List RV}(hf:P.funcs[f]? = some fn)(hb:fn.body=some c)(hc:c6 P aX c=some ic)(hr:lK P fn.results.toList=some rs){args:List Z}{H:Y}{Kr:cm→Y→Prop}
  (h0:SE P aX ic (pu rs Kr) (args++List.replicate (fn.ntmps - args.length) (.aK [])) H)(hv:∀id:Nat,aX.contains (id+1000)=false:=by intro id;rfl):DK P f args H Kr:=by
 have h:=h0.mono jJ
 intro φ w vs hR ha
 have hF:=wF (n:=fn.ntmps) ha
 refine calls_of_wp hf hb (wp_mono (h c ⟨hc,hv⟩ φ w _ hR hF) ?_)
 rintro e a' w' ⟨x',ts',H',φ',k1,k2,k3,k4,k5,k6⟩
 have Gj:(qU rs ts' H' fun l=>Kr (.ret (oneOf l)) H')→a'.defers=[]∧∃v,(results fn a'.tmps).run P w' = .ok v w'∧∃e H2 cT,xE cT (Own cT H2) w' e (.returned v)∧Kr e H2∧Rel cT H2 w'∧Step φ H w cT H2 w':=by
  intro hl
  obtain ⟨y,v,g1,g2,g3⟩:=l6 k4 k3 hr (K:=fun x=>Kr (.ret x) H') hl
  exact ⟨k6,v,g3,.ret y,H',φ',g2,g1,k4,k5⟩
 cases x' with
 | normal =>
  cases e<;>try exact k1.elim
  exact Gj k2
 | ret =>
  cases e<;>try exact k1.elim
  exact Gj k2
 | exit i=>exact k2.elim
 | bu v =>
  cases e<;>try exact k1.elim
  exact ⟨k6,.bu v,H',φ',k1,k2,k4,k5⟩
end
def gd(H:Y)(id n:Nat):Y:=match Y.find H id with
 | some b=>if b.k=0 then H else Y.set H id (some ⟨b.k,b.es.take n,false,b.ty⟩)
 | none=>H
theorem mh{H:Y}{id n:Nat}:(gd H id n).length=H.length:=by
 unfold gd
 split
 ·split
  ·rfl
  ·rw[Y.aj]
 ·rfl
theorem oW{H:Y}{id n i:Nat}(h:i≠id):Y.find (gd H id n) i=Y.find H i:=by
 unfold gd
 split
 ·split
  ·rfl
  ·rw[Y.ah h]
 ·rfl
theorem pT{H:Y}{id n:Nat}{b:aD}(h:Y.find H id=some b)(hk:b.k≠0):Y.find (gd H id n) id=some ⟨b.k,b.es.take n,false,b.ty⟩:=by
 unfold gd
 rw[h]
 simp only
 rw[if_neg hk,Y.ay (Y.am h)]
theorem pU{H:Y}{id n i:Nat}:(Y.find (gd H id n) i).isSome=(Y.find H i).isSome:=by
 by_cases c:i=id
 ·subst c
  cases h:Y.find H i with
  | none =>
   have:gd H i n=H:=by unfold gd;rw[h]
   rw[this,h]
  | some b =>
   by_cases hk:b.k=0
   ·have:gd H i n=H:=by unfold gd;rw[h];simp[hk]
    rw[this,h]
   ·rw[pT h hk]
    rfl
 ·rw[oW c]
theorem Bo{φ:aC}{H:Y}{id n b:Nat}:Own φ (gd H id n) b↔Own φ H b:=by
 constructor
 ·rintro ⟨i,k,h1,h2⟩
  have:=pU (H:=H) (id:=id) (n:=n) (i:=i)
  rw[h2] at this
  obtain ⟨k',h3⟩:=Option.isSome_iff_exists.1 this.symm
  exact ⟨i,k',h1,h3⟩
 ·rintro ⟨i,k,h1,h2⟩
  have:=pU (H:=H) (id:=id) (n:=n) (i:=i)
  rw[h2] at this
  obtain ⟨k',h3⟩:=Option.isSome_iff_exists.1 this
  exact ⟨i,k',h1,h3⟩
theorem rR{φ:aC}{H:Y}{id n:Nat}:Own φ (gd H id n)=Own φ H:=funext fun b=>propext Bo
theorem DE{φ:aC}{O:Nat→Prop}{w:World}{b k:Nat}:∀{xs:List Z}{n off:Nat},Rl φ O w b k xs off→Rl φ O w b k (xs.take n) off
 | [],n,off,h=>by rw[List.take_nil];trivial
 | x::r,0,off,h=>trivial
 | x::r,n+1,off,h=>⟨h.1,h.2.1,h.2.2.1,DE h.2.2.2⟩
theorem Rel.cut{φ:aC}{H:Y}{w:World}(h:Rel φ H w)(id n:Nat):Rel φ (gd H id n) w:=by
 refine ⟨h.gD.less fun b ho=>Bo.1 ho,fun i b hb=>by rw[mh];exact h.dom i b hb,fun i j b h1 h2 h3 h4=>h.inj i j b h1 h2 (by rwa [pU] at h3) (by rwa [pU] at h4),fun i b k hb hk=>?_⟩
 rw[rR]
 by_cases c:i=id
 ·subst c
  cases hf:Y.find H i with
  | none =>
   have:gd H i n=H:=by unfold gd;rw[hf]
   rw[this,hf] at hk
   cases hk
  | some k0 =>
   by_cases bV:k0.k=0
   ·have:gd H i n=H:=by unfold gd;rw[hf];simp[bV]
    rw[this] at hk
    exact h.blk i b k hb hk
   ·rw[pT hf bV] at hk
    cases hk
    obtain ⟨cur,cap,a1,a2,a3,a4,a5,a6⟩:=(h.blk i b k0 hb hf).cells (by omega)
    refine .inl ⟨by simp only;omega,cur,cap,a1,a2,?_,fun e=>by simp at e,a5,DE a6⟩
    simp only[List.length_take]
    omega
 ·rw[oW c] at hk
  exact h.blk i b k hb hk
theorem DF{φ:aC}{H:Y}{w:World}{id n:Nat}:Step φ H w φ (gd H id n) w :=
 { toLater:=⟨fun _ _ _ h=>h,Nat.le_refl _,fun b _ ho eh=>ho (Bo.1 eh),fun _ _ _=>rfl,fun _ _=>rfl⟩,os:=rfl,tape:=rfl,output:=rfl,len:=by rw[mh];exact Nat.le_refl _,old:=fun _ _=>rfl }
theorem SE.cut{P:Program}{aX:List Nat}{ic:IC}{K:Post}{ts:List Z}{H:Y}(id n:Nat)(h:SE P aX ic K ts (gd H id n)):SE P aX ic K ts H:=by
 intro c0 hc φ w a hR hF
 have wj:FR φ (Own φ (gd H id n)) w ts a:=by rw[rR];exact hF
 exact wp_mono (h c0 hc φ w a (hR.cut id n) wj) fun e a' w' hh=>hh.step DF
theorem eJ.cut{H H1 H2:Y}{e1 e:cm}(id n:Nat)(h:eJ H e1 (gd H1 id n) e H2):eJ H e1 H1 e H2:=by
 intro φ w bq w1 en hR he wc hS
 exact h φ w bq w1 en hR (by rw[rR];exact he) (wc.cut id n) (hS.trans DF)
theorem oX{φ:aC}{H:Y}{i:Nat}{b b':aD}(h:Y.find H i=some b):Own φ (Y.set H i (some b'))=Own φ H:=by
 have hl:=Y.am h
 refine funext fun a=>propext ⟨?_,?_⟩
 ·rintro ⟨j,k,h1,h2⟩
  by_cases c:j=i
  ·subst c
   exact ⟨j,b,h1,h⟩
  ·rw[Y.ah c] at h2
   exact ⟨j,k,h1,h2⟩
 ·rintro ⟨j,k,h1,h2⟩
  by_cases c:j=i
  ·subst c
   exact ⟨j,b',h1,Y.ay hl⟩
  ·exact ⟨j,k,h1,by rw[Y.ah c];exact h2⟩
theorem Rel.M0{φ:aC}{H:Y}{w:World}(hR:Rel φ H w){i:Nat}{b b':aD}(h:Y.find H i=some b)(hb:∀a,φ i=some a→gB φ (Own φ H) w b a→gB φ (Own φ H) w b' a):Rel φ (Y.set H i (some b')) w:=by
 have hl:=Y.am h
 have Vc:∀j,(Y.find (Y.set H i (some b')) j).isSome=(Y.find H j).isSome:=fun j=>by
  by_cases c:j=i
  ·subst c;rw[Y.ay hl,h];rfl
  ·rw[Y.ah c]
 refine ⟨hR.gD.less fun a ho=>by rwa [oX h] at ho,fun j a hj=>by rw[Y.aj];exact hR.dom j a hj,fun j k a h1 h2 h3 h4=>hR.inj j k a h1 h2 (by rwa [Vc] at h3) (by rwa [Vc] at h4),fun j a k hj hk=>?_⟩
 rw[oX h]
 by_cases c:j=i
 ·subst c
  rw[Y.ay hl] at hk
  cases hk
  exact hb a hj (hR.blk j a b hj h)
 ·rw[Y.ah c] at hk
  exact hR.blk j a k hj hk
theorem Bp{φ:aC}{H:Y}{w:World}{i:Nat}{b b':aD}(h:Y.find H i=some b):Step φ H w φ (Y.set H i (some b')) w :=
 { toLater:=⟨fun _ _ _ h=>h,Nat.le_refl _,fun b _ ho eh=>ho (by rwa [oX h] at eh),fun _ _ _=>rfl,fun _ _=>rfl⟩,os:=rfl,tape:=rfl,output:=rfl,len:=by rw[Y.aj];exact Nat.le_refl _,old:=fun _ _=>rfl }
theorem SE.M0{P:Program}{aX:List Nat}{ic:IC}{K:Post}{ts:List Z}{H:Y}{i:Nat}{b b':aD}(h:Y.find H i=some b)(hb:∀(φ:aC)(w:World) a,φ i=some a→gB φ (Own φ H) w b a→gB φ (Own φ H) w b' a)(hs:SE P aX ic K ts (Y.set H i (some b'))):SE P aX ic K ts H:=by
 intro c0 hc φ w a hR hF
 have wj:FR φ (Own φ (Y.set H i (some b'))) w ts a:=by rw[oX h];exact hF
 exact wp_mono (hs c0 hc φ w a (hR.M0 h fun a ha=>hb φ w a ha) wj) fun e a' w' hh=>hh.step (Bp h)
theorem SE.abM{P:Program}{aX:List Nat}{ic:IC}{K:Post}{ts:List Z}{H:Y}{i k:Nat}{es es':List Z}{ex:Bool}{ty:TypeId}(h:Y.find H i=some ⟨k,es,ex,ty⟩)(hk:0<k)(hl:mT es es')(hs:SE P aX ic K ts (Y.set H i (some ⟨k,es',ex,ty⟩))):SE P aX ic K ts H:=by
 refine SE.M0 h (fun φ w a _ hb=>?_) hs
 obtain ⟨cur,cap,a1,a2,a3,a4,a5,a6⟩:=hb.cells hk
 exact .inl ⟨hk,cur,cap,a1,a2,by rw[hl.len];exact a3,fun e=>by rw[hl.len];exact a4 e,a5,hl.Rl a6⟩
theorem SE.abN{P:Program}{aX:List Nat}{ic:IC}{K:Post}{ts:List Z}{H:Y}{i k id off n:Nat}{ex:Bool}{ty:TypeId}(h:Y.find H i=some ⟨1,[.aB k id off n none],ex,ty⟩)(hn:n≤maxLen)
  (hs:∀c,n≤c→c≤maxLen→SE P aX ic K ts (Y.set H i (some ⟨1,[.aB k id off n (some c)],ex,ty⟩))):SE P aX ic K ts H:=by
 intro c0 hc φ w a hR hF
 have key:∃c,n≤c∧c≤maxLen∧∀b,φ i=some b→gB φ (Own φ H) w ⟨1,[.aB k id off n none],ex,ty⟩ b→gB φ (Own φ H) w ⟨1,[.aB k id off n (some c)],ex,ty⟩ b:=by
  cases Jy:φ i with
  | none=>exact ⟨n,Nat.le_refl _,hn,fun b hb=>by cases hb⟩
  | some b =>
   obtain ⟨cur,cap,a1,a2,a3,a4,a5,a6⟩:=(hR.blk i b _ Jy h).cells (by simp)
   obtain ⟨x1,x2,⟨b2,c',ow,e,fr,v1,v2,v3,v4,v5,v6,v7⟩,x4⟩:=a6
   refine ⟨c',v3,v4,fun b' hb' _=>?_⟩
   cases hb'
   exact .inl ⟨by simp,cur,cap,a1,a2,a3,a4,a5,x1,x2,⟨b2,c',ow,e,fr,v1,v2,v3,v4,fun m hm=>by cases hm;rfl,v6,v7⟩,x4⟩
 obtain ⟨c,h1,h2,h3⟩:=key
 have wj:FR φ (Own φ (Y.set H i (some ⟨1,[.aB k id off n (some c)],ex,ty⟩))) w ts a:=by rw[oX h];exact hF
 exact wp_mono (hs c h1 h2 c0 hc φ w a (hR.M0 h h3) wj) fun e a' w' hh=>hh.step (Bp h)
mutual
theorem OW.keep{F G:Y}(k:∀i xs,xs≠[]→Y.find F i=cA 4 25 xs→Y.find G i=cA 4 25 xs):∀{t:Nd}{x:Z}{is:List Nat},OW F t x is→OW G t x is
 | _,_,_,.mk h1 h2=>.mk (fun e=>k _ _ e (h1 e)) (jv.keep k h2)
theorem jv.keep{F G:Y}(k:∀i xs,xs≠[]→Y.find F i=cA 4 25 xs→Y.find G i=cA 4 25 xs):∀{l:List Nd}{xs:List Z}{is:List Nat},jv F l xs is→jv G l xs is
 | _,_,_,.nil=>.nil
 | _,_,_,.cons h1 h2=>.cons (OW.keep k h1) (jv.keep k h2)
end
mutual
theorem OW.xm{F G:Y}:∀{t:Nd}{x:Z}{is:List Nat},OW F t x is→(∀i∈is,∀xs,xs≠[]→Y.find F i=cA 4 25 xs→Y.find G i=cA 4 25 xs)→OW G t x is
 | _,_,_,.mk h1 h2,k=>.mk (fun e=>k _ List.mem_cons_self _ e (h1 e)) (jv.xm h2 fun i hi=>k i (List.mem_cons_of_mem _ hi))
theorem jv.xm{F G:Y}:∀{l:List Nd}{xs:List Z}{is:List Nat},jv F l xs is→(∀i∈is,∀xs,xs≠[]→Y.find F i=cA 4 25 xs→Y.find G i=cA 4 25 xs)→jv G l xs is
 | _,_,_,.nil,_=>.nil
 | _,_,_,.cons h1 h2,k=>.cons (OW.xm h1 fun i hi=>k i (List.mem_append_left _ hi)) (jv.xm h2 fun i hi=>k i (List.mem_append_right _ hi))
end
theorem pV{H F G:Y}{T:Nd}{x:Z}{pre is:List Nat}(hG:G.length=H.length+pre.length)(hO:OW F T x is)(hn:(pre++is).Nodup)(hge:∀i∈pre++is,H.length≤i)
  (h1:∀id k,id<H.length→Y.find G id=some k→(Y.find H id=some k∧Y.find F id=some k)∨∃k1,Y.find F id=some k1∧C1 F H.length (pre++is) k1 k)
  (h2:∀i s k,pre[i]? = some s→Y.find G (H.length+i)=some k→∃k1,Y.find F s=some k1∧C1 F H.length (pre++is) k1 k) :
  eJ H (.ret x) F (.ret (dW T G.length)) (dD T G.length++G):=by
 have hN:∀(k i:Nat),is[k]? = some i→dj H.length (pre++is) i=some (G.length+k):=fun k i hi=>by
  have h3:(pre++is)[pre.length+k]? = some i:=by rw[List.getElem?_append_right (by omega),Nat.add_sub_cancel_left];exact hi
  rw[pJ hn h3 (hge i (List.mem_of_getElem? h3))]
  congr 1
  omega
 obtain ⟨g1,g2⟩:=LI (K:=F) T hO hN
 have lI:=OW.E8 _ hO
 refine mr (pre++is) (by rw[List.length_append,fh,hG,List.length_append,lI];omega) hn hge (fun id k hid hk=>?_) (fun i s k hs hk=>?_) g1
 ·rw[Y.bx (by omega)] at hk
  exact h1 id k hid hk
 ·by_cases c:i<pre.length
  ·rw[Y.bx (by omega)] at hk
   rw[List.getElem?_append_left c] at hs
   exact h2 i s k hs hk
  ·rw[List.getElem?_append_right (by omega)] at hs
   have ou:=(List.getElem?_eq_some_iff.1 hs).1
   have fD:i - pre.length<(xa T G.length).length:=by rw[eD];omega
   have hL:=fp (t:=T) (H:=G) (i - pre.length) _ (List.getElem?_eq_getElem fD)
   rw[show G.length+(i - pre.length)=H.length+i by omega,hk] at hL
   obtain ⟨hne,rfl⟩:=py hL.symm
   obtain ⟨i',xs,e1,e2,e3⟩:=g2 _ _ (List.getElem?_eq_getElem fD)
   rw[hs] at e1
   cases e1
   have uD:xs≠[]:=fun e=>hne (by have:=e3.len;rw[e] at this;exact List.length_eq_zero_iff.1 (by simpa using this))
   have e4:=e2 uD
   rw[bC uD] at e4
   exact ⟨_,e4,rfl,rfl,fun h=>h,e3⟩
def kL(v:Z):aD:=⟨1,[v],true,30⟩
def mi:Z→Option Nat
 | .aB _ id _ _ _=>some id
 | _=>none
def lS:Option Nat→Y→Y
 | none,H=>H
 | some i,H=>Y.set H i none
theorem cg{o:Option Nat}{H:Y}:(lS o H).length=H.length:=by
 cases o with
 | none=>rfl
 | some i=>exact Y.aj ..
theorem xn{o:Option Nat}{H:Y}{i:Nat}(h:∀a,o=some a→i≠a):Y.find (lS o H) i=Y.find H i:=by
 cases o with
 | none=>rfl
 | some a=>exact Y.ah (h a rfl)
theorem IP{o:Option Nat}{H:Y}{i:Nat}{b:aD}(h:Y.find (lS o H) i=some b):Y.find H i=some b∧∀a,o=some a→i≠a:=by
 cases o with
 | none=>exact ⟨h,fun a e=>by cases e⟩
 | some a =>
  have hne:i≠a:=fun e=>by
   subst e
   by_cases c:i<H.length
   ·rw[lS,Y.ay c] at h;cases h
   ·rw[Y.ui (by rw[lS,Y.aj];omega)] at h;cases h
  exact ⟨by rwa [lS,Y.ah hne] at h,fun b e=>by cases e;exact hne⟩
def uc(F:Y)(p:List Int)(v:Z):Prop:=(p=[]∧v = .ak 0 [] (some []))∨∃aY c es,v = .aB 1 aY 0 p.length c∧Y.find F aY=some ⟨1,es,false,3⟩∧es.take p.length=aZ p
def Bq(F:Y)(p:List Int)(v:Z):Prop:=(p=[]∧v = .ak 0 [] (some []))∨∃aY,v = .aB 1 aY 0 p.length none∧Y.find F aY=some ⟨1,aZ p,false,3⟩
theorem uc.keep{F G:Y}{p:List Int}{v:Z}(h:uc F p v)(k:∀a,mi v=some a→Y.find G a=Y.find F a):uc G p v:=by
 rcases h with h | ⟨aY,c,es,rfl,h2,h3⟩
 ·exact .inl h
 ·exact .inr ⟨aY,c,es,rfl,by rw[k aY rfl];exact h2,h3⟩
theorem Bq.keep{F G:Y}{p:List Int}{v:Z}(h:Bq F p v)(k:∀a,mi v=some a→Y.find G a=Y.find F a):Bq G p v:=by
 rcases h with h | ⟨aY,rfl,h2⟩
 ·exact .inl h
 ·exact .inr ⟨aY,rfl,by rw[k aY rfl];exact h2⟩
theorem uc.at{F:Y}{p:List Int}{v:Z}(h:uc F p v):∀a,mi v=some a→∃es,Y.find F a=some ⟨1,es,false,3⟩:=by
 rcases h with ⟨_,rfl⟩ | ⟨aY,c,es,rfl,h2,_⟩
 ·intro a e;cases e
 ·intro a e;cases e;exact ⟨es,h2⟩
theorem Bq.at{F:Y}{p:List Int}{v:Z}(h:Bq F p v):∀a,mi v=some a→Y.find F a=some ⟨1,aZ p,false,3⟩:=by
 rcases h with ⟨_,rfl⟩ | ⟨aY,rfl,h2⟩
 ·intro a e;cases e
 ·intro a e;cases e;exact h2
theorem Bq.v{F:Y}{p:List Int}{v:Z}(h:Bq F p v):uc F p v:=by
 rcases h with h | ⟨aY,e,h2⟩
 ·exact .inl h
 ·exact .inr ⟨aY,none,_,e,h2,by rw[List.take_of_length_le (by simp[bI])]⟩
theorem uc.view{F:Y}{p:List Int}{v:Z}(h:uc F p v):View F v (.ak 1 (aZ p) none):=by
 rcases h with ⟨rfl,rfl⟩ | ⟨aY,c,es,rfl,h2,h3⟩
 ·exact .nil
 ·have hl:p.length≤es.length:=by
   have:=congrArg List.length h3
   rw[List.length_take,bI] at this
   omega
  refine .aB h2 rfl (by simpa using hl) ?_
  rw[List.drop_zero,h3]
  exact cq.WR
theorem uc.flat{F:Y}{p:List Int}{v:Z}(h:uc F p v):v.isAgg=false∧v.bO=false∧v.an=1∧v.cells=[v]:=by
 rcases h with ⟨rfl,rfl⟩ | ⟨aY,c,es,rfl,h2,h3⟩<;>exact ⟨rfl,rfl,rfl,rfl⟩
theorem uc.j6{F:Y}{p:List Int}{v:Z}(h:uc F p v):∀y,v.j6 0 y=y:=by
 rcases h with ⟨rfl,rfl⟩ | ⟨aY,c,es,rfl,h2,h3⟩<;>exact fun y=>rfl
theorem SE.abO{P:Program}{aX:List Nat}{ic:IC}{K:Post}{ts:List Z}{F:Y}{p:List Int}{v:Z}{ab:Nat}(ha:Y.find F ab=some (kL v))(h:uc F p v)
  (hs:∀F' v',Bq F' p v'→Y.find F' ab=some (kL v')→F'.length=F.length→mi v'=mi v→(∀i b,Y.find F i=some b→i≠ab→¬(b.k=1∧b.exact=false∧b.ty=3)→Y.find F' i=some b)→(∀i,i≠ab→(∀a,mi v=some a→i≠a)→Y.find F' i=Y.find F i)→(mi v=none→F'=F∧v'=v)→SE P aX ic K ts F'):SE P aX ic K ts F:=by
 have hal:=Y.am ha
 rcases h with ⟨rfl,rfl⟩ | ⟨aY,c,es,rfl,h2,h3⟩
 ·exact hs F _ (.inl ⟨rfl,rfl⟩) ha rfl rfl (fun i b h _ _=>h) (fun _ _ _=>rfl) fun _=>⟨rfl,rfl⟩
 ·have hne:ab≠aY:=fun e=>by rw[e,h2] at ha;simp[kL] at ha
  have AP:Y.find (gd F aY p.length) ab=some ⟨1,[.aB 1 aY 0 p.length c],true,30⟩:=by rw[oW hne];exact ha
  refine SE.cut aY p.length (SE.abM AP (by simp) (es':=[.aB 1 aY 0 p.length none]) (.cons .aB .nil) (hs _ (.aB 1 aY 0 p.length none) (.inr ⟨aY,rfl,?_⟩) ?_ ?_ rfl (fun i b hb hi hn=>?_) (fun i hi Vd=>?_) fun e=>by cases e))
  ·rw[Y.ah hne.symm,pT h2 (by simp),h3]
  ·exact Y.ay (by rw[mh];exact hal)
  ·rw[Y.aj,mh]
  ·rw[Y.ah hi,oW fun e=>?_]
   ·exact hb
   ·rw[e,h2] at hb;cases hb;simp at hn
  ·rw[Y.ah hi,oW (Vd aY rfl)]
theorem Bq.eN{F G:Y}{p:List Int}{v:Z}(h:Bq F p v)(k:Int)(hp:p.length≤1000000)(hG:∀a,mi v=some a→Y.find G a=Y.find F a):iv G 1 3 [.sc (.int .i64 k)] v∧nW G 1 [.sc (.int .i64 k)] v = .aB 1 G.length 0 (p.length+1) none∧kj G 1 3 [.sc (.int .i64 k)] v=some ⟨1,aZ (p++[k]),false,3⟩::lS (mi v) G:=by
 rcases h with ⟨rfl,rfl⟩ | ⟨aY,rfl,h2⟩
 ·refine ⟨?_,?_,?_⟩
  ·simp[iv]
  ·simp[nW]
  ·simp[kj,aZ,lS,mi]
 ·have h3:=hG aY rfl
  rw[h2] at h3
  refine ⟨?_,?_,?_⟩
  ·simp only[iv,h3]
   simp[bI];omega
  ·simp only[nW]
   simp
  ·simp only[kj,h3]
   simp[aZ,lS,mi]
structure TP(cb ab tb lT kM:Nat)(ps:List (List Int))(x:ByteArray)(H:Y):Prop where
 c:Y.find H cb=some ⟨1,[.ptr 2 lT 0 0],true,62⟩
 s:Y.find H lT=some ⟨2,[.agg [aW 1 (aJ ps) kM,.sc (.string x)]],true,66⟩
 l:aJ ps≠[]→Y.find H kM=cA 1 30 (aJ ps)
 t:Y.find H tb=some ⟨1,[.fn (.func 75) [] [.ptr 1 cb 0 0,.ptr 1 ab 0 0,.ptr 1 tb 0 0]],true,28⟩
def c8(t:Nd)(p:List Int)(v:Z)(ab:Nat)(H:Y):Y:=if t.kids=[] then H else some ⟨1,aZ p,false,3⟩::Y.set (lS (mi v) H) ab (some (kL (.aB 1 H.length 0 p.length none)))
theorem ue{t:Nd}{p:List Int}{v:Z}{ab:Nat}{H:Y}:H.length≤(c8 t p v ab H).length∧(c8 t p v ab H).length≤H.length+1:=by
 unfold c8
 split
 ·omega
 ·simp only[List.length_cons,Y.aj,cg];omega
structure P6(T:Nd)(n0:Nat)(p:List Int)(ab A0:Nat)(H G:Y):Prop where
 aeg:dx G T n0
 at_:∃A,Y.find G ab=some (kL (.aB 1 A 0 p.length none))∧Y.find G A=some ⟨1,aZ p,false,3⟩∧A0≤A∧A<n0
 old:∀i,i<H.length→i≠ab→i≠A0→Y.find G i=Y.find H i
 len:H.length≤n0∧G.length=n0+T.size
theorem LK{t T:Nd}{p:List Int}{ab A0:Nat}{H:Y}(ha:Y.find H ab=some (kL (.aB 1 A0 0 p.length none)))(hA:Y.find H A0=some ⟨1,aZ p,false,3⟩) :
  P6 T (c8 t p (.aB 1 A0 0 p.length none) ab H).length p ab A0 H (dD T (c8 t p (.aB 1 A0 0 p.length none) ab H).length++c8 t p (.aB 1 A0 0 p.length none) ab H):=by
 have hl:=ue (t:=t) (p:=p) (v:=.aB 1 A0 0 p.length none) (ab:=ab) (H:=H)
 have hab:=Y.am ha
 have hal:=Y.am hA
 refine ⟨fp,?_,fun i hi h1 h2=>?_,hl.1,by rw[List.length_append,fh];omega⟩
 ·rw[Y.bx (by omega)]
  by_cases c:t.kids=[]
  ·refine ⟨A0,?_,?_,Nat.le_refl _,by omega⟩
   ·unfold c8;rw[if_pos c];exact ha
   ·rw[Y.bx (by omega)]
    unfold c8;rw[if_pos c];exact hA
  ·refine ⟨H.length,?_,?_,by omega,?_⟩
   ·unfold c8
    rw[if_neg c,ai (by rw[Y.aj,cg];omega),Y.ay (by rw[cg];omega)]
   ·rw[Y.bx (by unfold c8;rw[if_neg c];simp[Y.aj,cg])]
    unfold c8
    rw[if_neg c,aN (by rw[Y.aj,cg])]
   ·unfold c8;rw[if_neg c];simp[Y.aj,cg]
 ·rw[Y.bx (by omega)]
  unfold c8
  split
  ·rfl
  ·rw[ai (by rw[Y.aj,cg];omega),Y.ah h1,xn fun a e=>by cases e;exact h2]
theorem Br{H:Y}:∀{l:List (List Int)},cq H (aJ l) (aJ l)
 | []=>.nil
 | p::l=>.cons (.ak cq.WR) Br
def LL(ps:List (List Int))(x:ByteArray)(t:Nd):Prop:=∀(ro:Option (List Z))(p:List Int)(cb ab tb lT kM:Nat)(v:Z)(H:Y),p.length+t.size≤1000000→TP cb ab tb lT kM ps x H→Y.find H ab=some (kL v)→Bq H p v→
 D Tryz.prog 75 [eG t ro,.ptr 1 cb 0 0,.ptr 1 ab 0 0,.ptr 1 tb 0 0] H (.ret (dW (bc (bH ps) x t p) (c8 t p v ab H).length)) (dD (bc (bH ps) x t p) (c8 t p v ab H).length++c8 t p v ab H)
def ni:Nat→IC→IC
 | 0,.seq a _=>a
 | 1,.seq _ (.seq a _)=>a
 | 2,.seq _ (.seq _ (.seq a _))=>a
 | 3,.seq _ (.seq _ (.seq _ (.seq a _)))=>a
 | 4,.seq _ (.seq _ (.seq _ (.seq _ (.seq (.seq a _) _))))=>a
 | 5,.seq _ (.seq _ (.seq _ (.seq _ (.seq (.seq _ (.block _ (.loop a))) _))))=>a
 | 6,.seq _ (.seq _ (.seq _ (.seq _ (.seq _ a))))=>a
 | _,_=>.skip
theorem P7:gb = .seq (ni 0 gb) (.seq (ni 1 gb) (.seq (ni 2 gb) (.seq (ni 3 gb) (.seq (.seq (ni 4 gb) (.block 0 (.loop (ni 5 gb)))) (ni 6 gb))))):=rfl
set_option maxHeartbeats 0 in
theorem Ve(ps:List (List Int))(x:ByteArray)(hz:ps.length≤1000000)(fy:∀k,k<ps.length→(c9 ps k).length≤1000000)(t:Nd)(ih:∀u∈t.kids,LL ps x u):LL ps x t:=by
 intro ro p cb ab tb lT kM v H hsz hT hab adP
 have df:=adP.v
 have Ee:=t.size_eq
 have fD:=Y.am hT.c
 have yu:=Y.am hT.s
 have th:=Y.am hT.t
 have ZQ:=Y.am hab
 have QT:ab≠tb:=fun e=>by have:=hT.t;rw[←e,hab] at this;simp[kL] at this
 have hbc:ab≠cb:=fun e=>by have:=hT.c;rw[←e,hab] at this;simp[kL] at this
 have Cj:ab≠lT:=fun e=>by have:=hT.s;rw[←e,hab] at this;simp[kL] at this
 have gz:aJ ps≠[]→ab≠kM:=fun h e=>by have:=hT.l h;rw[←e,hab,bC h] at this;simp[kL] at this
 have Fb:∀a,mi v=some a→a≠ab∧a≠cb∧a≠lT∧a≠tb∧(aJ ps≠[]→a≠kM)∧a<H.length:=fun a e=>by
  obtain ⟨es,h1⟩:=df.at a e
  refine ⟨fun e2=>?_,fun e2=>?_,fun e2=>?_,fun e2=>?_,fun h e2=>?_,Y.am h1⟩
  ·rw[e2,hab] at h1;simp[kL] at h1
  ·rw[e2,hT.c] at h1;simp at h1
  ·rw[e2,hT.s] at h1;simp at h1
  ·rw[e2,hT.t] at h1;simp at h1
  ·rw[e2,hT.l h,bC h] at h1;simp at h1
 obtain ⟨vf1,vf2,vf3,vf4⟩:=df.flat
 refine aF (by rw[List.length_append,fh];have:=ue (t:=t) (p:=p) (v:=v) (ab:=ab) (H:=H);omega) (P5 (aX:=[]) (fn:=Tryz.f75) (c:=Tryz.f75.body.getD .skip) (ic:=gb) (rs:=[.c 5 4 .true]) Tryz.func75 (by kernel_rfl) (by kernel_rfl) (by kernel_rfl) ?_)
 have hn:Tryz.f75.ntmps=48:=by kernel_rfl
 rw[hn]
 obtain ⟨p0,sE⟩:∃y,y=ni 0 gb:=⟨_,rfl⟩
 obtain ⟨p1,hp1⟩:∃y,y=ni 1 gb:=⟨_,rfl⟩
 obtain ⟨p2,hp2⟩:∃y,y=ni 2 gb:=⟨_,rfl⟩
 obtain ⟨p3,hp3⟩:∃y,y=ni 3 gb:=⟨_,rfl⟩
 obtain ⟨p4,hp4⟩:∃y,y=ni 4 gb:=⟨_,rfl⟩
 obtain ⟨p5,hp5⟩:∃y,y=ni 5 gb:=⟨_,rfl⟩
 obtain ⟨p6,hp6⟩:∃y,y=ni 6 gb:=⟨_,rfl⟩
 rw[P7,←sE,←hp1,←hp2,←hp3,←hp4,←hp5,←hp6,aH]
 refine SE.seq (SE.jQ ?_)
 rw[sE]
 simp -implicitDefEqProofs (maxSteps:=99999999) (disch:=first | omega | (simp only[vl];first | done | omega)) only[vu,vg,ni,gb,va,vg,vs,vw,vk,simprocAttr]
 have ZR:∀(G:Y),(∀i,i<H.length→Y.find G i=Y.find H i)→D Tryz.prog 76 [.ptr 2 lT 0 0,v] G (.ret (.sc (.bool (bH ps p)))) G:=fun G hG=>by
  refine yS (.cons (.ptr (blk:=⟨2,[.agg [aW 1 (aJ ps) kM,.sc (.string x)]],true,66⟩) (by rw[hG _ yu];exact hT.s) rfl rfl (by simp) (.agg (.cons (cq.own (ty:=30) (fun h=>?_) ?_) (.cons .sc .nil)))) (.cons (uc.keep df fun a e=>hG a (Fb a e).2.2.2.2.2).view .nil)) .sc (abJ ps x p hz fy)
  ·have h0:=hT.l h
   rw[bC h] at h0 ⊢
   rw[hG _ (Y.am h0)]
   exact h0
  ·exact Br
 generalize mR:(some ⟨4,[Z.agg [.sc (.int .u8 0),.sc (.string ⟨#[]⟩),.sc (.int .i64 0),.ak 0 [] (some [])]],true,25⟩:Option aD)::some ⟨4,[Z.agg [.sc (.int .u8 t.kind),.sc (.string t.text),.sc (.int .i64 t.num),.ak 4 (bM t.kids) ro]],true,25⟩::H=F0
 have Vf:F0.length=H.length+2:=by rw[←mR];rfl
 have yh:∀i,i<H.length→Y.find F0 i=Y.find H i:=fun i hi=>by rw[←mR,ai (by simp;omega),ai hi]
 have Vg:Y.find F0 H.length=some ⟨4,[Z.agg [.sc (.int .u8 t.kind),.sc (.string t.text),.sc (.int .i64 t.num),.ak 4 (bM t.kids) ro]],true,25⟩:=by rw[←mR,ai (by simp),aN rfl]
 have Vh:Y.find F0 (H.length+1)=some ⟨4,[Z.agg [.sc (.int .u8 0),.sc (.string ⟨#[]⟩),.sc (.int .i64 0),.ak 0 [] (some [])]],true,25⟩:=by rw[←mR];exact aN (by simp)
 clear mR
 have Yh:=(yh cb fD).trans hT.c
 have Yi:=(yh lT yu).trans hT.s
 have f0t:=(yh tb th).trans hT.t
 have Vi:=(yh ab ZQ).trans hab
 unfold kL at Vi
 refine SE.seq (SE.jQ ?_)
 rw[hp1]
 have Ns:=ZR F0 yh
 obtain ⟨tx,Vj⟩:∃tx,tx=if bH ps p=true then x else t.text:=⟨_,rfl⟩
 have hkey:∀(ts:List Z)(F1:Y),Fr [none,some (.ptr 1 cb 0 0),some (.ptr 1 ab 0 0),some (.ptr 1 tb 0 0),some (.ptr 4 H.length 0 0),some (.ptr 4 (H.length+1) 0 0),none,none,none,none,none,none,none,none,none,none,none,none,none,none,none,none,none,none,none,none,none,none,none,none,none,none,none,none,none,none,none,none,none,none,none,none,none,none,none,none,none,none] ts→F1.length=H.length+2→(∀i,i<H.length→Y.find F1 i=Y.find H i)→Y.find F1 H.length=some ⟨4,[Z.agg [.sc (.int .u8 t.kind),.sc (.string tx),.sc (.int .i64 t.num),.ak 4 (bM t.kids) ro]],true,25⟩→Y.find F1 (H.length+1)=some ⟨4,[Z.agg [.sc (.int .u8 0),.sc (.string ⟨#[]⟩),.sc (.int .i64 0),.ak 0 [] (some [])]],true,25⟩→
   SE Tryz.prog [] (p2.seq (p3.seq ((p4.seq (IC.block 0 p5.loop)).seq p6))) (pu [RV.c 5 4 true] fun e1 H1=>eJ H e1 H1 (.ret (dW (bc (bH ps) x t p) (c8 t p v ab H).length)) (dD (bc (bH ps) x t p) (c8 t p v ab H).length++c8 t p v ab H)) ts F1:=by
  intro ts F1 cv tj tw D7 Rg
  obtain ⟨js,rfl⟩:=cv.opened
  clear cv Ns Yh Yi f0t Vi Vf yh Vg Vh ZR
  refine SE.seq (SE.jQ ?_)
  rw[hp2]
  simp -implicitDefEqProofs (maxSteps:=99999999) (disch:=first | omega | (simp only[vl];first | done | omega)) only[mk,vu,vg,D7,ni,gb,va,vg,vs,vw,vk,simprocAttr]
  refine SE.seq (SE.jQ ?_)
  rw[hp3]
  simp -implicitDefEqProofs (maxSteps:=99999999) (disch:=first | omega | (simp only[vl];first | done | omega)) only[mk,vu,vg,D7,ni,gb,va,vg,vs,vw,vk,simprocAttr]
  refine SE.seq (SE.seq (SE.jQ ?_))
  rw[hp4]
  simp -implicitDefEqProofs (maxSteps:=99999999) (disch:=first | omega | (simp only[vl];first | done | omega)) only[mk,vu,vg,D7,aL,ni,gb,va,vg,vs,vw,vk,simprocAttr]
  refine SE.gen fun K hK=>?_
  refine SE.block (SE.abL (fun ts F=>∃(k i1:Nat)(xs:List Z)(is:List Nat)(vq:Z),(k≤t.kids.length∧jv F (cD (bH ps) x (t.kids.take k) p 0) xs is∧is.Nodup∧(∀i∈is,H.length+2≤i∧i≠i1∧i<F.length)∧(xs≠[]→Y.find F i1=cA 4 25 xs∧H.length+2≤i1))∧
   (Y.find F ab=some (kL vq)∧uc F p vq∧(k=0→vq=v∧∀i,i<H.length→Y.find F i=Y.find H i)∧(0<k→∃aY c,vq = .aB 1 aY 0 p.length c∧H.length+2≤aY∧aY∉is))∧
   (Y.find F H.length=some ⟨4,[.agg [.sc (.int .u8 t.kind),.sc (.string tx),.sc (.int .i64 t.num),aW 4 xs i1]],true,25⟩∧Y.find F (H.length+1)=some ⟨4,[Z.agg [.sc (.int .u8 0),.sc (.string ⟨#[]⟩),.sc (.int .i64 0),.ak 0 [] (some [])]],true,25⟩∧(∀i,i<H.length→i≠ab→(∀a,mi v=some a→i≠a)→Y.find F i=Y.find H i)∧H.length+2≤F.length)∧
   Fr [none,some (.ptr 1 cb 0 0),some (.ptr 1 ab 0 0),some (.ptr 1 tb 0 0),some (.ptr 4 H.length 0 0),some (.ptr 4 (H.length+1) 0 0),none,none,none,none,none,none,none,none,none,none,none,none,none,none,none,none,some (.ak 4 (bM t.kids) ro),some (.sc (.int .i64 t.kids.length)),some (.sc (.int .i64 k)),none,none,none,none,none,none,none,none,none,none,none,none,none,none,none,none,none,none,none,none,none,none,none] ts) (fun ts _=>t.kids.length - (bL (ts.getD 24 .top)).toNat) ?_ ?_)
  ·refine ⟨0,H.length,[],[],v,⟨Nat.zero_le _,by simp only[List.take_zero,cD];exact .nil,by simp,by simp,fun e=>absurd rfl e⟩,⟨?_,?_,fun _=>⟨rfl,fun i hi=>by rw[Y.ah (by omega),tw i hi]⟩,fun h=>absurd h (by omega)⟩,⟨?_,by rw[Y.ah (by omega)];exact Rg,fun i hi _ _=>by rw[Y.ah (by omega),tw i hi],by rw[Y.aj];omega⟩,by simp[Fr]⟩
   ·rw[Y.ah (by omega),tw _ ZQ];exact hab
   ·exact df.keep fun a e=>by rw[Y.ah (by have:=(Fb a e).2.2.2.2.2;omega),tw a (Fb a e).2.2.2.2.2]
   ·rw[Y.ay (by omega)]
    rfl
  rintro ts F ⟨k,i1,xs,is,vq,⟨hk,hO,hnd,hge,hrow⟩,⟨Yj,hFv,bV,hkp⟩,⟨hnb,Yk,hold,T5⟩,cv⟩ L2 dY
  obtain ⟨js,rfl⟩:=cv.opened
  clear cv
  by_cases hd:k<t.kids.length
  ·have d1:(k:Int)<t.kids.length:=by omega
   have hg:=eK hd
   have fM:=eF hd
   have UK:=Nd.kr fM
   have Ca:=Nd.kR t.kids
   refine SE.abO Yj hFv fun Fc Vk hW M1 ZS haI lF uG hnil=>?_
   have LM:H.length≠ab:=by omega
   clear hFv
   have Vl:=lF _ _ hnb LM (by simp)
   have ZT:=lF _ _ Yk (by omega) (by simp)
   have Bs:∀a,mi Vk=some a→a≠ab∧a≠H.length∧a≠H.length+1∧(0<k→H.length+2≤a∧a∉is)∧(k=0→mi v=some a)∧a<Fc.length:=fun a e=>by
    have h1:=hW.at a e
    refine ⟨fun e2=>by rw[e2,M1] at h1;simp[kL] at h1,fun e2=>by rw[e2,Vl] at h1;simp at h1,fun e2=>by rw[e2,ZT] at h1;simp at h1,fun h=>?_,fun h=>?_,Y.am h1⟩
    ·obtain ⟨aY,c,e3,e4,e5⟩:=hkp h
     rw[haI,e3] at e
     cases e
     exact ⟨e4,e5⟩
    ·rw[haI,(bV h).1] at e;exact e
   have LN:∀i,i<H.length→i≠ab→(∀a,mi v=some a→i≠a)→Y.find Fc i=Y.find H i:=fun i hi h1 h2=>by
    have h3:∀a,mi vq=some a→i≠a:=fun a e e2=>by
     rw[←haI] at e
     rcases Nat.eq_zero_or_pos k with hz | hz
     ·exact h2 a ((Bs a e).2.2.2.2.1 hz) e2
     ·have:=((Bs a e).2.2.2.1 hz).1;omega
    rw[uG i h1 h3]
    exact hold i hi h1 h2
   have hOc:jv Fc (cD (bH ps) x (t.kids.take k) p 0) xs is:=hO.keep fun i ys e h=>by
    rw[bC e] at h ⊢
    exact lF i _ h (fun e2=>by rw[e2,Yj] at h;simp[kL] at h) (by simp)
   have Bt:xs≠[]→Y.find Fc i1=cA 4 25 xs∧H.length+2≤i1:=fun e=>by
    obtain ⟨h1,h2⟩:=hrow e
    rw[bC e] at h1 ⊢
    exact ⟨lF i1 _ h1 (by omega) (by simp),h2⟩
   clear hO hrow hold Yj hnb Yk bV hkp
   have M2:∀i∈is,H.length+2≤i∧i≠i1∧i<Fc.length:=fun i hi=>by rw[ZS];exact hge i hi
   have ad1:H.length+2≤Fc.length:=by omega
   clear hge T5 ZS lF uG
   have hc2:Y.find Fc cb=_:=(LN cb fD (Ne.symm hbc) fun a e=>(Fb a e).2.1.symm).trans hT.c
   have Pv:Y.find Fc tb=_:=(LN tb th (Ne.symm QT) fun a e=>(Fb a e).2.2.2.1.symm).trans hT.t
   have zF:=hW.eN (G:=some ⟨4,[.agg [.sc (.int .u8 (au t.kids k).kind),.sc (.string (au t.kids k).text),.sc (.int .i64 (au t.kids k).num),.ak 4 (bM (au t.kids k).kids) none]],true,25⟩::Fc) k (by omega) fun a e=>ai (Bs a e).2.2.2.2.2
   obtain ⟨ap1,ap2,ap3⟩:=zF
   simp only[List.length_cons] at ap2
   have Vm:=M1
   unfold kL at Vm
   obtain ⟨F2,nX⟩:∃F2,F2=some (⟨1,aZ (p++[(k:Int)]),false,3⟩:aD)::lS (mi Vk) (some ⟨4,[.agg [.sc (.int .u8 (au t.kids k).kind),.sc (.string (au t.kids k).text),.sc (.int .i64 (au t.kids k).num),.ak 4 (bM (au t.kids k).kids) none]],true,25⟩::Fc):=⟨_,rfl⟩
   rw[←nX] at ap3
   have aeh:F2.length=Fc.length+2:=by rw[nX];simp[cg]
   have Bu:∀i,i<Fc.length→(∀a,mi Vk=some a→i≠a)→Y.find F2 i=Y.find Fc i:=fun i hi h=>by
    rw[nX,ai (by rw[cg];simp;omega),xn h,ai hi]
   have adQ:Y.find F2 (Fc.length+1)=some ⟨1,aZ (p++[(k:Int)]),false,3⟩:=by rw[nX,aN (by rw[cg];rfl)]
   have adR:Y.find F2 Fc.length=some ⟨4,[.agg [.sc (.int .u8 (au t.kids k).kind),.sc (.string (au t.kids k).text),.sc (.int .i64 (au t.kids k).num),.ak 4 (bM (au t.kids k).kids) none]],true,25⟩:=by
    rw[nX,ai (by rw[cg];simp),xn fun a e=>by have:=(Bs a e).2.2.2.2.2;omega,aN rfl]
   have g1:Y.find F2 ab=some ⟨1,[Vk],true,30⟩:=(Bu ab (Y.am M1) fun a e=>(Bs a e).1.symm).trans Vm
   have g2:=(Bu H.length (by omega) fun a e=>(Bs a e).2.1.symm).trans Vl
   have g3:=(Bu tb (by omega) fun a e=>by
    rcases Nat.eq_zero_or_pos k with hz | hz
    ·exact (Fb a ((Bs a e).2.2.2.2.1 hz)).2.2.2.1.symm
    ·have:=((Bs a e).2.2.2.1 hz).1;omega).trans Pv
   have M3:∀i,i<H.length→i≠ab→(∀a,mi v=some a→i≠a)→Y.find F2 i=Y.find H i:=fun i hi h1 h2=>by
    rw[Bu i (by omega) fun a e e2=>?_,LN i hi h1 h2]
    rcases Nat.eq_zero_or_pos k with hz | hz
    ·exact h2 a ((Bs a e).2.2.2.2.1 hz) e2
    ·have:=((Bs a e).2.2.2.1 hz).1;omega
   clear nX
   have cl:bA Tryz.prog 75=true:=by kernel_rfl
   obtain ⟨wf1,wf2,wf3,wf4⟩:=hW.v.flat
   have wf5:=hW.v.j6
   have hlen:(p++[(k:Int)]).length=p.length+1:=by simp
   have IQ:∀(y:Option aD) i,i≠ab→Y.find (Y.set F2 ab y) i=Y.find F2 i:=fun y i h=>Y.ah h
   have hTP:TP cb ab tb lT kM ps x (Y.set F2 ab (some (kL (.aB 1 (Fc.length+1) 0 (p++[(k:Int)]).length none)))):=by
    refine ⟨?_,?_,fun h=>?_,?_⟩
    ·rw[IQ _ _ hbc.symm,M3 cb fD hbc.symm fun a e=>(Fb a e).2.1.symm];exact hT.c
    ·rw[IQ _ _ Cj.symm,M3 lT yu Cj.symm fun a e=>(Fb a e).2.2.1.symm];exact hT.s
    ·have h0:=hT.l h
     have h1:=h0
     rw[bC h] at h1
     rw[IQ _ _ (gz h).symm,M3 kM (Y.am h1) (gz h).symm fun a e=>((Fb a e).2.2.2.2.1 h).symm];exact h0
    ·rw[IQ _ _ QT.symm];exact g3
   have hA3:Y.find (Y.set F2 ab (some (kL (.aB 1 (Fc.length+1) 0 (p++[(k:Int)]).length none)))) (Fc.length+1)=some ⟨1,aZ (p++[(k:Int)]),false,3⟩:=by
    rw[IQ _ _ (by omega)];exact adQ
   have hi:=ih _ fM none (p++[(k:Int)]) cb ab tb lT kM (.aB 1 (Fc.length+1) 0 (p++[(k:Int)]).length none) _ (by rw[hlen];omega) hTP (Y.ay (by omega)) (.inr ⟨_,rfl,hA3⟩)
   have tB:=LK (t:=au t.kids k) (T:=bc (bH ps) x (au t.kids k) (p++[(k:Int)])) (Y.ay (H:=F2) (i:=ab) (x:=some (kL (.aB 1 (Fc.length+1) 0 (p++[(k:Int)]).length none))) (by omega)) hA3
   generalize (c8 (au t.kids k) (p++[(k:Int)]) (.aB 1 (Fc.length+1) 0 (p++[(k:Int)]).length none) ab (Y.set F2 ab (some (kL (.aB 1 (Fc.length+1) 0 (p++[(k:Int)]).length none))))).length=n0 at hi tB
   generalize hT':bc (bH ps) x (au t.kids k) (p++[(k:Int)])=T' at hi tB
   generalize hF4:dD T' n0++c8 (au t.kids k) (p++[(k:Int)]) (.aB 1 (Fc.length+1) 0 (p++[(k:Int)]).length none) ab (Y.set F2 ab (some (kL (.aB 1 (Fc.length+1) 0 (p++[(k:Int)]).length none))))=F4 at hi tB
   clear hF4
   obtain ⟨q1,⟨A,q2,q3,q4,q4b⟩,q5,q6,q7⟩:=tB
   rw[Y.aj] at q5 q6
   rw[aH] at hi
   rw[hlen] at hi q2
   unfold kL at hi q2
   rw[hp5]
   simp only[ni,gb,ux]
   refine SE.seq (SE.jQ ?_)
   refine Tj d1 ?_
   refine SE.seq (SE.jQ ?_)
   refine Tj d1 ?_
   refine SE.seq (SE.block (SE.seq (SE.jQ ?_)))
   refine zG3 d1 hg @aL ?_
   refine ⟨by omega,SE.seq (SE.jQ ?_)⟩
   refine acQ wf1 wf2 wf3 wf4 wf5 Vm ap1 ap2 ap3 g1 ?_
   refine SE.seq (SE.jQ ?_)
   refine zG5 g1 g2 g3 adR @oD ?_
   refine ⟨cl,tD hi (fun l hl _=>?_) ?_⟩
   ·simp only[List.mem_cons,List.not_mem_nil,or_false] at hl
    rcases hl with rfl | rfl | rfl
    ·have:=q5 Fc.length (by omega) (by omega) (by omega)
     rw[hlen] at this;exact this
    ·have:=q5 tb (by omega) QT.symm (by omega)
     rw[hlen] at this;exact this
    ·have:=q5 H.length (by omega) (by omega) (by omega)
     rw[hlen] at this;exact this
   have Vn:∀i,i<F2.length→i≠ab→i≠Fc.length+1→Y.find F4 i=Y.find F2 i:=fun i h1 h2 h3=>by rw[q5 i h1 h2 h3,Y.ah h2]
   clear q5
   have Bv:∀e:xs≠[],i1<Fc.length∧i1≠ab∧(∀a,mi Vk=some a→i1≠a):=fun e=>by
    obtain ⟨r1,r2⟩:=Bt e
    rw[bC e] at r1
    refine ⟨Y.am r1,by omega,fun a ea e2=>?_⟩
    have:=hW.at a ea
    rw[←e2,r1] at this
    cases this
   have Vo:xs≠[]→Y.find F4 i1=cA 4 25 xs:=fun e=>by
    obtain ⟨s1,s2,s3⟩:=Bv e
    rw[Vn i1 (by omega) s2 (by omega),Bu i1 s1 s3]
    exact (Bt e).1
   have vY:=hOc.len
   rw[cP,List.length_take] at vY
   obtain ⟨i5,F5,u1,u2,u3,u4,u5,u6⟩:=tU (H:=F4) (k:=4) (ty:=25) (xs:=xs) (ys:=[.agg [.sc (.int .u8 T'.kind),.sc (.string T'.text),.sc (.int .i64 T'.num),aW 4 (eo T'.kids (n0+1)) n0]]) (id:=i1) Vo (by simp;omega)
   obtain ⟨Vp,u4b⟩:=u4 (by simp)
   have h5:∀i,i<F4.length→(xs≠[]→i≠i1)→Y.find F5 i=Y.find F4 i:=u6
   have g5:Y.find F5 H.length=some ⟨4,[.agg [.sc (.int .u8 t.kind),.sc (.string tx),.sc (.int .i64 t.num),aW 4 xs i1]],true,25⟩:=by
    rw[h5 _ (by omega) fun e=>by have:=(Bt e).2;omega,Vn _ (by omega) (by omega) (by omega)]
    exact g2
   have g6:Y.find F5 ab=some ⟨1,[.aB 1 A 0 (p.length+1) none],true,30⟩:=by
    rw[h5 _ (by omega) fun e=>(Bv e).2.1.symm]
    exact q2
   have hsub:(((p.length+1:Nat):Int) - 1)=p.length:=by omega
   have abP:(p.length:Int)+1 - 1=p.length:=by omega
   have hle:p.length≤p.length+1:=by omega
   have f1:∀ys a,(aW 4 ys a).cells=[aW 4 ys a]:=fun _ _=>nC
   refine zB8 @cM f1 u1 u2 u3 g5 g6 @oD ?_
   have g7:∀y,Y.find (Y.set F5 H.length y) ab=some ⟨1,[.aB 1 A 0 (p.length+1) none],true,30⟩:=fun y=>by rw[Y.ah (by omega)];exact g6
   have k7:(1000001:Nat)≤maxLen:=by decide
   refine SE.abN (g7 _) (by omega) fun m hm1 hm2=>SE.jQ ?_
   have hle:∀y,Y.find (Y.set (Y.set F5 H.length y) ab (some ⟨1,[.aB 1 A 0 (p.length+1) (some m)],true,30⟩)) ab=some ⟨1,[.aB 1 A 0 (p.length+1) (some m)],true,30⟩:=fun y=>Y.ay (by rw[Y.aj];omega)
   have hm0:0<m:=by omega
   refine Pb hle hsub abP hm0 @Nat.sub_zero ?_
   refine ⟨⟨by omega,rfl,by omega,by omega⟩,SE.jQ ?_⟩
   refine ax ?_
   have e1:aZ (p++[(k:Int)])=aZ p++aZ [(k:Int)]:=by simp[aZ]
   have w0:∀(y z:Option aD) i,i<F5.length→i≠ab→i≠H.length→Y.find (Y.set (Y.set (Y.set F5 H.length y) ab z) ab (some ⟨1,[.aB 1 A 0 p.length (some m)],true,30⟩)) i=Y.find F5 i:=fun y z i _ h1 h2=>by rw[Y.ah h1,Y.ah h1,Y.ah h2]
   have w1:∀(y z:Option aD),Y.find (Y.set (Y.set (Y.set F5 H.length y) ab z) ab (some ⟨1,[.aB 1 A 0 p.length (some m)],true,30⟩)) ab=some ⟨1,[.aB 1 A 0 p.length (some m)],true,30⟩:=fun y z=>Y.ay (by rw[Y.aj,Y.aj];omega)
   have w2:∀(y z:Option aD),Y.find (Y.set (Y.set (Y.set F5 H.length y) ab z) ab (some ⟨1,[.aB 1 A 0 p.length (some m)],true,30⟩)) H.length=y:=fun y z=>by rw[Y.ah LM,Y.ah LM,Y.ay (by omega)]
   have w3:∀(y z:Option aD),(Y.set (Y.set (Y.set F5 H.length y) ab z) ab (some ⟨1,[.aB 1 A 0 p.length (some m)],true,30⟩)).length=F5.length:=fun y z=>by rw[Y.aj,Y.aj,Y.aj]
   have hA1:A≠i1∨xs=[]:=by
    by_cases e:xs=[]
    ·exact .inr e
    ·left
     intro e2
     have:=Vo e
     rw[←e2,q3,bC e] at this
     cases this
   have hAF:Y.find F5 A=some ⟨1,aZ (p++[(k:Int)]),false,3⟩:=by
    rw[h5 A (by omega) fun e=>by rcases hA1 with h | h;exact h;exact absurd h e]
    exact q3
   have hOt:cD (bH ps) x (t.kids.take (k+1)) p 0=cD (bH ps) x (t.kids.take k) p 0++[T']:=by
    rw[xY _ _ _ _ _ _ hd,Nat.zero_add,hT']
   have hOF:∀i ys,ys≠[]→Y.find Fc i=cA 4 25 ys→i≠i1→Y.find F5 i=cA 4 25 ys∧i≠ab∧i≠H.length:=fun i ys e h hne=>by
    rw[bC e] at h ⊢
    have lI:=Y.am h
    have Io:i≠ab:=fun e2=>by rw[e2,M1] at h;simp[kL] at h
    have AP:i≠H.length:=fun e2=>by rw[e2,Vl] at h;simp at h
    refine ⟨?_,Io,AP⟩
    rw[h5 i (by omega) fun _=>hne,Vn i (by omega) Io (by omega),Bu i lI fun a ea e2=>?_]
    ·exact h
    ·have:=hW.at a ea
     rw[←e2,h] at this
     cases this
   refine dY _ _ ⟨k+1,i5,xs++[dW T' n0],is++List.range' n0 T'.size,.aB 1 A 0 p.length (some m),⟨by omega,?_,?_,fun i hi=>?_,fun _=>⟨?_,by omega⟩⟩,⟨?_,.inr ⟨A,some m,aZ (p++[(k:Int)]),rfl,?_,?_⟩,fun h=>by omega,fun _=>⟨A,some m,rfl,by omega,fun h=>?_⟩⟩,⟨?_,?_,fun i hi h1 h2=>?_,?_⟩,by simp[Fr,cM]⟩ (by simp[bL,mk];omega)
   ·rw[hOt]
    have h8:∀G:Y,(∀i,i<F5.length→i≠ab→i≠H.length→Y.find G i=Y.find F5 i)→jv G (cD (bH ps) x (t.kids.take k) p 0++[T']) (xs++[dW T' n0]) (is++List.range' n0 T'.size):=fun G hG=>by
     have h9:=(hOc.xm (G:=G) fun i hi ys e h=>by
      obtain ⟨z1,z2,z3⟩:=hOF i ys e h (M2 i hi).2.1
      rw[hG i (by rw[bC e] at z1;exact Y.am z1) z2 z3]
      exact z1).append (.cons (Bn T' (q1.of (G:=G) fun i z1 z2=>by
       rw[hG i (by omega) (by omega) (by omega),h5 i (by omega) fun e=>by have:=(Bv e).1;omega])) .nil)
     rwa [List.append_nil] at h9
    exact h8 _ fun i z1 z2 z3=>w0 _ _ i z1 z2 z3
   ·refine List.nodup_append.2 ⟨hnd,List.nodup_range',fun a ha b hb e=>?_⟩
    have:=(M2 a ha).2.2
    have:=mg hb
    omega
   ·rw[w3]
    rcases List.mem_append.1 hi with h | h
    ·have:=M2 i h
     exact ⟨this.1,by omega,by omega⟩
    ·have:=mg h
     exact ⟨by omega,by omega,by omega⟩
   ·rw[w0 _ _ _ (by rw[bC (by simp)] at Vp;exact Y.am Vp) (by omega) (by omega),cM]
    exact Vp
   ·exact w1 _ _
   ·rw[w0 _ _ A (by omega) (by omega) (by omega)]
    exact hAF
   ·rw[e1,List.take_left' (bI p)]
   ·rcases List.mem_append.1 h with h | h
    ·have:=(M2 A h).2.2;omega
    ·have:=mg h;omega
   ·rw[w2,cM]
   ·rw[w0 _ _ _ (by omega) (by omega) (by omega),h5 _ (by omega) fun e=>by have:=(Bt e).2;omega,Vn _ (by omega) (by omega) (by omega),Bu _ (by omega) fun a e=>(Bs a e).2.2.1.symm]
    exact ZT
   ·rw[w0 _ _ _ (by omega) h1 (by omega),h5 _ (by omega) fun e=>by have:=(Bt e).2;omega,Vn _ (by omega) h1 (by omega)]
    exact M3 i hi h1 h2
   ·rw[w3];omega
  ·have d1:¬(k:Int)<t.kids.length:=by omega
   have hkk:k=t.kids.length:=by omega
   refine SE.jQ ?_
   rw[hp5]
   simp -implicitDefEqProofs (maxSteps:=99999999) (disch:=first | omega | (simp only[vl];first | done | omega)) only[vu,vg,mk,d1,ni,gb,va,vg,vs,vw,vk,simprocAttr]
   clear dY
   refine hK _ _ _ ?_
   clear hK
   refine SE.jQ ?_
   rw[hp6]
   simp -implicitDefEqProofs (maxSteps:=99999999) (disch:=first | omega | (simp only[vl];first | done | omega)) only[vu,vg,hnb,Yk,oD,ni,gb,va,vg,vs,vw,vk,simprocAttr]
   have hT2:bc (bH ps) x t p=⟨t.kind,tx,t.num,cD (bH ps) x t.kids p 0⟩:=by rw[da,Vj]
   rw[hkk,List.take_length] at hO
   have vY:=hO.len
   rw[cP] at vY
   have ZU:∀i ys,ys≠[]→Y.find F i=cA 4 25 ys→i≠H.length+1:=fun i ys e h e2=>by
    rw[e2,Yk,bC e] at h;cases h
   have jV:∀(y:Option aD) i ys,ys≠[]→Y.find F i=cA 4 25 ys→Y.find (Y.set F (H.length+1) y) i=cA 4 25 ys:=fun y i ys e h=>by
    rw[Y.ah (ZU i ys e h)];exact h
   by_cases ck:t.kids=[]
   ·have hx0:xs=[]:=List.length_eq_zero_iff.1 (by rw[vY,ck];rfl)
    subst hx0
    have QQ:k=0:=by rw[hkk,ck];rfl
    obtain ⟨rfl,hall⟩:=bV QQ
    have hO0:is=[]:=by
     rw[ck] at hO
     simp only[cD] at hO
     cases hO
     rfl
    subst hO0
    have hX:c8 t p vq ab H=H:=by unfold c8;rw[if_pos ck]
    rw[hX]
    refine pV (pre:=[]) (is:=H.length::[]) (by simp) ?_ (by simp) (by simp) (fun id b hid hb=>.inl ⟨hb,by rw[Y.ah (by omega),hall id hid];exact hb⟩) (fun i s b hs=>by simp at hs)
    rw[hT2]
    exact .mk (xs:=[]) (i:=H.length) (fun e=>absurd rfl e) (hO.keep (jV _))
   ·have Ca:0<t.kids.length:=List.length_pos_iff.2 ck
    have uD:xs≠[]:=fun e=>by rw[e] at vY;simp at vY;omega
    obtain ⟨r1,r2⟩:=hrow uD
    obtain ⟨aY,c,rfl,Io,AP⟩:=hkp (by omega)
    obtain ⟨es,he,het⟩:∃es,Y.find F aY=some ⟨1,es,false,3⟩∧es.take p.length=aZ p:=by
     rcases hFv with ⟨_,e⟩ | ⟨a,c,es,e,h1,h2⟩
     ·cases e
     ·cases e;exact ⟨es,h1,h2⟩
    have hX:c8 t p v ab H=some ⟨1,aZ p,false,3⟩::Y.set (lS (mi v) H) ab (some (kL (.aB 1 H.length 0 p.length none))):=by unfold c8;rw[if_neg ck]
    rw[hX]
    refine eJ.cut aY p.length ?_
    have uG:∀(y:Option aD) i,i≠aY→i≠H.length+1→Y.find (gd (Y.set F (H.length+1) y) aY p.length) i=Y.find F i:=fun y i h1 h2=>by rw[oW h1,Y.ah h2]
    have hca:∀(y:Option aD),Y.find (gd (Y.set F (H.length+1) y) aY p.length) aY=some ⟨1,aZ p,false,3⟩:=fun y=>by
     have:=pT (H:=Y.set F (H.length+1) y) (id:=aY) (n:=p.length) (by rw[Y.ah (by omega)];exact he) (by simp)
     rw[het] at this
     exact this
    have Vd:i1≠aY:=fun e=>by rw[e,he,bC uD] at r1;cases r1
    refine pV (pre:=[aY]) (is:=i1::is) (by simp[Y.aj,cg]) ?_ ?_ ?_ (fun id b hid hb=>?_) (fun i s b hs hb=>?_)
    ·rw[hT2]
     refine .mk (fun _=>?_) (hO.keep fun i ys e h=>?_)
     ·rw[uG _ i1 Vd (by omega)];exact r1
     ·rw[uG _ i (fun e2=>by rw[e2,he,bC e] at h;cases h) (ZU i ys e h)];exact h
    ·simp only[List.cons_append,List.nil_append,List.nodup_cons,List.mem_cons]
     exact ⟨fun h=>by rcases h with h | h;exact Vd h.symm;exact AP h,fun h=>(hge i1 h).2.1 rfl,hnd⟩
    ·intro i hi
     simp only[List.cons_append,List.nil_append,List.mem_cons] at hi
     rcases hi with rfl | rfl | hi
     ·omega
     ·omega
     ·have:=(hge i hi).1;omega
    ·rw[ai (by rw[Y.aj,cg];exact hid)] at hb
     by_cases ci:id=ab
     ·subst ci
      rw[Y.ay (by rw[cg];exact hid)] at hb
      cases hb
      refine .inr ⟨kL (.aB 1 aY 0 p.length c),by rw[uG _ id (by omega) (by omega)];exact Yj,rfl,rfl,fun h=>h,.cons (.SV ?_ (.inr rfl)) .nil⟩
      have adS:(aY::i1::is).Nodup:=List.nodup_cons.2 ⟨fun h=>by rcases List.mem_cons.1 h with h | h;exact Vd h.symm;exact AP h,List.nodup_cons.2 ⟨fun h=>(hge i1 h).2.1 rfl,hnd⟩⟩
      have hN:=pJ (n0:=H.length) adS (i:=0) (s:=aY) rfl (by omega)
      exact hN
     ·rw[Y.ah ci] at hb
      obtain ⟨e1,e2⟩:=IP hb
      exact .inl ⟨e1,by rw[uG _ id (by omega) (by omega),hold id hid ci e2];exact e1⟩
    ·cases i with
     | zero =>
      simp only[List.getElem?_cons_zero,Option.some.injEq] at hs
      subst hs
      rw[Nat.add_zero,aN (by rw[Y.aj,cg])] at hb
      cases hb
      exact ⟨_,hca _,rfl,rfl,fun h=>h,rI⟩
     | succ i=>simp at hs
 cases hpf:bH ps p with
 | false =>
  rw[hpf] at Ns Vj
  simp -implicitDefEqProofs (maxSteps:=99999999) (disch:=first | omega | (simp only[vl];first | done | omega)) only[vu,vg,vf1,vf2,vf3,vf4,Yh,Yi,Vi,ni,gb,va,vg,vs,vw,vk,simprocAttr]
  refine aP Ns ?_
  refine ax ?_
  refine hkey _ _ (by simp[Fr]) Vf yh ?_ Vh
  rw[Vj]
  exact Vg
 | true =>
  rw[hpf] at Ns Vj
  simp -implicitDefEqProofs (maxSteps:=99999999) (disch:=first | omega | (simp only[vl];first | done | omega)) only[vu,vg,vf1,vf2,vf3,vf4,Yh,Yi,Vi,ni,gb,va,vg,vs,vw,vk,simprocAttr]
  refine aP Ns ?_
  refine sJ Yh Yi Vi Vg ?_
  refine hkey _ _ (by simp[Fr]) (by rw[Y.aj];exact Vf) (fun i hi=>by rw[Y.ah (by omega)];exact yh i hi) ?_ (by rw[Y.ah (by omega)];exact Vh)
  rw[Y.ay (by omega),Vj]
  rfl
theorem Yl(ps:List (List Int))(x:ByteArray)(hz:ps.length≤1000000)(fy:∀k,k<ps.length→(c9 ps k).length≤1000000)(t:Nd):LL ps x t:=by
 induction t using Nd.ind with
 | _ t ih=>exact Ve ps x hz fy t ih
set_option maxHeartbeats 0 in
theorem Ym(ps:List (List Int))(x:ByteArray)(hz:ps.length≤1000000)(fy:∀k,k<ps.length→(c9 ps k).length≤1000000)(t:Nd)(ro:Option (List Z))(hs:t.size≤1000000)(lT kM:Nat)(H:Y)(hc:Y.find H lT=some ⟨2,[.agg [aW 1 (aJ ps) kM,.sc (.string x)]],true,66⟩)(hl:aJ ps≠[]→Y.find H kM=cA 1 30 (aJ ps)) :
  D Tryz.prog 45 [.ptr 2 lT 0 0,eG t ro] H (.ret (dW (bc (bH ps) x t []) H.length)) (dD (bc (bH ps) x t []) H.length++H):=by
 have fD:=Y.am hc
 have eI:aJ ps≠[]→kM<H.length:=fun h=>by have:=hl h;rw[bC h] at this;exact Y.am this
 have cl:bA Tryz.prog 75=true:=by kernel_rfl
 refine aF (by rw[List.length_append];omega) (adM (aE ?_))
 rw[aH]
 simp only[ZL,ux]
 refine ae fun L hL=>?_
 refine ax ?_
 refine hL _ _ ?_
 clear hL
 refine ae fun L hL=>?_
 refine ax ?_
 refine hL _ _ ?_
 clear hL
 refine ae fun L hL=>?_
 refine ax ?_
 refine hL _ _ ?_
 clear hL
 refine ae fun L hL=>?_
 refine ax ?_
 generalize hF:(some ⟨1,[Z.fn (Fn.func 75) [] [.ptr 1 H.length 0 0,.ptr 1 (H.length+3) 0 0,.ptr 1 (H.length+4) 0 0]],true,28⟩:Option aD)::_=F
 have T5:F.length=H.length+5:=by rw[←hF];rfl
 have hFo:∀i,i<H.length→Y.find F i=Y.find H i:=fun i hi=>by
  rw[←hF,ai (by simp;omega),ai (by simp;omega),ai (by simp;omega),ai (by simp;omega),ai (by omega)]
 have f0:Y.find F H.length=some ⟨1,[.ptr 2 lT 0 0],true,62⟩:=by
  rw[←hF,ai (by simp only[List.length_cons];omega),ai (by simp only[List.length_cons];omega),ai (by simp only[List.length_cons];omega),ai (by simp only[List.length_cons];omega),aN rfl]
 have f1:Y.find F (H.length+1)=some ⟨4,[.agg [.sc (.int .u8 t.kind),.sc (.string t.text),.sc (.int .i64 t.num),.ak 4 (bM t.kids) ro]],true,25⟩:=by
  rw[←hF,ai (by simp only[List.length_cons];omega),ai (by simp only[List.length_cons];omega),ai (by simp only[List.length_cons];omega),aN (by simp only[List.length_cons])]
 have f2:∃rb,Y.find F (H.length+2)=some ⟨4,[.agg [rb,.sc (.string ⟨#[]⟩),.sc (.int .i64 0),.ak 0 [] (some [])]],true,25⟩:=⟨.sc (.int .u8 0),by
  rw[←hF,ai (by simp only[List.length_cons];omega),ai (by simp only[List.length_cons];omega),aN (by simp only[List.length_cons])]⟩
 have f3:Y.find F (H.length+3)=some (kL (.ak 0 [] (some []))):=by
  rw[←hF,ai (by simp only[List.length_cons];omega),aN (by simp only[List.length_cons])]
  rfl
 have f4:Y.find F (H.length+4)=some ⟨1,[Z.fn (Fn.func 75) [] [.ptr 1 H.length 0 0,.ptr 1 (H.length+3) 0 0,.ptr 1 (H.length+4) 0 0]],true,28⟩:=by
  rw[←hF]
  exact aN (by simp only[List.length_cons])
 clear hF
 obtain ⟨rb,f2⟩:=f2
 have hT:TP H.length (H.length+3) (H.length+4) lT kM ps x F:=⟨f0,(hFo lT fD).trans hc,fun h=>(hFo kM (eI h)).trans (hl h),f4⟩
 have Vq:=Yl ps x hz fy t ro [] H.length (H.length+3) (H.length+4) lT kM (.ak 0 [] (some [])) F (by simp;omega) hT f3 (.inl ⟨rfl,rfl⟩)
 have hXl:=ue (t:=t) (p:=[]) (v:=.ak 0 [] (some [])) (ab:=H.length+3) (H:=F)
 have P8:∀i,i<F.length→i≠H.length+3→Y.find (dD (bc (bH ps) x t []) (c8 t [] (.ak 0 [] (some [])) (H.length+3) F).length++c8 t [] (.ak 0 [] (some [])) (H.length+3) F) i=Y.find F i:=fun i hi hne=>by
  rw[Y.bx (by omega)]
  unfold c8
  split
  ·rfl
  ·rw[ai (by rw[Y.aj,cg];omega),Y.ah hne]
   rfl
 have hlies:dx (dD (bc (bH ps) x t []) (c8 t [] (.ak 0 [] (some [])) (H.length+3) F).length++c8 t [] (.ak 0 [] (some [])) (H.length+3) F) (bc (bH ps) x t []) (c8 t [] (.ak 0 [] (some [])) (H.length+3) F).length:=fp
 generalize (c8 t [] (.ak 0 [] (some [])) (H.length+3) F).length=n0 at Vq P8 hlies hXl
 generalize hT':bc (bH ps) x t []=T' at Vq P8 hlies ⊢
 generalize hG:dD T' n0++c8 t [] (.ak 0 [] (some [])) (H.length+3) F=G at Vq P8 hlies
 have hGl:n0+T'.size=G.length∨True:=.inr trivial
 rw[aH] at Vq
 have hr:=(P8 (H.length+2) (by omega) (by omega)).trans f2
 have hGl:F.length≤G.length:=by have:=Y.am hr;have:=P8 (H.length+4) (by omega) (by omega);rw[f4] at this;have:=Y.am this;omega
 refine hL _ _ ?_
 clear hL
 refine ae fun L hL=>?_
 simp -implicitDefEqProofs (maxSteps:=99999999) (disch:=first | omega | (simp only[vl];first | done | omega)) only[vu,vg,f0,f1,f4,cl,va,vg,vs,vw,vk,simprocAttr]
 refine af Vq ?_
 refine fE hr @cM ?_
 refine hL _ _ ?_
 clear hL
 refine ax ?_
 rw[←cM]
 have hend:∀y:Option aD,eJ H (.ret (dW T' n0)) (Y.set G (H.length+2) y) (.ret (dW T' H.length)) (dD T' H.length++H):=fun y=>by
  have jV:∀i,i≠H.length+2→Y.find (Y.set G (H.length+2) y) i=Y.find G i:=fun i h=>Y.ah h
  refine pV (pre:=[]) (is:=List.range' n0 T'.size) (by simp) (Bn T' (hlies.of fun i h1 h2=>jV i (by omega))) (by simpa using List.nodup_range') (fun i hi=>?_) (fun id b hid hb=>.inl ⟨hb,?_⟩) (fun i s b hs=>by simp at hs)
  ·have:=mg (by simpa using hi:i∈List.range' n0 T'.size)
   omega
  ·rw[jV id (by omega),P8 id (by omega) (by omega),hFo id hid]
   exact hb
 rw[hT']
 exact hend _
theorem Cm(a b:List (List Int)):aJ (a++b)=aJ a++aJ b:=by simp[aJ]
set_option maxHeartbeats 0 in
theorem M4(ps qs:List (List Int))(x:ByteArray)(ro:Option (List Z))(hne:qs≠[]∨ps≠[])(hl:ps.length+qs.length≤2000000)(lT kM:Nat)(H:Y)(hc:Y.find H lT=some ⟨2,[.agg [aW 1 (aJ ps) kM,.sc (.string x)]],true,66⟩)(hli:aJ ps≠[]→Y.find H kM=cA 1 30 (aJ ps)) :
  D Tryz.prog 44 [.ptr 2 lT 0 0,.ak 1 (aJ qs) ro] H (.ret (.aK [])) (Y.set (cA 1 30 (aJ (ps++qs))::jK (aJ ps) kM H) lT (some ⟨2,[.agg [aW 1 (aJ (ps++qs)) H.length,.sc (.string x)]],true,66⟩)):=by
 have fD:=Y.am hc
 have eI:aJ ps≠[]→kM<H.length∧lT≠kM:=fun h=>by
  have:=hli h;rw[bC h] at this
  exact ⟨Y.am this,fun e=>by rw[←e,hc] at this;cases this⟩
 obtain ⟨a1,a2,a3⟩:=SX (H:=H) (k:=1) (ty:=30) (xs:=aJ ps) (ys:=aJ qs) (id:=kM) hli (by simp[cE];omega)
 have Bl:aJ qs≠[]∨aJ ps≠[]:=hne.imp (fun h e=>h (by simpa [aJ] using e)) fun h e=>h (by simpa [aJ] using e)
 obtain ⟨a4,a5⟩:=a2 Bl
 rw[←Cm] at a4 a5
 have hk:Y.find (cA 1 30 (aJ (ps++qs))::jK (aJ ps) kM H) lT=some ⟨2,[.agg [aW 1 (aJ ps) kM,.sc (.string x)]],true,66⟩:=by
  rw[ai (by rw[bQ];exact fD)]
  by_cases e:aJ ps=[]
  ·rw[e] at hc ⊢;exact hc
  ·rw[nB (eI e).2];exact hc
 refine aF (by simp[Y.aj,bQ]) (adK (aE ?_))
 simp only[ZJ,ux]
 simp -implicitDefEqProofs (maxSteps:=99999999) (disch:=first | omega | (simp only[vl];first | done | omega)) only[vu,vg,hc,a1,a4,a5,hk,oD,va,vg,vs,vw,vk,simprocAttr]
 exact eJ.refl _ _ _
def kN(p:List Int):List gv→Nat→Int
 | [],_=>-1
 | q::r,i=>if q.1=p then i else kN p r (i+1)
theorem DG{p:List Int}:∀{l:List gv}{i k:Nat},k<l.length→(∀j,j<k→¬(cS l j).1=p)→(cS l k).1=p→kN p l i=(i+k:Nat)
 | [],_,_,h,_,_=>by simp at h
 | q::r,i,0,_,_,h=>by simp[cS] at h;simp[kN,h]
 | q::r,i,k+1,h,hn,he=>by
  have h0:¬q.1=p:=by simpa [cS] using hn 0 (by omega)
  rw[kN,if_neg h0,DG (i:=i+1) (k:=k) (by simpa using h) (fun j hj=>by simpa [cS] using hn (j+1) (by omega)) (by simpa [cS] using he)]
  omega
theorem yl{p:List Int}:∀{l:List gv}{i:Nat},(∀j,j<l.length→¬(cS l j).1=p)→kN p l i=-1
 | [],_,_=>rfl
 | q::r,i,hn=>by
  have h0:¬q.1=p:=by simpa [cS] using hn 0 (by simp)
  rw[kN,if_neg h0,yl fun j hj=>by simpa [cS] using hn (j+1) (by simpa using hj)]
theorem yn{p:List Int}:∀{l:List gv}{i:Nat},match l.find? fun b=>decide (b.1=p) with
  | none=>kN p l i=-1
  | some b=>∃k:Nat,kN p l i=(i+k:Nat)∧k<l.length∧cS l k=b
 | [],i=>by simp[kN]
 | q::r,i=>by
  rw[List.find?_cons]
  by_cases c:q.1=p
  ·rw[decide_eq_true c]
   exact ⟨0,by simp[kN,c],by simp,by simp[cS]⟩
  ·rw[decide_eq_false c]
   simp only
   have ih:=yn (p:=p) (l:=r) (i:=i+1)
   cases h:r.find? fun b=>decide (b.1=p) with
   | none =>
    rw[h] at ih
    simp only at ih ⊢
    rw[kN,if_neg c,ih]
   | some b =>
    rw[h] at ih
    simp only at ih ⊢
    obtain ⟨k,h1,h2,h3⟩:=ih
    exact ⟨k+1,by rw[kN,if_neg c,h1];omega,by simpa using h2,by simpa [cS] using h3⟩
set_option maxHeartbeats 0 in
theorem Yn(l:List gv)(p:List Int)(ro:Option (List Z))(hz:l.length≤1000000)(hp:∀k,k<l.length→E7 (cS l k))(vH:Nat)(H:Y)(hb:Y.find H vH=some ⟨1,[.ak 1 (aZ p) none],true,30⟩) :
  D Tryz.prog 41 [.ak 3 (l.map fN) ro,.fn (.func 42) [] [.ptr 1 vH 0 0]] H (.ret (.sc (.int .i64 (kN p l 0)))) H:=by
 have cl:bA Tryz.prog 42=true:=by kernel_rfl
 have hlt:=Y.am hb
 have eI:(l.map fN).length=l.length:=by simp
 have hone:∀(b:gv)(hq:b.1.length≤1000000),D Tryz.prog 42 [fN b,.ptr 1 vH 0 0] H (.ret (.sc (.bool (decide (b.1=p))))) H:=fun b hq=>by
  have h1:=fun H=>sx b.1 p none none H (by omega)
  unfold fN
  refine aF (Nat.le_refl _) (adA (aE ?_))
  simp only[Zz,ux]
  refine ae fun L hL=>?_
  refine ax ?_
  refine hL _ _ ?_
  clear hL
  refine ae fun L hL=>?_
  refine de hb ?_
  refine af (h1 _) ?_
  refine ax ?_
  refine hL _ _ ?_
  clear hL
  refine ax ?_
  exact az (.cons .refl) rfl
 refine aF (Nat.le_refl _) (adH (aE ?_))
 simp only[ZG,ux]
 refine ae fun L hL=>?_
 refine ax ?_
 refine hL _ _ ?_
 clear hL
 refine ae fun L hL=>?_
 refine ae fun L hL=>?_
 refine de eI ?_
 refine hL _ _ ?_
 clear hL
 refine cO (fun ts F=>∃k:Nat,(k≤l.length∧∀j,j<k→¬(cS l j).1=p)∧F=H∧Fr [some (.ak 3 (l.map fN) ro),some (.fn (.func 42) [] [.ptr 1 vH 0 0]),none,none,some (.sc (.int .i64 0)),none,none,some (.sc (.int .i64 l.length)),some (.sc (.int .i64 k)),none,none,none,none,none,none,none,none,none,none] ts) (fun ts _=>l.length - (bL (ts.getD 8 .top)).toNat) ?_ ?_
 ·exact ⟨0,⟨Nat.zero_le _,fun j h=>absurd h (Nat.not_lt_zero _)⟩,rfl,by simp[Fr]⟩
 rintro ts F ⟨k,⟨hk,ob⟩,hFF,cv⟩ L2 dY
 rw[hFF]
 obtain ⟨js,rfl⟩:=cv.opened
 clear cv
 by_cases hd:k<l.length
 ·have d1:(k:Int)<l.length:=by omega
  have hg:=kK hd
  have hi:=hone (cS l k) (hp k hd).1
  unfold fN at hi
  by_cases e1:(cS l k).1=p
  ·rw[decide_eq_true e1] at hi
   have B3:=DG (i:=0) hd ob e1
   rw[Nat.zero_add] at B3
   refine EL d1 hg eI ?_
   refine ⟨by omega,cl,af hi ?_⟩
   refine ax ?_
   rw[B3]
   exact cy .refl
  ·rw[decide_eq_false e1] at hi
   refine EL d1 hg eI ?_
   refine ⟨by omega,cl,af hi ?_⟩
   refine ax ?_
   refine dY _ _ ⟨k+1,⟨by omega,fun j hj=>?_⟩,rfl,by simp[Fr]⟩ (by simp[bL,mk];omega)
   rcases Nat.lt_succ_iff_lt_or_eq.1 hj with h' | rfl
   ·exact ob j h'
   ·exact e1
 ·have d1:¬(k:Int)<l.length:=by omega
  have B3:=yl (i:=0) fun j hj=>ob j (by omega)
  refine Ak d1 ?_
  clear dY
  refine hL _ _ ?_
  clear hL
  refine ax ?_
  rw[B3]
  exact cy .refl
theorem uf(f:List Int→Bool)(x:ByteArray)(t:Nd):∀p,(bc f x t p).size=t.size:=by
 induction t using Nd.ind with
 | _ t ih =>
  intro p
  have key:∀(l:List Nd),(∀k∈l,∀p,(bc f x k p).size=k.size)→∀i,Nd.aw (cD f x l p i)=Nd.aw l:=by
   intro l
   induction l with
   | nil=>intro _ _;rfl
   | cons k r fA=>intro h i;simp only[cD,Nd.aw,h k (by simp),fA fun k' hk'=>h k' (by simp[hk'])]
  rw[Nd.size_eq,Nd.size_eq t,da]
  simp only[Nd.kids]
  have:=key t.kids ih 0
  cases t
  simp only[Nd.kids] at *
  rw[this]
theorem IR(f:List Int→Bool)(x:ByteArray)(t:Nd):∀p,(bc f x t p).wt≤t.wt+x.size*t.size:=by
 induction t using Nd.ind with
 | _ t ih =>
  intro p
  have key:∀(l:List Nd),(∀k∈l,∀p,(bc f x k p).wt≤k.wt+x.size*k.size)→∀i,Nd.ju (cD f x l p i)≤Nd.ju l+x.size*Nd.aw l:=by
   intro l
   induction l with
   | nil=>intro _ _;simp[cD,Nd.ju]
   | cons k r fA =>
    intro h i
    have h1:=h k (by simp) (p++[(i:Int)])
    have h2:=fA (fun k' hk'=>h k' (by simp[hk'])) (i+1)
    simp only[cD,Nd.ju,Nd.aw,Nat.mul_add]
    omega
  have h1:=key t.kids ih 0
  have h2:=(bc f x t p).lP
  have h3:=t.lP
  have h4:=t.size_eq
  have e1:(bc f x t p).kids=cD f x t.kids p 0:=by rw[da];rfl
  have e2:(bc f x t p).text.size≤t.text.size+x.size:=by
   have:(bc f x t p).text=if f p=true then x else t.text:=by rw[da];rfl
   rw[this]
   split<;>omega
  rw[e1] at h2
  rw[h4,Nat.mul_add,Nat.mul_one]
  omega
theorem LO(n:Nd):∀b∈aI n,b.2.2.length≤n.size:=by
 rw[iY]
 intro b hm
 unfold eS at hm
 split at hm
 ·obtain ⟨i,hi,rfl⟩:=List.mem_map.1 hm
  simp only
  unfold ez
  rw[List.length_map]
  refine Nat.le_trans (List.length_filter_le _ _) ?_
  rw[e8]
  exact Nat.le_refl _
 ·simp at hm
theorem Vr(F:Y):OW F Nd.none (.agg [.sc (.int .u8 0),.sc (.string ⟨#[]⟩),.sc (.int .i64 0),.ak 0 [] (some [])]) [0]:=.mk (xs:=[]) (i:=0) (fun e=>absurd rfl e) .nil
set_option maxHeartbeats 0 in
theorem P9(n:Nd)(hw:n.wt≤100000)(hs:n.size≤10000)(x:ByteArray)(path:List Int)(hp:path.length≤1000000)(ro:Option (List Z)):D Tryz.prog 14 [eG n ro,.sc (.string x),.ak 1 (aZ path) none] [] (.ret (.aK [dW (bn n x path).1 0,.sc (.int .i64 (bn n x path).2)])) (dD (bn n x path).1 0):=by
 have qK:=fun H=>Dc n ro (by omega) H
 have ob:=fun H=>ua n (by omega) (by omega) ro H
 have pM:=fun H h=>ng n (by omega) (by omega) ro (cZ n ro) H h
 have hnm:=fun H=>EN x H
 have hok:=Bj n (by omega)
 have gz:=xj n
 rw[aH] at qK ob pM ⊢
 have bad:∀(F:Y)(e:Int),bn n x path=(Nd.none,e)→eJ [] (.ret (.aK [.agg [.sc (.int .u8 0),.sc (.string ⟨#[]⟩),.sc (.int .i64 0),.ak 0 [] (some [])],.sc (.int .i64 e)])) F (.ret (.aK [dW (bn n x path).1 0,.sc (.int .i64 (bn n x path).2)])) (dD (bn n x path).1 0):=fun F e he=>by
  rw[he]
  have:=IL (H:=[]) (v:=.int .i64 e) (Vr F) (by simp) (by simp) (fun i hi=>by simp at hi)
  simpa using this
 refine aF (by simp) (adz (aE ?_))
 simp only[Zy,ux]
 refine ae fun L hL=>?_
 refine ax ?_
 refine hL _ _ ?_
 clear hL
 refine ae fun L hL=>?_
 by_cases c1:n.kind=1
 case neg =>
  have hr:bn n x path=(Nd.none,4):=by unfold bn;rw[if_neg fun h=>c1 h.1]
  refine de c1 ?_
  exact bad _ 4 hr
 rw[c1] at qK ob pM ⊢
 cases c2:bU n 40
 ·have hr:bn n x path=(Nd.none,4):=by unfold bn;rw[if_neg fun h=>by rw[c2] at h;simp at h]
  refine ax ?_
  refine af (qK _) ?_
  rw[c2]
  refine ax ?_
  exact bad _ 4 hr
 cases c3:dl n
 ·have hr:bn n x path=(Nd.none,122):=by unfold bn;rw[if_pos ⟨c1,c2⟩,if_neg (by rw[c3];simp)]
  refine ax ?_
  refine af (qK _) ?_
  rw[c2]
  refine ax ?_
  refine af (ob _) ?_
  rw[c3]
  refine ax ?_
  exact bad _ 122 hr
 refine ax ?_
 refine af (qK _) ?_
 rw[c2]
 refine ax ?_
 refine af (ob _) ?_
 rw[c3]
 refine ax ?_
 refine hL _ _ ?_
 clear hL
 refine ae fun L hL=>?_
 refine ax ?_
 have pQ:∀(a b c:Z),∀id,id<([some ⟨4,[a],true,25⟩,some ⟨1,[b],true,30⟩,some ⟨4,[c],true,25⟩]:Y).length→∃y,Y.find ([some ⟨4,[a],true,25⟩,some ⟨1,[b],true,30⟩,some ⟨4,[c],true,25⟩]:Y) id=some y∧nc y:=by
  intro a b c id hid
  rcases id with _ | _ | _ | id
  ·exact ⟨_,rfl,by simp,by simp,by simp,by simp⟩
  ·exact ⟨_,rfl,by simp,by simp,by simp,by simp⟩
  ·exact ⟨_,rfl,by simp,by simp,by simp,by simp⟩
  ·simp only[List.length_cons,List.length_nil] at hid;omega
 refine af (pM _ (pQ _ _ _)) ?_
 refine ax ?_
 refine hL _ _ ?_
 clear hL
 refine ae fun L hL=>?_
 refine ax ?_
 refine af (Yn (aI n) path none (by omega) hok 1 _ rfl) ?_
 have NU:=yn (p:=path) (l:=aI n) (i:=0)
 cases hf:(aI n).find? fun b=>decide (b.1=path) with
 | none =>
  rw[hf] at NU
  have hr:bn n x path=(Nd.none,6):=by unfold bn;rw[if_pos ⟨c1,c2⟩,if_pos c3,hf]
  rw[NU]
  refine ax ?_
  refine hL _ _ ?_
  clear hL
  refine ae fun L hL=>?_
  refine ax ?_
  exact bad _ 6 hr
 | some b =>
 rw[hf] at NU
 obtain ⟨k,tg,fB,hk3⟩:=NU
 rw[Nat.zero_add] at tg
 have Vs:=hok k fB
 rw[hk3] at Vs
 have Vt:=LO n b (List.mem_of_find?_eq_some hf)
 have Qa:=kK fB
 rw[hk3] at Qa
 rw[tg]
 have k0:¬(k:Int)<0:=by omega
 cases c4:ej x
 ·have hr:bn n x path=(Nd.none,2):=by unfold bn;rw[if_pos ⟨c1,c2⟩,if_pos c3,hf];simp only;rw[if_neg (by rw[c4];simp)]
  refine ax ?_
  refine hL _ _ ?_
  clear hL
  refine ae fun L hL=>?_
  refine de k0 ?_
  refine af (hnm _) ?_
  rw[c4]
  refine ax ?_
  exact bad _ 2 hr
 refine ax ?_
 refine hL _ _ ?_
 clear hL
 refine ae fun L hL=>?_
 refine de k0 ?_
 refine af (hnm _) ?_
 rw[c4]
 refine ax ?_
 refine hL _ _ ?_
 clear hL
 refine ae fun L hL=>?_
 refine ax ?_
 obtain ⟨F0,mR⟩:∃F0:Y,F0=[some ⟨2,[Z.agg [Z.ak 0 [] (some []),Z.sc (.string x)]],true,66⟩,some ⟨4,[Z.agg [.sc (.int .u8 0),.sc (.string ⟨#[]⟩),.sc (.int .i64 0),.ak 0 [] (some [])]],true,25⟩,some ⟨1,[.ak 1 (aZ path) none],true,30⟩,some ⟨4,[Z.agg [.sc (.int .u8 1),.sc (.string n.text),.sc (.int .i64 n.num),.ak 4 (bM n.kids) ro]],true,25⟩]:=⟨_,rfl⟩
 have a0:Y.find F0 0=some ⟨4,[Z.agg [.sc (.int .u8 1),.sc (.string n.text),.sc (.int .i64 n.num),.ak 4 (bM n.kids) ro]],true,25⟩:=by rw[mR];rfl
 have a1:Y.find F0 1=some ⟨1,[.ak 1 (aZ path) none],true,30⟩:=by rw[mR];rfl
 have a2:Y.find F0 2=some ⟨4,[Z.agg [.sc (.int .u8 0),.sc (.string ⟨#[]⟩),.sc (.int .i64 0),.ak 0 [] (some [])]],true,25⟩:=by rw[mR];rfl
 have a3:Y.find F0 3=some ⟨2,[Z.agg [aW 1 (aJ []) 0,Z.sc (.string x)]],true,66⟩:=by rw[mR];rfl
 have al:F0.length=4:=by rw[mR];rfl
 rw[←mR]
 clear mR
 have LP:=M4 [] [path] x (some []) (.inl (by simp)) (by simp) 3 0 F0 a3 (fun e=>absurd rfl e)
 have sI:∃F1,F1=Y.set (cA 1 30 (aJ ([]++[path]))::jK (aJ []) 0 F0) 3 (some ⟨2,[.agg [aW 1 (aJ ([]++[path])) F0.length,.sc (.string x)]],true,66⟩):=⟨_,rfl⟩
 obtain ⟨F1,sI⟩:=sI
 rw[←sI] at LP
 have b0:Y.find F1 0=Y.find F0 0:=by rw[sI,Y.ah (by omega),ai (by rw[bQ];omega)];rfl
 have b1:Y.find F1 1=Y.find F0 1:=by rw[sI,Y.ah (by omega),ai (by rw[bQ];omega)];rfl
 have b2:Y.find F1 2=Y.find F0 2:=by rw[sI,Y.ah (by omega),ai (by rw[bQ];omega)];rfl
 have b3:Y.find F1 3=some ⟨2,[.agg [aW 1 (aJ [path]) 4,.sc (.string x)]],true,66⟩:=by rw[sI,Y.ay (by simp[bQ];omega),al];rfl
 have b4:Y.find F1 4=cA 1 30 (aJ [path]):=by rw[sI,Y.ah (by omega),aN (by rw[bQ,al])];rfl
 have bl:F1.length=5:=by rw[sI,Y.aj];simp[bQ,al]
 clear sI
 have hlp:aJ [path]=[.ak 1 (aZ path) none]:=rfl
 rw[hlp] at LP
 refine hL _ _ ?_
 clear hL
 refine ae fun L hL=>?_
 refine sJ a0 a1 a2 a3 ?_
 refine tD LP (fun l hl _=>?_) ?_
 ·simp only[List.mem_singleton] at hl
  subst hl
  exact b1
 have Vu:=M4 [path] b.2.2 x none (.inr (by simp)) (by simp;have:=Vs.2.1;omega) 3 4 F1 b3 (fun _=>b4)
 have nX:∃F2,F2=Y.set (cA 1 30 (aJ ([path]++b.2.2))::jK (aJ [path]) 4 F1) 3 (some ⟨2,[.agg [aW 1 (aJ ([path]++b.2.2)) F1.length,.sc (.string x)]],true,66⟩):=⟨_,rfl⟩
 obtain ⟨F2,nX⟩:=nX
 rw[←nX] at Vu
 have e0:Y.find F2 0=Y.find F0 0:=by rw[nX,Y.ah (by omega),ai (by rw[bQ];omega),nB (by omega),b0]
 have e2:Y.find F2 2=Y.find F0 2:=by rw[nX,Y.ah (by omega),ai (by rw[bQ];omega),nB (by omega),b2]
 have e3:Y.find F2 3=some ⟨2,[.agg [aW 1 (aJ (path::b.2.2)) 5,.sc (.string x)]],true,66⟩:=by rw[nX,Y.ay (by simp[bQ];omega),bl];rfl
 have e5:Y.find F2 5=cA 1 30 (aJ (path::b.2.2)):=by rw[nX,Y.ah (by omega),aN (by rw[bQ,bl])];rfl
 have el:F2.length=6:=by rw[nX,Y.aj];simp[bQ,bl]
 rw[a0] at e0
 rw[a2] at e2
 clear nX
 refine ax ?_
 refine hL _ _ ?_
 clear hL
 refine ae fun L hL=>?_
 refine de Qa ?_
 refine ⟨⟨by omega,by simpa using fB⟩,tD Vu (fun l hl _=>by simp at hl) ?_⟩
 refine ax ?_
 have Vv:=Ym (path::b.2.2) x (by simp;omega) (fun j hj=>by
  cases j with
  | zero=>simpa [c9] using hp
  | succ j=>have:=Vs.2.2 j (by simpa using hj);simpa [c9] using this) n ro (by omega) 3 5 F2 e3 (fun _=>e5)
 rw[aH,c1] at Vv
 have hTs:(bc (bH (path::b.2.2)) x n []).size=n.size:=uf _ _ _ _
 have adT:x.size≤24:=by
  have:=c4
  simp only[ej,Bool.and_eq_true,decide_eq_true_eq] at this
  exact this.1.1.1.2
 have hTw:(bc (bH (path::b.2.2)) x n []).wt≤500000:=by
  have h1:=IR (bH (path::b.2.2)) x n []
  have h2:x.size*n.size≤24*10000:=Nat.mul_le_mul adT hs
  omega
 have M5:bn n x path=if cX n (bc (bH (path::b.2.2)) x n [])=true then (bc (bH (path::b.2.2)) x n [],0) else (Nd.none,120):=by
  unfold bn
  rw[if_pos ⟨c1,c2⟩,if_pos c3,hf]
  simp only
  rw[if_pos c4]
 generalize bc (bH (path::b.2.2)) x n []=T at *
 refine hL _ _ ?_
 clear hL
 refine ae fun L hL=>?_
 simp -implicitDefEqProofs (maxSteps:=99999999) (disch:=first | omega | (simp only[vl];first | done | omega)) only[vu,vg,e0,va,vg,vs,vw,vk,simprocAttr]
 refine af Vv ?_
 have hL3:dx (dD T F2.length++F2) T F2.length:=fp
 have hF3:∀i,i<F2.length→Y.find (dD T F2.length++F2) i=Y.find F2 i:=fun i hi=>Y.bx hi
 have aei:(dD T F2.length++F2).length=F2.length+T.size:=by rw[List.length_append,fh];omega
 generalize dD T F2.length++F2=F3 at *
 refine de @cM ?_
 refine hL _ _ ?_
 clear hL
 refine ae fun L hL=>?_
 have adU:dx (some (⟨4,[Z.agg [.sc (.int .u8 T.kind),.sc (.string T.text),.sc (.int .i64 T.num),aW 4 (eo T.kids (F2.length+1)) F2.length]],true,25⟩:aD)::F3) T F2.length:=hL3.of fun i h1 h2=>ai (by omega)
 have hal:=oU n T (by omega) (by omega) hTw (by omega) (cZ n ro (some (⟨4,[Z.agg [.sc (.int .u8 T.kind),.sc (.string T.text),.sc (.int .i64 T.num),aW 4 (eo T.kids (F2.length+1)) F2.length]],true,25⟩:aD)::F3)) (sw T adU)
 rw[aH,c1,cM] at hal
 have f0:=(hF3 0 (by omega)).trans e0
 have f2:=(hF3 2 (by omega)).trans e2
 refine de f0 ?_
 refine af hal ?_
 have hend:∀(G:Y),(∀i,F2.length≤i→i<F3.length→Y.find G i=Y.find F3 i)→eJ [] (.ret (.aK [dW T F2.length,.sc (.int .i64 0)])) G (.ret (.aK [dW T 0,.sc (.int .i64 0)])) (dD T 0):=fun G hG=>by
  have:=IL (H:=[]) (v:=.int .i64 0) (Bn T (hL3.of fun i h1 h2=>hG i h1 (by omega))) List.nodup_range' (by simp) (fun i hi=>by simp at hi)
  simpa using this
 rw[cM] at hend
 cases c5:cX n T with
 | false =>
  rw[c5,if_neg (by simp)] at M5
  refine de f2 ?_
  exact bad _ 120 M5
 | true =>
  rw[c5,if_pos rfl] at M5
  refine ax ?_
  refine hL _ _ ?_
  clear hL
  refine ae fun L hL=>?_
  refine de f2 ?_
  refine hL _ _ ?_
  clear hL
  refine de f2 ?_
  rw[M5]
  exact hend _ fun i h1 h2=>by rw[ai (by rw[Y.aj];omega),Y.ah (by omega)]
theorem Yo{x:ByteArray}(h:ej x=true):x.size≤24:=by
 simp only[ej,Bool.and_eq_true,decide_eq_true_eq] at h
 exact h.1.1.1.2
theorem Bw{f:List Int→Bool}{x:ByteArray}{n:Nd}{p:List Int}(h:ej x=true):(bc f x n p).wt≤n.wt+24*n.size :=
 Nat.le_trans (IR f x n p) (Nat.add_le_add_left (Nat.mul_le_mul_right _ (Yo h)) _)
theorem IU{n:Nd}(h:dl n=true){b:gv}(hb:b∈aI n)(x:ByteArray) :
  (∃e,bn n x b.1=(Nd.none,e)∧(e=2∨e=120)∧kV n x=false)∨
  ∃T,bn n x b.1=(T,0)∧(ej x=true∧T.size=n.size∧T.wt≤n.wt+24*n.size)∧bn T b.2.1 b.1=(n,0)∧(cX n T=true∧cX T n=true∧dl T=true)∧aI T=(aI n).map fun c=>(c.1,if c.1=b.1 then x else c.2.1,c.2.2):=by
 rw[eC h] at hb
 obtain ⟨i0,hi,rfl⟩:=List.mem_map.1 hb
 have hr:=K5 h hi x
 show (∃e,bn n x (aA (aM n []) i0).p=(Nd.none,e)∧_)∨∃T,bn n x (aA (aM n []) i0).p=(T,0)∧_
 have IV:∀e,bn n x (aA (aM n []) i0).p=(Nd.none,e)→e≠0→kV n x=false:=fun e he hne=>by
  cases hf:kV n x with
  | false=>rfl
  | true =>
   obtain ⟨h1,h2⟩:=Ic hf
   rw[if_pos h1,if_pos (EV h hi h1 h2)] at hr
   rw[hr] at he
   exact absurd (Prod.mk.inj he).2.symm hne
 by_cases c1:ej x=true
 ·rw[if_pos c1] at hr
  by_cases c2:cX n (bc (jP (aM n []) i0) x n [])=true
  ·rw[if_pos c2] at hr
   have hp:dl (bc (jP (aM n []) i0) x n [])=true:=by
    have:=c2
    simp only[cX,Bool.and_eq_true] at this
    exact this.2.1
   exact .inr ⟨_,hr,⟨c1,uf _ _ _ _,Bw c1⟩,EW h hi c2,⟨c2,yc c2,hp⟩,Cc h hi c2⟩
  ·rw[if_neg c2] at hr
   exact .inl ⟨120,hr,.inr rfl,IV _ hr (by decide)⟩
 ·rw[if_neg c1] at hr
  exact .inl ⟨2,hr,.inl rfl,IV _ hr (by decide)⟩
theorem Qb{n:Nd}(h:dl n=true){b:gv}(hb:b∈aI n){x:ByteArray}(hf:kV n x=true){q:List Int}(hq:q∈b.2.2) :
  ej x=true∧(iZ n q).isSome=true∧q≠[]∧cX n (E0 x q n)=false∧(E0 x q n).size=n.size∧(E0 x q n).wt≤n.wt+24*n.size:=by
 have hv:=(Ci h hb).2 q hq
 obtain ⟨h1,h2⟩:=Ic hf
 rw[eC h] at hb
 obtain ⟨i0,hi,rfl⟩:=List.mem_map.1 hb
 have BX:q∈ez (aM n []) (aM n []) i0:=hq
 unfold ez at BX
 obtain ⟨u,hu,rfl⟩:=List.mem_map.1 BX
 obtain ⟨K1,K4⟩:=List.mem_filter.1 hu
 simp only[Bool.and_eq_true] at K4
 obtain ⟨j,hj,rfl⟩:=oJ K1
 have ho:=T3 h h2 hj K4.1
 rw[PP hv]
 refine ⟨h1,hv,fun e=>?_,by simp[cX,ho],uf _ _ _ _,Bw h1⟩
 rcases lm n [] _ K1 with e1 | ⟨k,s,e1⟩
 ·rw[e1] at K4
  have hk:=(kE.1 h).1.1
  simp[gA,hk] at K4
 ·rw[e] at e1
  simp at e1
theorem DH{x:ByteArray}:∀(p:List Int)(n u:Nd),iZ n p=some u→E0 x p n=xk n ⟨u.kind,x,u.num,u.kids⟩ p
 | [],n,u,h=>by
  cases h
  rfl
 | q::r,n,u,h=>by
  rw[iZ] at h
  split at h
  ·rw[E0,xk,DH r _ u h]
  ·cases h
def LQ:ByteArray:=⟨#[102,117,110,99,32,102,40,97,41,32,123,32,118,97,114,32,98,32,61,32,97,59,32,125]⟩
def LR:ByteArray:=⟨#[102,117,110,99,32,103,40,120,41,32,123,32,118,97,114,32,97,32,61,32,120,59,32,125]⟩
def Fe:ByteArray:=⟨#[102,117,110,99,32,102,40,97,41,32,123,32,118,97,114,32,98,32,61,32,97,59,32,112,114,105,110,116,32,97,59,32,125]⟩
def LS:ByteArray:=⟨#[102,117,110,99,32,103,40,120,41,32,123,32,118,97,114,32,120,32,61,32,120,59,32,125]⟩
def LU:ByteArray:=⟨#[102,117,110,99,32,102,40,98,41,32,123,32,118,97,114,32,98,32,61,32,98,59,32,125]⟩
def pW:Nd:=⟨1,⟨#[]⟩,0,[⟨2,⟨#[102]⟩,0,[⟨3,⟨#[]⟩,0,[⟨4,⟨#[97]⟩,0,[]⟩]⟩,⟨5,⟨#[]⟩,0,[⟨6,⟨#[98]⟩,0,[⟨22,⟨#[97]⟩,0,[]⟩]⟩]⟩]⟩]⟩
def Bx:Nd:=⟨1,⟨#[]⟩,0,[⟨2,⟨#[103]⟩,0,[⟨3,⟨#[]⟩,0,[⟨4,⟨#[120]⟩,0,[]⟩]⟩,⟨5,⟨#[]⟩,0,[⟨6,⟨#[97]⟩,0,[⟨22,⟨#[120]⟩,0,[]⟩]⟩]⟩]⟩]⟩
def vL:Nd:=⟨1,⟨#[]⟩,0,[⟨2,⟨#[102]⟩,0,[⟨3,⟨#[]⟩,0,[⟨4,⟨#[97]⟩,0,[]⟩]⟩,⟨5,⟨#[]⟩,0,[⟨6,⟨#[98]⟩,0,[⟨22,⟨#[97]⟩,0,[]⟩]⟩,⟨11,⟨#[]⟩,0,[⟨22,⟨#[97]⟩,0,[]⟩]⟩]⟩]⟩]⟩
def Bz:Nd:=⟨1,⟨#[]⟩,0,[⟨2,⟨#[103]⟩,0,[⟨3,⟨#[]⟩,0,[⟨4,⟨#[120]⟩,0,[]⟩]⟩,⟨5,⟨#[]⟩,0,[⟨6,⟨#[120]⟩,0,[⟨22,⟨#[120]⟩,0,[]⟩]⟩]⟩]⟩]⟩
def BA:Nd:=⟨1,⟨#[]⟩,0,[⟨2,⟨#[102]⟩,0,[⟨3,⟨#[]⟩,0,[⟨4,⟨#[98]⟩,0,[]⟩]⟩,⟨5,⟨#[]⟩,0,[⟨6,⟨#[98]⟩,0,[⟨22,⟨#[98]⟩,0,[]⟩]⟩]⟩]⟩]⟩
set_option maxRecDepth 1000000
def ic6:IC:=(.seq (.ops [iH 4 (.box 4 25 (.t 0)),iP 8 (.mv kF)]) (.seq (.seq (.ops [iH 22 (.call 8 []),iP 23 (xN 22)]) (.cond (.t 23) (.seq (.ops [iP 8 (.mv kF)]) .ret) .skip)) (.seq (.seq (.ops [iH 24 (yA 4 4),iH 25 (.call 7 [(.t 24),(kI 1000)]),iP 26 (.bP .gtr (.t 25) (kI 1000)),iM 27 26,gM 28 27 .false 1,gP 29 27 .false (.my (.t 28)),gP 30 27 .false (.bP .gtr (.t 29) (kI 1000)),iP 31 (.pick (.t 27) kT (.t 30))]) (.cond (.t 31) (.seq (.ops [iP 8 (.mv kT)]) .ret) .skip)) (.seq (.ops [iH 32 (yA 4 4),iH 33 (.call 23 [(.t 32)]),iM 9 33]) (.seq (.seq (.ops [iM 34 9,iP 35 (xL 34),iP 36 (.bP .eql (.t 35) (kI 0))]) (.cond (.t 36) (.seq (.ops [iP 8 (.mv kT)]) .ret) .skip)) (.seq (.ops [iM 37 9,iM 38 2,iM 39 9,iP 40 (xL 39),iH 41 (yC 24 38 40),iP 42 (xA 3 37 41),iH 43 (yA 3 42),⟨(some 10),none,(.h (.alloc (.agg [cJ,(.sc (.string ⟨#[]⟩)),cJ]) 47))⟩,iS 3 10 43]) (.seq (.ops [iH 45 (yA 4 4),iM 46 1,iP 47 (.av 0 (.t 10)),iH 48 (yD 1 47),iH 49 (.call 14 [(.t 45),(.t 46),(.t 48)]),iM 44 49,iP 50 (.ext (.t 44) 0),iP 51 (.ext (.t 44) 1),⟨(some 11),none,(.h (.alloc (.agg [(.sc (.int .u8 0)),(.sc (.string ⟨#[]⟩)),(.sc (.int .i64 0)),cJ]) 25))⟩,iS 4 11 50,iM 12 51]) (.seq (.seq (.ops [iM 52 12,iP 53 (.bP .neq (.t 52) (kI 0))]) (.cond (.t 53) (.seq (.ops [iM 54 12,iP 55 (.bP .eql (.t 54) (kI 2)),iM 56 55,gM 57 56 .false 12,gP 58 56 .false (.bP .eql (.t 57) (kI 120)),iP 59 (.pick (.t 56) kT (.t 58)),iM 60 59,gH 61 60 .true (yA 4 4),gM 62 60 .true 1,gH 63 60 .true (yC 25 61 62),gP 64 60 .true (xN 63),iP 65 (.pick (.t 60) (.t 64) kF),iM 66 65,gH 67 66 .true (yA 4 11),⟨(some 68),(some (66,.true)),(.p (.build [(.sc (.int .u8 0)),(.sc (.string ⟨#[]⟩)),(.sc (.int .i64 0)),cJ] []))⟩,gH 69 66 .true (yC 16 67 68),iP 70 (.pick (.t 66) (.t 69) kF),iM 8 70]) .ret) .skip)) (.seq (.ops [iH 72 (yA 4 11),iP 73 (.av 1 (.t 10)),iH 74 (yD 1 73),iP 75 (.av 0 (.t 10)),iH 76 (yD 1 75),iH 77 (.call 14 [(.t 72),(.t 74),(.t 76)]),iM 71 77,iP 78 (.ext (.t 71) 0),iP 79 (.ext (.t 71) 1),⟨(some 13),none,(.h (.alloc (.agg [(.sc (.int .u8 0)),(.sc (.string ⟨#[]⟩)),(.sc (.int .i64 0)),cJ]) 25))⟩,iS 4 13 78,iM 14 79]) (.seq (.seq (.ops [iM 80 14,iP 81 (.bP .neq (.t 80) (kI 0)),iM 82 81,gH 83 82 .false (yA 4 13),gH 84 82 .false (yA 4 4),gH 85 82 .false (yC 16 83 84),gP 86 82 .false (xN 85),iP 87 (.pick (.t 82) kT (.t 86)),iM 88 87,gH 89 88 .false (yA 4 4),gH 90 88 .false (yA 4 11),gH 91 88 .false (yC 10 89 90),gP 92 88 .false (xN 91),iP 93 (.pick (.t 88) kT (.t 92)),iM 94 93,gH 95 94 .false (yA 4 11),gH 96 94 .false (yA 4 4),gH 97 94 .false (yC 10 95 96),gP 98 94 .false (xN 97),iP 99 (.pick (.t 94) kT (.t 98))]) (.cond (.t 99) (.seq (.ops [iP 8 (.mv kF)]) .ret) .skip)) (.seq (.ops [iH 100 (yA 4 11),iH 101 (.call 23 [(.t 100)]),iM 15 101]) (.seq (.seq (.ops [iM 102 15,iP 103 (xL 102),iM 104 9,iP 105 (xL 104),iP 106 (xB .neq 103 105)]) (.cond (.t 106) (.seq (.ops [iP 8 (.mv kF)]) .ret) .skip)) (.seq (.seq (.ops [iP 16 (xI 0)]) (.block 0 (.loop (.seq (.seq (.ops [iM 107 16,iM 108 9,iP 109 (xL 108),iP 110 (xB .lss 107 109)]) (.cond (.t 110) .skip (.exit 0))) (.seq (.block 1 (.seq (.ops [iM 113 9,iM 114 16,iP 115 (xA 3 113 114),iP 116 (.av 1 (.t 115)),iH 117 (yD 1 116),iM 17 117]) (.seq (.seq (.dL [iM 118 9,iM 119 16,iP 120 (xA 3 118 119),iP 121 (.av 0 (.t 120)),iH 122 (yD 1 121),iP 123 (.av 0 (.t 10)),iH 124 (yD 1 123),iH 125 (yC 26 122 124)] [[],[],[0,1],[2,0,1],[3,2,0,1],[],[5],[4,3,2,0,1,6,5]]) (.cond (.t 125) (.ops [iM 126 1,iM 17 126]) .skip)) (.seq (.dL [iM 127 15,iM 128 16,iP 129 (xA 3 127 128),iP 130 (.av 1 (.t 129)),iH 131 (yD 1 130),iM 132 17,iP 133 (xB .neq 131 132),iM 134 133,gM 135 134 .false 15,gM 136 134 .false 16,gP 137 134 .false (xA 3 135 136),gP 138 134 .false (.av 0 (.t 137)),gH 139 134 .false (yD 1 138),gM 140 134 .false 9,gM 141 134 .false 16,gP 142 134 .false (xA 3 140 141),gP 143 134 .false (.av 0 (.t 142)),gH 144 134 .false (yD 1 143),gH 145 134 .false (yC 26 139 144),gP 146 134 .false (xN 145),iP 147 (.pick (.t 134) kT (.t 146)),iM 148 147,gM 149 148 .false 15,gM 150 148 .false 16,gP 151 148 .false (xA 3 149 150),gP 152 148 .false (.av 2 (.t 151)),gH 153 148 .false (yD 1 152),gM 154 148 .false 9,gM 155 148 .false 16,gP 156 148 .false (xA 3 154 155),gP 157 148 .false (.av 2 (.t 156)),gH 158 148 .false (yD 1 157),gH 159 148 .false (yC 27 153 158),gP 160 148 .false (xN 159),iP 161 (.pick (.t 148) kT (.t 160))] [[],[],[0,1],[2,0,1],[3,2,0,1],[],[4,3,2,0,1,5],[6,4,3,2,0,1,5],[7,6,4,3,2,0,1,5],[7,6,4,3,2,0,1,5],[8,7,6,4,3,2,0,1,5,9],[10,8,7,6,4,3,2,0,1,5,9],[11,10,8,7,6,4,3,2,0,1,5,9],[7,6,4,3,2,0,1,5],[7,6,4,3,2,0,1,5],[13,7,6,4,3,2,0,1,5,14],[15,13,7,6,4,3,2,0,1,5,14],[16,15,13,7,6,4,3,2,0,1,5,14],[12,11,10,8,7,6,4,3,2,0,1,5,9,17,16,15,13,14],[18,12,11,10,8,7,6,4,3,2,0,1,5,9,17,16,15,13,14],[7,6,4,3,2,0,1,5,19,18,12,11,10,8,9,17,16,15,13,14],[20,7,6,4,3,2,0,1,5,19,18,12,11,10,8,9,17,16,15,13,14],[21,20,7,6,4,3,2,0,1,5,19,18,12,11,10,8,9,17,16,15,13,14],[21,20,7,6,4,3,2,0,1,5,19,18,12,11,10,8,9,17,16,15,13,14],[22,21,20,7,6,4,3,2,0,1,5,19,18,12,11,10,8,9,17,16,15,13,14,23],[24,22,21,20,7,6,4,3,2,0,1,5,19,18,12,11,10,8,9,17,16,15,13,14,23],[25,24,22,21,20,7,6,4,3,2,0,1,5,19,18,12,11,10,8,9,17,16,15,13,14,23],[21,20,7,6,4,3,2,0,1,5,19,18,12,11,10,8,9,17,16,15,13,14],[21,20,7,6,4,3,2,0,1,5,19,18,12,11,10,8,9,17,16,15,13,14],[27,21,20,7,6,4,3,2,0,1,5,19,18,12,11,10,8,9,17,16,15,13,14,28],[29,27,21,20,7,6,4,3,2,0,1,5,19,18,12,11,10,8,9,17,16,15,13,14,28],[30,29,27,21,20,7,6,4,3,2,0,1,5,19,18,12,11,10,8,9,17,16,15,13,14,28],[26,25,24,22,21,20,7,6,4,3,2,0,1,5,19,18,12,11,10,8,9,17,16,15,13,14,23,31,30,29,27,28],[32,26,25,24,22,21,20,7,6,4,3,2,0,1,5,19,18,12,11,10,8,9,17,16,15,13,14,23,31,30,29,27,28],[21,20,7,6,4,3,2,0,1,5,19,18,12,11,10,8,9,17,16,15,13,14,33,32,26,25,24,22,23,31,30,29,27,28]]) (.cond (.t 161) (.seq (.ops [iP 8 (.mv kF)]) .ret) .skip))))) (.ops [iM 111 16,iP 112 (.bP .add (.t 111) (kI 1)),iM 16 112])))))) (.seq (.seq (.ops [iP 162 (.av 2 (.t 10)),iH 163 (yD 1 162),iP 164 (xL 163),iP 165 (.bP .eql (.t 164) (kI 0)),iM 166 165,gH 167 166 .false (yA 4 4),gM 168 166 .false 1,gH 169 166 .false (yC 25 167 168),gP 170 166 .false (xN 169),iP 171 (.pick (.t 166) kT (.t 170))]) (.cond (.t 171) (.seq (.ops [iP 8 (.mv kT)]) .ret) .skip)) (.seq (.ops [iH 172 (yA 4 4),iH 173 (.call 28 [(.t 172)]),⟨(some 18),none,(.h (.alloc (.agg [(.sc (.int .u8 0)),(.sc (.string ⟨#[]⟩)),(.sc (.int .i64 0)),cJ]) 25))⟩,iS 4 18 173]) (.seq (.ops [iM 19 18]) (.seq (.dL [iP 174 (.av 2 (.t 10)),iH 175 (yD 1 174),iM 176 3,iP 177 (.av 2 (.t 10)),iH 178 (yD 1 177),iP 179 (xL 178),iH 180 (yC 24 176 179),iP 181 (xA 1 175 180),iH 182 (yD 1 181),iM 20 182] [[],[0],[],[],[3],[4,3],[2,5,4,3],[1,0,6,2,5,4,3],[7,1,0,6,2,5,4,3],[8,7,1,0,6,2,5,4,3]]) (.seq (.seq (.ops [iP 21 (xI 0)]) (.block 2 (.loop (.seq (.seq (.ops [iM 183 21,iM 184 20,iP 185 (xL 184),iP 186 (xB .lss 183 185)]) (.cond (.t 186) .skip (.exit 2))) (.seq (.block 3 (.dL [iM 189 19,iP 190 (.cI (.t 189)),iP 191 (.av 3 (.t 190)),iH 192 (yD 1 191),iM 193 20,iM 194 21,iP 195 (xA 1 193 194),iH 196 (yD 1 195),iP 197 (xA 4 192 196),iM 19 197] [[],[0],[1,0],[2,1,0],[],[],[4,5],[6,4,5],[3,2,1,0,7,6,4,5],[8,3,2,1,0,7,6,4,5]])) (.ops [iM 187 21,iP 188 (.bP .add (.t 187) (kI 1)),iM 21 188])))))) (.seq (.ops [iM 198 19,iM 199 1,iP 200 (.cI (.t 198)),iP 201 (.av 1 (.t 200)),iS 1 201 199]) (.seq (.ops [iH 202 (yA 4 4),iH 203 (yA 4 18),iH 204 (yC 10 202 203),iP 205 (xN 204),iM 8 205]) .ret))))))))))))))))))))
theorem dk6:Dk Tryz.prog 6 ic6 [(.t 8)] 206:=bj (fn:=Tryz.f6) Tryz.func6 (by kernel_rfl) (by kernel_rfl) (by kernel_rfl)
def ic8:IC:=(.seq (.ops [iP 0 (.mv kF)]) (.seq (.ops [⟨(some 7),none,(.h (.call 20 [(.k (.sc (.string ⟨#[102,117,110,99,32,102,40,97,41,32,123,32,118,97,114,32,98,32,61,32,97,59,32,125]⟩)))]))⟩,⟨(some 8),none,(.h (.call 20 [(.k (.sc (.string ⟨#[102,117,110,99,32,103,40,120,41,32,123,32,118,97,114,32,97,32,61,32,120,59,32,125]⟩)))]))⟩,⟨(some 1),none,(.h (.alloc (.agg [(.sc (.int .u8 0)),(.sc (.string ⟨#[]⟩)),(.sc (.int .i64 0)),cJ]) 25))⟩,⟨(some 2),none,(.h (.alloc (.agg [(.sc (.int .u8 0)),(.sc (.string ⟨#[]⟩)),(.sc (.int .i64 0)),cJ]) 25))⟩,iS 4 1 7,iS 4 2 8]) (.seq (.ops [iH 10 (yA 4 1),iH 11 (.eE 1 3 (.sc (.int .i64 0)) 3 [(0,(kI 0)),(1,(kI 0)),(2,(kI 0))]),⟨(some 12),none,(.h (.call 14 [(.t 10),(.k (.sc (.string ⟨#[98]⟩))),(.t 11)]))⟩,iM 9 12,iP 13 (.ext (.t 9) 0),iP 14 (.ext (.t 9) 1),⟨(some 3),none,(.h (.alloc (.agg [(.sc (.int .u8 0)),(.sc (.string ⟨#[]⟩)),(.sc (.int .i64 0)),cJ]) 25))⟩,iS 4 3 13,iM 4 14]) (.seq (.ops [⟨(some 16),none,(.h (.call 20 [(.k (.sc (.string ⟨#[102,117,110,99,32,102,40,97,41,32,123,32,118,97,114,32,98,32,61,32,97,59,32,112,114,105,110,116,32,97,59,32,125]⟩)))]))⟩,iH 17 (.eE 1 3 (.sc (.int .i64 0)) 3 [(0,(kI 0)),(1,(kI 0)),(2,(kI 0))]),⟨(some 18),none,(.h (.call 14 [(.t 16),(.k (.sc (.string ⟨#[98]⟩))),(.t 17)]))⟩,iM 15 18,iP 19 (.ext (.t 15) 0),iP 20 (.ext (.t 15) 1),⟨(some 5),none,(.h (.alloc (.agg [(.sc (.int .u8 0)),(.sc (.string ⟨#[]⟩)),(.sc (.int .i64 0)),cJ]) 25))⟩,iS 4 5 19,iM 6 20]) (.seq (.dL [iH 21 (yA 4 1),iH 22 (yA 4 2),iH 23 (yC 10 21 22),iM 24 23,gH 25 24 .true (yA 4 1),⟨(some 26),(some (24,.true)),(.h (.call 20 [(.k (.sc (.string ⟨#[102,117,110,99,32,103,40,120,41,32,123,32,118,97,114,32,120,32,61,32,120,59,32,125]⟩)))]))⟩,gH 27 24 .true (yC 10 25 26),iP 28 (.pick (.t 24) (.t 27) kF),iM 29 28,gM 30 29 .true 4,gP 31 29 .true (.bP .eql (.t 30) (kI 0)),iP 32 (.pick (.t 29) (.t 31) kF),iM 33 32,gH 34 33 .true (yA 4 3),⟨(some 35),(some (33,.true)),(.h (.call 20 [(.k (.sc (.string ⟨#[102,117,110,99,32,102,40,98,41,32,123,32,118,97,114,32,98,32,61,32,98,59,32,125]⟩)))]))⟩,gH 36 33 .true (yC 16 34 35),iP 37 (.pick (.t 33) (.t 36) kF),iM 38 37,gM 39 38 .true 6,gP 40 38 .true (.bP .eql (.t 39) (kI 120)),iP 41 (.pick (.t 38) (.t 40) kF),iM 0 41] [[],[],[0,1],[2,0,1],[3,2,0,1],[3,2,0,1],[4,3,2,0,1,5],[3,2,0,1,6,4,5],[7,3,2,0,1,6,4,5],[8,7,3,2,0,1,6,4,5],[9,8,7,3,2,0,1,6,4,5],[8,7,3,2,0,1,6,4,5,10,9],[11,8,7,3,2,0,1,6,4,5,10,9],[12,11,8,7,3,2,0,1,6,4,5,10,9],[12,11,8,7,3,2,0,1,6,4,5,10,9],[13,12,11,8,7,3,2,0,1,6,4,5,10,9,14],[12,11,8,7,3,2,0,1,6,4,5,10,9,15,13,14],[16,12,11,8,7,3,2,0,1,6,4,5,10,9,15,13,14],[17,16,12,11,8,7,3,2,0,1,6,4,5,10,9,15,13,14],[18,17,16,12,11,8,7,3,2,0,1,6,4,5,10,9,15,13,14],[17,16,12,11,8,7,3,2,0,1,6,4,5,10,9,15,13,14,19,18],[20,17,16,12,11,8,7,3,2,0,1,6,4,5,10,9,15,13,14,19,18]]) .ret)))))
theorem dk8:Dk Tryz.prog 8 ic8 [(.t 0)] 42:=bj (fn:=Tryz.f8) Tryz.func8 (by kernel_rfl) (by kernel_rfl) (by kernel_rfl)
set_option maxRecDepth 100000
def pX(t:Nd):Bool:=decide (t.size≤1000) && decide (t.wt≤10000)
theorem nj{t:Nd}(h:pX t=true):t.size≤1000∧t.wt≤10000:=by
 simpa [pX] using h
theorem LV:pX pW=true:=by kernel_rfl
theorem LW:pX Bx=true:=by kernel_rfl
theorem IW:pX vL=true:=by kernel_rfl
theorem LX:pX Bz=true:=by kernel_rfl
theorem LY:pX BA=true:=by kernel_rfl
theorem Vw:cX pW Bx=true:=by kernel_rfl
theorem Vx:cX pW Bz=true:=by kernel_rfl
theorem LZ:(bn pW ⟨#[98]⟩ [0,0,0]).2=0:=by kernel_rfl
theorem L0:kw (bn pW ⟨#[98]⟩ [0,0,0]).1 BA=true:=by kernel_rfl
theorem L1:(bn vL ⟨#[98]⟩ [0,0,0]).2=120:=by kernel_rfl
theorem Vy:decide ((bn pW ⟨#[98]⟩ [0,0,0]).1.size≤1000)=true:=by kernel_rfl
def M6(x:Z)(f n:Nat)(ag:Bool):Bool:=if ag then decide (f+n≤x.cells.length) else decide (f<x.cells.length)
theorem IX{x:Z}{f n:Nat}{ag:Bool}(h:M6 x f n ag=true):Z.gm x f n ag:=by
 unfold M6 at h
 unfold Z.gm
 cases ag<;>simpa using h
def M7(ev:X→Z):Option X→Bool
 | none=>true
 | some x=>match ev x with
  | .sc (.int _ n)=>decide (0≤n)
  | _=>false
theorem IY{ev:X→Z}{o:Option X}(h:M7 ev o=true):lM ev o:=by
 cases o with
 | none=>trivial
 | some x =>
  simp only[M7] at h
  simp only[lM]
  split at h
  ·rename_i e;rw[e];exact of_decide_eq_true h
  ·cases h
def Ff(ev:X→Z):List Z→List (Nat×Nat×X)→Bool
 | _,[]=>true
 | zs,(off,n,x)::r=>(!(ev x).bO && (decide ((ev x).an=n) && decide (off+n≤zs.length))) && Ff ev (zs.take off++(ev x).cells++zs.drop (off+n)) r
theorem DJ{ev:X→Z}:∀{ps:List (Nat×Nat×X)}{zs:List Z},Ff ev zs ps=true→nx ev zs ps
 | [],_,_=>trivial
 | (off,n,x)::r,zs,h=>by
  simp only[Ff,Bool.and_eq_true,Bool.not_eq_true',decide_eq_true_eq] at h
  exact ⟨⟨h.1.1,h.1.2.1,h.1.2.2⟩,DJ h.2⟩
def okB(ev:X→Z):PO→Bool
 | .mv _=>true
 | .pick c _ _=>match ev c with
  | .sc (.bool _)=>true
  | _=>false
 | .bP op x y=>match ev x with
  | .sc u=>match ev y with
   | .sc v=>(sN op u v).isSome
   | _=>false
  | _=>false
 | .un op x=>match ev x with
  | .sc u=>(Fv op u).isSome
  | _=>false
 | .conv _ x=>match ev x with
  | .sc (.int _ _)=>true
  | _=>false
 | .cI x=>match ev x with
  | .ptr k _ _ f=>decide (0<k) || decide (0<f)
  | .lp _ _=>true
  | _=>false
 | .av _ x=>match ev x with
  | .ptr k _ _ _=>decide (0<k)
  | .lp _ _=>true
  | _=>false
 | .gE k x i=>match ev i with
  | .sc (.int _ n)=>match ev x with
   | .ak k' xs _=>decide (0≤n) && (decide (n<(xs.length:Int)) && decide (k'=k))
   | .aB k' _ _ m _=>decide (0≤n) && (decide (n<(m:Int)) && (decide (k'=k) && decide (0<k)))
   | _=>false
  | _=>false
 | .jy x i=>match ev x with
  | .sc (.string s)=>match ev i with
   | .sc (.int _ n)=>decide (0≤n) && decide (n<(s.size:Int))
   | _=>false
  | _=>false
 | .oh x lo hi=>match ev x with
  | .sc (.string s)=>M7 ev lo && (M7 ev hi && (decide (eX ev 0 lo≤eX ev s.size hi) && decide (eX ev s.size hi≤s.size)))
  | _=>false
 | .len x=>match ev x with
  | .ak _ _ _=>true
  | .aB _ _ _ _ _=>true
  | _=>false
 | .my x=>match ev x with
  | .sc (.string _)=>true
  | _=>false
 | .ext x i=>match ev x with
  | .aK vs=>decide (i<vs.length)
  | _=>false
 | .build zs ps=>Ff ev zs ps
 | _=>false
theorem M8{ev:X→Z}{q:PO}(h:okB ev q=true):q.ok ev:=by
 cases q with
 | mv x=>trivial
 | build zs ps=>exact DJ h
 | pick c a b =>
  simp only[okB] at h
  simp only[PO.ok]
  split at h
  ·rename_i e;rw[e];trivial
  ·cases h
 | bP op x y =>
  simp only[okB] at h
  simp only[PO.ok]
  split at h
  ·rename_i e
   split at h
   ·rename_i e2;rw[e,e2];exact h
   ·cases h
  ·cases h
 | un op x =>
  simp only[okB] at h
  simp only[PO.ok]
  split at h
  ·rename_i e;rw[e];exact h
  ·cases h
 | conv k x =>
  simp only[okB] at h
  simp only[PO.ok]
  split at h
  ·rename_i e;rw[e];trivial
  ·cases h
 | cI x =>
  simp only[okB] at h
  simp only[PO.ok]
  split at h
  ·rename_i e;rw[e];simpa [zV] using h
  ·rename_i e;rw[e];trivial
  ·cases h
 | av o x =>
  simp only[okB] at h
  simp only[PO.ok]
  split at h
  ·rename_i e;rw[e];simpa [zW] using h
  ·rename_i e;rw[e];trivial
  ·cases h
 | gE k x i =>
  simp only[okB] at h
  simp only[PO.ok]
  split at h
  ·rename_i e
   split at h
   ·rename_i e2;rw[e,e2];simpa [qW] using h
   ·rename_i e2;rw[e,e2];simpa [qW] using h
   ·cases h
  ·cases h
 | jy x i =>
  simp only[okB] at h
  simp only[PO.ok]
  split at h
  ·rename_i e
   split at h
   ·rename_i e2;rw[e,e2];simpa [yR] using h
   ·cases h
  ·cases h
 | oh x lo hi =>
  simp only[okB] at h
  simp only[PO.ok]
  split at h
  ·rename_i e
   simp only[Bool.and_eq_true,decide_eq_true_eq] at h
   rw[e]
   exact ⟨trivial,IY h.1,IY h.2.1,h.2.2.1,h.2.2.2⟩
  ·cases h
 | len x =>
  simp only[okB] at h
  simp only[PO.ok]
  split at h
  ·rename_i e;rw[e];trivial
  ·rename_i e;rw[e];trivial
  ·cases h
 | my x =>
  simp only[okB] at h
  simp only[PO.ok]
  split at h
  ·rename_i e;rw[e];trivial
  ·cases h
 | ext x i =>
  simp only[okB] at h
  simp only[PO.ok]
  split at h
  ·rename_i e;rw[e];simpa [JH] using h
  ·cases h
 | _=>cases h
def yH:Nat→Y→Nat→Option aD
 | _,[],_=>none
 | 0,_::_,_=>none
 | n+1,b::r,i=>if i=n then b else yH n r i
theorem kX:∀{H:Y}{i:Nat},yH H.length H i=Y.find H i
 | [],_=>rfl
 | b::r,i=>by
  show (if i=r.length then b else yH r.length r i)=_
  simp only[Y.find,kX (H:=r)]
def Vz:Nat→Y→Nat→Option aD→Y
 | _,[],_,_=>[]
 | 0,b::r,_,_=>b::r
 | n+1,b::r,i,x=>if i=n then x::r else b::Vz n r i x
theorem Fg:∀{H:Y}{i:Nat}{x:Option aD},Vz H.length H i x=Y.set H i x
 | [],_,_=>rfl
 | b::r,i,x=>by
  show (if i=r.length then x::r else b::Vz r.length r i x)=_
  simp only[Y.set,Fg (H:=r)]
def VA(H:Y)(n:Nat)(ag:Bool):Z→Z
 | .ptr _ id j f=>match yH H.length H id with
  | some blk=>Z.sub (blk.es.getD j .top) f n ag
  | none=>.top
 | .lp x f=>Z.sub x f n ag
 | _=>.top
theorem Fh{H:Y}{n:Nat}{ag:Bool}{a:Z}:VA H n ag a=B6 H n ag a:=by
 cases a<;>simp only[VA,B6,kX]<;>rfl
def Yp(H:Y):Z→Z→Y
 | .ptr k id j f,x=>match yH H.length H id with
  | some blk=>Vz H.length H id (some { blk with es:=blk.es.set j (Z.j6 (blk.es.getD j .top) f x) })
  | none=>H
 | _,_=>H
theorem M9{H:Y}{a x:Z}:Yp H a x=uN H a x:=by
 cases a<;>simp only[Yp,uN,kX,Fg]<;>rfl
def VB(H:Y):Z→List Z
 | .ak _ ys _=>ys
 | .aB _ id off n _=>match yH H.length H id with
  | some blk=>(blk.es.drop off).take n
  | none=>[]
 | _=>[]
theorem Fi{H:Y}{a:Z}:VB H a=l7 H a:=by
 cases a<;>simp only[VB,l7,kX]<;>rfl
def apE(H:Y)(k ty:Nat)(ys:List Z):Z→Y
 | .aB k' id off n none=>match yH H.length H id with
  | some blk=>some ⟨k,blk.es++ys,false,ty⟩::Vz H.length H id none
  | none=>H
 | a=>kj H k ty ys a
theorem Yq{H:Y}{k ty:Nat}{ys:List Z}{a:Z}:apE H k ty ys a=kj H k ty ys a:=by
 unfold apE
 split
 ·simp only[kj,kX,Fg]
  rfl
 ·rfl
def Na(ev:X→Z)(H:Y):HO→Z
 | .load n ag a=>VA H n ag (ev a)
 | .eN k _ s x=>nW H k (VB H (ev x)) (ev s)
 | q=>q.qX ev H
theorem lA{ev:X→Z}{H:Y}{q:HO}:Na ev H q=q.qX ev H:=by
 cases q<;>simp only[Na,HO.qX,Fh,Fi]
def Fj(ev:X→Z)(H:Y):HO→Y
 | .store _ a x=>Yp H (ev a) (ev x)
 | .eN k ty s x=>apE H k ty (VB H (ev x)) (ev s)
 | q=>q.mN ev H
theorem jq{ev:X→Z}{H:Y}{q:HO}:Fj ev H q=q.mN ev H:=by
 cases q<;>simp only[Fj,HO.mN,M9,Yq,Fi]
def VC(H:Y)(n:Nat)(ag:Bool):Z→Bool
 | .ptr k id j f=>match yH H.length H id with
  | some blk=>decide (blk.k=k) && (decide (j<blk.es.length) && (M6 (blk.es.getD j .top) f n ag && decide (0<k)))
  | none=>false
 | .lp x f=>M6 x f n ag
 | _=>false
theorem Fk{H:Y}{n:Nat}{ag:Bool}{a:Z}(h:VC H n ag a=true):sR H n ag a:=by
 cases a with
 | ptr k id j f =>
  simp only[VC,kX] at h
  simp only[sR]
  split at h
  ·rename_i e
   rw[e]
   simp only[Bool.and_eq_true,decide_eq_true_eq] at h
   exact ⟨h.1,h.2.1,IX h.2.2.1,h.2.2.2⟩
  ·cases h
 | lp x f=>exact IX h
 | _=>cases h
def VD(H:Y)(n:Nat):Z→Z→Bool
 | .ptr k id j f,x=>match yH H.length H id with
  | some blk=>decide (blk.k=k) && (decide (j<blk.es.length) && (!x.bO && (decide (x.an=n) && (decide (f+n≤(blk.es.getD j .top).an) && (((blk.es.getD j .top).isAgg || !x.isAgg) && decide (0<k))))))
  | none=>false
 | _,_=>false
theorem Nb{H:Y}{n:Nat}{a x:Z}(h:VD H n a x=true):xQ H n a x:=by
 cases a with
 | ptr k id j f =>
  simp only[VD,kX] at h
  simp only[xQ]
  split at h
  ·rename_i e
   rw[e]
   simp only[Bool.and_eq_true,Bool.not_eq_true',decide_eq_true_eq] at h
   exact ⟨h.1,h.2.1,h.2.2.1,h.2.2.2.1,h.2.2.2.2.1,h.2.2.2.2.2.1,h.2.2.2.2.2.2⟩
  ·cases h
 | _=>cases h
def DL(ev:X→Z)(k:Nat):List Z→List (Nat×X)→Bool
 | _,[]=>true
 | es,(i,x)::r=>(!(ev x).bO && (decide ((ev x).an=k) && decide (i<es.length))) && DL ev k (es.set i (ev x)) r
theorem vM{ev:X→Z}{k:Nat}:∀{ps:List (Nat×X)}{es:List Z},DL ev k es ps=true→ki ev k es ps
 | [],_,_=>trivial
 | (i,x)::r,es,h=>by
  simp only[DL,Bool.and_eq_true,Bool.not_eq_true',decide_eq_true_eq] at h
  exact ⟨⟨h.1.1,h.1.2.1,h.1.2.2⟩,vM h.2⟩
def Yr(H:Y)(k:Nat):Z→Bool
 | .ak k' ys _=>decide (k'=k) || ys.isEmpty
 | .aB k' id off n _=>match yH H.length H id with
  | some blk=>decide (k'=k) && (decide (blk.k=k) && decide (off+n≤blk.es.length))
  | none=>false
 | _=>false
theorem Ys{H:Y}{k:Nat}{a:Z}(h:Yr H k a=true):sS H k a:=by
 cases a with
 | ak k' ys r=>simpa [Yr,sS] using h
 | aB k' id off n c =>
  simp only[Yr,kX] at h
  simp only[sS]
  split at h
  ·rename_i e
   rw[e]
   simpa using h
  ·cases h
 | _=>cases h
def apB(H:Y)(k ty:Nat)(ys:List Z):Z→Bool
 | .ak k' xs (some [])=>(decide (k'=k) || xs.isEmpty) && decide (xs.length+ys.length≤100000000)
 | .aB k' id off n none=>match yH H.length H id with
  | some blk=>(decide (k'=k) && (decide (blk.k=k) && (decide (blk.ty=ty) && (decide (off=0) && decide (n+ys.length≤100000000))))) && (!blk.exact && decide (n=blk.es.length))
  | none=>false
 | _=>false
theorem Yt{H:Y}{k ty:Nat}{ys:List Z}{a:Z}(h:apB H k ty ys a=true):iv H k ty ys a:=by
 unfold apB at h
 split at h
 ·simpa [iv] using h
 ·rw[kX] at h
  split at h
  ·rename_i e
   simp only[iv]
   rw[e]
   simpa using h
  ·cases h
 ·cases h
def y5:Z→Bool
 | .sc (.int _ _)=>true
 | _=>false
theorem BB{a:Z}(h:y5 a=true):ny a:=by
 unfold y5 at h
 split at h
 ·trivial
 ·cases h
def Qc(ev:X→Z)(H:Y):HO→Bool
 | .load n ag a=>VC H n ag (ev a)
 | .alloc _ _=>true
 | .box k _ x=>!(ev x).bO && decide ((ev x).an=k)
 | .eE k _ z ln ps=>DL ev k (List.replicate ln z) ps
 | .jC k _ z ln ps=>DL ev k (List.replicate ln z) ps
 | .store n a x=>VD H n (ev a) (ev x)
 | .jD _ _ _ l c=>y5 (ev l) && (y5 (ev c) && (decide (0≤bL (ev l)) && (decide (bL (ev l)≤bL (ev c)) && decide (bL (ev c)≤100000000))))
 | .eN k ty s x=>Yr H k (ev x) && apB H k ty (VB H (ev x)) (ev s)
 | _=>false
theorem nL{ev:X→Z}{H:Y}{q:HO}(h:Qc ev H q=true):q.B7 ev H:=by
 cases q with
 | load n ag a=>exact Fk h
 | alloc z ty=>trivial
 | box k ty x=>simpa [Qc,HO.B7] using h
 | eE k ty z ln ps=>exact vM h
 | jC k ty z ln ps=>exact vM h
 | store n a x=>exact Nb h
 | jD k ty z l c =>
  simp only[Qc,Bool.and_eq_true,decide_eq_true_eq] at h
  exact ⟨BB h.1,BB h.2.1,h.2.2.1,h.2.2.2.1,h.2.2.2.2⟩
 | eN k ty s x =>
  simp only[Qc,Bool.and_eq_true,Fi] at h
  exact ⟨Ys h.1,Yt h.2⟩
 | _=>cases h
abbrev lU:=FuncId→List Z→Y→Option (Z×Y)
def vN(P:Program)(call:lU):Prop:=∀f dS H v H',call f dS H=some (v,H')→D P f dS H (.ret v) H'
def DM(ts:List Z):Option (Nat×Bool)→Option Bool
 | none=>some true
 | some (d,want)=>match ts.getD d .top with
  | .sc (.bool b)=>some (b == want)
  | .aK _=>some false
  | _=>none
theorem Nc{ts:List Z}{g:Option (Nat×Bool)}{p q:Prop}(h:DM ts g=some true)(hp:p):bT ts p q g:=by
 cases g with
 | none=>exact hp
 | some dw =>
  obtain ⟨d,want⟩:=dw
  simp only[DM] at h
  simp only[bT]
  split at h
  ·rename_i b e
   rw[e]
   have:b=want:=by simpa using h
   exact ⟨fun _=>hp,fun hn=>absurd this hn⟩
  ·cases h
  ·cases h
theorem Nf{ts:List Z}{g:Option (Nat×Bool)}{p q:Prop}(h:DM ts g=some false)(hq:q):bT ts p q g:=by
 cases g with
 | none=>cases h
 | some dw =>
  obtain ⟨d,want⟩:=dw
  simp only[DM] at h
  simp only[bT]
  split at h
  ·rename_i b e
   rw[e]
   have:b≠want:=by simpa using h
   exact ⟨fun hn=>absurd hn this,fun _=>hq⟩
  ·rename_i e
   rw[e]
   exact hq
  ·cases h
def BC(call:lU)(ts:List Z)(H:Y):dR→Option (Z×Y)
 | .p q=>if okB (X.ev ts) q then some (q.val (X.ev ts),H) else none
 | .h (.call f dS)=>call f (dS.map (X.ev ts)) H
 | .h q=>if Qc (X.ev ts) H q then some (Na (X.ev ts) H q,Fj (X.ev ts) H q) else none
theorem Yu{P:Program}{call:lU}(hc:vN P call){ts:List Z}{H:Y}{op:dR}{v:Z}{H':Y}(h:BC call ts H op=some (v,H')){C Cp:Z→Y→Prop}(hC:C v H'):Gp P (X.ev ts) H C Cp op:=by
 cases op with
 | p q =>
  simp only[BC] at h
  split at h
  ·rename_i hk
   obtain ⟨rfl,rfl⟩:=Prod.mk.inj (Option.some.inj h)
   exact ⟨M8 hk,hC⟩
  ·cases h
 | h q =>
  cases q with
  | call f dS =>
   exact (hc f _ H v H' h).dk.mono fun e H1 _ ⟨h1,h2⟩=>by subst h1 h2;exact hC
  | load n ag a =>
   simp only[BC] at h
   split at h
   ·rename_i hk
    obtain ⟨rfl,rfl⟩:=Prod.mk.inj (Option.some.inj h)
    rw[lA,jq] at hC
    exact ⟨nL hk,hC⟩
   ·cases h
  | alloc z ty =>
   simp only[BC] at h
   split at h
   ·rename_i hk
    obtain ⟨rfl,rfl⟩:=Prod.mk.inj (Option.some.inj h)
    rw[lA,jq] at hC
    exact ⟨nL hk,hC⟩
   ·cases h
  | box k ty x =>
   simp only[BC] at h
   split at h
   ·rename_i hk
    obtain ⟨rfl,rfl⟩:=Prod.mk.inj (Option.some.inj h)
    rw[lA,jq] at hC
    exact ⟨nL hk,hC⟩
   ·cases h
  | jD k ty z l c =>
   simp only[BC] at h
   split at h
   ·rename_i hk
    obtain ⟨rfl,rfl⟩:=Prod.mk.inj (Option.some.inj h)
    rw[lA,jq] at hC
    exact ⟨nL hk,hC⟩
   ·cases h
  | eE k ty z ln ps =>
   simp only[BC] at h
   split at h
   ·rename_i hk
    obtain ⟨rfl,rfl⟩:=Prod.mk.inj (Option.some.inj h)
    rw[lA,jq] at hC
    exact ⟨nL hk,hC⟩
   ·cases h
  | jC k ty z ln ps =>
   simp only[BC] at h
   split at h
   ·rename_i hk
    obtain ⟨rfl,rfl⟩:=Prod.mk.inj (Option.some.inj h)
    rw[lA,jq] at hC
    exact ⟨nL hk,hC⟩
   ·cases h
  | store n a x =>
   simp only[BC] at h
   split at h
   ·rename_i hk
    obtain ⟨rfl,rfl⟩:=Prod.mk.inj (Option.some.inj h)
    rw[lA,jq] at hC
    exact ⟨nL hk,hC⟩
   ·cases h
  | eN k ty s x =>
   simp only[BC] at h
   split at h
   ·rename_i hk
    obtain ⟨rfl,rfl⟩:=Prod.mk.inj (Option.some.inj h)
    rw[lA,jq] at hC
    exact ⟨nL hk,hC⟩
   ·cases h
  | _=>cases h
def eqS:Value→Value→Bool
 | .int k n,.int k' n'=>decide (k=k') && decide (n=n')
 | .bool b,.bool c=>b == c
 | .string x,.string y=>decide (x=y)
 | _,_=>false
theorem Ng{u v:Value}(h:eqS u v=true):u=v:=by
 unfold eqS at h
 split at h
 ·simp only[Bool.and_eq_true,decide_eq_true_eq] at h
  rw[h.1,h.2]
 ·rw[eq_of_beq h]
 ·rw[of_decide_eq_true h]
 ·cases h
mutual
def oo:Z→Z→Bool
 | .sc u,.sc v=>eqS u v
 | .ak k xs none,.ak k' ys none=>decide (k=k') && Cn xs ys
 | .ak k xs (some []),.ak k' ys (some [])=>decide (k=k') && Cn xs ys
 | .aB k id off n c,.aB k' id' off' n' c'=>decide (k=k') && (decide (id=id') && (decide (off=off') && (decide (n=n') && decide (c=c'))))
 | .ptr k id j f,.ptr k' id' j' f'=>decide (k=k') && (decide (id=id') && (decide (j=j') && decide (f=f')))
 | .agg xs,.agg ys=>Cn xs ys
 | .aK xs,.aK ys=>Cn xs ys
 | _,_=>false
def Cn:List Z→List Z→Bool
 | [],[]=>true
 | x::r,y::s=>oo x y && Cn r s
 | _,_=>false
end
mutual
theorem Yv:∀{x y:Z},oo x y=true→x=y
 | .sc u,.sc v,h=>by
  have e:u=v:=Ng (by simpa only[oo] using h)
  rw[e]
 | .ak k xs none,.ak k' ys none,h=>by
  simp only[oo,Bool.and_eq_true,decide_eq_true_eq] at h
  rw[h.1,kY h.2]
 | .ak k xs (some []),.ak k' ys (some []),h=>by
  simp only[oo,Bool.and_eq_true,decide_eq_true_eq] at h
  rw[h.1,kY h.2]
 | .aB k id off n c,.aB k' id' off' n' c',h=>by
  simp only[oo,Bool.and_eq_true,decide_eq_true_eq] at h
  rw[h.1,h.2.1,h.2.2.1,h.2.2.2.1,h.2.2.2.2]
 | .ptr k id j f,.ptr k' id' j' f',h=>by
  simp only[oo,Bool.and_eq_true,decide_eq_true_eq] at h
  rw[h.1,h.2.1,h.2.2.1,h.2.2.2]
 | .agg xs,.agg ys,h=>by
  have e:xs=ys:=kY (by simpa only[oo] using h)
  rw[e]
 | .aK xs,.aK ys,h=>by
  have e:xs=ys:=kY (by simpa only[oo] using h)
  rw[e]
 | x,y,h=>by
  unfold oo at h
  split at h
  ·rw[Ng h]
  ·simp only[Bool.and_eq_true,decide_eq_true_eq] at h
   rw[h.1,kY h.2]
  ·simp only[Bool.and_eq_true,decide_eq_true_eq] at h
   rw[h.1,kY h.2]
  ·simp only[Bool.and_eq_true,decide_eq_true_eq] at h
   rw[h.1,h.2.1,h.2.2.1,h.2.2.2.1,h.2.2.2.2]
  ·simp only[Bool.and_eq_true,decide_eq_true_eq] at h
   rw[h.1,h.2.1,h.2.2.1,h.2.2.2]
  ·rw[kY h]
  ·rw[kY h]
  ·cases h
theorem kY:∀{x y:List Z},Cn x y=true→x=y
 | [],[],_=>rfl
 | x::r,y::s,h=>by
  simp only[Cn,Bool.and_eq_true] at h
  rw[Yv h.1,kY h.2]
 | [],_::_,h=>by simp[Cn] at h
 | _::_,[],h=>by simp[Cn] at h
end
def eqK:Option aD→Option aD→Bool
 | none,none=>true
 | some a,some b=>decide (a.k=b.k) && (Cn a.es b.es && ((a.exact == b.exact) && decide (a.ty=b.ty)))
 | _,_=>false
theorem Yw:∀{a b:Option aD},eqK a b=true→a=b
 | none,none,_=>rfl
 | some ⟨k,es,ex,ty⟩,some ⟨k',es',Yx,ty'⟩,h=>by
  simp only[eqK,Bool.and_eq_true,decide_eq_true_eq] at h
  rw[h.1,kY h.2.1,eq_of_beq h.2.2.1,h.2.2.2]
 | none,some _,h=>by cases h
 | some _,none,h=>by cases h
def IZ:Y→Y→List Nat
 | b::r,c::s=>if eqK b c then IZ r s else r.length::IZ r s
 | _,_=>[]
theorem BD:∀{D H:Y},D.length=H.length→∀{j:Nat},j∉IZ D H→Y.find D j=Y.find H j
 | [],[],_,_,_=>rfl
 | b::r,c::s,hl,j,hj=>by
  have Np:r.length=s.length:=by simpa using hl
  simp only[IZ] at hj
  simp only[Y.find]
  split at hj
  ·rename_i e
   rw[Yw e,BD Np hj,Np]
  ·simp only[List.mem_cons,not_or] at hj
   rw[if_neg hj.1,if_neg (by rw[←Np];exact hj.1),BD Np hj.2]
 | [],_::_,hl,_,_=>by simp at hl
 | _::_,[],hl,_,_=>by simp at hl
def Yy(H H':Y):List Nat:=IZ (H'.drop (H'.length - H.length)) H
theorem Yz{H H':Y}(hl:H.length≤H'.length){j:Nat}(hj:j∉Yy H H')(hlt:j<H.length):Y.find H' j=Y.find H j:=by
 have e:H'=H'.take (H'.length - H.length)++H'.drop (H'.length - H.length):=(List.take_append_drop _ _).symm
 have hd:(H'.drop (H'.length - H.length)).length=H.length:=by rw[List.length_drop];omega
 rw[e,Y.bx (by rw[hd];exact hlt)]
 exact BD hd hj
def Nh:Z→Nat
 | .ptr _ id _ _=>id
 | _=>0
def VE(A:List (List Nat))(i:Nat)(hs:List (Nat×List Nat)):Z→Bool
 | .ptr _ id _ _=>hs.all fun c=>!kf A c.1 i || !c.2.contains id
 | _=>true
def YA(A:List (List Nat))(i:Nat)(ld:List (Nat×Nat))(n:Nat)(ids:List Nat):Bool:=ld.all fun l=>!kf A l.1 i || (!ids.contains l.2 && decide (l.2<n))
inductive VF:List (Nat×Y×Y)→List (Nat×List Nat)→Prop where
 | nil:VF [] []
 | cons {i:Nat}{ids:List Nat}{H H':Y}{l:List (Nat×Y×Y)}{m:List (Nat×List Nat)}:(∀j,j∉ids→j<H.length→Y.find H' j=Y.find H j)→VF l m→VF ((i,H,H')::l) ((i,ids)::m)
theorem VG{A:List (List Nat)}{i:Nat}{hs:List (Nat×Y×Y)}{m:List (Nat×List Nat)}(hr:VF hs m){a:Z}(h:VE A i m a=true):yx A i hs a:=by
 cases a with
 | ptr k id j f =>
  simp only[VE,List.all_eq_true] at h
  intro c hc hu hl
  induction hr with
  | nil=>cases hc
  | cons h1 _ ih =>
   rcases List.mem_cons.1 hc with e | e
   ·subst e
    have:=h _ List.mem_cons_self
    simp only[Bool.or_eq_true,Bool.not_eq_true',List.contains_eq_mem,decide_eq_false_iff_not] at this
    rcases this with t | t
    ·simp only at hu
     rw[t] at hu
     cases hu
    ·exact h1 id t hl
   ·exact ih (fun x hx=>h x (List.mem_cons_of_mem _ hx)) e
 | _=>trivial
theorem Ni{A:List (List Nat)}{i:Nat}{ld:List (Nat×Nat)}{H H':Y}{ids:List Nat}(h:YA A i ld H.length ids=true)(hk:∀j,j∉ids→j<H.length→Y.find H' j=Y.find H j):pq A i ld H H':=by
 intro l hl hu
 simp only[YA,List.all_eq_true] at h
 have:=h l hl
 simp only[Bool.or_eq_true,Bool.and_eq_true,Bool.not_eq_true',List.contains_eq_mem,decide_eq_false_iff_not,decide_eq_true_eq] at this
 rcases this with t | t
 ·rw[t] at hu
  cases hu
 ·exact hk _ t.1 t.2
theorem Qd{H:Y}{a x:Z}{n:Nat}(h:VD H n a x=true):∀j,j∉[Nh a]→j<H.length→Y.find (uN H a x) j=Y.find H j:=by
 intro j hj _
 have hj:j≠Nh a:=by simpa using hj
 cases a with
 | ptr k id b f =>
  simp only[uN]
  split
  ·exact Y.ah hj
  ·rfl
 | _=>cases h
inductive Tr where
 | e
 | lf (v:Z)
 | nd (l r:Tr)
def Tr.get:Tr→Nat→Z
 | .e,_=>.aK []
 | .lf v,_=>v
 | .nd l r,i=>if i % 2=0 then l.get (i / 2) else r.get (i / 2)
def Tr.put:Nat→Tr→Nat→Z→Tr
 | 0,_,_,v=>.lf v
 | k+1,.nd l r,i,v=>if i % 2=0 then .nd (Tr.put k l (i / 2) v) r else .nd l (Tr.put k r (i / 2) v)
 | k+1,_,i,v=>if i % 2=0 then .nd (Tr.put k .e (i / 2) v) .e else .nd .e (Tr.put k .e (i / 2) v)
inductive Tr.Wf:Nat→Tr→Prop where
 | e {k:Nat}:Tr.Wf k .e
 | lf {v:Z}:Tr.Wf 0 (.lf v)
 | nd {k:Nat}{l r:Tr}:Tr.Wf k l→Tr.Wf k r→Tr.Wf (k+1) (.nd l r)
theorem Tr.vO:∀{k:Nat}{t:Tr}{i:Nat}{v:Z},Tr.Wf k t→Tr.Wf k (Tr.put k t i v)
 | 0,_,_,_,_=>.lf
 | k+1,.nd l r,i,v,h=>by
  cases h with
  | nd h1 h2 =>
   simp only[Tr.put]
   split
   ·exact .nd (Tr.vO h1) h2
   ·exact .nd h1 (Tr.vO h2)
 | k+1,.e,i,v,h=>by
  simp only[Tr.put]
  split
  ·exact .nd (Tr.vO .e) .e
  ·exact .nd .e (Tr.vO .e)
 | k+1,.lf _,i,v,h=>by cases h
theorem Tr.rS:∀{k:Nat}{t:Tr}{i j:Nat}{v:Z},Tr.Wf k t→i<2 ^ k→j<2 ^ k→(Tr.put k t i v).get j=if i=j then v else t.get j
 | 0,t,i,j,v,h,hi,hj=>by
  have h1:i=j:=by simp at hi hj;omega
  rw[if_pos h1]
  rfl
 | k+1,.nd l r,i,j,v,h,hi,hj=>by
  rw[Nat.pow_succ] at hi hj
  cases h with
  | nd h1 h2 =>
   simp only[Tr.put]
   by_cases ci:i % 2=0
   ·rw[if_pos ci]
    simp only[Tr.get]
    by_cases cj:j % 2=0
    ·rw[if_pos cj,if_pos cj,Tr.rS h1 (by omega) (by omega)]
     by_cases c:i=j
     ·rw[if_pos c,if_pos (by omega)]
     ·rw[if_neg c,if_neg (by omega)]
    ·rw[if_neg cj,if_neg cj,if_neg (by omega)]
   ·rw[if_neg ci]
    simp only[Tr.get]
    by_cases cj:j % 2=0
    ·rw[if_pos cj,if_pos cj,if_neg (by omega)]
    ·rw[if_neg cj,if_neg cj,Tr.rS h2 (by omega) (by omega)]
     by_cases c:i=j
     ·rw[if_pos c,if_pos (by omega)]
     ·rw[if_neg c,if_neg (by omega)]
 | k+1,.e,i,j,v,h,hi,hj=>by
  rw[Nat.pow_succ] at hi hj
  have he:∀n,Tr.e.get n = .aK []:=fun _=>rfl
  simp only[Tr.put]
  by_cases ci:i % 2=0
  ·rw[if_pos ci]
   simp only[Tr.get]
   by_cases cj:j % 2=0
   ·rw[if_pos cj,Tr.rS .e (by omega) (by omega),he]
    by_cases c:i=j
    ·rw[if_pos c,if_pos (by omega)]
    ·rw[if_neg c,if_neg (by omega)]
   ·rw[if_neg cj,if_neg (by omega)]
  ·rw[if_neg ci]
   simp only[Tr.get]
   by_cases cj:j % 2=0
   ·rw[if_pos cj,if_neg (by omega)]
   ·rw[if_neg cj,Tr.rS .e (by omega) (by omega),he]
    by_cases c:i=j
    ·rw[if_pos c,if_pos (by omega)]
    ·rw[if_neg c,if_neg (by omega)]
 | k+1,.lf _,i,j,v,h,hi,hj=>by cases h
structure pY(n:Nat)(t:Tr)(ts:List Z):Prop where
 wf:Tr.Wf 9 t
 len:ts.length=n
 AW:n≤512
 get:∀i,i<n→ts.getD i .top=t.get i
theorem pY.put{n:Nat}{t:Tr}{ts:List Z}(h:pY n t ts){d:Nat}(hd:d<n)(v:Z):pY n (Tr.put 9 t d v) (ts.set d v) where
 wf:=Tr.vO h.wf
 len:=by rw[List.length_set,h.len]
 AW:=h.AW
 get:=fun i hi=>by
  have hn:=h.AW
  rw[Tr.rS h.wf (by omega) (by omega)]
  by_cases c:d=i
  ·subst c
   rw[if_pos rfl]
   simp[List.getD,h.len,hd]
  ·rw[if_neg c,←h.get i hi]
   simp[List.getD,List.getElem?_set_ne c]
def nk(n:Nat)(t:Tr):X→Z
 | .t i=>if i<n then t.get i else .top
 | .k v=>v
theorem pZ{n:Nat}{t:Tr}{ts:List Z}(h:pY n t ts):nk n t=X.ev ts:=by
 funext x
 cases x with
 | t i =>
  simp only[nk,X.ev]
  split
  ·rename_i c
   exact (h.get i c).symm
  ·rename_i c
   have:=h.len
   simp[List.getD,List.getElem?_eq_none (by omega:ts.length≤i)]
 | k v=>rfl
def opT(call:lU)(ev:X→Z)(H:Y):dR→Option (Z×Y)
 | .p q=>if okB ev q then some (q.val ev,H) else none
 | .h (.call f dS)=>call f (dS.map ev) H
 | .h q=>if Qc ev H q then some (Na ev H q,Fj ev H q) else none
theorem YB{call:lU}{ts:List Z}{H:Y}{op:dR}:opT call (X.ev ts) H op=BC call ts H op:=by
 cases op with
 | p q=>rfl
 | h q=>cases q<;>rfl
def Nj(n:Nat)(t:Tr):Option (Nat×Bool)→Option Bool
 | none=>some true
 | some (d,want)=>match nk n t (.t d) with
  | .sc (.bool b)=>some (b == want)
  | .aK _=>some false
  | _=>none
theorem I0{n:Nat}{t:Tr}{ts:List Z}(h:pY n t ts){g:Option (Nat×Bool)}:Nj n t g=DM ts g:=by
 cases g with
 | none=>rfl
 | some g =>
  obtain ⟨d,w⟩:=g
  simp only[Nj,DM,pZ h,X.ev]<;>rfl
def nn(n:Nat)(t:Tr)(d:Option Nat)(v:Z):Option Tr:=match d with
 | none=>some t
 | some d=>if d<n then some (Tr.put 9 t d v) else none
theorem ir{n:Nat}{t t':Tr}{ts:List Z}{d:Option Nat}{v:Z}(h:pY n t ts)(hp:nn n t d v=some t'):pY n t' (bJ ts d v):=by
 cases d with
 | none =>
  cases hp
  exact h
 | some d =>
  simp only[nn] at hp
  split at hp
  ·rename_i c
   rw[←Option.some.inj hp]
   exact h.put c v
  ·cases hp
def runT(call:lU)(n:Nat):List bG→Tr→Y→Option (Tr×Y)
 | [],t,H=>some (t,H)
 | o::r,t,H=>match Nj n t o.guard with
  | some true=>match opT call (nk n t) H o.op with
   | some (v,H')=>match nn n t o.dst v with
    | some t'=>runT call n r t' H'
    | none=>none
   | none=>none
  | some false=>match nn n t o.dst (.aK []) with
   | some t'=>runT call n r t' H
   | none=>none
  | none=>none
theorem BF{P:Program}{call:lU}(hc:vN P call){n:Nat}{K:List Z→Y→Prop}{Kp:Z→List Z→Y→Prop}:∀{l:List bG}{t:Tr}{ts:List Z}{H:Y}{t':Tr}{H':Y},pY n t ts→runT call n l t H=some (t',H')→(∀ts',pY n t' ts'→K ts' H')→cG P K Kp l ts H
 | [],t,ts,H,t',H',hr,h,hK=>by
  obtain ⟨rfl,rfl⟩:=Prod.mk.inj (Option.some.inj h)
  exact hK ts hr
 | o::r,t,ts,H,t',H',hr,h,hK=>by
  simp only[runT,I0 hr] at h
  split at h
  ·rename_i hg
   rw[pZ hr,YB] at h
   split at h
   ·rename_i v H1 ho
    split at h
    ·rename_i t1 hp
     exact Nc hg (Yu hc ho (BF hc (ir hr hp) h hK))
    ·cases h
   ·cases h
  ·rename_i hg
   split at h
   ·rename_i t1 hp
    exact Nf hg (BF hc (ir hr hp) h hK)
   ·cases h
  ·cases h
theorem Qe{P:Program}{c:IC}{K:Post}{ts:List Z}{H:Y}(I:Nat→List Z→Y→Prop)(n:Nat)(h:∀n ts H,I n ts H→∀L:List Z→Y→Prop,(∀m ts' H',m<n→I m ts' H'→L ts' H')→ES P c (iC L K) ts H)(h0:I n ts H):ES P (.loop c) K ts H:=by
 classical
 have least:∀ts H,(∃n,I n ts H)→∃n,I n ts H∧∀m,I m ts H→n≤m:=fun ts H ⟨n,hn⟩=>by
  induction n using Nat.strongRecOn with
  | _ n ih =>
   by_cases c:∃m,m<n∧I m ts H
   ·obtain ⟨m,h1,h2⟩:=c
    exact ih m h1 h2
   ·exact ⟨n,hn,fun m hm=>Nat.le_of_not_lt fun h=>c ⟨m,h,hm⟩⟩
 let μ:List Z→Y→Nat:=fun ts H=>if h:∃n,I n ts H then Classical.choose (least ts H h) else 0
 have hμ:∀ts H (h:∃n,I n ts H),I (μ ts H) ts H∧∀m,I m ts H→μ ts H≤m:=fun ts H hx=>by
  have e:μ ts H=Classical.choose (least ts H hx):=dif_pos hx
  rw[e]
  exact Classical.choose_spec (least ts H hx)
 refine cO (fun ts H=>∃n,I n ts H) μ ⟨n,h0⟩ fun ts H hI L hL=>?_
 obtain ⟨h1,h2⟩:=hμ ts H hI
 exact h _ ts H h1 L fun m ts' H' hm RJ=>hL ts' H' ⟨m,RJ⟩ (Nat.lt_of_le_of_lt ((hμ ts' H' ⟨m,RJ⟩).2 m RJ) hm)
abbrev xp:=FuncId→Option (IC×List RV×Nat)
def Fl(P:Program)(T:xp):Prop:=∀f c rs n,T f=some (c,rs,n)→Dk P f c rs n
def od(call:lU)(n:Nat)(A:List (List Nat)):Nat→List bG→Tr→Y→List (Nat×Nat)→List (Nat×List Nat)→Option (Tr×Y)
 | _,[],t,H,_,_=>some (t,H)
 | i,o::r,t,H,ld,hs=>match Nj n t o.guard with
  | some true=>match o.op with
   | .p q=>if okB (nk n t) q then (match nn n t o.dst (q.val (nk n t)) with
    | some t'=>od call n A (i+1) r t' H ld hs
    | none=>none) else none
   | .h (.load m ag a)=>if VE A i hs (nk n t a) && VC H m ag (nk n t a) then (match nn n t o.dst (VA H m ag (nk n t a)) with
    | some t'=>od call n A (i+1) r t' H (Sk i ld (nk n t a)) hs
    | none=>none) else none
   | .h (.store m a x)=>if VD H m (nk n t a) (nk n t x) && YA A i ld H.length [Nh (nk n t a)] then (match nn n t o.dst .top with
    | some t'=>od call n A (i+1) r t' (Yp H (nk n t a) (nk n t x)) ld ((i,[Nh (nk n t a)])::hs)
    | none=>none) else none
   | .h (.alloc z ty)=>(match nn n t o.dst (.ptr z.an H.length 0 0) with
    | some t'=>od call n A (i+1) r t' (some ⟨z.an,[z],true,ty⟩::H) ((i,H.length)::ld) hs
    | none=>none)
   | .h (.eE k ty z ln ps)=>if DL (nk n t) k (List.replicate ln z) ps then (match nn n t o.dst (.ak k (oz (nk n t) (List.replicate ln z) ps) (some [])) with
    | some t'=>od call n A (i+1) r t' H ld hs
    | none=>none) else none
   | .h (.call f dS)=>match call f (dS.map (nk n t)) H with
    | some (v,H')=>if decide (H.length≤H'.length) && YA A i ld H.length (Yy H H') then (match nn n t o.dst v with
     | some t'=>od call n A (i+1) r t' H' ld ((i,Yy H H')::hs)
     | none=>none) else none
    | none=>none
   | _=>none
  | some false=>(match nn n t o.dst (.aK []) with
   | some t'=>od call n A (i+1) r t' H ld hs
   | none=>none)
  | none=>none
theorem jr{P:Program}{call:lU}(hc:vN P call){n:Nat}{A:List (List Nat)}{nl:Nat}{K:List Z→Y→Prop}{Kp:Z→Y→Prop}:∀{l:List bG}{i:Nat}{t:Tr}{ts:List Z}{H:Y}{ld:List (Nat×Nat)}{hs:List (Nat×Y×Y)}{m:List (Nat×List Nat)}{t':Tr}{H':Y},pY n t ts→VF hs m→od call n A i l t H ld m=some (t',H')→(∀ts',pY n t' ts'→K ts' H')→cw P A nl K Kp i l ts H ld hs
 | [],i,t,ts,H,ld,hs,m,t',H',hp,hr,h,hK=>by
  obtain ⟨rfl,rfl⟩:=Prod.mk.inj (Option.some.inj h)
  exact hK ts hp
 | o::r,i,t,ts,H,ld,hs,m,t',H',hp,hr,h,hK=>by
  simp only[od,I0 hp,pZ hp] at h
  simp only[cw]
  split at h
  ·rename_i hg
   refine Nc hg ?_
   split at h
   ·rename_i q ho
    rw[ho]
    split at h
    ·rename_i hk
     split at h
     ·rename_i t1 h1
      exact ⟨M8 hk,jr hc (ir hp h1) hr h hK⟩
     ·cases h
    ·cases h
   ·rename_i m' ag a ho
    rw[ho]
    split at h
    ·rename_i hk
     simp only[Bool.and_eq_true] at hk
     split at h
     ·rename_i t1 h1
      rw[Fh] at h1
      exact ⟨VG hr hk.1,Fk hk.2,jr hc (ir hp h1) hr h hK⟩
     ·cases h
    ·cases h
   ·rename_i m' a x ho
    rw[ho]
    split at h
    ·rename_i hk
     simp only[Bool.and_eq_true] at hk
     have hkp:=Qd hk.1
     split at h
     ·rename_i t1 h1
      rw[M9] at h
      exact ⟨Nb hk.1,Ni hk.2 hkp,jr hc (ir hp h1) (.cons hkp hr) h hK⟩
     ·cases h
    ·cases h
   ·rename_i z ty ho
    rw[ho]
    split at h
    ·rename_i t1 h1
     exact ⟨trivial,jr hc (ir hp h1) hr h hK⟩
    ·cases h
   ·rename_i k ty z ln ps ho
    rw[ho]
    split at h
    ·rename_i hk
     split at h
     ·rename_i t1 h1
      exact ⟨vM hk,jr hc (ir hp h1) hr h hK⟩
     ·cases h
    ·cases h
   ·rename_i f dS ho
    rw[ho]
    split at h
    ·rename_i v H1 hv
     split at h
     ·rename_i hk
      simp only[Bool.and_eq_true,decide_eq_true_eq] at hk
      have hkp:=fun j (h1:j∉Yy H H1)(h2:j<H.length)=>Yz hk.1 h1 h2
      split at h
      ·rename_i t1 h1
       exact ⟨.ret v,H1,hc _ _ _ _ _ hv,Ni hk.2 hkp,jr hc (ir hp h1) (.cons hkp hr) h hK⟩
      ·cases h
     ·cases h
    ·cases h
   ·cases h
  ·rename_i hg
   split at h
   ·rename_i t1 h1
    exact Nf hg (jr hc (ir hp h1) hr h hK)
   ·cases h
  ·cases h
def Fm(step:Tr→Y→Option (AX×Tr×Y)):Nat→Tr→Y→Option (AX×Tr×Y)
 | 0,_,_=>none
 | n+1,t,H=>match step t H with
  | some (.normal,t',H')=>Fm step n t' H'
  | r=>r
def ji(call:lU)(n m:Nat):IC→Tr→Y→Option (AX×Tr×Y)
 | .skip,t,H=>some (.normal,t,H)
 | .ops l,t,H=>match runT call n l t H with
  | some (t',H')=>some (.normal,t',H')
  | none=>none
 | .dL l A,t,H=>match od call n A 0 l t H [] [] with
  | some (t',H')=>some (.normal,t',H')
  | none=>none
 | .seq a b,t,H=>match ji call n m a t H with
  | some (.normal,t',H')=>ji call n m b t' H'
  | r=>r
 | .cond c a b,t,H=>match nk n t c with
  | .sc (.bool true)=>ji call n m a t H
  | .sc (.bool false)=>ji call n m b t H
  | _=>none
 | .block id c,t,H=>match ji call n m c t H with
  | some (.exit i,t',H')=>if i=id then some (.normal,t',H') else some (.exit i,t',H')
  | r=>r
 | .loop c,t,H=>Fm (ji call n m c) m t H
 | .exit id,t,H=>some (.exit id,t,H)
 | .ret,t,H=>some (.ret,t,H)
 | _,_,_=>none
theorem DN{P:Program}{call:lU}(hc:vN P call){n m:Nat}:∀{c:IC}{K:Post}{t:Tr}{ts:List Z}{H:Y}{x:AX}{t':Tr}{H':Y},pY n t ts→ji call n m c t H=some (x,t',H')→(∀ts',pY n t' ts'→K x ts' H')→ES P c K ts H:=by
 intro c
 induction c with
 | skip =>
  intro K t ts H x t' H' hp h hK
  obtain ⟨rfl,h2⟩:=Prod.mk.inj (Option.some.inj h)
  obtain ⟨rfl,rfl⟩:=Prod.mk.inj h2
  exact hK ts hp
 | exit id =>
  intro K t ts H x t' H' hp h hK
  obtain ⟨rfl,h2⟩:=Prod.mk.inj (Option.some.inj h)
  obtain ⟨rfl,rfl⟩:=Prod.mk.inj h2
  exact hK ts hp
 | ret =>
  intro K t ts H x t' H' hp h hK
  obtain ⟨rfl,h2⟩:=Prod.mk.inj (Option.some.inj h)
  obtain ⟨rfl,rfl⟩:=Prod.mk.inj h2
  exact hK ts hp
 | ops l =>
  intro K t ts H x t' H' hp h hK
  simp only[ji] at h
  split at h
  ·rename_i t1 H1 hr
   obtain ⟨rfl,h2⟩:=Prod.mk.inj (Option.some.inj h)
   obtain ⟨rfl,rfl⟩:=Prod.mk.inj h2
   exact BF hc hp hr hK
  ·cases h
 | dL l A =>
  intro K t ts H x t' H' hp h hK
  simp only[ji] at h
  split at h
  ·rename_i t1 H1 hr
   obtain ⟨rfl,h2⟩:=Prod.mk.inj (Option.some.inj h)
   obtain ⟨rfl,rfl⟩:=Prod.mk.inj h2
   exact jr hc hp .nil hr hK
  ·cases h
 | seq a b uO wC =>
  intro K t ts H x t' H' hp h hK
  simp only[ji] at h
  rw[MC]
  split at h
  ·rename_i t1 H1 hr
   exact uO hp hr fun fx h1=>wC h1 h hK
  ·rename_i hn
   refine uO hp h ?_
   cases x with
   | normal=>exact absurd h (hn _ _)
   | _=>exact hK
 | cond c a b uO wC =>
  intro K t ts H x t' H' hp h hK
  simp only[ji,pZ hp] at h
  rw[GB]
  split at h
  ·rename_i e
   rw[e,GC]
   exact uO hp h hK
  ·rename_i e
   rw[e,GD]
   exact wC hp h hK
  ·cases h
 | block id c ih =>
  intro K t ts H x t' H' hp h hK
  simp only[ji] at h
  rw[CV]
  split at h
  ·rename_i i t1 H1 hr
   refine ih hp hr fun fx h1=>?_
   rw[CW]
   split at h
   ·rename_i e
    obtain ⟨rfl,h2⟩:=Prod.mk.inj (Option.some.inj h)
    obtain ⟨rfl,rfl⟩:=Prod.mk.inj h2
    rw[if_pos e]
    exact hK fx h1
   ·rename_i e
    obtain ⟨rfl,h2⟩:=Prod.mk.inj (Option.some.inj h)
    obtain ⟨rfl,rfl⟩:=Prod.mk.inj h2
    rw[if_neg e]
    exact hK fx h1
  ·rename_i hn
   refine ih hp h ?_
   cases x with
   | exit i=>exact absurd h (hn _ _ _)
   | _=>exact hK
 | loop c ih =>
  intro K t ts H x t' H' hp h hK
  simp only[ji] at h
  refine Qe (fun k ts H=>∃t,pY n t ts∧Fm (ji call n m c) k t H=some (x,t',H')) m (fun k ts H hI L hL=>?_) ⟨t,hp,h⟩
  obtain ⟨t,hp,hI⟩:=hI
  cases k with
  | zero=>cases hI
  | succ k =>
   simp only[Fm] at hI
   split at hI
   ·rename_i t1 H1 hr
    exact ih hp hr fun fx h1=>hL k fx H1 (Nat.lt_succ_self k) ⟨t1,h1,hI⟩
   ·rename_i hn
    refine ih hp hI ?_
    cases x with
    | normal=>exact absurd hI (hn _ _)
    | _=>exact hK
 | _ =>
  intro K t ts H x t' H' hp h hK
  cases h
def BG:List Z→Nat→Tr→Tr
 | [],_,t=>t
 | x::r,i,t=>BG r (i+1) (Tr.put 9 t i x)
theorem DP{n:Nat}:∀{dS pre:List Z}{t:Tr},pre.length+dS.length≤n→pY n t (pre++List.replicate (n - pre.length) (.aK []))→pY n (BG dS pre.length t) (pre++dS++List.replicate (n - (pre++dS).length) (.aK []))
 | [],pre,t,hl,h=>by simpa [BG] using h
 | x::r,pre,t,hl,h=>by
  simp only[List.length_cons] at hl
  have h1:=h.put (d:=pre.length) (by omega) x
  have e:(pre++List.replicate (n - pre.length) (Z.aK [])).set pre.length x=(pre++[x])++List.replicate (n - (pre++[x]).length) (Z.aK []):=by
   rw[List.set_append_right _ _ (Nat.le_refl _),Nat.sub_self,show n - pre.length=(n - (pre++[x]).length)+1 by simp;omega,List.replicate_succ,List.set_cons_zero,List.append_assoc]
   rfl
  rw[e] at h1
  have h2:=DP (dS:=r) (pre:=pre++[x]) (by simp;omega) h1
  simp only[BG]
  simpa using h2
theorem abQ{n:Nat}(h:n≤512):pY n .e (List.replicate n (.aK [])) where
 wf:=.e
 len:=List.length_replicate
 AW:=h
 get:=fun i hi=>by simp[List.getD,hi,Tr.get]
def xq(n:Nat)(t:Tr)(H:Y):List RV→Bool
 | []=>true
 | .t _::r=>xq n t H r
 | .c a k ag::r=>(match nk n t (.t a) with
  | .ptr k' id j f=>VC H k ag (.ptr k' id j f)
  | _=>false) && xq n t H r
def ug(n:Nat)(t:Tr)(H:Y):List RV→List Z
 | []=>[]
 | .t a::r=>nk n t (.t a)::ug n t H r
 | .c a k ag::r=>VA H k ag (nk n t (.t a))::ug n t H r
theorem sB{n:Nat}{t:Tr}{ts:List Z}{H:Y}(hp:pY n t ts):∀{rs:List RV},xq n t H rs=true→fR rs ts H
 | [],_=>trivial
 | .t _::r,h=>sB hp (rs:=r) h
 | .c a k ag::r,h=>by
  simp only[xq,Bool.and_eq_true,pZ hp,X.ev] at h
  refine ⟨?_,sB hp h.2⟩
  have h1:=h.1
  split at h1
  ·rename_i e
   rw[e]
   exact Fk h1
  ·cases h1
theorem sC{n:Nat}{t:Tr}{ts:List Z}{H:Y}(hp:pY n t ts):∀{rs:List RV},ug n t H rs=iw rs ts H
 | []=>rfl
 | .t a::r=>by simp only[ug,iw,sC hp (rs:=r),pZ hp,X.ev]
 | .c a k ag::r=>by simp only[ug,iw,sC hp (rs:=r),pZ hp,X.ev,Fh]
def ZV(rs:List RV)(n:Nat)(H:Y):Option (AX×Tr×Y)→Option (Z×Y)
 | some (.ret,t,H')=>if xq n t H' rs && decide (H.length≤H'.length) then some (oneOf (ug n t H' rs),H') else none
 | some (.normal,t,H')=>if xq n t H' rs && decide (H.length≤H'.length) then some (oneOf (ug n t H' rs),H') else none
 | _=>none
def Nk(T:xp)(m:Nat):Nat→lU
 | 0,_,_,_=>none
 | k+1,f,dS,H=>match T f with
  | some (c,rs,n)=>if decide (dS.length≤n) && decide (n≤512) then ZV rs n H (ji (Nk T m k) n m c (BG dS 0 .e) H) else none
  | none=>none
theorem I1{P:Program}{T:xp}(hT:Fl P T){m:Nat}:∀k,vN P (Nk T m k)
 | 0=>fun f dS H v H' h=>by cases h
 | k+1=>fun f dS H v H' h=>by
  have ih:=I1 hT (m:=m) k
  simp only[Nk] at h
  split at h
  ·rename_i c rs n ht
   split at h
   ·rename_i hn
    simp only[Bool.and_eq_true,decide_eq_true_eq] at hn
    have sE:=DP (n:=n) (dS:=dS) (pre:=[]) (by simpa using hn.1) (abQ hn.2)
    simp only[List.nil_append,List.length_nil] at sE
    unfold ZV at h
    split at h
    ·rename_i t1 H1 hr
     split at h
     ·rename_i hb
      simp only[Bool.and_eq_true,decide_eq_true_eq] at hb
      obtain ⟨rfl,rfl⟩:=Prod.mk.inj (Option.some.inj h)
      refine aF hb.2 (hT f c rs n ht (aE (DN ih sE hr fun fx h1=>⟨sB h1 hb.1,?_⟩)))
      rw[sC h1]
      exact eJ.refl _ _ _
     ·cases h
    ·rename_i t1 H1 hr
     split at h
     ·rename_i hb
      simp only[Bool.and_eq_true,decide_eq_true_eq] at hb
      obtain ⟨rfl,rfl⟩:=Prod.mk.inj (Option.some.inj h)
      refine aF hb.2 (hT f c rs n ht (aE (DN ih sE hr fun fx h1=>⟨sB h1 hb.1,?_⟩)))
      rw[sC h1]
      exact eJ.refl _ _ _
     ·cases h
    ·cases h
   ·cases h
  ·cases h
def BH(P:Program)(aX:List Nat):xp:=fun f=>match P.funcs[f]? with
 | some fn=>match fn.body with
  | some c=>match c6 P aX c with
   | some ic=>match lK P fn.results.toList with
    | some rs=>some (ic,rs,fn.ntmps)
    | none=>none
   | none=>none
  | none=>none
 | none=>none
theorem rT{P:Program}{aX:List Nat}:Fl P (BH P aX):=by
 intro f c rs n h
 unfold BH at h
 split at h
 ·rename_i fn hf
  split at h
  ·rename_i cc hb
   split at h
   ·rename_i ic hc
    split at h
    ·rename_i rs' hr
     obtain ⟨rfl,h2⟩:=Prod.mk.inj (Option.some.inj h)
     obtain ⟨rfl,rfl⟩:=Prod.mk.inj h2
     exact fun h=>qV hf hb hc hr h
    ·cases h
   ·cases h
  ·cases h
 ·cases h
mutual
def Nl(G:Y):Nd→Z→Bool
 | ⟨k,s,n,l⟩,v=>match v with
  | .agg [.sc (.int .u8 k'),.sc (.string s'),.sc (.int .i64 n'),kv]=>(decide (k'=k) && (decide (s'=s) && decide (n'=n))) && (match kv with
   | .ak _ xs _=>(match xs with
    | []=>(match l with
     | []=>true
     | _=>false)
    | _=>false)
   | .aB k4 id off m _=>(match yH G.length G id with
    | some blk=>(decide (k4=4) && (decide (blk.k=4) && decide (off+m≤blk.es.length))) && xu G l ((blk.es.drop off).take m)
    | none=>false)
   | _=>false)
  | _=>false
def xu(G:Y):List Nd→List Z→Bool
 | [],[]=>true
 | t::r,x::s=>Nl G t x && xu G r s
 | _,_=>false
end
def VH:Y→Bool
 | []=>true
 | none::r=>VH r
 | some b::r=>Z.mW b.es && VH r
theorem Fo:∀{G:Y},VH G=true→Y.op G
 | [],_=>fun id b h=>by simp[Y.find] at h
 | none::r,h=>fun id b hf=>by
  simp only[Y.find] at hf
  split at hf
  ·cases hf
  ·exact Fo (G:=r) h id b hf
 | some x::r,h=>fun id b hf=>by
  simp only[VH,Bool.and_eq_true] at h
  simp only[Y.find] at hf
  split at hf
  ·rw[←Option.some.inj hf]
   exact h.1
  ·exact Fo h.2 id b hf
theorem DR{n:Nat}:∀(k:Nat)(l:List Z),(Z.jT n l).drop k=Z.jT n (l.drop k)
 | 0,_=>rfl
 | _+1,[]=>rfl
 | k+1,_::r=>DR k r
theorem DS{n:Nat}:∀(k:Nat)(l:List Z),(Z.jT n l).take k=Z.jT n (l.take k)
 | 0,_=>by simp[Z.jT]
 | _+1,[]=>rfl
 | k+1,x::r=>congrArg (Z.up n x::·) (DS k r)
mutual
theorem I2{G H:Y}:∀{t:Nd}{v:Z},Nl G t v=true→Gz (Y.up H.length G++H) H.length [] (v.up H.length) (fI t)
 | ⟨k,s,n,l⟩,v,h=>by
  rw[fS]
  unfold Nl at h
  split at h
  ·rename_i k' s' n' kv
   simp only[Bool.and_eq_true,decide_eq_true_eq] at h
   obtain ⟨⟨rfl,rfl,rfl⟩,h⟩:=h
   simp only[Z.up,Z.jT]
   refine .agg (.cons (.same trivial) (.cons (.same trivial) (.cons (.same trivial) (.cons ?_ .nil))))
   split at h
   ·split at h
    ·split at h
     ·simp only[Z.up]
      exact .nil
     ·cases h
    ·cases h
   ·split at h
    ·rename_i id off m c x blk hf
     rw[kX] at hf
     simp only[Bool.and_eq_true,decide_eq_true_eq] at h
     obtain ⟨⟨rfl,h2,h3⟩,h4⟩:=h
     simp only[Z.up]
     refine .aB (blk:=blk.up H.length) (by unfold dj;rw[if_neg (by omega)];rfl) (by rw[Y.AR,Y.HT,hf];rfl) h2 (by simpa [aD.up,Z.gW] using h3) ?_
     show dB _ _ _ (((Z.jT H.length blk.es).drop off).take m) _
     rw[DR,DS]
     exact DT h4
    ·cases h
   ·cases h
  ·cases h
theorem DT{G H:Y}:∀{l:List Nd}{xs:List Z},xu G l xs=true→dB (Y.up H.length G++H) H.length [] (Z.jT H.length xs) (bM l)
 | [],[],_=>.nil
 | t::r,x::s,h=>by
  simp only[xu,Bool.and_eq_true] at h
  rw[C3]
  exact .cons (I2 h.1) (DT h.2)
 | [],_::_,h=>by simp[xu] at h
 | _::_,[],h=>by simp[xu] at h
end
def uh(T:xp)(m k:Nat)(f:FuncId)(xs:List Z)(t:Nd):Bool:=match Nk T m k f xs [] with
 | some (v,G)=>v.op && (VH G && Nl G t v)
 | none=>false
theorem oY{P:Program}{T:xp}(hT:Fl P T){m k:Nat}{f:FuncId}{xs ys:List Z}{t:Nd}(h:uh T m k f xs t=true){H:Y}(hv:cq H ys xs):D P f ys H (.ret (fI t)) H:=by
 unfold uh at h
 split at h
 ·rename_i v G hr
  simp only[Bool.and_eq_true] at h
  have h1:=HU hv h.1 (Fo h.2.1) (I1 hT k f xs [] v G hr)
  exact aF (Nat.le_refl _) (h1.dk.mono fun e H1 _ ⟨e1,e2⟩=>by
   subst e1 e2
   exact pO (fun i hi=>Y.bx hi) (I2 h.2.2))
 ·cases h
end Go.Proofs.YtnoplgongieehaaGreatDoor
