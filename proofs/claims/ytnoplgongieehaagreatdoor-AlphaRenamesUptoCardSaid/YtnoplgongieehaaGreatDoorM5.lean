import Derived.Test.YtnoplgongieehaaGreatDoorM4
import Derived.Test.YtnoplgongieehaaGreatDoorM3
import Derived.Test.YtnoplgongieehaaGreatDoorProg
import Derived.KernelRfl
namespace Go.Proofs.YtnoplgongieehaaGreatDoor
open Go.RowKit
set_option maxHeartbeats 0
set_option maxRecDepth 1000000
set_option linter.unusedVariables false
set_option linter.unusedSimpArgs false
structure St(wid cf:Nat)(fu:bn)(B:List Nat)(ws:WS)(env:List bn)(s:AV)(m:Nat)(ms:List Nat)(H:Y):Prop where
 bs:∃bB U,BS wid cf bB B U ws H
 er:gv B H env s (m::ms)
 fm:Y.find H cf=some (j7 B fu)
 nf:cf≠m∧cf∉ms
 nd:m∉ms∧ms.Nodup
 fo:∀f∈env,k9 ws.bs.length f
 ff:k9 ws.bs.length fu
theorem gv.ne{B:List Nat}{H:Y}{env:List bn}{s:AV}{ms:List Nat}(h:gv B H env s ms):env≠[]:=by
 cases env with
 |nil=>exact h.elim
 |cons f r=>simp
theorem wm{n:Nat}:∀{env:List bn},(∀f∈env,k9 n f)→∀x j,cF env x=some j→j<n
 |[],_,x,j,h=>by simp[cF] at h
 |f::r,hf,x,j,h=>by
  rw[cF] at h
  cases hg:cL x f with
  |none=>rw[hg] at h;exact wm (fun g hg=>hf g (by simp[hg])) x j h
  |some i =>
   rw[hg] at h
   cases h
   have:∀{M:bn},cL x M=some j→∃p∈M,p.2=j:=by
    intro M
    induction M with
    |nil=>intro h;simp[cL] at h
    |cons q r ih =>
     intro h
     rw[cL] at h
     split at h
     ·cases h;exact ⟨q,by simp,rfl⟩
     ·obtain ⟨p,h1,h2⟩:=ih h
      exact ⟨p,by simp[h1],h2⟩
   obtain ⟨p,h1,h2⟩:=this hg
   have:=hf f (by simp) p h1
   omega
theorem St.same{wid cf:Nat}{fu:bn}{B:List Nat}{ws:WS}{env:List bn}{s:AV}{m:Nat}{ms:List Nat}{H G:Y}(h:St wid cf fu B ws env s m ms H)(k:∀id,id<H.length→Y.find G id=Y.find H id):St wid cf fu B ws env s m ms G:=by
 obtain ⟨bB,U,hb⟩:=h.bs
 exact ⟨⟨bB,U,hb.same k⟩,h.er.keep fun id b hb _=>by rw[k id (Y.ax hb)];exact hb,by rw[k _ (Y.ax h.fm)];exact h.fm,h.nf,h.nd,h.fo,h.ff⟩
theorem St.cons{wid cf:Nat}{fu:bn}{B:List Nat}{ws:WS}{env:List bn}{s:AV}{m:Nat}{ms:List Nat}{H:Y}(h:St wid cf fu B ws env s m ms H)(b:Option aP):St wid cf fu B ws env s m ms (b::H):=h.same fun id hid=>ai hid
theorem St.post{wid cf:Nat}{fu:bn}{B:List Nat}{ws:WS}{env:List bn}{s:AV}{m:Nat}{ms:List Nat}{H:Y}(h:St wid cf fu B ws env s m ms H){C:List Nat}{q:List bn×WS}{G:Y}(hk:dr m H G)(hb:∃bB U,BS wid cf bB (B++C) U q.2 G)(he:gv (B++C) G q.1 s (m::ms))(hf:∀f∈q.1,k9 q.2.bs.length f)(hl:ws.bs.length≤q.2.bs.length):St wid cf fu (B++C) q.2 q.1 s m ms G:=by
 obtain ⟨bB,U,hB⟩:=h.bs
 refine ⟨hb,he,?_,h.nf,h.nd,hf,h.ff.le hl⟩
 rw[wl (by rw[hB.bl];exact h.ff)]
 exact hk.2 cf _ h.fm (.inr ⟨rfl,h.nf.1⟩)
def lM(wid cf:Nat)(fu:bn)(B:List Nat)(s:AV)(m:Nat)(ms:List Nat)(H:Y)(r:Except jU (List bn×WS))(e:cH)(H':Y):Prop:=match r with
 |.error f=>e = .bP (tv f)∧dr m H H'
 |.ok q=>e = .ret (.aO [])∧dr m H H'∧∃C,St wid cf fu (B++C) q.2 q.1 s m ms H'
theorem PV{env:List bn}{ws:WS}{s:ByteArray}{p:List Int}{a:Nat}{q:List bn×WS}(h:dx env ws s p a = .ok q):ws.bs.length≤q.2.bs.length:=by
 unfold dx at h
 split at h
 ·cases h
 ·cases h;simp
theorem Md{wid cf:Nat}{fu:bn}{B:List Nat}{ws:WS}{env:List bn}{s:AV}{m:Nat}{ms:List Nat}{H:Y}(h:St wid cf fu B ws env s m ms H)
  (t:Nd)(ro:Option (List AV))(p:List Int)(hp:p.length≤1000000)(hts:t.text.size≤100000000)(hal:ws.all.length≤90000000)(a:Nat) :
  DK Tryz.prog 111 [.ptr 5 wid 0 0,s,dZ t ro,.am 1 (aK p) none,.sc (.int .i64 a)] H (lM wid cf fu B s m ms H (dx env ws t.text p a)):=by
 obtain ⟨bB,U,hB⟩:=h.bs
 refine (RB wid cf bB B U ws H env s m ms hB h.er h.nd.1 h.fo t ro p hp hts hal a).mono fun e H' _ hq=>?_
 unfold PS at hq
 unfold lM
 cases hb:dx env ws t.text p a with
 |error f=>rw[hb] at hq;exact hq
 |ok q =>
  rw[hb] at hq
  obtain ⟨h1,h2,tS,C,U',h3,h4,h5⟩:=hq
  exact ⟨h1,h2,C,h.post h2 ⟨tS,U',h3⟩ h4 h5 (PV hb)⟩
theorem UE{wid cf:Nat}{fu:bn}{B:List Nat}{ws:WS}{env:List bn}{s:AV}{m:Nat}{ms:List Nat}{H:Y}(h:St wid cf fu B ws env s m ms H)
  (t:Nd)(ro:Option (List AV))(p:List Int)(hp:p.length≤1000000)(hts:t.text.size≤100000000)(hal:ws.all.length≤90000000)(a:Nat)(b:Nat)
  (f1:Y.find H b=some ⟨1,[.ptr 5 wid 0 0],true,160⟩)(f2:Y.find H (b+1)=some ⟨2,[s],true,164⟩)(f3:Y.find H (b+2)=some ⟨4,[dZ t ro],true,25⟩)(f4:Y.find H (b+3)=some ⟨1,[.am 1 (aK p) none],true,30⟩)(f5:Y.find H (b+4)=some ⟨1,[.sc (.int .i64 a)],true,3⟩) :
  DK Tryz.prog 173 [.ptr 1 b 0 0,.ptr 2 (b+1) 0 0,.ptr 4 (b+2) 0 0,.ptr 1 (b+3) 0 0,.ptr 1 (b+4) 0 0] H (lM wid cf fu B s m ms H (dx env ws t.text p a)):=by
 obtain ⟨a0,m',ue,rfl,e,hm⟩:=h.er.form
 have hb:=Md h t ro p hp hts hal a
 rw[aQ] at f3 hb
 unfold eE at f2 hb
 refine af8 (aA ?_)
 simp only[Y6,ux]
 refine aI (kZ f1 f2 f3 f4 f5) ?_
 refine jt hb fun e H' hle hq=>?_
 unfold lM at hq ⊢
 cases hr:dx env ws t.text p a with
 |error f =>
  rw[hr] at hq
  obtain ⟨rfl,h2⟩:=hq
  exact ⟨rfl,h2⟩
 |ok q =>
  rw[hr] at hq
  obtain ⟨rfl,h2⟩:=hq
  refine aw ?_
  exact h2
theorem BS.agd{wid cf bB:Nat}{B U:List Nat}{ws:WS}{H:Y}(h:BS wid cf bB B U ws H)(a:Nat):BS wid cf bB B U { ws with at_:=a } (Y.set H wid (some (fG cf bB B { ws with at_:=a })))∧dQ H (Y.set H wid (some (fG cf bB B { ws with at_:=a }))):=by
 have hl:=Y.ax h.w
 have hk:∀id b,Y.find H id=some b→b.k≠5→Y.find (Y.set H wid (some (fG cf bB B { ws with at_:=a }))) id=some b:=fun id b hb h5=>by
  rw[Y.aj fun e=>?_]
  ·exact hb
  ·rw[e,h.w] at hb;cases hb;simp[fG] at h5
 refine ⟨⟨Y.aC hl,fun e=>hk _ _ (h.al e) (by simp),h.bl,h.ul,fun j hj=>hk _ _ (h.bd j hj) (by simp[jm]),fun j hj e=>hk _ _ (h.us j hj e) (by simp),h.nd,h.ud,h.ao⟩,by rw[Y.af];exact Nat.le_refl _,fun id b hb hs=>hk id b hb ?_⟩
 rcases hs with hs|hs
 ·exact hs.2.1
 ·omega
theorem BS.more{wid cf bB:Nat}{B U:List Nat}{ws:WS}{G:Y}(hB:BS wid cf bB B U ws G){j:Nat}(hj:j<ws.bs.length)(hal:ws.all.length≤90000000) :
  ∃tS F,gQ G 1 105 [bp B j] (aW 1 (ws.all.map (bp B)) bB)∧lC G 1 [bp B j] (aW 1 (ws.all.map (bp B)) bB)=aW 1 ((ws.all++[j]).map (bp B)) tS∧
   jy G 1 105 [bp B j] (aW 1 (ws.all.map (bp B)) bB)=F∧Y.find F wid=some (fG cf bB B ws)∧
   dQ G (Y.set F wid (some (fG cf tS B { ws with all:=ws.all++[j] })))∧
   BS wid cf tS B U { ws with all:=ws.all++[j] } (Y.set F wid (some (fG cf tS B { ws with all:=ws.all++[j] }))):=by
 have ri:ws.all.map (bp B)≠[]→ws.all≠[]:=fun e e2=>e (by rw[e2];rfl)
 obtain ⟨tS,F,p1,p2,p3,p4,p5,p6⟩:=tt (H:=G) (k:=1) (ty:=105) (xs:=ws.all.map (bp B)) (ys:=[bp B j]) (id:=bB) (fun e=>by rw[hB.al (ri e),bj e]) (by simp only[List.length_map,List.length_cons,List.length_nil];omega)
 have hne:ws.all.map (bp B)++[bp B j]≠[]:=by simp
 obtain ⟨vD,L8⟩:=p4 hne
 rw[bj hne] at vD
 have hall:ws.all.map (bp B)++[bp B j]=(ws.all++[j]).map (bp B):=by simp
 have hwl:=Y.ax hB.w
 have cE:∀id b,Y.find G id=some b→(b.k≠1∨b.ty≠105∨b.exact=true)→Y.find F id=some b:=fun id b hb h=>by
  rw[p6 id (Y.ax hb) fun e e2=>?_]
  ·exact hb
  ·rw[e2,hB.al (ri e)] at hb
   cases hb
   simp at h
 have hk:∀(x:Option aP) id b,Y.find G id=some b→(b.k≠1∨b.ty≠105∨b.exact=true)→b.k≠5→Y.find (Y.set F wid x) id=some b:=fun x id b hb h h2=>by
  rw[Y.aj fun e=>?_]
  ·exact cE id b hb h
  ·rw[e,hB.w] at hb;cases hb;simp[fG] at h2
 refine ⟨tS,F,p1,by rw[p2,hall],p3,cE _ _ hB.w (.inl (by simp[fG])),⟨by rw[Y.af];exact p5,fun id b hb hs=>?_⟩,⟨Y.aC (Nat.lt_of_lt_of_le hwl p5),fun _=>?_,hB.bl,hB.ul,fun j hj=>hk _ _ _ (hB.bd j hj) (.inl (by simp[jm])) (by simp[jm]),fun j hj e=>hk _ _ _ (hB.us j hj e) (.inr (.inl (by simp))) (by simp),hB.nd,hB.ud,fun i hi=>?_⟩⟩
 ·refine hk _ id b hb ?_ ?_
  ·rcases hs with hs|hs
   ·by_cases c:b.k=1
    ·exact .inr (.inr (hs.2.2.2 c))
    ·exact .inl c
   ·exact .inl (by omega)
  ·rcases hs with hs|hs
   ·exact hs.2.1
   ·omega
 ·rw[Y.aj (by omega),vD,hall]
 ·rcases List.mem_append.1 hi with h|h
  ·exact hB.ao i h
  ·rw[List.mem_singleton] at h;exact h▸hj
theorem St.AM{wid cf:Nat}{fu:bn}{B:List Nat}{ws B0:WS}{env:List bn}{s:AV}{m:Nat}{ms:List Nat}{H G:Y}(h:St wid cf fu B ws env s m ms H)(k:dQ H G)(hb:∃bB U,BS wid cf bB B U B0 G)(hl:B0.bs.length=ws.bs.length):St wid cf fu B B0 env s m ms G :=
 ⟨hb,h.er.AM k,k.2 cf _ h.fm (.inr rfl),h.nf,h.nd,by rw[hl];exact h.fo,by rw[hl];exact h.ff⟩
inductive vE(fu:bn):Nd→Prop where
 | mk {t:Nd}:(t.kind=2→∃j,cL t.text fu=some j)→(∀k∈t.kids,vE fu k)→vE fu t
theorem vE.fn{fu:bn}{t:Nd}(h:vE fu t):t.kind=2→∃j,cL t.text fu=some j:=by cases h;assumption
theorem vE.vi{fu:bn}{t:Nd}(h:vE fu t):∀k∈t.kids,vE fu k:=by cases h;assumption
def PW(fu:bn)(t:Nd):Prop:=∀(wid cf:Nat)(B:List Nat)(ws:WS)(env:List bn)(s:AV)(m:Nat)(ms:List Nat)(H:Y)(p:List Int)(pv:AV)(N:Nat),St wid cf fu B ws env s m ms H→
 (pv = .am 1 (aK p) none∨(p=[]∧pv = .am 0 [] (some [])∧t.kind=1))→p.length+t.size≤1000000→t.wt≤2000000→vE fu t→SZ ws N→N+t.size≤80000000→ws.at_+t.size≤80000000→∀ro,
 DK Tryz.prog 113 [.ptr 5 wid 0 0,s,dZ t ro,pv] H (lM wid cf fu B s m ms H (bR fu t env ws p))
structure I5(wid b:Nat)(s1:AV)(t:Nd)(ro:Option (List AV))(pv:AV)(a:Nat)(F:Y):Prop where
 f1:Y.find F b=some ⟨1,[.ptr 5 wid 0 0],true,160⟩
 f2:Y.find F (b+1)=some ⟨2,[s1],true,164⟩
 f3:Y.find F (b+2)=some ⟨4,[dZ t ro],true,25⟩
 f4:Y.find F (b+3)=some ⟨1,[pv],true,30⟩
 f5:Y.find F (b+4)=some ⟨1,[.sc (.int .i64 a)],true,3⟩
 le:b+5≤F.length
theorem I5.keep{wid b:Nat}{s1:AV}{t:Nd}{ro:Option (List AV)}{pv:AV}{a:Nat}{F G:Y}(h:I5 wid b s1 t ro pv a F){m:Nat}(k:dr m F G):I5 wid b s1 t ro pv a G :=
 ⟨k.2 _ _ h.f1 (.inl ⟨by simp,by simp,by simp,by simp⟩),k.2 _ _ h.f2 (.inl ⟨by simp,by simp,by simp,by simp⟩),k.2 _ _ h.f3 (.inl ⟨by simp,by simp,by simp,by simp⟩),k.2 _ _ h.f4 (.inl ⟨by simp,by simp,by simp,by simp⟩),k.2 _ _ h.f5 (.inl ⟨by simp,by simp,by simp,by simp⟩),by have:=h.le;have:=k.1;omega⟩
theorem gv.lt{B:List Nat}{F:Y}:∀{env:List bn}{s:AV}{ms:List Nat},gv B F env s ms→∀x∈ms,x<F.length
 |[],_,_,h,_,_=>h.elim
 |[f],s,ms,h,x,hx=>by
  obtain ⟨m',rfl,g1,g2⟩:=h
  simp only[List.mem_singleton] at hx
  subst hx
  exact Y.ax g1
 |f::g::r,s,ms,h,x,hx=>by
  obtain ⟨m',ue,a',s',rfl,g1,g2,g3,g4⟩:=h
  rcases List.mem_cons.1 hx with rfl|hx
  ·exact Y.ax g1
  ·exact g4.lt x hx
theorem Hr{wid cf:Nat}{fu:bn}{B:List Nat}{ws:WS}{env:List bn}{a0:AV}{m:Nat}{ms:List Nat}{b:Nat}{t:Nd}{ro:Option (List AV)}{pv:AV}{a:Nat}{F F':Y}(hS:St wid cf fu B ws env (eE a0 m) m ms F)(hX:I5 wid b (eE a0 m) t ro pv a F)
  {a1 m1:Nat}(h1:F.length≤a1∧F.length≤m1)(h2:Y.find F' a1=some (tR (eE a0 m)))(h3:Y.find F' m1=some (j7 [] []))(h4:F.length≤F'.length)(h5:∀id,id<F.length→Y.find F' id=Y.find F id) :
  St wid cf fu B ws ([]::env) (eE (.ptr 2 a1 0 0) m1) m1 (m::ms) (Y.set F' (b+1) (some ⟨2,[eE (.ptr 2 a1 0 0) m1],true,164⟩))∧
   I5 wid b (eE (.ptr 2 a1 0 0) m1) t ro pv a (Y.set F' (b+1) (some ⟨2,[eE (.ptr 2 a1 0 0) m1],true,164⟩))∧
   (∀H,dr m H F→H.length≤b→dr m H (Y.set F' (b+1) (some ⟨2,[eE (.ptr 2 a1 0 0) m1],true,164⟩)))∧
   Y.find (Y.set F' (b+1) (some ⟨2,[eE (.ptr 2 a1 0 0) m1],true,164⟩)) a1=some (tR (eE a0 m)):=by
 have hle:=hX.le
 have hk:∀id b',Y.find F id=some b'→id≠b+1→Y.find (Y.set F' (b+1) (some ⟨2,[eE (.ptr 2 a1 0 0) m1],true,164⟩)) id=some b':=fun id b' hb hne=>by
  rw[Y.aj hne,h5 id (Y.ax hb)];exact hb
 have hne:∀id b',Y.find F id=some b'→b'.ty≠164∨b'.k≠2→id≠b+1:=fun id b' hb hc e=>by
  rw[e,hX.f2] at hb;cases hb;simp at hc
 have Zo:m1∉m::ms:=fun hc=>by
  have:=hS.er.lt _ hc
  omega
 obtain ⟨bB,U,hB⟩:=hS.bs
 have Mf:Y.find (Y.set F' (b+1) (some ⟨2,[eE (.ptr 2 a1 0 0) m1],true,164⟩)) a1=some (tR (eE a0 m)):=by rw[Y.aj (by omega)];exact h2
 have sL:=Y.ax hS.fm
 refine ⟨⟨⟨bB,U,hB.keep fun id b' hb hc=>hk id b' hb (hne id b' hb (.inr (by omega)))⟩,?_,hk _ _ hS.fm (hne _ _ hS.fm (.inr (by simp[j7]))),⟨by omega,fun hc=>?_⟩,⟨Zo,List.nodup_cons.2 hS.nd⟩,fun f hf=>?_,hS.ff⟩,⟨?_,?_,?_,?_,?_,by rw[Y.af];omega⟩,fun H hH hb=>⟨by rw[Y.af];have:=hH.1;omega,fun id b' hb' hs=>hk id b' (hH.2 id b' hb' hs) (by have:=Y.ax hb';omega)⟩,Mf⟩
 ·have I6:gv B (Y.set F' (b+1) (some ⟨2,[eE (.ptr 2 a1 0 0) m1],true,164⟩)) env (eE a0 m) (m::ms):=hS.er.keep fun id b' hb hc=>hk id b' hb (hne id b' hb (by rcases hc with h|h;exact .inr (by omega);exact .inl (by rw[h.1];decide)))
  match env,I6 with
  |g::r,I6=>exact ⟨m1,m::ms,a1,eE a0 m,rfl,by rw[Y.aj (by omega)];exact h3,rfl,Mf,I6⟩
 ·rcases List.mem_cons.1 hc with h|h
  ·exact hS.nf.1 h
  ·exact hS.nf.2 h
 ·rcases List.mem_cons.1 hf with rfl|h
  ·exact fun p hp=>by simp at hp
  ·exact hS.fo f h
 ·exact hk _ _ hX.f1 (by omega)
 ·rw[Y.aC (by omega)]
 ·exact hk _ _ hX.f3 (by omega)
 ·exact hk _ _ hX.f4 (by omega)
 ·exact hk _ _ hX.f5 (by omega)
theorem Mg{env:List bn}{ws B0:WS}{k:Int}{s:ByteArray}{n:Nat}{p:List Int}{a:Nat}(h:jV env ws k s n p a = .ok B0):B0.bs.length=ws.bs.length:=by
 unfold jV at h
 split at h
 ·cases h
 split at h
 ·cases h
 cases h
 simp
theorem Zp{P:Program}{f:FuncId}{args args':List AV}{H:Y}{K:cH→Y→Prop}{id:Nat}{blk:aP}(hf:Y.find H id=some blk)(hz:qR id blk args args')(h:DK P f args' (Y.set H id none) K):DK P f args H K:=fun φ w vs hR ha=>by
 obtain ⟨r1,r2⟩:=hR.kill id
 exact (h φ w vs r1 (hz.Rt hR hf ha)).mono fun en w' ⟨e,H',φ',h1,h2,h3,h4⟩=>⟨e,H',φ',h1,h2,h3,r2.trans h4⟩
theorem Zq(fu:bn)(t:Nd)(ih:∀k∈t.kids,PW fu k):PW fu t:=by
 intro wid cf B ws env s m ms H p pv N hS Mh hps hwt hfn hsz hN ej ro
 have ajj:=t.size_pos
 obtain ⟨bB,U,hB⟩:=hS.bs
 obtain ⟨a0,m',ue,rfl,e1,hm⟩:=hS.er.form
 cases e1
 have hw:=hB.w
 unfold fG at hw
 have hwl:=Y.ax hB.w
 obtain ⟨JZ,BO,SB,hv4⟩:pv.bT=false∧pv.az=1∧pv.cells=[pv]∧pv.isAgg=false:=by
  rcases Mh with rfl|⟨_,rfl,_⟩<;>exact ⟨rfl,rfl,rfl,rfl⟩
 refine af7 (aA ?_)
 rw[aQ]
 simp only[Y5,ux]
 unfold eE
 refine Z fun L hL=>?_
 refine aI (ei JZ BO SB hv4) ?_
 refine hL _ _ ?_
 clear hL
 refine Z fun L hL=>?_
 refine aI hw ?_
 refine hL _ _ ?_
 clear hL
 refine Z fun L hL=>?_
 refine aI hw ?_
 refine hL _ _ ?_
 clear hL
 refine Z fun L hL=>?_
 refine aI hw ?_
 refine hL _ _ ?_
 clear hL
 refine Z fun L hL=>?_
 have hv5:oz pv=True∧pS pv=p.length∧Dd 1 (some p.length) true p.length 0 pv=True∧Ku 1 (some p.length) p.length 0 pv = .am 1 (aK p) (some []):=by
  rcases Mh with rfl|⟨rfl,rfl,_⟩
  ·simp[oz,pS,Dd,Ku,aB,List.take_of_length_le,List.drop_of_length_le]
  ·simp[oz,pS,Dd,Ku,aK]
 obtain ⟨hv5,hv6,hv7,hv8⟩:=hv5
 have Am:∀(ts:List AV)(F:Y)(B1:List Nat)(mQ:WS)(oT:List bn)(s1:AV)(m1:Nat)(UF:List Nat)(Zr:AV),
   Fr (fg (some (.ptr 1 H.length 0 0)::some (.ptr 2 (H.length+1) 0 0)::some (.ptr 4 (H.length+2) 0 0)::some (.ptr 1 (H.length+3) 0 0)::some (.ptr 1 (H.length+4) 0 0)::some (Zr)::none::iv (bf (bf (bf []))))) ts→
   St wid cf fu B1 mQ oT s1 m1 UF F→I5 wid H.length s1 t ro pv ws.at_ F→SZ mQ (N+1)→mQ.at_=ws.at_+1→
   ((Zr = .sc .nilFunc∧∀q C F',bJ fu t.kids oT mQ p 0 = .ok q→St wid cf fu (B1++C) q.2 q.1 s1 m1 UF F'→dr m1 F F'→lM wid cf fu B (eE a0 m) m ms H (bR fu t env ws p) (.ret (.aO [])) F')∨
    (Zr = .fn (.func 173) [] [.ptr 1 H.length 0 0,.ptr 2 (H.length+1) 0 0,.ptr 4 (H.length+2) 0 0,.ptr 1 (H.length+3) 0 0,.ptr 1 (H.length+4) 0 0]∧(s1=eE a0 m∧m1=m∧UF=ms∧B1=B∧pv = .am 1 (aK p) none)∧(∀q,bJ fu t.kids oT mQ p 0 = .ok q→bR fu t env ws p=dx q.1 q.2 t.text p ws.at_)∧dr m H F))→
   (∀f F',bJ fu t.kids oT mQ p 0 = .error f→dr m1 F F'→lM wid cf fu B (eE a0 m) m ms H (bR fu t env ws p) (.bP (tv f)) F')→L ts F:=by
  intro ts F B1 mQ oT s1 m1 UF Zr aX nS hX hz1 RF aib aic
  obtain ⟨js,rfl⟩:=aX.opened
  clear aX
  obtain ⟨a1,m1',ajk,hs1,e1,-⟩:=nS.er.form
  cases e1
  subst hs1
  refine hL _ _ ?_
  clear hL
  have f3:=hX.f3
  rw[aQ] at f3
  refine Z fun L hL=>?_
  refine Z fun L hL=>?_
  refine fB (ak f3 @aH) ?_
  refine hL _ _ ?_
  clear hL
  refine fh ?_
  refine aZ (fun ts G=>∃(k:Nat)(q:List bn×WS)(C:List Nat),k≤t.kids.length∧bJ fu (t.kids.take k) oT mQ p 0 = .ok q∧St wid cf fu (B1++C) q.2 q.1 (eE a1 m1) m1 UF G∧dr m1 F G∧
   Fr (fg (some (.ptr 1 H.length 0 0)::some (.ptr 2 (H.length+1) 0 0)::some (.ptr 4 (H.length+2) 0 0)::some (.ptr 1 (H.length+3) 0 0)::some (.ptr 1 (H.length+4) 0 0)::some (Zr)::dL (bf (bf (some (.am 4 (bh t.kids) ro)::some (.sc (.int .i64 t.kids.length))::some (.sc (.int .i64 k))::none::none::fg (dL [])))))) ts) (fun ts _=>t.kids.length-(aM (ts.getD 92 .top)).toNat) ?_ ?_
  ·exact ⟨0,(oT,mQ),[],Nat.zero_le _,by simp[bJ],by simpa using nS,.refl,by simp[Fr]⟩
  rintro ts G ⟨k,q,C,hk,hq,hSk,Zs,aX⟩ L2 bM
  obtain ⟨js,rfl⟩:=aX.opened
  clear aX
  have I7:=hX.keep Zs
  have gle:=I7.le
  have g1:=I7.f1
  have g2:=I7.f2
  have g4:=I7.f4
  unfold eE at g2
  by_cases hd:k<t.kids.length
  ·have d1:(k:Int)<t.kids.length:=by omega
   have hg:=dG hd
   refine fB (agX d1 hg @aH g1 g2 g4 JZ BO SB hv4 hv5 hv6 hv7 hv8) ?_
   have pR:=iK hd
   have mO:=Nd.fZ t.kids
   have adP:=pF t.kids (k+1)
   have htz:=t.size_eq
   have dW:aE t.kids k∈t.kids:=by rw[eH hd];exact List.getElem_mem hd
   have RG:=Hq (t.kids.take k) oT mQ 0 q _ hz1 hq
   have aie:=Nd.D1 dW
   have ajl:=UB (t.kids.take k) oT mQ 0 q hq
   have Zt:=t.oG
   have hX2:=(hSk.cons (some ⟨4,[.agg [.sc (.int .u8 (aE t.kids k).kind),.sc (.string (aE t.kids k).text),.sc (.int .i64 (aE t.kids k).num),.am 4 (bh (aE t.kids k).kids) none]],true,25⟩)).cons none
   have hih:=ih _ dW wid cf (B1++C) q.2 q.1 (eE a1 m1) m1 UF _ (p++[(k:Int)]) _ _ hX2 (.inl rfl) (by simp only[List.length_append,List.length_cons,List.length_nil];omega) (by omega) (hfn.vi _ dW) RG (by omega) (by omega) none
   rw[aQ] at hih
   unfold eE at hih
   have hkX:dr m1 F (none::some ⟨4,[.agg [.sc (.int .u8 (aE t.kids k).kind),.sc (.string (aE t.kids k).text),.sc (.int .i64 (aE t.kids k).num),.am 4 (bh (aE t.kids k).kids) none]],true,25⟩::G):=(Zs.cons _).cons _
   have htk:=L9 (fu:=fu) (p:=p) (env:=oT) (ws:=mQ) (i:=0) hd
   rw[hq] at htk
   simp only[Nat.zero_add] at htk
   have e1:((aK p++[AV.sc (.int .i64 (k:Int))]).drop 0).take ((aK p).length+1)=aK (p++[(k:Int)]):=by
    rw[List.drop_zero,List.take_of_length_le (by simp)]
    simp[aK]
   rw[←e1] at hih
   have Dn:=Zp (H:=some ⟨1,aK p++[.sc (.int .i64 (k:Int))],false,3⟩::some ⟨4,[.agg [.sc (.int .u8 (aE t.kids k).kind),.sc (.string (aE t.kids k).text),.sc (.int .i64 (aE t.kids k).num),.am 4 (bh (aE t.kids k).kids) none]],true,25⟩::G) (id:=G.length+1) (aJ rfl) (.keep (.keep (.keep (.aD (k:=1) (off:=0) (n:=(aK p).length+1) (c:=none) rfl (by simp) .nil)))) (by rw[yQ (by simp only[List.length_cons])];exact hih)
   refine ⟨by omega,by omega,by rw[aB];omega,jt Dn fun e H' hle jB=>?_⟩
   ·unfold lM at jB
    cases hr:bR fu (aE t.kids k) q.1 q.2 (p++[(k:Int)]) with
    |error f =>
     rw[hr] at jB htk
     obtain ⟨rfl,h2⟩:=jB
     exact aic f H' (Ma htk) (hkX.trans h2)
    |ok r =>
     rw[hr] at jB htk
     obtain ⟨rfl,h2,C',h3⟩:=jB
     refine aw ?_
     refine bM _ _ ⟨k+1,r,C++C',by omega,htk,by rw[←List.append_assoc];exact h3,hkX.trans h2,by simp[Fr]⟩ (by simp[aM,mk];omega)
  ·have d1:¬(k:Int)<t.kids.length:=by omega
   have FD:t.kids.take k=t.kids:=List.take_of_length_le (by omega)
   rw[FD] at hq
   refine fB d1 ?_
   clear bM
   refine hL _ _ ?_
   clear hL
   rcases aib with ⟨rfl,hend⟩|⟨rfl,⟨g1',rfl,rfl,rfl,rfl⟩,lc,hkF⟩
   ·simp -implicitDefEqProofs (maxSteps:=99999999) (disch:=first|omega|(simp only[vl];first|done|omega)) only[vu,vg,vf,va,vg,vs,vw,vk,simprocAttr]
    exact hend q C G hq hSk Zs
   ·cases g1'
    have Zu:=Hq t.kids oT mQ 0 q _ hz1 hq
    have htz:=t.size_eq
    have Zt:=t.oG
    have hbd:=UE hSk t ro p (by omega) (by omega) (by have:=Zu.1;omega) ws.at_ H.length I7.f1 I7.f2 I7.f3 I7.f4 I7.f5
    unfold eE at hbd
    simp -implicitDefEqProofs (maxSteps:=99999999) (disch:=first|omega|(simp only[vl];first|done|omega)) only[vu,vg,vf,va,vg,vs,vw,vk,simprocAttr]
    refine ⟨rfl,jt hbd fun e H' hle z6=>?_⟩
    rw[lc q hq]
    unfold lM at z6 ⊢
    cases hr:dx q.1 q.2 t.text p ws.at_ with
    |error f =>
     rw[hr] at z6
     obtain ⟨rfl,h2⟩:=z6
     exact ⟨rfl,hkF.trans (Zs.trans h2)⟩
    |ok r =>
     rw[hr] at z6
     obtain ⟨rfl,h2,C',h3⟩:=z6
     refine aw ?_
     exact ⟨hkF.trans (Zs.trans h2),C++C',by rw[←List.append_assoc];exact h3⟩
 have I8:∀(ts:List AV)(F:Y)(C0:List Nat)(mQ:WS)(oT:List bn),
   Fr (fg (some (.ptr 1 H.length 0 0)::some (.ptr 2 (H.length+1) 0 0)::some (.ptr 4 (H.length+2) 0 0)::some (.ptr 1 (H.length+3) 0 0)::some (.ptr 1 (H.length+4) 0 0)::some (.sc .nilFunc)::none::iv (bf (bf (bf []))))) ts→
   St wid cf fu (B++C0) mQ oT (eE a0 m) m ms F→I5 wid H.length (eE a0 m) t ro pv ws.at_ F→SZ mQ (N+1)→mQ.at_=ws.at_+1→dr m H F→bR fu t env ws p=bJ fu t.kids oT mQ p 0→L ts F:=by
  intro ts F C0 mQ oT aX nS hX hz1 RF oH lc
  refine Am ts F _ mQ oT _ m ms _ aX nS hX hz1 RF (.inl ⟨rfl,fun q C F' hq I9 FE=>?_⟩) fun f F' he FE=>?_
  ·rw[lc,hq]
   exact ⟨rfl,oH.trans FE,C0++C,by rw[←List.append_assoc];exact I9⟩
  ·rw[lc,he]
   exact ⟨rfl,oH.trans FE⟩
 have Zv:∀(ts:List AV)(F:Y)(mQ:WS)(a1 m1:Nat),
   Fr (fg (some (.ptr 1 H.length 0 0)::some (.ptr 2 (H.length+1) 0 0)::some (.ptr 4 (H.length+2) 0 0)::some (.ptr 1 (H.length+3) 0 0)::some (.ptr 1 (H.length+4) 0 0)::some (.sc .nilFunc)::none::iv (bf (bf (bf []))))) ts→
   St wid cf fu B mQ ([]::env) (eE (.ptr 2 a1 0 0) m1) m1 (m::ms) F→I5 wid H.length (eE (.ptr 2 a1 0 0) m1) t ro pv ws.at_ F→SZ mQ (N+1)→mQ.at_=ws.at_+1→dr m H F→H.length≤m1→Y.find F a1=some (tR (eE a0 m))→
   bR fu t env ws p=(match bJ fu t.kids ([]::env) mQ p 0 with
    |.error e=>.error e
    | .ok r=>.ok (env,r.2))→L ts F:=by
  intro ts F mQ a1 m1 aX nS hX hz1 RF oH Zo Mf lc
  have hKm:∀F',dr m1 F F'→dr m H F':=fun F' hk=>⟨Nat.le_trans oH.1 hk.1,fun id b hb hs=>hk.2 id b (oH.2 id b hb hs) (hs.imp (fun h=>h) fun h=>⟨h.1,by have:=Y.ax hb;omega⟩)⟩
  refine Am ts F _ mQ _ _ m1 (m::ms) _ aX nS hX hz1 RF (.inl ⟨rfl,fun q C F' hq I9 FE=>?_⟩) fun f F' he FE=>?_
  ·rw[lc,hq]
   refine ⟨rfl,hKm F' FE,C,?_⟩
   have sQ:=(Mb t.kids ([]::env) mQ 0 q (by simp) hq).1
   have hne:=hS.er.ne
   have Mi:=FE.2 a1 _ Mf (.inl ⟨by simp[tR],by simp[tR],by simp[tR],by simp[tR]⟩)
   have I6:=I9.er
   have hfo:=I9.fo
   match q,sQ,I6,hfo,I9 with
   |([],w),_,I6,_,_=>exact I6.elim
   |([f],w),sQ,_,_,_=>exact absurd sQ.symm hne
   |(f::g::r,w),sQ,I6,hfo,I9 =>
    have sQ:g::r=env:=sQ
    obtain ⟨m',ue,a',s',e1,h1,e2,h3,h4⟩:=I6
    cases e1
    simp only[eE,AV.agg.injEq,List.cons.injEq,AV.ptr.injEq,true_and,and_true] at e2
    subst e2
    rw[Mi] at h3
    simp only[tR,Option.some.injEq,aP.mk.injEq,List.cons.injEq,and_true,true_and] at h3
    subst h3
    rw[sQ] at h4
    exact ⟨I9.bs,h4,I9.fm,hS.nf,hS.nd,fun x hx=>hfo x (by simp only;rw[sQ];simp[hx]),I9.ff⟩
  ·rw[lc,he]
   exact ⟨rfl,hKm F' FE⟩
 refine Z fun L hL=>?_
 refine aI hw ?_
 refine hL _ _ ?_
 clear hL
 clear hL
 generalize gT:(some ⟨1,[AV.sc (.int .i64 ws.at_)],true,3⟩:Option aP)::_=F0
 have gK:=hB.agd (ws.at_+1)
 have pR:(Y.set H wid (some (fG cf bB B { ws with at_:=ws.at_+1 }))).length=H.length:=Y.af ..
 have xG:St wid cf fu B { ws with at_:=ws.at_+1 } env (eE a0 m) m ms F0:=by
  rw[←gT]
  exact (((((hS.AM gK.2 ⟨bB,U,gK.1⟩ rfl).cons _).cons _).cons _).cons _).cons _
 have yw:dr m H F0:=by
  rw[←gT]
  exact (((((gK.2.m m).cons _).cons _).cons _).cons _).cons _
 have AN:I5 wid H.length (eE a0 m) t ro pv ws.at_ F0:=by
  rw[←gT]
  have e:∀(x:Option aP),(Y.set H wid x).length=H.length:=fun x=>Y.af ..
  refine ⟨?_,?_,?_,?_,?_,by simp only[List.length_cons,e];omega⟩
  ·rw[ai (by simp only[List.length_cons,e];omega),ai (by simp only[List.length_cons,e];omega),ai (by simp only[List.length_cons,e];omega),ai (by simp only[List.length_cons,e];omega),aJ (by rw[e])]
  ·rw[ai (by simp only[List.length_cons,e];omega),ai (by simp only[List.length_cons,e];omega),ai (by simp only[List.length_cons,e];omega),aJ (by simp only[List.length_cons,e])]
   rfl
  ·rw[ai (by simp only[List.length_cons,e];omega),ai (by simp only[List.length_cons,e];omega),aJ (by simp only[List.length_cons,e])]
   rfl
  ·rw[ai (by simp only[List.length_cons,e];omega),aJ (by simp only[List.length_cons,e])]
  ·rw[aJ (by simp only[List.length_cons,e])]
 clear gT
 have BD:SZ { ws with at_:=ws.at_+1 } (N+1):=hsz.at_.le (by omega)
 have ajm:=AN.le
 have b1:=AN.f1
 have b2:=AN.f2
 have b3:=AN.f3
 have b5:=AN.f5
 rw[aQ] at b3
 unfold eE at b2
 have RH:¬t.kind=1→pv = .am 1 (aK p) none:=fun h=>by
  rcases Mh with h1|⟨_,_,h3⟩
  ·exact h1
  ·exact absurd h3 h
 have Zt:=t.oG
 have b4:=AN.f4
 obtain ⟨Zw,U0,Zx⟩:=xG.bs
 have Mj:=Zx.w
 unfold fG at Mj
 by_cases k2:t.kind=2
 ·obtain ⟨j,hj⟩:=hfn.fn k2
  have rQ:j<ws.bs.length:=wm (env:=[fu]) (by simpa using xG.ff) t.text j (by rw[cF,hj])
  obtain ⟨tS,F1,p1,p2,p3,p4,SD,hB1⟩:=Zx.more (j:=j) rQ (by have:=BD.1;omega)
  have hX1:=AN.keep (SD.m m)
  have nS:=xG.AM SD ⟨tS,U0,hB1⟩ rfl
  have c2:=hX1.f2
  rw[Y.aj (by omega)] at c2
  have c1:=hX1.f1
  rw[Y.aj (by omega)] at c1
  have sL:=Y.ax p4
  have fe:F0.length≤F1.length:=by have:=SD.1;rwa [Y.af] at this
  have tT:=xG.fm
  have hok:=AK B fu
  have iI:=sk (B:=B) (f:=fu) (x:=t.text)
  simp only[hj] at iI
  unfold lF at iI
  unfold j7 at tT
  unfold fG at p4
  unfold eE at c2
  dsimp only at p1 p2 p3 p4
  unfold bp at p1 p2 p3 p4 iI hok tT Mj
  refine aI (XJ k2 b1 b2 b3 b4 b5 Mj tT hok iI p1 p2 p3 p4 c2) ?_
  refine ⟨c1,gp (Hl (.agg [a0,.ptr 0 m 0 0]) ⟨rfl,rfl⟩ _) ?_⟩
  rintro v F' hle ⟨a1,m1,rfl,h1,h2,h3,h4,h5⟩
  obtain ⟨g1,g2,g3,g4⟩:=Hr nS hX1 h1 h2 h3 h4 h5
  rw[Y.af] at h1 h4
  have jP:Y.find F' (H.length+1)=some ⟨2,[.agg [a0,.ptr 0 m 0 0]],true,164⟩:=by
   rw[h5 _ (by rw[Y.af];omega),Y.aj (by omega)]
   exact c2
  have lc:=Zj (fu:=fu) (env:=env) (ws:=ws) (p:=p) k2
  rw[hj] at lc
  have aif:SZ { ws with at_:=ws.at_+1,all:=ws.all++[j] } (N+1):=⟨by simp only[List.length_append,List.length_cons,List.length_nil];have:=hsz.1;omega,fun i=>BD.2 i⟩
  unfold eE at *
  refine aI jP ?_
  exact Zv _ _ _ a1 m1 (by simp[Fr]) g1 g2 aif rfl (g3 H (yw.trans (SD.m m)) (Nat.le_refl _)) (by omega) g4 lc
 by_cases k4:t.kind=4
 ·have e:=RH (by omega)
  subst e
  have hbd:=Md xG t ro p (by omega) (by omega) (by have:=BD.1;omega) ws.at_
  rw[aQ] at hbd
  unfold eE at hbd
  refine aI (mN k2 k4 b1 b2 b3 b4 b5) ?_
  rw[k4] at hbd
  refine jt hbd fun e H' hle hq=>?_
  unfold lM at hq
  have lc:=Zk (fu:=fu) (env:=env) (ws:=ws) (p:=p) k4
  cases hr:dx env { ws with at_:=ws.at_+1 } t.text p ws.at_ with
  |error f =>
   rw[hr] at hq lc
   obtain ⟨rfl,h2⟩:=hq
   show lM wid cf fu B _ m ms H (bR fu t env ws p) _ _
   rw[lc]
   exact ⟨rfl,yw.trans h2⟩
  |ok r =>
   rw[hr] at hq lc
   obtain ⟨rfl,h2,C,h3⟩:=hq
   refine aw ?_
   exact I8 _ H' C r.2 r.1 (by simp[Fr]) h3 (AN.keep h2) (zz hsz.at_ hr) (Eh hr) (yw.trans h2) lc
 by_cases k5:t.kind=5
 ·refine aI (mN k2 k4 k5 b1 b2 b3 b5) ?_
  refine gp (Hl (.agg [a0,.ptr 0 m 0 0]) ⟨rfl,rfl⟩ F0) ?_
  rintro v F' hle ⟨a1,m1,rfl,h1,h2,h3,h4,h5⟩
  have jP:Y.find F' (H.length+1)=some ⟨2,[.agg [a0,.ptr 0 m 0 0]],true,164⟩:=by rw[h5 _ (by omega)];exact b2
  obtain ⟨g1,g2,g3,g4⟩:=Hr xG AN h1 h2 h3 h4 h5
  unfold eE at *
  refine aI jP ?_
  exact Zv _ _ _ a1 m1 (by simp[Fr]) g1 g2 BD rfl (g3 H yw (Nat.le_refl _)) (by omega) g4 (Zl k5)
 by_cases k6:t.kind=6
 ·have e:=RH (by omega)
  subst e
  obtain ⟨a0',m',ue,e0,e1,hm0⟩:=xG.er.form
  cases e1
  have tT:=hm0
  unfold j7 at tT
  have hok:=AK B (env.headD [])
  have iI:=sk (B:=B) (f:=env.headD []) (x:=t.text)
  unfold lF at iI
  have lc:=Zm (fu:=fu) (env:=env) (ws:=ws) (p:=p) k6
  cases hg:cL t.text (env.headD []) with
  |some j =>
   simp only[hg] at iI
   rw[hg,if_pos (by simp)] at lc
   unfold bp at iI hok tT
   refine aI (yT k2 k4 k5 k6 b1 b2 b3 b4 b5 tT hok iI) ?_
   refine pV (zy (110,ws.at_) wid cf Zw B _ F0 Zx.w) ?_
   show lM wid cf fu B _ m ms H (bR fu t env ws p) _ _
   rw[lc]
   exact ⟨rfl,yw⟩
  |none =>
   simp only[hg] at iI
   rw[hg,if_neg (by simp)] at lc
   refine aI (yT k2 k4 k5 k6 b1 b2 b3 b4 b5 tT hok iI) ?_
   exact Am _ F0 B { ws with at_:=ws.at_+1 } env (eE a0 m) m ms _ (by simp[Fr]) xG AN BD rfl (.inr ⟨rfl,⟨rfl,rfl,rfl,rfl,rfl⟩,fun q hq=>by rw[lc,hq],yw⟩) (fun f F' he FE=>by rw[lc,he];exact ⟨rfl,yw.trans FE⟩)
 by_cases PX:t.kind=22
 ·have e:=RH (by omega)
  subst e
  have hbd:=Zf wid cf Zw B U0 { ws with at_:=ws.at_+1 } F0 env (eE a0 m) (m::ms) Zx xG.er (wm xG.fo) t ro (.inl PX) p (by omega) (fun j=>by have:=BD.2 j;omega) ws.at_
  have lc:=UC (fu:=fu) (env:=env) (ws:=ws) (p:=p) PX
  rw[aQ] at hbd
  rw[PX] at hbd lc
  unfold eE at hbd
  refine aI (XH k2 k4 k5 k6 PX b1 b2 b3 b4 b5) ?_
  refine jt hbd fun e H' hle hq=>?_
  unfold PT at hq
  cases hr:jV env { ws with at_:=ws.at_+1 } 22 t.text t.kids.length p ws.at_ with
  |error f =>
   rw[hr] at hq lc
   obtain ⟨rfl,h2⟩:=hq
   show lM wid cf fu B _ m ms H (bR fu t env ws p) _ _
   rw[lc]
   exact ⟨rfl,yw.trans (h2.m m)⟩
  |ok r =>
   rw[hr] at hq lc
   obtain ⟨rfl,h2,Ml,U2,h3⟩:=hq
   refine aw ?_
   exact I8 _ H' [] r env (by simp[Fr]) (by simpa using xG.AM h2 ⟨Ml,U2,h3⟩ (Mg hr)) (AN.keep (h2.m m)) (Cn hsz.at_ hr) (Co hr) (yw.trans (h2.m m)) lc
 by_cases uc:t.kind=25
 ·have e:=RH (by omega)
  subst e
  have hbd:=Zf wid cf Zw B U0 { ws with at_:=ws.at_+1 } F0 [fu] (eE lF cf) [cf] Zx ⟨cf,rfl,xG.fm,rfl⟩ (wm (by simpa using xG.ff)) t ro (.inr uc) p (by omega) (fun j=>by have:=BD.2 j;omega) ws.at_
  have lc:=UD (fu:=fu) (env:=env) (ws:=ws) (p:=p) uc
  rw[aQ] at hbd
  rw[uc] at hbd lc
  unfold eE at hbd
  unfold lF at hbd
  refine aI (yT k2 k4 k5 k6 PX uc Mj b1 b2 b3 b4 b5) ?_
  refine jt hbd fun e H' hle hq=>?_
  unfold PT at hq
  cases hr:jV [fu] { ws with at_:=ws.at_+1 } 25 t.text t.kids.length p ws.at_ with
  |error f =>
   rw[hr] at hq lc
   obtain ⟨rfl,h2⟩:=hq
   show lM wid cf fu B _ m ms H (bR fu t env ws p) _ _
   rw[lc]
   exact ⟨rfl,yw.trans (h2.m m)⟩
  |ok r =>
   rw[hr] at hq lc
   obtain ⟨rfl,h2,Ml,U2,h3⟩:=hq
   refine aw ?_
   exact I8 _ H' [] r env (by simp[Fr]) (by simpa using xG.AM h2 ⟨Ml,U2,h3⟩ (Mg hr)) (AN.keep (h2.m m)) (Cn hsz.at_ hr) (Co hr) (yw.trans (h2.m m)) lc
 ·refine aI (yR k2 k4 k5 k6 PX uc) ?_
  exact I8 _ F0 [] { ws with at_:=ws.at_+1 } env (by simp[Fr]) (by simpa using xG) AN BD rfl yw (Zn k2 k4 k5 k6 PX uc)
theorem aci(fu:bn)(t:Nd):PW fu t:=by
 induction t using Nd.ind with
 |_ t ih=>exact Zq fu t ih
theorem BS.many{wid cf bB:Nat}{B U:List Nat}{ws:WS}{G:Y}(hB:BS wid cf bB B U ws G){j:Nat}(hj:j<ws.bs.length)(v:Int) :
  dQ G (Y.set G (B.getD j 0) (some (jm (U.getD j 0) { bq ws.bs j with many:=v })))∧
   BS wid cf bB B U { ws with bs:=ws.bs.set j { bq ws.bs j with many:=v } } (Y.set G (B.getD j 0) (some (jm (U.getD j 0) { bq ws.bs j with many:=v }))):=by
 have hbd:=hB.bd j hj
 have ir:=Y.ax hbd
 have hk:∀(x:Option aP) id b,Y.find G id=some b→id≠B.getD j 0→Y.find (Y.set G (B.getD j 0) x) id=some b:=fun x id b hb h2=>by
  rw[Y.aj h2];exact hb
 have oc:∀id b,Y.find G id=some b→(b.k≠4∨b.ty≠107)→id≠B.getD j 0:=fun id b hb h e=>by
  rw[e,hbd] at hb;cases hb;simp[jm] at h
 have xE:∀i,bq (ws.bs.set j { bq ws.bs j with many:=v }) i=if i=j then { bq ws.bs j with many:=v } else bq ws.bs i:=fun i=>by
  by_cases e:i=j
  ·subst e;simp[bq,List.getD,hj]
  ·rw[if_neg e];simp[bq,List.getD,List.getElem?_set_ne (Ne.symm e)]
 have hu:∀i,(bq (ws.bs.set j { bq ws.bs j with many:=v }) i).cZ=(bq ws.bs i).cZ:=fun i=>by
  rw[xE]
  split
  ·rename_i e;rw[e]
  ·rfl
 refine ⟨⟨by rw[Y.af];exact Nat.le_refl _,fun id b hb hs=>hk _ id b hb (oc id b hb ?_)⟩,⟨?_,fun e=>?_,?_,?_,fun i hi=>?_,fun i hi e=>?_,fun i i' hi hi' e=>?_,fun i i' hi hi' e1 e2 e=>?_,fun i hi=>?_⟩⟩
 ·rcases hs with hs|hs
  ·exact .inr hs.2.2.1
  ·exact .inl (by omega)
 ·exact hk _ _ _ hB.w (oc _ _ hB.w (.inl (by simp[fG])))
 ·exact hk _ _ _ (hB.al e) (oc _ _ (hB.al e) (.inl (by simp)))
 ·rw[List.length_set];exact hB.bl
 ·rw[List.length_set];exact hB.ul
 ·simp only[List.length_set] at hi
  simp only[xE]
  by_cases e:i=j
  ·subst e
   simp only[if_true]
   rw[Y.aC ir]
  ·simp only[if_neg e]
   exact hk _ _ _ (hB.bd i hi) (fun h=>e (hB.nd i j hi hj h))
 ·simp only[List.length_set] at hi
  simp only[hu] at e ⊢
  have hb:=hB.us i hi e
  exact hk _ _ _ hb (oc _ _ hb (.inl (by simp)))
 ·simp only[List.length_set] at hi hi'
  exact hB.nd i i' hi hi' e
 ·simp only[List.length_set] at hi hi'
  simp only[hu] at e1 e2
  exact hB.ud i i' hi hi' e1 e2 e
 ·simp only[List.length_set]
  exact hB.ao i hi
theorem px{H F:Y}{x y:AV}(h:∀id,id<H.length→Y.find F id=Y.find H id)(hz:Gz F H.length [] x y):eB H (.ret x) F (.ret y) H :=
 kw [] (by simp) (by simp) (by simp) (fun id k hid hk=>.inl ⟨hk,by rw[h id hid];exact hk⟩) (fun i s k hs=>by simp at hs) hz
def tz(f:Nd)(k:Nat)(fu:bn)(ws:WS)(a:Nat):Except jU (bn×WS):=match dx [fu] ws f.text [(k:Int)] a with
 |.error e=>.error e
 |.ok q=>.ok (q.1.headD [],{ q.2 with bs:=q.2.bs.set ws.bs.length { bq q.2.bs ws.bs.length with many:=(aE f.kids 0).kids.length } })
theorem lY(f:Nd)(r:List Nd)(k:Nat)(fu:bn)(ws:WS)(a:Nat):gE (f::r) k fu ws a=match tz f k fu ws a with
  |.error e=>.error e
  |.ok q=>gE r (k+1) q.1 q.2 (a+f.size):=by
 simp only[gE,tz]
 cases dx [fu] ws f.text [(k:Int)] a<;>rfl
theorem Mm:∀{l:List Nd}{i k:Nat}{fu:bn}{ws:WS}{a:Nat},k<l.length→gE (l.take (k+1)) i fu ws a=match gE (l.take k) i fu ws a with
  |.error e=>.error e
  |.ok q=>tz (aE l k) (i+k) q.1 q.2 (a+Nd.ay (l.take k)):=by
 intro l
 induction l with
 |nil=>intro i k fu ws a h;simp at h
 |cons t r ih =>
  intro i k fu ws a h
  cases k with
  |zero =>
   have hn:aE (t::r) 0=t:=by simp[aE]
   simp only[List.take_succ_cons,List.take_zero,lY,hn,Nat.add_zero,Nd.ay]
   simp only[gE,Nd.ay,Nat.add_zero]
   cases tz t i fu ws a<;>rfl
  |succ k =>
   have hn:aE (t::r) (k+1)=aE r k:=by simp[aE]
   rw[List.take_succ_cons,List.take_succ_cons (i:=k),lY,lY,hn]
   cases tz t i fu ws a with
   |error e=>rfl
   |ok q =>
    simp only
    rw[ih (by simpa using h)]
    simp only[Nd.ay]
    rw[show i+(k+1)=i+1+k by omega,show a+(t.size+Nd.ay (r.take k))=a+t.size+Nd.ay (r.take k) by omega]
theorem Mn{e:jU}:∀{l:List Nd}{i k:Nat}{fu:bn}{ws:WS}{a:Nat},gE (l.take k) i fu ws a = .error e→gE l i fu ws a = .error e:=by
 intro l
 induction l with
 |nil=>intro i k fu ws a h;simpa using h
 |cons t r ih =>
  intro i k fu ws a h
  cases k with
  |zero=>simp[gE] at h
  |succ k =>
   rw[List.take_succ_cons,lY] at h
   rw[lY]
   cases hn:tz t i fu ws a with
   |error e'=>rw[hn] at h;simpa using h
   |ok q=>rw[hn] at h;exact ih h
theorem acj{P:Program}{f:FuncId}{args args':List AV}{H:Y}{K:cH→Y→Prop}(hl:pe args args')(h:DK P f args' H K):DK P f args H K:=fun φ w vs hR ha=>h φ w vs hR (hl.Rt ha)
theorem Mo:∀{l:List Nd}{i:Nat}{fu:bn}{ws:WS}{a N:Nat}{q:bn×WS},SZ ws N→gE l i fu ws a = .ok q→SZ q.2 (N+l.length):=by
 intro l
 induction l with
 |nil=>intro i fu ws a N q hz h;simp only[gE] at h;cases h;exact hz
 |cons t r ih =>
  intro i fu ws a N q hz h
  rw[lY] at h
  cases hs:tz t i fu ws a with
  |error e=>rw[hs] at h;cases h
  |ok q' =>
   rw[hs] at h
   have h1:SZ q'.2 (N+1):=by
    unfold tz at hs
    cases hb:dx [fu] ws t.text [(i:Int)] a with
    |error e=>rw[hb] at hs;cases hs
    |ok q2 =>
     rw[hb] at hs
     cases hs
     have h2:=zz hz hb
     refine ⟨h2.1,fun j=>?_⟩
     simp only
     rcases Hp (bs:=q2.2.bs) (b:={ bq q2.2.bs ws.bs.length with many:=((aE t.kids 0).kids.length:Nat) }) (i:=ws.bs.length) (j:=j) with h|h<;>rw[h]
     ·exact h2.2 j
     ·exact h2.2 ws.bs.length
   have h3:=ih h1 h
   exact h3.le (by simp only[List.length_cons];omega)
theorem BS.clear{wid cf bB:Nat}{B U:List Nat}{ws:WS}{H:Y}(h:BS wid cf bB B U ws H):BS wid cf bB B U { ws with all:=[] } (Y.set H wid (some (fG cf bB B { ws with all:=[] })))∧dQ H (Y.set H wid (some (fG cf bB B { ws with all:=[] }))):=by
 have hl:=Y.ax h.w
 have hk:∀id b,Y.find H id=some b→b.k≠5→Y.find (Y.set H wid (some (fG cf bB B { ws with all:=[] }))) id=some b:=fun id b hb h5=>by
  rw[Y.aj fun e=>?_]
  ·exact hb
  ·rw[e,h.w] at hb;cases hb;simp[fG] at h5
 refine ⟨⟨Y.aC hl,fun e=>absurd rfl e,h.bl,h.ul,fun j hj=>hk _ _ (h.bd j hj) (by simp[jm]),fun j hj e=>hk _ _ (h.us j hj e) (by simp),h.nd,h.ud,fun j hj=>by simp at hj⟩,by rw[Y.af];exact Nat.le_refl _,fun id b hb hs=>hk id b hb ?_⟩
 rcases hs with hs|hs
 ·exact hs.2.1
 ·omega
theorem BS.age{wid cf bB:Nat}{B U:List Nat}{ws:WS}{H G:Y}(h:BS wid cf bB B U ws H)(k:∀id b,Y.find H id=some b→(b.k=5∨(b.k=1∧b.exact=false)∨b.k=4)→Y.find G id=some b):BS wid cf bB B U ws G :=
 ⟨k _ _ h.w (.inl rfl),fun e=>k _ _ (h.al e) (.inr (.inl ⟨rfl,rfl⟩)),h.bl,h.ul,fun j hj=>k _ _ (h.bd j hj) (.inr (.inr rfl)),fun j hj e=>k _ _ (h.us j hj e) (.inr (.inl ⟨rfl,rfl⟩)),h.nd,h.ud,h.ao⟩
theorem dQ.up{H F G:Y}(h:dQ H F){m:Nat}(hm:H.length≤m)(k:dr m F G):dQ H G:=⟨Nat.le_trans h.1 k.1,fun id b hb hs=>k.2 id b (h.2 id b hb hs) (hs.imp (fun h=>h) fun h0=>⟨h0,by have:=Y.ax hb;omega⟩)⟩
theorem dQ.set{H G:Y}(h:dQ H G){i:Nat}{x:Option aP}(hi:H.length≤i):dQ H (Y.set G i x):=⟨by rw[Y.af];exact h.1,fun id b hb hs=>by
 have:=Y.ax hb
 rw[Y.aj (by omega)];exact h.2 id b hb hs⟩
def AO(n:Nd)(H:Y)(e:cH)(H':Y):Prop:=dQ H H'∧match k8 n with
 |.error f=>e = .ret (.aO [.am 0 [] (some []),.agg [.sc (.int .i64 f.1),.sc (.int .i64 f.2)]])
 |.ok ws=>∃wid cf bB B U,e = .ret (.aO [aW 1 (ws.all.map (bp B)) bB,.agg [.sc (.int .i64 0),.sc (.int .i64 0)]])∧BS wid cf bB B U ws H'
theorem RI(n:Nd)(hr0:∀f∈n.kids,f.kids≠[])(hfn:∀q,gE n.kids 0 [] ⟨[],[],0⟩ 1 = .ok q→vE q.1 n)(hk:n.kind=1)(hs:n.size≤500000)(hw:n.wt≤2000000)(ro:Option (List AV))(H:Y):DK Tryz.prog 58 [dZ n ro] H (AO n H):=by
 refine ah8 ?_
 rw[aQ]
 simp -implicitDefEqProofs (maxSteps:=99999999) (disch:=first|omega|(simp only[vl];first|done|omega)) only[adJ,vu,va,vg,vs,vw,vk,simprocAttr]
 simp only[Y3,ux]
 refine Z fun L hL=>?_
 refine aw ?_
 refine hL _ _ ?_
 clear hL
 refine Z fun L hL=>?_
 refine aw ?_
 refine hL _ _ ?_
 clear hL
 refine Z fun L hL=>?_
 refine Z fun L hL=>?_
 refine aw ?_
 refine hL _ _ ?_
 clear hL
 refine aZ (fun ts F=>∃(k:Nat)(q:bn×WS)(bB:Nat)(B U:List Nat),(k≤n.kids.length∧gE (n.kids.take k) 0 [] ⟨[],[],0⟩ 1 = .ok q∧q.2.all.length=k∧q.2.at_=0)∧BS (H.length+4) (H.length+3) bB B U q.2 F∧gv B F [q.1] (eE lF (H.length+3)) [H.length+3]∧k9 q.2.bs.length q.1∧
  (dQ H F∧Y.find F H.length=some ⟨4,[dZ n ro],true,25⟩∧Y.find F (H.length+1)=some ⟨1,[.am 0 [] (some [])],true,102⟩∧Y.find F (H.length+2)=some ⟨2,[.agg [.sc (.int .i64 0),.sc (.int .i64 0)]],true,93⟩)∧
  Fr (none::some (.ptr 4 H.length 0 0)::some (.ptr 1 (H.length+1) 0 0)::some (.ptr 2 (H.length+2) 0 0)::some (.ptr 5 (H.length+4) 0 0)::some (.sc (.int .i64 ((1+Nd.ay (n.kids.take k):Nat):Int)))::iv (some (.am 4 (bh n.kids) ro)::some (.sc (.int .i64 n.kids.length))::some (.sc (.int .i64 k))::dL (bf []))) ts) (fun ts _=>n.kids.length-(aM (ts.getD 16 .top)).toNat) ?_ ?_
 ·refine ⟨0,([],⟨[],[],0⟩),0,[],[],⟨Nat.zero_le _,rfl,rfl,rfl⟩,⟨aJ (by simp only[List.length_cons]),fun e=>absurd rfl e,rfl,rfl,fun j hj=>by simp at hj,fun j hj=>by simp at hj,fun i j hi=>by simp at hi,fun i j hi=>by simp at hi,fun j hj=>by simp at hj⟩,⟨H.length+3,rfl,?_,rfl⟩,fun p hp=>by simp at hp,⟨((((dQ.refl.cons _).cons _).cons _).cons _).cons _,?_,?_,?_⟩,by simp[Fr,Nd.ay,aH]⟩
  ·rw[ai (by simp only[List.length_cons];omega),aJ (by simp only[List.length_cons])]
   rfl
  ·rw[ai (by simp only[List.length_cons];omega),ai (by simp only[List.length_cons];omega),ai (by simp only[List.length_cons];omega),ai (by simp only[List.length_cons];omega),aJ rfl]
   rfl
  ·rw[ai (by simp only[List.length_cons];omega),ai (by simp only[List.length_cons];omega),ai (by simp only[List.length_cons];omega),aJ (by simp only[List.length_cons])]
  ·rw[ai (by simp only[List.length_cons];omega),ai (by simp only[List.length_cons];omega),aJ (by simp only[List.length_cons])]
 rintro ts F ⟨k,q,bB,B,U,⟨w7,hq,Zy,hqa⟩,hB,hE,hF,⟨hKH,b0,b1,b2⟩,aX⟩ L2 bM
 obtain ⟨js,rfl⟩:=aX.opened
 clear aX
 rw[aQ] at b0
 have UG:H.length+5≤F.length:=by have:=Y.ax hB.w;omega
 have Mj:=hB.w
 unfold fG at Mj
 have htz:=n.size_eq
 by_cases hd:k<n.kids.length
 ·have d1:(k:Int)<n.kids.length:=by omega
  have hg:=dG hd
  have mO:=Nd.fZ n.kids
  refine fB (ei d1 hg Mj @aH) ?_
  have dW:aE n.kids k∈n.kids:=by rw[eH hd];exact List.getElem_mem hd
  have aie:=Nd.D1 dW
  have Zt:=n.oG
  have ajn:=(aE n.kids k).oG
  have RG:=Nd.de dW
  have pR:=iK hd
  have adP:=pF n.kids (k+1)
  have hb:=RB (H.length+4) (H.length+3) bB B U q.2 (some ⟨4,[.agg [.sc (.int .u8 (aE n.kids k).kind),.sc (.string (aE n.kids k).text),.sc (.int .i64 (aE n.kids k).num),.am 4 (bh (aE n.kids k).kids) none]],true,25⟩::F) [q.1] (eE lF (H.length+3)) (H.length+3) [] (hB.cons _) (hE.cons _) (by simp) (by simpa using hF) (aE n.kids k) none [(k:Int)] (by simp) (by omega) (by rw[Zy];omega) (1+Nd.ay (n.kids.take k))
  rw[aQ] at hb
  unfold eE lF at hb
  have htk:=Mm (l:=n.kids) (i:=0) (fu:=[]) (ws:=⟨[],[],0⟩) (a:=1) hd
  rw[hq] at htk
  simp only[Nat.zero_add] at htk
  unfold tz at htk
  refine ⟨by omega,jt (acj (.cons .refl (.cons .refl (.cons .refl (.cons (.am .refl) (.cons .refl .nil))))) hb) fun e H' hle jB=>?_⟩
  unfold PS at jB
  cases hr:dx [q.1] q.2 (aE n.kids k).text [(k:Int)] (1+Nd.ay (n.kids.take k)) with
  |error f =>
   rw[hr] at jB htk
   obtain ⟨rfl,h2⟩:=jB
   have hlp:k8 n = .error f:=by unfold k8;rw[Mn htk]
   have oH:dr (H.length+3) F H':=(dr.refl.cons _).trans h2
   have c1:=oH.2 _ _ b1 (.inl ⟨by simp,by simp,by simp,by simp⟩)
   have c2:=oH.2 _ _ b2 (.inl ⟨by simp,by simp,by simp,by simp⟩)
   have PY:H.length+5≤H'.length:=by have:=oH.1;omega
   unfold tv
   simp only[cH.post]
   simp -implicitDefEqProofs (maxSteps:=99999999) (disch:=first|omega|(simp only[vl];first|done|omega)) only[Ec,zw,vu,vg,vf,c1,c2,va,vg,vs,vw,vk,simprocAttr]
   unfold AO
   rw[hlp]
   exact ⟨((hKH.up (Nat.le_add_right _ _) oH).set (by omega)).set (by omega),rfl⟩
  |ok r =>
   rw[hr] at jB htk
   obtain ⟨rfl,h2,Ml,C,U2,Ee,hE2,jH⟩:=jB
   have hrf:=hr
   unfold dx at hrf
   split at hrf
   ·cases hrf
   simp only[List.headD_cons,List.tail_cons,Except.ok.injEq] at hrf
   subst hrf
   simp only[List.headD_cons] at htk
   dsimp only at Ee hE2 jH
   obtain ⟨m0,e0,hm0,-⟩:=hE2
   cases e0
   have oH:dr (H.length+3) F H':=(dr.refl.cons _).trans h2
   have c0:=oH.2 _ _ b0 (.inl ⟨by simp,by simp,by simp,by simp⟩)
   have c1:=oH.2 _ _ b1 (.inl ⟨by simp,by simp,by simp,by simp⟩)
   have c2:=oH.2 _ _ b2 (.inl ⟨by simp,by simp,by simp,by simp⟩)
   have c7:=h2.2 F.length _ (aJ rfl) (.inl ⟨by simp,by simp,by simp,by simp⟩)
   have BX:=Ee.w
   unfold fG at BX
   dsimp only at BX
   have hok:=AK (B++C) (fD (aE n.kids k).text q.2.bs.length q.1)
   have iI:=sk (B:=B++C) (f:=fD (aE n.kids k).text q.2.bs.length q.1) (x:=(aE n.kids k).text)
   rw[ju,if_pos rfl] at iI
   simp only at iI
   unfold lF at iI
   have tT:=hm0
   unfold j7 at tT
   unfold bp at iI hok tT 
   have rQ:q.2.bs.length<(q.2.bs++[(⟨[(k:Int)],(aE n.kids k).text,[],0⟩:Bd)]).length:=by simp
   have hbd:=Ee.bd q.2.bs.length rQ
   obtain ⟨hK3,hB3⟩:=Ee.many rQ ((aE (aE n.kids k).kids 0).kids.length:Nat)
   unfold jm at hbd
   have hn0:0<(aE n.kids k).kids.length:=List.length_pos_iff.2 (hr0 _ dW)
   have y5:=dG hn0
   have wA:=fun H=>acd (aE n.kids k) (by omega) H
   simp only[aQ] at wA
   have PY:F.length<H'.length:=Y.ax c7
   have yx:=Y.ax hbd
   have ajo:F.length≠(B++C).getD q.2.bs.length 0:=fun e=>by
    rw[e,hbd] at c7
    simp at c7
   have JW:(0:Int)<(aE n.kids k).kids.length:=by omega
   simp only[cH.post]
   refine aI (Fv BX c7 tT hok iI y5 hbd @aH JW) ?_
   refine ae (wA _) ?_
   refine aw ?_
   have sf:∀id b,Y.find H' id=some b→tw b→Y.find (Y.set H' ((B++C).getD q.2.bs.length 0) (some (jm (U2.getD q.2.bs.length 0) { bq (q.2.bs++[(⟨[(k:Int)],(aE n.kids k).text,[],0⟩:Bd)]) q.2.bs.length with many:=((aE (aE n.kids k).kids 0).kids.length:Nat) }))) id=some b:=fun id b hb hs=>hK3.2 id b hb (.inl hs)
   refine bM _ _ ⟨k+1,_,Ml,B++C,U2,⟨by omega,htk,by simp[Zy],hqa⟩,hB3,⟨H.length+3,rfl,hK3.2 _ _ hm0 (.inr rfl),rfl⟩,?_,⟨(hKH.up (Nat.le_add_right _ _) oH).trans hK3,?_,?_,?_⟩,?_⟩ (by simp[aM,mk];omega)
   ·have:=jH _ (List.mem_singleton.2 rfl)
    simpa using this
   ·exact sf _ _ c0 ⟨by simp,by simp,by simp,by simp⟩
   ·exact sf _ _ c1 ⟨by simp,by simp,by simp,by simp⟩
   ·exact sf _ _ c2 ⟨by simp,by simp,by simp,by simp⟩
   ·simp[Fr,pR]
    omega
 ·have FD:n.kids.take k=n.kids:=List.take_of_length_le (by omega)
  have d1:¬(k:Int)<n.kids.length:=by omega
  rw[FD] at hq
  refine fB d1 ?_
  clear bM
  refine hL _ _ ?_
  clear hL
  refine aI (ak Mj b0) ?_
  obtain ⟨m0,e0,hm0,-⟩:=hE
  cases e0
  obtain ⟨hBc,hKc⟩:=hB.clear
  have hSn:St (H.length+4) (H.length+3) q.1 B { q.2 with all:=[] } [[]] (eE lF F.length) F.length [] (some ⟨0,[],true,0⟩::Y.set F (H.length+4) (some (fG (H.length+3) bB B { q.2 with all:=[] }))):=by
   have e:(Y.set F (H.length+4) (some (fG (H.length+3) bB B { q.2 with all:=[] }))).length=F.length:=Y.af ..
   refine ⟨⟨bB,U,hBc.cons _⟩,⟨F.length,rfl,aJ e.symm,rfl⟩,?_,⟨by omega,by simp⟩,⟨by simp,by simp⟩,fun f hf=>?_,hF⟩
   ·rw[ai (by omega)]
    exact hKc.2 _ _ hm0 (.inr rfl)
   ·rw[List.mem_singleton] at hf
    subst hf
    exact fun p hp=>by simp at hp
  have Zu:SZ q.2 (0+n.kids.length):=Mo (ws:=⟨[],[],0⟩) ⟨Nat.le_refl _,fun j=>by simp[bq,Bd.none,List.getD]⟩ hq
  have mO:=Nd.fZ n.kids
  have hnd:=aci q.1 n (H.length+4) (H.length+3) B { q.2 with all:=[] } [[]] (eE lF F.length) F.length [] _ [] (.am 0 [] (some [])) n.kids.length hSn (.inr ⟨rfl,rfl,hk⟩) (by simp;omega) hw (hfn q hq) ⟨Nat.zero_le _,fun j=>Nat.le_trans (Zu.2 j) (by omega)⟩ (by omega) (by simp only[hqa];omega) ro
  rw[aQ] at hnd
  unfold eE lF fG at hnd
  refine jt hnd fun e H' hle jB=>?_
  have e4:(Y.set F (H.length+4) (some (fG (H.length+3) bB B { q.2 with all:=[] }))).length=F.length:=Y.af ..
  have hKn:dr F.length F (some ⟨0,[],true,0⟩::Y.set F (H.length+4) (some (fG (H.length+3) bB B { q.2 with all:=[] }))):=(hKc.m _).cons _
  have lN:k8 n=match bR q.1 n [[]] { q.2 with all:=[] } [] with
    |.error e=>.error e
    |.ok r=>.ok r.2:=by unfold k8;rw[hq]<;>rfl
  unfold lM at jB
  cases hr:bR q.1 n [[]] { q.2 with all:=[] } [] with
  |error f =>
   rw[hr] at lN
   replace jB:e = .bP (tv f)∧dr F.length (some ⟨0,[],true,0⟩::Y.set F (H.length+4) (some (fG (H.length+3) bB B { q.2 with all:=[] }))) H':=by rw[hr] at jB;exact jB
   obtain ⟨rfl,h2⟩:=jB
   have oH:=hKn.trans h2
   have c1:=oH.2 _ _ b1 (.inl ⟨by simp,by simp,by simp,by simp⟩)
   have c2:=oH.2 _ _ b2 (.inl ⟨by simp,by simp,by simp,by simp⟩)
   have PY:H.length+5≤H'.length:=by have:=oH.1;omega
   unfold tv
   simp only[cH.post]
   simp -implicitDefEqProofs (maxSteps:=99999999) (disch:=first|omega|(simp only[vl];first|done|omega)) only[Ec,zw,vu,vg,vf,c1,c2,va,vg,vs,vw,vk,simprocAttr]
   unfold AO
   rw[lN]
   exact ⟨((hKH.up (by omega) oH).set (by omega)).set (by omega),rfl⟩
  |ok r =>
   rw[hr] at lN
   replace jB:e = .ret (.aO [])∧dr F.length (some ⟨0,[],true,0⟩::Y.set F (H.length+4) (some (fG (H.length+3) bB B { q.2 with all:=[] }))) H'∧∃C,St (H.length+4) (H.length+3) q.1 (B++C) r.2 r.1 (eE lF F.length) F.length [] H':=by rw[hr] at jB;exact jB
   obtain ⟨rfl,h2,C,hS⟩:=jB
   obtain ⟨aig,U3,hB3⟩:=hS.bs
   have oH:=hKn.trans h2
   have c1:=oH.2 _ _ b1 (.inl ⟨by simp,by simp,by simp,by simp⟩)
   have c2:=oH.2 _ _ b2 (.inl ⟨by simp,by simp,by simp,by simp⟩)
   have PY:H.length+5≤H'.length:=by have:=oH.1;omega
   have hw3:=hB3.w
   unfold fG at hw3
   simp only[cH.post]
   simp -implicitDefEqProofs (maxSteps:=99999999) (disch:=first|omega|(simp only[vl];first|done|omega)) only[Ec,zw,vu,vg,vf,hw3,c1,c2,va,vg,vs,vw,vk,simprocAttr]
   unfold AO
   rw[lN]
   refine ⟨((hKH.up (by omega) oH).set (by omega)).set (by omega),H.length+4,H.length+3,aig,B++C,U3,rfl,hB3.age fun id b hb hc=>?_⟩
   rw[Y.aj fun e=>?_,Y.aj fun e=>?_]
   ·exact hb
   ·rw[e,c1] at hb;cases hb;simp at hc
   ·rw[e,c2] at hb;cases hb;simp at hc
theorem Ht:∀(l:List Nd)(p:List Int)(i k:Nat),k<l.length→bZ (l.take (k+1)) p i=bZ (l.take k) p i++bI (aE l k) (p++[((i+k:Nat):Int)])
 |[],_,_,_,h=>by simp at h
 |t::r,p,i,0,_=>by simp[bZ,aE]
 |t::r,p,i,k+1,h=>by
  have:=Ht r p (i+1) k (by simpa using h)
  rw[show i+1+k=i+(k+1) by omega] at this
  simp only[List.take_succ_cons,bZ,List.append_assoc,this]
  simp[aE]
theorem Mp{ok:Nat→Prop}{a b:List AV}(h:AV.cV ok a)(k:AV.cV ok b):AV.cV ok (a++b):=by
 rw[AV.rJ] at *
 intro x hx
 rcases List.mem_append.1 hx with e|e
 ·exact h x e
 ·exact k x e
theorem UH{ok:Nat→Prop}{a:List AV}{x:AV}{b:List AV}(h:AV.cV ok (a++[x]))(k:AV.cV ok b):AV.cV ok (a++x::b):=by
 have:=Mp h k
 simpa using this
theorem UI{ok:Nat→Prop}(l:List Int):AV.cV ok (aK l):=by
 rw[AV.rJ]
 intro x hx
 simp only[aK,List.mem_map] at hx
 obtain ⟨i,_,rfl⟩:=hx
 trivial
mutual
theorem Zz{ok:Nat→Prop}:∀t:Nd,(eu t).ids ok
 |⟨k,s,n,l⟩=>by
  simp only[eu]
  exact ⟨trivial,trivial,trivial,⟨vF l,trivial⟩,trivial⟩
theorem vF{ok:Nat→Prop}:∀l:List Nd,AV.cV ok (bh l)
 |[]=>trivial
 |t::r=>by
  simp only[bh]
  exact ⟨Zz t,vF r⟩
end
theorem ZA{ok:Nat→Prop}(b:Pl):(fq b).ids ok:=⟨trivial,trivial,trivial,⟨vF _,trivial⟩,⟨UI _,trivial⟩,trivial⟩
theorem AP{ok:Nat→Prop}(l:List Pl):AV.cV ok (l.map fq):=by
 rw[AV.rJ]
 intro x hx
 obtain ⟨b,_,rfl⟩:=List.mem_map.1 hx
 exact ZA b
theorem zA{F:Y}{n:Nat}{src:List Nat}:∀{a b c d:List AV},dt F n src a b→dt F n src c d→dt F n src (a++c) (b++d)
 |_,_,_,_,.nil,h=>h
 |_,_,_,_,.cons h r,k=>.cons h (zA r k)
theorem sm{F:Y}{n:Nat}{src:List Nat}:∀{a:List AV},AV.cV (fun i=>cP n src i=some i) a→dt F n src a a
 |[],_=>.nil
 |_::_,h=>.cons (.same h.1) (sm h.2)
def oI(F:Y)(lo:Nat)(p:List Int)(v:AV):Prop:=(p=[]∧v = .am 1 [] (some []))∨∃id,lo≤id∧v = .aD 1 id 0 p.length none∧Y.find F id=some ⟨1,aK p,false,3⟩
theorem oI.gz{F:Y}{lo:Nat}{p:List Int}{v:AV}(h:oI F lo p v){src:List Nat}(hs:∀id,Y.find F id=some ⟨1,aK p,false,3⟩→id∉src):Gz F lo src v (.am 1 (aK p) none):=by
 rcases h with ⟨rfl,rfl⟩|⟨id,h1,rfl,h2⟩
 ·exact .nil
 ·have hid:cP lo src id=none:=by
   unfold cP
   rw[if_neg (by omega)]
   simp only[Option.map_eq_none_iff]
   exact List.idxOf?_eq_none_iff.2 (hs id h2)
  refine .aD (blk:=⟨1,aK p,false,3⟩) hid h2 rfl (by simp[aB]) ?_
  simp only[List.drop_zero]
  rw[List.take_of_length_le (by simp[aB])]
  exact sj
theorem oI.keep{F G:Y}{lo:Nat}{p:List Int}{v:AV}(h:oI F lo p v)(k:∀id,Y.find F id=some ⟨1,aK p,false,3⟩→Y.find G id=some ⟨1,aK p,false,3⟩):oI G lo p v:=by
 rcases h with h|⟨id,h1,h2,h3⟩
 ·exact .inl h
 ·exact .inr ⟨id,h1,h2,k id h3⟩
theorem Ja(F0:Y)(lo:Nat)(p:List Int)(hlo:lo≤F0.length)(hp:p.length≤1000000):∃pv F1,oI F1 lo p pv∧F0.length≤F1.length∧(∀i,i<F0.length→Y.find F1 i=Y.find F0 i)∧
   gQ F0 1 3 (aK p) (.am 1 [] (some []))∧lC F0 1 (aK p) (.am 1 [] (some []))=pv∧jy F0 1 3 (aK p) (.am 1 [] (some []))=F1∧pv.isAgg=false∧pv.bT=false∧pv.az=1∧pv.cells=[pv]:=by
 cases p with
 |nil =>
  refine ⟨_,F0,.inl ⟨rfl,rfl⟩,Nat.le_refl _,fun _ _=>rfl,?_,?_,?_,rfl,rfl,rfl,rfl⟩
  ·simp[gQ,aK]
  ·simp[lC,aK]
  ·simp[jy,aK]
 |cons a r =>
  refine ⟨.aD 1 F0.length 0 (a::r).length none,some ⟨1,aK (a::r),false,3⟩::F0,.inr ⟨_,hlo,rfl,aJ rfl⟩,by simp,fun i hi=>ai hi,?_,?_,?_,rfl,rfl,rfl,rfl⟩
  ·simp only[List.length_cons] at hp
   simp[gQ,aK];omega
  ·simp[lC,aK]
  ·simp[jy,aK]
theorem agf(F:Y)(p:List Int)(k:Int)(hp:p.length≤1000000):∃pv F1 F2 Mq,(gQ F 1 3 (aK p) (.am 1 [] (some []))∧lC F 1 (aK p) (.am 1 [] (some []))=pv∧jy F 1 3 (aK p) (.am 1 [] (some []))=F1)∧
   (gQ F1 1 3 [.sc (.int .i64 k)] pv∧lC F1 1 [.sc (.int .i64 k)] pv = .aD 1 Mq 0 (aK (p++[k])).length none∧jy F1 1 3 [.sc (.int .i64 k)] pv=F2)∧Y.find F2 Mq=some ⟨1,aK (p++[k]),false,3⟩∧F.length≤Mq∧Mq<F2.length∧
   (∀i,i<F.length→Y.find F1 i=Y.find F i∧Y.find F2 i=Y.find F i)∧(pv.isAgg=false∧pv.bT=false∧pv.az=1∧pv.cells=[pv])∧F.length≤F1.length:=by
 obtain ⟨pv,F1,h1,h2,h3,h4,h5,h6,h7,h8,h9,h10⟩:=Ja F 0 p (Nat.zero_le _) hp
 refine ⟨pv,F1,?_⟩
 cases p with
 |nil =>
  rcases h1 with ⟨_,rfl⟩|⟨id,_,e,h⟩
  ·have kY:F1=F:=by rw[←h6];simp[jy,aK]
   subst kY
   refine ⟨some ⟨1,aK [k],false,3⟩::F1,F1.length,⟨h4,h5,h6⟩,⟨?_,?_,?_⟩,aJ rfl,Nat.le_refl _,by simp,fun i hi=>⟨rfl,ai hi⟩,⟨h7,h8,h9,h10⟩,h2⟩
   ·simp[gQ]
   ·simp[lC,aK]
   ·simp[jy,aK]
  ·rw[←h5] at e
   simp[lC,aK] at e
 |cons a r =>
  rcases h1 with ⟨e,_⟩|⟨id,_,e,h⟩
  ·simp at e
  ·have hid:F.length≤id:=by
    rw[←h5] at e
    simp[lC,aK] at e
    omega
   have hlt:=Y.ax h
   subst e
   refine ⟨some ⟨1,aK (a::r++[k]),false,3⟩::Y.set F1 id none,F1.length,⟨h4,h5,h6⟩,⟨?_,?_,?_⟩,aJ (Y.af ..).symm,h2,by simp[Y.af],fun i hi=>⟨h3 i hi,?_⟩,⟨h7,h8,h9,h10⟩,h2⟩
   ·simp only[gQ,h]
    simp only[List.length_cons] at hp
    simp[aB];omega
   ·simp[lC,aK]
   ·simp only[jy,h]
    simp[aK]
   ·rw[ai (by rw[Y.af];omega),Y.aj (by omega),h3 i hi]
def qW(xs ys:List AV)(io:Nat)(H:Y):Y:=bS 5 100 ys::jS xs io H
theorem Mr{H F:Y}{xs ys zs:List AV}{io s:Nat}(hys:ys≠[])(hzs:zs≠[])(hs:H.length≤s)(hF:Y.find F s=bS 5 100 ys)(hold:∀i,i<H.length→(xs≠[]→i≠io)→Y.find F i=Y.find H i)(hz:dt F H.length [s] ys zs) :
  eB H (.ret (aW 5 ys s)) F (.ret (aW 5 zs H.length)) (qW xs zs io H):=by
 refine kw [s] (by simp[qW,bz]) (by simp) (by simpa using hs) (fun id k hid hk=>?_) (fun i s' k hs' hk=>?_) ?_
 ·left
  unfold qW at hk
  rw[ai (by rw[bz];exact hid)] at hk
  have hne:xs≠[]→id≠io:=fun hx e=>by
   rw[Tp hx,e,Y.aC (by omega)] at hk
   cases hk
  have h1:Y.find H id=some k:=by
   by_cases hx:xs=[]
   ·subst hx;exact hk
   ·rw[jT (hne hx)] at hk;exact hk
  exact ⟨h1,by rw[hold id hid hne];exact h1⟩
 ·cases i with
  |zero =>
   simp only[List.getElem?_cons_zero,Option.some.injEq] at hs'
   subst hs'
   unfold qW at hk
   rw[Nat.add_zero,aJ (by rw[bz]),bj hzs] at hk
   cases hk
   exact ⟨⟨5,ys,false,100⟩,by rw[hF,bj hys],rfl,rfl,fun h=>by simp at h,hz⟩
  |succ i=>simp at hs'
 ·rw[jj hys,jj hzs]
  show Gz _ _ _ _ _
  rw[show zs.length=ys.length from hz.len]
  exact .Gw (xh hs) (.inl rfl)
theorem PZ(t:Nd)(ih:∀u∈t.kids,∀(ro:Option (List AV))(hro:∀ok,AV.gG ok ro)(p:List Int)(xs:List AV)(io:Nat)(H:Y),p.length+u.size≤1000000→xs.length+u.size≤50000000→(xs≠[]→Y.find H io=bS 5 100 xs)→AV.cV (fun i=>i<H.length) xs→
   D Tryz.prog 107 [aW 5 xs io,dZ u ro,.am 1 (aK p) none] H (.ret (aW 5 (xs++(bI u p).map fq) H.length)) (qW xs (xs++(bI u p).map fq) io H))
  (ro:Option (List AV))(hro:∀ok,AV.gG ok ro)(p:List Int)(xs:List AV)(io:Nat)(H:Y)(hp:p.length+t.size≤1000000)(uv:xs.length+t.size≤50000000)(hx:xs≠[]→Y.find H io=bS 5 100 xs)(hid:AV.cV (fun i=>i<H.length) xs) :
  D Tryz.prog 107 [aW 5 xs io,dZ t ro,.am 1 (aK p) none] H (.ret (aW 5 (xs++(bI t p).map fq) H.length)) (qW xs (xs++(bI t p).map fq) io H):=by
 have Ms:xs≠[]→io<H.length:=fun e=>by have:=hx e;rw[bj e] at this;exact Y.ax this
 have hsz:=t.size_eq
 refine aG (by simp[qW,bz]) (af4 (aA ?_))
 rw[aQ]
 simp only[YX,ux]
 refine Z fun L hL=>?_
 refine aw ?_
 refine hL _ _ ?_
 clear hL
 refine Z fun L hL=>?_
 generalize gT:(some ⟨4,[AV.agg [.sc (.int .u8 t.kind),.sc (.string t.text),.sc (.int .i64 t.num),.am 4 (bh t.kids) ro]],true,25⟩:Option aP)::H=F0
 have RJ:F0.length=H.length+1:=by rw[←gT];rfl
 have sn:∀i,i<H.length→Y.find F0 i=Y.find H i:=fun i hi=>by rw[←gT];exact ai hi
 have RL:Y.find F0 H.length=some ⟨4,[.agg [.sc (.int .u8 t.kind),.sc (.string t.text),.sc (.int .i64 t.num),.am 4 (bh t.kids) ro]],true,25⟩:=by rw[←gT];exact aJ rfl
 clear gT
 obtain ⟨pv,F1,Mh,fe,nT,q1,q2,q3,q4,q5,q6,q7⟩:=Ja F0 H.length p (by omega) (by omega)
 obtain ⟨io1,F2,p1,p2,p3,p4,p5,p6⟩:=tt (H:=F1) (k:=5) (ty:=100) (xs:=xs) (ys:=[.agg [.sc (.int .u8 t.kind),.sc (.string t.text),.sc (.int .i64 t.num),.am 4 (bh t.kids) ro,pv]]) (id:=io) (fun e=>by rw[nT io (by have:=Ms e;omega),sn io (Ms e),hx e]) (by simp;omega)
 have aih:xs++[AV.agg [.sc (.int .u8 t.kind),.sc (.string t.text),.sc (.int .i64 t.num),.am 4 (bh t.kids) ro,pv]]≠[]:=by simp
 obtain ⟨vD,L8⟩:=p4 aih
 refine aI (yS RL q1 q2 q3 q4 q5 q6 q7 p1 p2 p3) ?_
 refine ⟨by rw[nT _ (by omega)];exact RL,?_⟩
 refine hL _ _ ?_
 clear hL
 refine Z fun L hL=>?_
 refine Z fun L hL=>?_
 refine aw ?_
 refine hL _ _ ?_
 clear hL
 have aii:Y.find F2 H.length=some ⟨4,[.agg [.sc (.int .u8 t.kind),.sc (.string t.text),.sc (.int .i64 t.num),.am 4 (bh t.kids) ro]],true,25⟩:=by
  rw[p6 _ (by omega) (fun e=>by have:=Ms e;omega),nT _ (by omega)]
  exact RL
 have zB:∀i,i<H.length→(xs≠[]→i≠io)→Y.find F2 i=Y.find H i:=fun i hi hne=>by
  rw[p6 i (by omega) hne,nT i (by omega),sn i hi]
 have adQ:oI F2 H.length p pv:=Mh.keep fun id h=>by
  have hlt:=Y.ax h
  rw[p6 id hlt fun e e2=>?_]
  ·exact h
  ·rw[e2,nT io (by have:=Ms e;omega),sn io (Ms e),hx e,bj e] at h
   cases h
 clear p1 p2 p3 p5 p6 Mh q1 q2 q3 RL sn nT
 have hgc:∀(G:Y)(s:Nat),oI G H.length p pv→Y.find G s=bS 5 100 (xs++AV.agg [.sc (.int .u8 t.kind),.sc (.string t.text),.sc (.int .i64 t.num),.am 4 (bh t.kids) ro,pv]::(bZ t.kids p 0).map fq)→dt G H.length [s] (xs++AV.agg [.sc (.int .u8 t.kind),.sc (.string t.text),.sc (.int .i64 t.num),.am 4 (bh t.kids) ro,pv]::(bZ t.kids p 0).map fq) (xs++(bI t p).map fq):=fun G s h1 h2=>by
  rw[cR,List.map_cons]
  refine zA (sm (AV.eU (fun i hi=>s8 hi) _ hid)) (.cons (.agg (.cons (.same trivial) (.cons (.same trivial) (.cons (.same trivial) (.cons (.am (sm (vF _))) (.cons (h1.gz fun id h=>?_) .nil)))))) (sm (AP _)))
  rw[List.mem_singleton]
  rintro rfl
  rw[h2,bj (by simp)] at h
  cases h
 have aij:∀n,H.length≤n→(∀id,pv = .aD 1 id 0 p.length none→id<n)→AV.cV (fun i=>i<n) (xs++[AV.agg [.sc (.int .u8 t.kind),.sc (.string t.text),.sc (.int .i64 t.num),.am 4 (bh t.kids) ro,pv]]):=fun n hn h=>by
  refine Mp (AV.eU (fun i hi=>by omega) _ hid) ⟨⟨trivial,trivial,trivial,⟨vF _,hro _⟩,?_,trivial⟩,trivial⟩
  rcases adQ with ⟨_,e⟩|⟨id,_,e,_⟩
  ·rw[e];exact ⟨trivial,trivial⟩
  ·rw[e];exact h id e
 generalize hcv:(AV.agg [.sc (.int .u8 t.kind),.sc (.string t.text),.sc (.int .i64 t.num),.am 4 (bh t.kids) ro,pv])=cv at *
 clear hcv
 refine aZ (fun ts F=>∃(k i1:Nat),(k≤t.kids.length∧H.length<i1∧Y.find F i1=bS 5 100 (xs++cv::(bZ (t.kids.take k) p 0).map fq))∧(oI F H.length p pv∧(∀i,i<H.length→(xs≠[]→i≠io)→Y.find F i=Y.find H i)∧
  Y.find F H.length=some ⟨4,[.agg [.sc (.int .u8 t.kind),.sc (.string t.text),.sc (.int .i64 t.num),.am 4 (bh t.kids) ro]],true,25⟩)∧
  Fr (some (aW 5 (xs++cv::(bZ (t.kids.take k) p 0).map fq) i1)::none::some (.am 1 (aK p) none)::none::some (.ptr 4 H.length 0 0)::none::none::some (.sc (.int .i64 k))::none::fg (iv (dL []))) ts) (fun ts _=>t.kids.length-(aM (ts.getD 7 .top)).toNat) ?_ ?_
 ·exact ⟨0,io1,⟨Nat.zero_le _,by omega,by simpa [bZ] using vD⟩,⟨adQ,zB,aii⟩,by simp[Fr,bZ]⟩
 rintro ts F ⟨k,i1,⟨hk,hi1,hrow⟩,⟨ZB,hold,mF⟩,aX⟩ L2 bM
 obtain ⟨js,rfl⟩:=aX.opened
 clear aX
 have RM:xs++cv::(bZ (t.kids.take k) p 0).map fq≠[]:=by simp
 by_cases hd:k<t.kids.length
 ·have d1:(k:Int)<t.kids.length:=by omega
  have hg:=dG hd
  have mO:=Nd.fZ t.kids
  obtain ⟨pv1,G1,G2,Mq,⟨g1,g2,g3⟩,⟨g4,g5,g6⟩,g7,g8,g9,g10,⟨g11,g12,g13,g14⟩,g15⟩:=agf F p k (by omega)
  have i1l:i1<F.length:=by rw[bj RM] at hrow;exact Y.ax hrow
  have hHl:H.length<F.length:=by omega
  have agh:Y.find G1 H.length=_:=(g10 _ hHl).1.trans mF
  have P0:Y.find G2 H.length=_:=(g10 _ hHl).2.trans mF
  have dW:=eJ hd
  have RG:=Nd.de dW
  have ajp:(bZ (t.kids.take k) p 0).length≤Nd.ay t.kids:=by rw[lU];exact I4 _ _
  have pR:=iK hd
  have adP:=pF t.kids (k+1)
  have hi:=ih _ dW none (fun _=>trivial) (p++[(k:Int)]) (xs++cv::(bZ (t.kids.take k) p 0).map fq) i1 (Y.set G2 Mq none) (by simp;omega) (by simp only[List.length_append,List.length_cons,List.length_map,lU];omega) (fun _=>by rw[Y.aj (by omega),(g10 i1 i1l).2];exact hrow) (UH (aij _ (by rw[Y.af];omega) fun id e=>by
    rw[Y.af]
    rcases ZB with ⟨_,e2⟩|⟨id2,_,e2,h2⟩
    ·rw[e2] at e;cases e
    ·rw[e2] at e
     cases e
     have:=Y.ax h2
     omega) (AP _))
  rw[aQ,show (xs++cv::(bZ (t.kids.take k) p 0).map fq)++(bI (aE t.kids k) (p++[(k:Int)])).map fq=xs++cv::((bZ (t.kids.take k) p 0).map fq++(bI (aE t.kids k) (p++[(k:Int)])).map fq) by simp] at hi
  have Dn:=aeG g7 (.keep (.keep (.aD (k:=1) (off:=0) (n:=(aK (p++[(k:Int)])).length) (c:=none) rfl (by simp) .nil))) (by
   simp only[List.drop_zero,List.take_length]
   exact hi)
  refine fB (agY d1 hg @aH mF agh P0 g1 g2 g3 g4 g5 g6 g11 g12 g13 g14) ?_
  refine ⟨by omega,sY Dn (fun l hl _=>?_) ?_⟩
  ·simp only[List.mem_singleton] at hl
   subst hl
   show Y.find (qW _ _ _ _) _=Y.find G2 _
   unfold qW
   rw[ai (by rw[bz,Y.af];omega),jT (by omega),Y.aj (by omega)]
  have UJ:xs++cv::(bZ (t.kids.take (k+1)) p 0).map fq=xs++cv::((bZ (t.kids.take k) p 0).map fq++(bI (aE t.kids k) (p++[(k:Int)])).map fq):=by
   rw[Ht t.kids p 0 k hd,List.map_append,Nat.zero_add]
  refine aw ?_
  have Fe:∀i,i<F.length→i≠i1→Y.find (qW (xs++cv::(bZ (t.kids.take k) p 0).map fq) (xs++cv::((bZ (t.kids.take k) p 0).map fq++(bI (aE t.kids k) (p++[(k:Int)])).map fq)) i1 (Y.set G2 Mq none)) i=Y.find F i:=fun i hi hne=>by
   unfold qW
   rw[ai (by rw[bz,Y.af];omega),jT hne,Y.aj (by omega),(g10 i hi).2]
  refine bM _ _ ⟨k+1,(Y.set G2 Mq none).length,⟨by omega,by rw[Y.af];omega,?_⟩,⟨ZB.keep fun id h=>?_,fun i hi hne=>?_,?_⟩,?_⟩ (by simp[aM,mk];omega)
  ·rw[UJ]
   unfold qW
   rw[aJ (by rw[bz])]
  ·rw[Fe id (Y.ax h) fun e=>?_]
   ·exact h
   ·rw[e,hrow,bj RM] at h
    cases h
  ·rw[Fe i (by omega) (by omega)]
   exact hold i hi hne
  ·rw[Fe _ hHl (by omega)]
   exact mF
  ·rw[UJ]
   simp[Fr,Y.af]
 ·have d1:¬(k:Int)<t.kids.length:=by omega
  have FD:t.kids.take k=t.kids:=List.take_of_length_le (by omega)
  rw[FD] at hrow RM
  rw[FD]
  refine fB (gq d1 @aH mF) ?_
  clear bM
  refine hL _ _ ?_
  clear hL
  refine aw ?_
  exact Mr RM (by rw[cR];simp) (by omega) hrow hold (hgc F i1 ZB hrow)
theorem UK(t:Nd):∀(ro:Option (List AV))(hro:∀ok,AV.gG ok ro)(p:List Int)(xs:List AV)(io:Nat)(H:Y),p.length+t.size≤1000000→xs.length+t.size≤50000000→(xs≠[]→Y.find H io=bS 5 100 xs)→AV.cV (fun i=>i<H.length) xs→
  D Tryz.prog 107 [aW 5 xs io,dZ t ro,.am 1 (aK p) none] H (.ret (aW 5 (xs++(bI t p).map fq) H.length)) (qW xs (xs++(bI t p).map fq) io H):=by
 induction t using Nd.ind with
 |_ t ih=>exact fun ro hro p xs io H h1 h2 h3 h4=>PZ t ih ro hro p xs io H h1 h2 h3 h4
theorem Hu(t:Nd)(ro:Option (List AV))(hro:∀ok,AV.gG ok ro)(hz:t.size≤1000000)(H:Y):D Tryz.prog 55 [dZ t ro] H (.ret (.am 5 ((bI t []).map fq) none)) H:=by
 have hp:=fun G=>UK t ro hro [] [] 0 G (by simp;omega) (by simp;omega) (fun e=>absurd rfl e) trivial
 have hp2:∀G,D Tryz.prog 107 [.am 0 [] (some []),dZ t ro,.am 0 [] (some [])] G (.ret (aW 5 ((bI t []).map fq) G.length)) (bS 5 100 ((bI t []).map fq)::G):=fun G=>by
  have h:=acX (.cons .refl (.cons .refl (.cons (.nil (k:=0) (room:=some [])) .nil))) (hp G)
  simpa [qW,jS,aW] using h
 rw[aQ] at hp2 ⊢
 refine aG (Nat.le_refl _) (ah6 (aA ?_))
 simp only[adG,ux]
 refine Z fun L hL=>?_
 refine aw ?_
 refine hL _ _ ?_
 clear hL
 refine Z fun L hL=>?_
 refine aw ?_
 refine ae (hp2 _) ?_
 refine aw ?_
 refine hL _ _ ?_
 clear hL
 refine aw ?_
 refine px (fun id hid=>?_) (qa (ty:=100) (fun _=>?_) (fun e=>?_) (sm (AP _)))
 ·rw[ai (by simp;omega),ai hid]
 ·unfold cP
  rw[if_neg (by simp)]
  simp
 ·rw[aJ (by simp)]
theorem Mt:∀(l:List Nd)(p:List Int)(i j:Nat)(hj:j<l.length)(b:Pl),b∈bI l[j] (p++[((i+j:Nat):Int)])→b∈bZ l p i
 |t::r,p,i,0,_,b,hb=>by simp only[bZ,List.mem_append];left;simpa using hb
 |t::r,p,i,j+1,hj,b,hb=>by
  simp only[bZ,List.mem_append]
  right
  refine Mt r p (i+1) j (by simpa using hj) b ?_
  rw[show i+1+j=i+(j+1) by omega]
  simpa using hb
theorem ZC(fu:bn)(t:Nd):∀p,(∀b∈bI t p,b.n.kind=2→∃j,cL b.n.text fu=some j)→vE fu t:=by
 induction t using Nd.ind with
 |_ t ih =>
  intro p h
  refine .mk (fun hk=>h ⟨t,p⟩ (by rw[cR];simp) hk) fun k hk=>?_
  obtain ⟨j,hj,rfl⟩:=List.getElem_of_mem hk
  refine ih _ hk (p++[((0+j:Nat):Int)]) fun b hb=>h b ?_
  rw[cR]
  exact List.mem_cons_of_mem _ (Mt _ _ 0 j hj b hb)
theorem Hv{n:Nd}(hk:n.kind=1)(h:bH n 40=true){q:bn×WS}(hq:gE n.kids 0 [] ⟨[],[],0⟩ 1 = .ok q):vE q.1 n:=by
 have hr:∀f∈n.kids,∃P B,Fn f P B:=fun f hf=>rZ hk h hf
 obtain ⟨l,hl⟩:∃l,bI n []=l:=⟨_,rfl⟩
 have heq:l=[⟨n,[]⟩]++bZ n.kids [] 0:=by rw[←hl,cR];rfl
 have Fl:YH l [⟨n,[]⟩] [] [] ⟨[],[],0⟩:=by
  refine ⟨rfl,rfl,by simp,by simp,fun x=>by simp[iA,hk,enc,cL],fun x j hj=>by simp[cL] at hj,fun a c u hu h2=>?_,fun b hb h2=>?_⟩
  ·cases a with
   |nil=>simp at hu;rw[←hu.1] at h2;simp[hk] at h2
   |cons z a=>simp at hu
  ·simp at hb;rw[hb] at h2;simp[hk] at h2
 have hA:=GS n.kids hr l [⟨n,[]⟩] 0 [] [] ⟨[],[],0⟩ heq Fl
 rw[show ([(⟨n,[]⟩:Pl)]).length=1 from rfl,hq] at hA
 obtain ⟨_,ix,hH⟩:=hA
 refine ZC q.1 n [] fun b hb h2=>?_
 rw[hl] at hb
 obtain ⟨a,c,e⟩:=List.append_of_mem hb
 obtain ⟨j,hj,_⟩:=hH.fi a c b e h2
 exact ⟨j,hj⟩
theorem vG:∀F:Y,Over [] F
 |[]=>.refl
 |_::r=>.cons (vG r)
def Ej(f:jU):AV:=.agg [.sc (.int .i64 f.1),.sc (.int .i64 f.2)]
theorem ZD(n:Nd)(hw:n.wt≤500000)(hs:n.size≤500000)(ro:Option (List AV)):D Tryz.prog 57 [dZ n ro] [] (.ret (Ej (jb n))) []:=by
 have htr:=fun H=>GN n ro (by omega) H
 refine aG (Nat.le_refl _) (ah9 (aA ?_))
 rw[aQ] at htr ⊢
 simp only[adK,ux]
 refine Z fun L hL=>?_
 refine aw ?_
 refine hL _ _ ?_
 clear hL
 refine Z fun L hL=>?_
 by_cases hk:n.kind=1
 ·have lN:=fun (hR:bH n 40=true) H=>RI n (fun f hf=>by
    obtain ⟨P,B,h⟩:=rZ hk hR hf
    rw[h.kids];simp) (fun q hq=>Hv hk hR hq) hk hs (by omega) ro H
  simp only[aQ,hk] at lN
  rw[hk] at htr
  simp -implicitDefEqProofs (maxSteps:=99999999) (disch:=first|omega|(simp only[vl];first|done|omega)) only[vu,vg,hk,va,vg,vs,vw,vk,simprocAttr]
  refine ae (htr _) ?_
  cases hR:bH n 40 with
  |false =>
   have hc:jb n=(4,0):=by unfold jb;rw[if_neg (fun h=>by rw[hR] at h;simp at h)]
   rw[hc]
   refine aw ?_
   exact dD (vG _) (.agg (.cons (.same trivial) (.cons (.same trivial) .nil)))
  |true =>
   have hc:jb n=match k8 n with
    |.error e=>e
    |.ok _=>(0,0):=by unfold jb;rw[if_pos ⟨hk,hR⟩]<;>rfl
   refine aw ?_
   refine hL _ _ ?_
   clear hL
   refine Z fun L hL=>?_
   refine aw ?_
   refine jt (lN hR _) fun e H' hle jB=>?_
   unfold AO at jB
   obtain ⟨hK,jB⟩:=jB
   have c1:=hK.2 1 _ rfl (.inl ⟨by simp,by simp,by simp,by simp⟩)
   have eK:2≤H'.length:=hK.1
   cases hl:k8 n with
   |error f =>
    rw[hl] at jB hc
    subst jB
    simp only[cH.post]
    refine aI c1 ?_
    refine hL _ _ ?_
    clear hL
    refine aI c1 ?_
    rw[hc]
    exact dD (vG _) (.agg (.cons (.same trivial) (.cons (.same trivial) .nil)))
   |ok ws =>
    rw[hl] at jB hc
    obtain ⟨wid,cf,bB,B,U,rfl,hB⟩:=jB
    simp only[cH.post]
    refine aI c1 ?_
    refine hL _ _ ?_
    clear hL
    refine aI c1 ?_
    rw[hc]
    exact dD (vG _) (.agg (.cons (.same trivial) (.cons (.same trivial) .nil)))
 ·have hc:jb n=(4,0):=by unfold jb;rw[if_neg (fun h=>hk h.1)]
  rw[hc]
  simp -implicitDefEqProofs (maxSteps:=99999999) (disch:=first|omega|(simp only[vl];first|done|omega)) only[vu,vg,hk,va,vg,vs,vw,vk,simprocAttr]
  exact dD (vG _) (.agg (.cons (.same trivial) (.cons (.same trivial) .nil)))
theorem ZE{P:Program}{f:FuncId}{args args':List AV}{v:AV}{H:Y}(hv:cJ H args args')(hp:∀{φ φ':aU}{O O':Nat→Prop}{w w':World}{g:Nat→Option Value},R φ O w v g→R φ' O' w' v g)(h:D P f args' [] (.ret v) []):D P f args H (.ret v) H:=by
 refine ⟨Nat.le_refl _,fun φ w vs hR ha=>(h.2 gS w vs (Rg (hR.jC.less fun b ho=>(tP ho).elim)) (hv.Rt hR ha)).mono fun en w' ⟨φ',h1,h2,h3⟩=>?_⟩
 have hb:=pX h3
 refine ⟨φ,?_,hR.grow hb.size hb.block,grow_step hb.os hb.tape hb.output hb.size hb.block⟩
 cases en with
 |returned u=>exact ⟨h1.1,hp h1.2⟩
 |_=>exact h1.elim
theorem Mu(n:Nd)(hw:n.wt≤500000)(hs:n.size≤500000){x:AV}{H:Y}(hx:View H x (eu n)):D Tryz.prog 57 [x] H (.ret (Ej (jb n))) H:=by
 have h:=ZD n hw hs none
 rw[ky] at h
 refine ZE (.cons hx .nil) (fun {φ φ' O O' w w' g} hr=>?_) h
 obtain ⟨h1,h2,h3,h4,h5,h6,h7⟩:=hr
 exact ⟨h1,h2,h3,h4,h5,h6,h7⟩
theorem ack(t:Nd):∀(ro:Option (List AV))(m:Nat)(Yz:m≤41)(hz:t.size≤1000000)(H:Y),D Tryz.prog 77 [dZ t ro,.sc (.int .i64 m)] H (.ret (.sc (.bool (bH t m)))) H:=by
 induction t using Nd.ind with
 |_ t ih =>
  intro ro m Yz hz H
  have mO:=Nd.Lo t
  have hP:=nu t m
  have P3:∀H,D Tryz.prog 132 [.agg [.sc (.int .u8 t.kind),.sc (.string t.text),.sc (.int .i64 t.num),.am 4 (bh t.kids) ro]] H (.ret (.sc (.bool (lJ t)))) H:=fun H=>ab3 t ro H
  have gK:∀h:t.kind=7,qc t=true→t.kids.length=2:=fun h h2=>Lp h h2
  have Hw:qc t=(jE t.kind && nX t.kind t.num && lJ t && (decide (eZ t.kind<0)|| decide ((t.kids.length:Int)=eZ t.kind))):=rfl
  refine aG (Nat.le_refl _) (ahz (aA ?_))
  simp only[ac9,ux]
  rw[aQ]
  have hY:∀H F:Y,Over H F→bH t m=false→eB H (.ret (.sc (.bool false))) F (.ret (.sc (.bool (bH t m)))) H:=fun H F h e=>by rw[e];exact bL h
  refine Z fun L hL=>?_
  refine aw ?_
  refine hL _ _ ?_
  clear hL
  refine Z fun L hL=>?_
  suffices key:∀ts,Fr (none::some (.sc (.int .i64 m))::some (.ptr 4 H.length 0 0)::none::some (.sc (.bool false))::some (.sc (.bool (jE t.kind)))::none::none::none::fg (dL (bf (bf (bf []))))) ts→L ts (some ⟨4,[.agg [.sc (.int .u8 t.kind),.sc (.string t.text),.sc (.int .i64 t.num),.am 4 (bh t.kids) ro]],true,25⟩::H) by
   by_cases a1:t.kind≥1
   ·by_cases a2:t.kind≤12
    ·have e:jE t.kind=true:=by simp[jE,a2];omega
     refine aI (ak a1 a2) ?_
     exact key _ (by simp[Fr,e])
    ·have e:jE t.kind=eY t.kind:=by simp[jE,a2]
     refine aI (ak a1 a2) ?_
     refine ae (nW _ _) ?_
     refine aw ?_
     exact key _ (by simp[Fr,e])
   ·have e:jE t.kind=eY t.kind:=by simp[jE];omega
    refine aI a1 ?_
    refine ae (nW _ _) ?_
    refine aw ?_
    exact key _ (by simp[Fr,e])
  intro ts aX
  obtain ⟨js,rfl⟩:=aX.opened
  clear aX
  refine hL _ _ ?_
  clear hL
  refine Z fun L hL=>?_
  suffices key:∀ts,Fr (none::some (.sc (.int .i64 m))::some (.ptr 4 H.length 0 0)::none::some (.sc (.bool false))::some (.sc (.bool (jE t.kind)))::some (.sc (.bool (nX t.kind t.num)))::none::none::fg (dL (bf (bf (bf []))))) ts→L ts (some ⟨4,[.agg [.sc (.int .u8 t.kind),.sc (.string t.text),.sc (.int .i64 t.num),.am 4 (bh t.kids) ro]],true,25⟩::H) by
   by_cases a0:t.num=0
   ·have e:nX t.kind t.num=true:=by simp[nX,a0]
    have a0':=decide_eq_true a0
    refine df a0' ?_
    exact key _ (by simp[Fr,e])
   by_cases b0:t.kind=20
   ·have b0':=decide_eq_true b0
    by_cases a1:t.num > 0
    ·have e:nX t.kind t.num=true:=by simp[nX,b0,a1]
     refine df (gq a0 a1 b0') ?_
     exact key _ (by simp[Fr,e])
    ·have e:nX t.kind t.num=false:=by
      rw[←Bool.not_eq_true]
      simp[nX,b0,a0]
      omega
     have b1:¬t.kind=21:=by omega
     refine df (ei a0 a1 b0' b1) ?_
     exact key _ (by simp[Fr,e])
   by_cases b1:t.kind=21
   ·have b1':=decide_eq_true b1
    by_cases a1:t.num=1
    ·have e:nX t.kind t.num=true:=by simp[nX,b1,a1]
     have a1':=decide_eq_true a1
     refine df (ei a0 a1' b0 b1') ?_
     exact key _ (by simp[Fr,e])
    ·have e:nX t.kind t.num=false:=by simp[nX,b1,a0,a1]
     refine df (ei a0 a1 b0 b1') ?_
     exact key _ (by simp[Fr,e])
   ·have e:nX t.kind t.num=false:=by simp[nX,b0,b1,a0]
    refine df (gq a0 b0 b1) ?_
    exact key _ (by simp[Fr,e])
  clear js
  intro ts aX
  obtain ⟨js,rfl⟩:=aX.opened
  clear aX
  refine hL _ _ ?_
  clear hL
  refine Z fun L hL=>?_
  refine yV ?_
  refine ae (Ld _ _) ?_
  refine yV ?_
  refine hL _ _ ?_
  clear hL
  refine Z fun L hL=>?_
  by_cases c1:(m:Int)<1
  ·refine df c1 ?_
   exact hY _ _ (.cons .refl) (by rw[hP];simp;omega)
  have hm:1≤m:=by omega
  cases hk:jE t.kind
  ·refine df c1 ?_
   exact hY _ _ (.cons .refl) (by rw[hP,Hw];simp[hk])
  cases hn:nX t.kind t.num
  ·refine df c1 ?_
   exact hY _ _ (.cons .refl) (by rw[hP,Hw];simp[hn])
  refine df c1 ?_
  refine ae (P3 _) ?_
  cases ht:lJ t
  ·refine yV ?_
   exact hY _ _ (.cons .refl) (by rw[hP,Hw];simp[ht])
  by_cases c2:eZ t.kind≥0∧¬(t.kids.length:Int)=eZ t.kind
  ·obtain ⟨c2,c3⟩:=c2
   refine df (gq c2 c3 @aH) ?_
   exact hY _ _ (.cons .refl) (by rw[hP,Hw];simp[c3];omega)
  have YA:qc t=true:=by
   rw[Hw,hk,hn,ht]
   simp
   omega
  have DD:bH t m=(my t.kind t.kids 0 (m-1) && wO t.kind t.kids):=by
   rw[nu,YA]
   simp[hm]
  clear hP Hw
  suffices key:∀ts,Fr (none::some (.sc (.int .i64 m))::some (.ptr 4 H.length 0 0)::none::some (.sc (.bool false))::iv (dL (bf (bf (bf []))))) ts→L ts (some ⟨4,[.agg [.sc (.int .u8 t.kind),.sc (.string t.text),.sc (.int .i64 t.num),.am 4 (bh t.kids) ro]],true,25⟩::H) by
   by_cases P4:eZ t.kind≥0
   ·have c3:(t.kids.length:Int)=eZ t.kind:=by omega
    refine df (gq P4 c3 @aH) ?_
    exact key _ (by simp[Fr])
   ·refine df (ak P4 @aH) ?_
    exact key _ (by simp[Fr])
  clear js
  intro ts aX
  obtain ⟨js,rfl⟩:=aX.opened
  clear aX
  refine hL _ _ ?_
  clear hL
  refine Z fun L hL=>?_
  refine df @aH ?_
  refine aZ (fun ts F=>∃k:Nat,(k≤t.kids.length∧∀j,j<k→eA t.kind (aE t.kids j).kind j=true∧bH (aE t.kids j) (m-1)=true)∧F=some ⟨4,[.agg [.sc (.int .u8 t.kind),.sc (.string t.text),.sc (.int .i64 t.num),.am 4 (bh t.kids) ro]],true,25⟩::H∧Fr (none::some (.sc (.int .i64 m))::some (.ptr 4 H.length 0 0)::none::some (.sc (.bool false))::none::none::none::some (.sc (.int .i64 k))::fg (dL (bf (bf (bf []))))) ts) (fun ts _=>t.kids.length-(aM (ts.getD 8 .top)).toNat) ?_ ?_
  ·exact ⟨0,⟨Nat.zero_le _,fun j h=>absurd h (Nat.not_lt_zero _)⟩,rfl,by simp[Fr]⟩
  clear js
  rintro ts F ⟨k,⟨hk,hp⟩,rfl,aX⟩ L2 bM
  obtain ⟨js,rfl⟩:=aX.opened
  clear aX
  have J3:Over H (some (⟨4,[.agg [.sc (.int .u8 t.kind),.sc (.string t.text),.sc (.int .i64 t.num),.am 4 (bh t.kids) ro]],true,25⟩:aP)::H):=.cons .refl
  by_cases DE:k<t.kids.length
  ·have d1:(k:Int)<t.kids.length:=by omega
   have hg:=dG DE
   have dW:=eJ DE
   have Zo:((m:Int)-1)=((m-1:Nat):Int):=by omega
   refine df (gq d1 hg @aH) ?_
   refine ⟨by omega,aL (Yt _ _ _ _) ?_⟩
   cases e1:eA t.kind (aE t.kids k).kind k
   ·refine aw ?_
    exact hY _ _ J3 (by rw[DD,wg DE (.inl e1)];rfl)
   refine aI (ak hg @aH) ?_
   refine ⟨by omega,?_⟩
   have hi:=fun H=>ih _ dW none (m-1) (by omega) (by have:=Nd.pg dW;omega) H
   rw[aQ,←Zo] at hi
   refine aL (hi _) ?_
   cases e2:bH (aE t.kids k) (m-1)
   ·refine aw ?_
    exact hY _ _ J3 (by rw[DD,wg DE (.inr e2)];rfl)
   refine aw ?_
   refine bM _ _ ⟨k+1,⟨by omega,fun j hj=>?_⟩,rfl,by simp[Fr]⟩ (by simp[aM,mk];omega)
   rcases Nat.lt_succ_iff_lt_or_eq.1 hj with h'|rfl
   ·exact hp j h'
   ·exact ⟨e1,e2⟩
  ·have d1:¬(k:Int)<t.kids.length:=by omega
   have hR:=GL DE hp
   refine df (ak d1 @aH) ?_
   refine hL _ _ ?_
   clear hL
   by_cases g7:t.kind=7
   ·have h2:=gK g7 YA
    have fx:¬k<2:=by omega
    have y5:=dG (l:=t.kids) (k:=0) (by omega)
    have rR:=hp 0 (by omega)
    rw[g7] at rR
    have h0:(0:Int)<(2:Nat):=by omega
    have g7':decide (¬t.kind=7)=false:=by simp[g7]
    by_cases g22:(aE t.kids 0).kind=22
    ·rw[g22] at y5
     refine aI (kZ g7' y5 @aH h2 h0) ?_
     exact aq J3 (by rw[DD,hR,g7];simp[wO,g22])
    ·have Pt:(aE t.kids 0).kind=26:=by
      rcases GM rR.1 with h|h
      ·exact absurd h g22
      ·exact h
     have i2:=DC Pt rR.2
     have xv:=dG (l:=(aE t.kids 0).kids) (k:=0) (by omega)
     rw[Pt] at y5
     refine aI (mN g7' y5 xv @aH h2 i2 h0) ?_
     exact aq J3 (by rw[DD,hR,g7];simp[wO,Pt])
   ·refine aI g7 ?_
    exact aq J3 (by rw[DD,hR];simp[wO,g7])
theorem AQ(t:Nd)(ro:Option (List AV))(hz:t.size≤1000000)(H:Y):D Tryz.prog 46 [dZ t ro] H (.ret (.sc (.bool (bH t 40)))) H:=by
 have hr:=fun H=>ack t ro 40 (by omega) hz H
 rw[aQ] at hr ⊢
 refine aG (Nat.le_refl _) (ahy (aA ?_))
 simp only[ac8,ux]
 refine aw ?_
 refine ae (hr _) ?_
 refine aw ?_
 exact aq (.cons .refl) rfl
theorem ZF(t:Nd):∀(p:List Int)(b:Pl),b∈bI t p→b.p.length<p.length+t.size:=by
 induction t using Nd.ind with
 |_ t ih =>
  intro p b hb
  rw[cR] at hb
  rcases List.mem_cons.1 hb with rfl|hb
  ·have:=t.size_pos;simp only;omega
  ·obtain ⟨j,u,⟨_,h2⟩,h3⟩:=eS _ _ _ _ hb
   have hu:=List.mem_of_getElem? h2
   have:=ih u hu _ b h3
   have:=Nd.pg hu
   simp at *
   omega
theorem AR{n:Nd}(hk:n.kind=1)(hR:bH n 40=true){b:Pl}(hb:b∈bI n []):(b.n.kind=1∧b.p=[])∨(b.n.kind=2∧b.p≠[]∧b.n.kids≠[])∨(b.n.kind≠2∧2≤b.p.length):=by
 rw[cR] at hb
 rcases List.mem_cons.1 hb with rfl|hb
 ·exact .inl ⟨hk,rfl⟩
 ·obtain ⟨j,f,⟨_,h2⟩,h3⟩:=eS _ _ _ _ hb
  have hf:=List.mem_of_getElem? h2
  obtain ⟨P,B,hF⟩:=rZ hk hR hf
  rcases YE hF h3 with rfl|h4
  ·exact .inr (.inl ⟨hF.kind,by simp,by rw[hF.kids];simp⟩)
  ·refine .inr (.inr ⟨h4,?_⟩)
   rcases nZ f _ b h3 with rfl|⟨j',s,e⟩
   ·exact absurd hF.kind h4
   ·rw[e];simp
theorem Mv{n:Nd}(hk:n.kind=1)(hR:bH n 40=true)(hs:n.size≤1000000):adI (bI n []):=fun k mO=>by
 have hm:au (bI n []) k∈bI n []:=by
  have:au (bI n []) k=(bI n [])[k]:=by simp[au,List.getD,mO]
  rw[this]
  exact List.getElem_mem _
 have h1:=ZF n [] _ hm
 simp at h1
 refine ⟨by omega,fun h=>?_,fun h=>?_⟩
 ·simp only[fH,Bool.or_eq_true,decide_eq_true_eq] at h
  rcases AR hk hR hm with ⟨e,_⟩|⟨e,e2,_⟩|⟨_,e⟩
  ·omega
  ·exact e2
  ·intro e2;rw[e2] at e;simp at e
 ·rcases AR hk hR hm with ⟨e,_⟩|⟨e,e2,_⟩|⟨_,e⟩<;>omega
theorem RN{x:ByteArray}{q:List Int}:∀(a:List Pl)(i:Nat)(f:Int),f<i+a.length→jW x q a i f<i+a.length
 |[],i,f,h=>by simpa [jW] using h
 |b::r,i,f,h=>by
  simp only[jW,List.length_cons] at *
  have:=RN (x:=x) (q:=q) r (i+1) (if b.n.text=x∧fH b=true∧cM b q=true then i else f) (by split<;>omega)
  omega
theorem RO{x:ByteArray}:∀(a:List Pl)(i:Nat)(f:Int),f<i+a.length→iA x a i f<i+a.length
 |[],i,f,h=>by simpa [iA] using h
 |b::r,i,f,h=>by
  simp only[iA,List.length_cons] at *
  have:=RO (x:=x) r (i+1) (if b.n.text=x∧b.n.kind=2∧f<0 then i else f) (by split<;>omega)
  omega
theorem P5{l:List Pl}{u:Pl}(h:0<l.length):bW l u<l.length:=by
 unfold bW
 split
 ·have:=RO (x:=u.n.text) l 0 (-1) (by omega);omega
 ·have:=RN (x:=u.n.text) (q:=u.p) l 0 (-1) (by omega);omega
theorem Hx{x:ByteArray}:∀(l:List Pl)(i:Nat)(f:Int),(0≤iA x l i f)→iA x l i f=f∨∃j:Nat,iA x l i f=(i+j:Nat)∧j<l.length∧(au l j).n.kind=2
 |[],i,f,h=>.inl rfl
 |b::r,i,f,h=>by
  simp only[iA] at h ⊢
  rcases Hx r (i+1) _ h with e|⟨j,e,h1,h2⟩
  ·rw[e]
   split
   ·rename_i c
    exact .inr ⟨0,by simp,by simp,by simpa [au] using c.2.1⟩
   ·exact .inl rfl
  ·exact .inr ⟨j+1,by rw[e];omega,by simpa using h1,by simpa [au] using h2⟩
theorem P6{l:List Pl}{u:Pl}(hu:u.n.kind=25){j:Nat}(h:bW l u=j):(au l j).n.kind=2:=by
 unfold bW at h
 rw[if_pos hu] at h
 rcases Hx (x:=u.n.text) l 0 (-1) (by omega) with e|⟨j',e,h1,h2⟩
 ·omega
 ·have:j=j':=by omega
  rw[this]
  exact h2
theorem Hy(n:Nd)(ro:Option (List AV))(hro:∀ok,AV.gG ok ro)(hz:n.size≤1000000)(H:Y):D Tryz.prog 54 [dZ n ro] H (.ret (Ej (fp n))) H:=by
 have lA:=fun H=>AQ n ro (by omega) H
 have dY:=fun H=>Hu n ro hro hz H
 rw[aQ] at lA dY ⊢
 refine aG (Nat.le_refl _) (ah5 (aA ?_))
 simp only[adF,ux]
 have wk:∀(a b:Int),eB H (.ret (.agg [.sc (.int .i64 a),.sc (.int .i64 b)])) (some ⟨2,[.agg [.sc (.int .i64 a),.sc (.int .i64 b)]],true,93⟩::some ⟨4,[.agg [.sc (.int .u8 n.kind),.sc (.string n.text),.sc (.int .i64 n.num),.am 4 (bh n.kids) ro]],true,25⟩::H) (.ret (.agg [.sc (.int .i64 a),.sc (.int .i64 b)])) H:=fun a b=>dD (.cons (.cons .refl)) (.same ⟨trivial,trivial,trivial⟩)
 refine Z fun L hL=>?_
 refine aw ?_
 refine hL _ _ ?_
 clear hL
 refine Z fun L hL=>?_
 by_cases hk:n.kind=1
 case neg =>
  have hc:fp n=(4,0):=by unfold fp;rw[if_neg (fun h=>hk h.1)]
  rw[hc]
  simp -implicitDefEqProofs (maxSteps:=99999999) (disch:=first|omega|(simp only[vl];first|done|omega)) only[vu,vg,hk,va,vg,vs,vw,vk,simprocAttr]
  exact wk 4 0
 rw[hk] at lA dY wk ⊢
 refine aw ?_
 refine ae (lA _) ?_
 cases hR:bH n 40 with
 |false =>
  have hc:fp n=(4,0):=by unfold fp;rw[if_neg (fun h=>by rw[hR] at h;simp at h)]
  rw[hc]
  refine aw ?_
  exact wk 4 0
 |true =>
 have hc:fp n=jF (bI n []):=by unfold fp;rw[if_pos ⟨hk,hR⟩]
 have hok:=Mv hk hR hz
 have ef:(bI n []).length≤1000000:=by rw[eL];exact hz
 have oh:0<(bI n []).length:=by rw[eL];exact n.size_pos
 have RP:∀k,k<(bI n []).length→((au (bI n []) k).n.kind=1∧(au (bI n []) k).p=[])∨((au (bI n []) k).n.kind=2∧(au (bI n []) k).p≠[]∧(au (bI n []) k).n.kids≠[])∨((au (bI n []) k).n.kind≠2∧2≤(au (bI n []) k).p.length):=fun k mO=>by
  refine AR hk hR ?_
  have:au (bI n []) k=(bI n [])[k]:=by simp[au,List.getD,mO]
  rw[this]
  exact List.getElem_mem _
 generalize bI n []=l at *
 refine aw ?_
 refine hL _ _ ?_
 clear hL
 refine Z fun L hL=>?_
 refine aw ?_
 refine ae (dY _) ?_
 have hlen:(l.map fq).length=l.length:=by simp
 refine aw ?_
 refine hL _ _ ?_
 clear hL
 refine Z fun L hL=>?_
 refine Z fun L hL=>?_
 refine aw ?_
 refine hL _ _ ?_
 clear hL
 have Jb:∀k,(au l k).n.kind=2→eD l k=if dm l k=true then some (110,k) else none:=fun k h=>by
  unfold eD
  by_cases c:dm l k=true
  ·rw[if_pos ⟨h,c⟩,if_pos c]
  ·rw[if_neg (fun h2=>c h2.2),if_neg c]
 have hgn:∀k,¬(au l k).n.kind=2→eD l k=none:=fun k h=>by
  unfold eD
  rw[if_neg (fun h2=>h h2.1)]
 generalize gT:(some ⟨2,[AV.agg [.sc (.int .i64 0),.sc (.int .i64 0)]],true,93⟩:Option aP)::some ⟨4,[AV.agg [.sc (.int .u8 1),.sc (.string n.text),.sc (.int .i64 n.num),.am 4 (bh n.kids) ro]],true,25⟩::H=F0
 have jH:∀x,Y.set F0 (H.length+1) x=x::some ⟨4,[AV.agg [.sc (.int .u8 1),.sc (.string n.text),.sc (.int .i64 n.num),.am 4 (bh n.kids) ro]],true,25⟩::H:=fun x=>by rw[←gT];exact yQ (by simp)
 have kY:Y.find F0 (H.length+1)=some ⟨2,[AV.agg [.sc (.int .i64 0),.sc (.int .i64 0)]],true,93⟩:=by rw[←gT];exact aJ (by simp)
 clear gT
 refine aZ (fun ts F=>F=F0∧∃k:Nat,(k≤l.length∧∀j,j<k→eD l j=none)∧Fr (none::none::some (.ptr 2 (H.length+1) 0 0)::some (.am 5 (l.map fq) none)::some (.sc (.int .i64 k))::none::bf (bf (bf []))) ts) (fun ts _=>l.length-(aM (ts.getD 4 .top)).toNat) ?_ ?_
 ·exact ⟨rfl,0,⟨Nat.zero_le _,fun j hj=>absurd hj (Nat.not_lt_zero _)⟩,by simp[Fr]⟩
 ·rintro ts F ⟨Ek,k,⟨mO,hp⟩,aX⟩ L2 bM
  rw[Ek]
  obtain ⟨js,rfl⟩:=aX.opened
  clear aX
  by_cases hd:k<l.length
  ·have d1:(k:Int)<l.length:=by omega
   have hg:=mD hd
   have fin:eD l k=none→∀ts',Fr (none::none::some (.ptr 2 (H.length+1) 0 0)::some (.am 5 (l.map fq) none)::some (.sc (.int .i64 ((k+1:Nat):Int)))::none::bf (bf (bf []))) ts'→l.length-(aM (ts'.getD 4 .top)).toNat<l.length-k→L2 ts' F0:=fun hn ts' h1 h2=>bM _ _ ⟨rfl,k+1,⟨by omega,fun j hj=>by
    rcases Nat.lt_succ_iff_lt_or_eq.1 hj with h'|rfl
    ·exact hp j h'
    ·exact hn⟩,h1⟩ (by simpa [aM,mk] using h2)
   by_cases c2:(au l k).n.kind=2
   ·have vo:=fun H=>L6 l none ef (fun k hk=>(hok k hk).1) k hd (by
     rcases RP k hd with ⟨e,_⟩|⟨_,e,_⟩|⟨e,_⟩
     ·omega
     ·exact e
     ·exact absurd c2 e) H
    have RQ:=Jb k c2
    refine fB (ei d1 hg hlen c2) ?_
    refine ⟨by omega,ae (vo _) ?_⟩
    cases ht:dm l k with
    |true =>
     rw[ht,if_pos rfl] at RQ
     have iG:jF l=(110,k):=by
      unfold jF
      rw[mA l.length 0 k (Nat.zero_le _) (by omega) RQ fun j _ hj=>hp j hj]
     refine aI (ak kY jH) ?_
     rw[hc,iG]
     exact wk 110 k
    |false =>
     rw[ht,if_neg (by simp)] at RQ
     refine aw ?_
     exact fin RQ _ (by simp[Fr]) (by simp[aM,mk];omega)
   ·refine fB (ei d1 hg hlen c2) ?_
    exact ⟨by omega,fin (hgn k c2) _ (by simp[Fr]) (by simp[aM,mk];omega)⟩
  ·have d1:¬(k:Int)<l.length:=by omega
   have hkk:k=l.length:=by omega
   subst hkk
   have hfF:ph (eD l) l.length 0=none:=mz l.length 0 fun m _ hm=>hp m (by omega)
   refine fB (ak d1 hlen) ?_
   clear bM
   refine hL _ _ ?_
   clear hL
   refine Z fun L hL=>?_
   refine Z fun L hL=>?_
   refine aw ?_
   refine hL _ _ ?_
   clear hL
   refine aZ (fun ts F=>F=F0∧∃k:Nat,(k≤l.length∧∀j,j<k→cN l j=none)∧Fr (none::none::some (.ptr 2 (H.length+1) 0 0)::some (.am 5 (l.map fq) none)::none::some (.sc (.int .i64 k))::bf (bf (bf []))) ts) (fun ts _=>l.length-(aM (ts.getD 5 .top)).toNat) ?_ ?_
   ·exact ⟨rfl,0,⟨Nat.zero_le _,fun j hj=>absurd hj (Nat.not_lt_zero _)⟩,by simp[Fr]⟩
   rintro ts F ⟨Ek,k,⟨mO,hp⟩,aX⟩ L2 bM
   rw[Ek]
   obtain ⟨js,rfl⟩:=aX.opened
   clear aX
   by_cases hd:k<l.length
   ·have d1:(k:Int)<l.length:=by omega
    have hg:=mD hd
    have fin:cN l k=none→∀ts',Fr (none::none::some (.ptr 2 (H.length+1) 0 0)::some (.am 5 (l.map fq) none)::none::some (.sc (.int .i64 ((k+1:Nat):Int)))::bf (bf (bf []))) ts'→l.length-(aM (ts'.getD 5 .top)).toNat<l.length-k→L2 ts' F0:=fun hn ts' h1 h2=>bM _ _ ⟨rfl,k+1,⟨by omega,fun j hj=>by
     rcases Nat.lt_succ_iff_lt_or_eq.1 hj with h'|rfl
     ·exact hp j h'
     ·exact hn⟩,h1⟩ (by simpa [aM,mk] using h2)
    have bad:∀e,cN l k=some e→jF l=e:=fun e h=>by
     unfold jF
     rw[hfF]
     simp only
     rw[mA l.length 0 k (Nat.zero_le _) (by omega) h fun j _ hj=>hp j hj]
    by_cases cB:fH (au l k)=true
    ·have vo:=fun H=>L6 l none ef (fun k hk=>(hok k hk).1) k hd ((hok k hd).2.1 cB) H
     have hU:gj (au l k)=false:=by
      simp only[fH,Bool.or_eq_true,decide_eq_true_eq] at cB
      rcases cB with e|e<;>simp[gj,e]
     have hst:cN l k=if dm l k=true then some (110,k) else none:=by
      unfold cN
      by_cases c:dm l k=true
      ·rw[if_pos ⟨cB,c⟩,if_pos c]
      ·rw[if_neg (fun h=>c h.2),if_pos hU,if_neg c]
     simp only[fH,Bool.or_eq_true,decide_eq_true_eq] at cB
     rcases cB with c4|c4
     ·refine fB (ei d1 hg hlen c4) ?_
      refine ⟨by omega,ae (vo _) ?_⟩
      cases ht:dm l k with
      |true =>
       rw[ht,if_pos rfl] at hst
       refine aI (ak kY jH) ?_
       rw[hc,bad _ hst]
       exact wk 110 k
      |false =>
       rw[ht,if_neg (by simp)] at hst
       refine aw ?_
       exact fin hst _ (by simp[Fr]) (by simp[aM,mk];omega)
     ·refine fB (ei d1 hg hlen c4) ?_
      refine ⟨by omega,ae (vo _) ?_⟩
      cases ht:dm l k with
      |true =>
       rw[ht,if_pos rfl] at hst
       refine aI (ak kY jH) ?_
       rw[hc,bad _ hst]
       exact wk 110 k
      |false =>
       rw[ht,if_neg (by simp)] at hst
       refine aw ?_
       exact fin hst _ (by simp[Fr]) (by simp[aM,mk];omega)
    ·have qX:cN l k=if gj (au l k)=false then none else if bW l (au l k)<0 then some (111,k) else if (au l k).n.kind=25∧¬(aE (au l (bW l (au l k)).toNat).n.kids 0).kids.length=(au l k).n.kids.length then some (112,k) else none:=by
      unfold cN
      rw[if_neg (fun h=>cB h.1)]
     have cB':fH (au l k)=false:=by simpa using cB
     simp only[fH,Bool.or_eq_false_iff,decide_eq_false_iff_not] at cB'
     obtain ⟨c4,c6⟩:=cB'
     have wA:=fun H=>Hj l none ef hok k hd H
     by_cases cU:gj (au l k)=true
     ·rw[if_neg (by rw[cU];simp)] at qX
      by_cases cs:bW l (au l k)<0
      ·rw[if_pos cs] at qX
       simp only[gj,Bool.or_eq_true,decide_eq_true_eq] at cU
       rcases cU with qH|qH
       all_goals
        refine fB (ei d1 hg hlen qH) ?_
        refine ⟨by omega,ae (wA _) ?_⟩
        refine aI (gq kY jH cs) ?_
        rw[hc,bad _ qX]
        exact wk 111 k
      ·rw[if_neg cs] at qX
       obtain ⟨s,hs⟩:∃s:Nat,bW l (au l k)=s:=⟨(bW l (au l k)).toNat,by omega⟩
       have pR:s<l.length:=by have:=P5 (u:=au l k) oh;omega
       have mG:=mD pR
       rw[hs] at qX wA cs
       simp only[gj,Bool.or_eq_true,decide_eq_true_eq] at cU
       rcases cU with qH|qG
       ·rw[if_neg (fun h=>by omega)] at qX
        refine fB (ei d1 hg hlen qH) ?_
        refine ⟨by omega,ae (wA _) ?_⟩
        refine aI (gq kY jH cs) ?_
        exact fin qX _ (by simp[Fr]) (by simp[aM,mk];omega)
       ·have NV:=P6 qG hs
        have aik:(au l s).n.kids≠[]:=by
         rcases RP s pR with ⟨e,_⟩|⟨_,_,e⟩|⟨e,_⟩
         ·omega
         ·exact e
         ·exact absurd NV e
        have cE:0<(au l s).n.kids.length:=List.length_pos_iff.2 aik
        have y5:=dG cE
        have i2:(s:Int)<l.length:=by omega
        rw[show ((s:Nat):Int).toNat=s by omega] at qX
        by_cases ce:(aE (au l s).n.kids 0).kids.length=(au l k).n.kids.length
        ·rw[if_neg (fun h=>h.2 ce)] at qX
         have ce':((aE (au l s).n.kids 0).kids.length:Int)=(au l k).n.kids.length:=by omega
         refine fB (ei d1 hg hlen qG) ?_
         refine ⟨by omega,ae (wA _) ?_⟩
         refine aI (yS kY jH cs mG y5 hg hlen @aH ce' i2 qG) ?_
         exact ⟨by omega,by omega,⟨by omega,by omega⟩,fin qX _ (by simp[Fr]) (by simp[aM,mk];omega)⟩
        ·rw[if_pos ⟨qG,ce⟩] at qX
         have ce':¬((aE (au l s).n.kids 0).kids.length:Int)=(au l k).n.kids.length:=by omega
         refine fB (ei d1 hg hlen qG) ?_
         refine ⟨by omega,ae (wA _) ?_⟩
         refine aI (yS kY jH cs mG y5 hg hlen @aH ce' i2 qG) ?_
         rw[hc,bad _ qX]
         exact ⟨by omega,by omega,⟨by omega,by omega⟩,wk 112 k⟩
     ·have UL:gj (au l k)=false:=by simpa using cU
      rw[if_pos UL] at qX
      simp only[gj,Bool.or_eq_false_iff,decide_eq_false_iff_not] at UL
      obtain ⟨qH,qG⟩:=UL
      refine fB (mN d1 hg hlen c4 c6 qH qG) ?_
      exact ⟨by omega,fin qX _ (by simp[Fr]) (by simp[aM,mk];omega)⟩
   ·have d1:¬(k:Int)<l.length:=by omega
    have hkk:k=l.length:=by omega
    subst hkk
    have iG:jF l=(0,0):=by
     unfold jF
     rw[hfF,mz l.length 0 fun m _ hm=>hp m (by omega)]
    refine fB (ak d1 hlen) ?_
    clear bM
    refine hL _ _ ?_
    clear hL
    refine aI (ak kY jH) ?_
    rw[hc,iG]
    exact wk 0 0
def B2(U:List Nat)(ws:WS)(j:Nat):AV:=.agg [.am 1 (aK (bq ws.bs j).path) none,.sc (.string (bq ws.bs j).name),aW 1 (bc (bq ws.bs j).cZ) (U.getD j 0)]
def gB(b:kz):AV:=.agg [.am 1 (aK b.1) none,.sc (.string b.2.1),.am 1 (bc b.2.2) none]
theorem Mw{F:Y}{n:Nat}{src:List Nat}:∀{l:List (List Int)},dt F n src (bc l) (bc l)
 |[]=>.nil
 |p::l=>.cons (.am sj) Mw
theorem Mx{wid cf bB n0:Nat}{B U:List Nat}{ws:WS}{F G:Y}(hB:BS wid cf bB B U ws F)(hk:∀id,id<F.length→Y.find G id=Y.find F id)(hlo:∀id,id<n0→∀b,Y.find F id=some b→tw b):∀{l:List Nat},(∀j∈l,j<ws.bs.length)→dt G n0 [] (l.map (B2 U ws)) (l.map fun j=>gB ((bq ws.bs j).path,(bq ws.bs j).name,(bq ws.bs j).cZ))
 |[],_=>.nil
 |j::l,h=>by
  have hu0:bc (bq ws.bs j).cZ≠[]→Y.find F (U.getD j 0)=some ⟨1,bc (bq ws.bs j).cZ,false,30⟩:=fun e=>hB.us j (h j (by simp)) fun e2=>e (by rw[e2];rfl)
  refine .cons (.agg (.cons (.am sj) (.cons (.same trivial) (.cons (qa (ty:=30) (fun e=>?_) (fun e=>?_) Mw) .nil)))) (Mx hB hk hlo fun i hi=>h i (by simp[hi]))
  ·unfold cP
   rw[if_neg fun c=>?_]
   ·simp
   ·have:=(hlo _ c _ (hu0 e)).2.2.2 rfl
    simp at this
  ·rw[hk _ (Y.ax (hu0 e)),hu0 e,bj e]
theorem UM{n:Nd}{ws:WS}(h:k8 n = .ok ws):ws.all.length≤n.kids.length+n.size:=by
 unfold k8 at h
 cases hq:gE n.kids 0 [] ⟨[],[],0⟩ 1 with
 |error e=>rw[hq] at h;cases h
 |ok q =>
  rw[hq] at h
  simp only at h
  cases hr:bR q.1 n [[]] { q.2 with all:=[] } [] with
  |error e=>rw[hr] at h;cases h
  |ok r =>
   rw[hr] at h
   cases h
   have h1:SZ q.2 (0+n.kids.length):=Mo (ws:=⟨[],[],0⟩) ⟨Nat.le_refl _,fun j=>by simp[bq,Bd.none,List.getD]⟩ hq
   have h2:SZ { q.2 with all:=[] } n.kids.length:=⟨Nat.zero_le _,fun j=>Nat.le_trans (h1.2 j) (by omega)⟩
   exact (Mc n _ _ _ r _ h2 hr).1
theorem Jc{H F:Y}{x y:AV}(h:∀id b,Y.find H id=some b→Y.find F id=some b)(hz:Gz F H.length [] x y):eB H (.ret x) F (.ret y) H :=
 kw [] (by simp) (by simp) (by simp) (fun id k hid hk=>.inl ⟨hk,h id k hk⟩) (fun i s k hs=>by simp at hs) hz
theorem xH(n:Nd)(hw:n.wt≤500000)(hs:n.size≤500000)(ro:Option (List AV))(hv:∀H,View H (dZ n ro) (eu n))(H:Y)(AU:∀id,id<H.length→∃b,Y.find H id=some b∧tw b):D Tryz.prog 23 [dZ n ro] H (.ret (.am 3 ((bQ n).map gB) none)) H:=by
 have ki:=fun H=>Mu n hw hs (hv H)
 have lN:=fun (hk:n.kind=1)(hR:bH n 40=true) H=>RI n (fun f hf=>by
    obtain ⟨P,B,h⟩:=rZ hk hR hf
    rw[h.kids];simp) (fun q hq=>Hv hk hR hq) hk hs (by omega) ro H
 simp only[aQ] at lN ki
 unfold Ej at ki
 refine aG (Nat.le_refl _) (aia (aA ?_))
 rw[aQ]
 simp only[adL,ux]
 refine Z fun L hL=>?_
 refine aw ?_
 refine hL _ _ ?_
 clear hL
 refine Z fun L hL=>?_
 refine aw ?_
 refine ae (ki _) ?_
 by_cases hc:(jb n).1=0
 ·refine aI hc ?_
  refine hL _ _ ?_
  clear hL
  refine Z fun L hL=>?_
  refine aw ?_
  refine hL _ _ ?_
  clear hL
  refine Z fun L hL=>?_
  refine aw ?_
  by_cases c:n.kind=1∧bH n 40=true
  case neg =>
   unfold jb at hc
   rw[if_neg c] at hc
   simp at hc
  have yJ:=AA c.1 c.2
  refine jt (lN c.1 c.2 _) fun e H' hle jB=>?_
  unfold AO at jB
  obtain ⟨hK,jB⟩:=jB
  cases hl:k8 n with
  |error f =>
   rw[hl] at yJ
   unfold jb at hc
   rw[if_pos c,hl] at hc
   exact absurd hc yJ.2
  |ok ws =>
   rw[hl] at jB
   obtain ⟨wid,cf,bB,B,U,rfl,hB⟩:=jB
   have oc:bQ n=ws.all.map fun j=>((bq ws.bs j).path,(bq ws.bs j).name,(bq ws.bs j).cZ):=by
    unfold bQ
    rw[if_pos hc,hl]
   simp only[cH.post]
   refine aw ?_
   refine hL _ _ ?_
   clear hL
   refine Z fun L hL=>?_
   refine Z fun L hL=>?_
   refine aI (ak @Dq @Bs) ?_
   refine hL _ _ ?_
   clear hL
   refine aZ (fun ts F=>∃(k io:Nat),k≤ws.all.length∧((∀id,id<H'.length→Y.find F id=Y.find H' id)∧H'.length≤F.length∧((ws.all.take k).map (B2 U ws)≠[]→Y.find F io=bS 3 47 ((ws.all.take k).map (B2 U ws))∧H'.length≤io))∧
    Fr (none::none::none::some (aW 3 ((ws.all.take k).map (B2 U ws)) io)::none::fg (iv (some (aW 1 (ws.all.map (bp B)) bB)::some (.sc (.int .i64 ws.all.length))::some (.sc (.int .i64 k))::fg (iv [])))) ts) (fun ts _=>ws.all.length-(aM (ts.getD 19 .top)).toNat) ?_ ?_
   ·exact ⟨0,0,Nat.zero_le _,⟨fun id hid=>ai hid,by simp only[List.length_cons];omega,fun e=>absurd rfl e⟩,by simp[Fr,aW]⟩
   rintro ts F ⟨k,io,hk,⟨h1,h2,h3⟩,aX⟩ L2 bM
   obtain ⟨js,rfl⟩:=aX.opened
   clear aX
   have P7:=hB.same h1
   have mb:=UM hl
   have mO:=Nd.fZ n.kids
   have zY:=n.size_eq
   by_cases hd:k<ws.all.length
   ·have d1:(k:Int)<ws.all.length:=by omega
    have hne:ws.all≠[]:=fun e=>by rw[e] at hd;simp at hd
    obtain ⟨j,hj⟩:∃j,ws.all[k]? = some j:=⟨ws.all[k],by simp[hd]⟩
    have hjm:j∈ws.all:=List.mem_of_getElem? hj
    have hV:aW 1 (ws.all.map (bp B)) bB = .aD 1 bB 0 ws.all.length none:=by rw[jj (by simpa using hne)];simp
    have hal:=P7.al hne
    have hg:(ws.all.map (bp B)).getD k .top = .ptr 4 (B.getD j 0) 0 0:=by simp[List.getD,hj,bp]
    have hbd:=P7.bd j (hB.ao j hjm)
    unfold jm at hbd
    have htk:(ws.all.take (k+1)).map (B2 U ws)=(ws.all.take k).map (B2 U ws)++[B2 U ws j]:=by
     rw[List.take_add_one,hj];simp
    obtain ⟨PI,F',p1,p2,p3,p4,p5,p6⟩:=tt (H:=F) (k:=3) (ty:=47) (xs:=(ws.all.take k).map (B2 U ws)) (ys:=[B2 U ws j]) (id:=io) (fun e=>(h3 e).1) (by simp only[List.length_map,List.length_take,List.length_cons,List.length_nil];omega)
    have ZG:(ws.all.take k).map (B2 U ws)++[B2 U ws j]≠[]:=by simp
    obtain ⟨vD,L8⟩:=p4 ZG
    have e3:B2 U ws j = .agg [.am 1 (aK (bq ws.bs j).path) none,.sc (.string (bq ws.bs j).name),aW 1 (bc (bq ws.bs j).cZ) (U.getD j 0)]:=rfl
    have p1':=p1
    have p2':=p2
    have p3':=p3
    rw[e3] at p1' p2' p3'
    have hwr:IntKind.i64.wrap ((k:Int)+1)=(k:Int)+1:=by simpa using wrap_i64 (by omega) (by omega)
    have hlen:(ws.all.map (bp B)).length=ws.all.length:=by simp
    refine fB (yS hV d1 hal hg hbd p1' p2' p3' hlen hd hwr) ?_
    refine ⟨by omega,bM _ _ ⟨k+1,PI,by omega,⟨fun id hid=>?_,by omega,fun _=>?_⟩,?_⟩ (by simp[aM,mk];omega)⟩
    ·rw[p6 id (by omega) (fun e=>by have:=(h3 e).2;omega),h1 id hid]
    ·rw[htk]
     exact ⟨vD,by omega⟩
    ·rw[htk,hV,e3]
     simp[Fr]
   ·have d1:¬(k:Int)<ws.all.length:=by omega
    have FD:ws.all.take k=ws.all:=List.take_of_length_le (by omega)
    rw[FD] at h3 ⊢
    refine fB d1 ?_
    clear bM
    refine hL _ _ ?_
    clear hL
    refine aw ?_
    rw[oc,List.map_map]
    refine Jc (fun id b hb=>?_) (qa (ty:=47) (fun e=>?_) (fun e=>(h3 e).1) (Mx hB h1 (fun id c b hb=>?_) fun j hj=>hB.ao j hj))
    ·have hid:=Y.ax hb
     rw[h1 id (by have:=hK.1;simp only[List.length_cons] at this;omega)]
     obtain ⟨b',e1,e2⟩:=AU id hid
     rw[hb] at e1
     cases e1
     exact hK.2 id b (by rw[ai hid];exact hb) (.inl e2)
    ·unfold cP
     rw[if_neg (by have:=(h3 e).2;have:=hK.1;simp only[List.length_cons] at this;omega)]
     simp
    ·obtain ⟨b',e1,e2⟩:=AU id c
     have:=hK.2 id b' (by rw[ai c];exact e1) (.inl e2)
     rw[hb] at this
     cases this
     exact e2
 ·have hb:bQ n=[]:=by unfold bQ;rw[if_neg hc]
  rw[hb]
  refine aI hc ?_
  exact dD (.cons .refl) .nil
theorem My{l:List Pl}{k i:Nat}(h:k<l.length):e8 l (l.take (k+1)) i=e8 l (l.take k) i++if gj (au l k)=true∧bW l (au l k)=(i:Int) then [(au l k).p] else []:=by
 rw[List.take_add_one,List.getElem?_eq_getElem h]
 have:au l k=l[k]:=by simp[au,List.getD,h]
 rw[this]
 exact vm l (l.take k) l[k] i
inductive lH(F:Y)(lo:Nat):List AV→List (List Int)→Prop where
 | nil:lH F lo [] []
 | snoc {vs:List AV}{ps:List (List Int)}{v:AV}{p:List Int}:lH F lo vs ps→oI F lo p v→lH F lo (vs++[v]) (ps++[p])
theorem lH.keep{F G:Y}{lo:Nat}{vs:List AV}{ps:List (List Int)}(h:lH F lo vs ps)(k:∀id p,Y.find F id=some ⟨1,aK p,false,3⟩→Y.find G id=some ⟨1,aK p,false,3⟩):lH G lo vs ps:=by
 induction h with
 |nil=>exact .nil
 |snoc h hv ih=>exact .snoc ih (hv.keep fun id h=>k id _ h)
theorem lH.len{F:Y}{lo:Nat}{vs:List AV}{ps:List (List Int)}(h:lH F lo vs ps):vs.length=ps.length:=by
 induction h with
 |nil=>rfl
 |snoc h hv ih=>simp[ih]
theorem lH.gz{F:Y}{lo:Nat}{vs:List AV}{ps:List (List Int)}(h:lH F lo vs ps):dt F lo [] vs (bc ps):=by
 induction h with
 |nil=>exact .nil
 |snoc h hv ih=>rw[qp];exact zA ih (.cons (hv.gz fun _ _=>by simp) .nil)
inductive oJ(F:Y)(lo hi:Nat):List AV→List kz→Prop where
 | nil:oJ F lo hi [] []
 | snoc {vs:List AV}{bs:List kz}{pv:AV}{us:List AV}{p:List Int}{s:ByteArray}{ps:List (List Int)}{iu:Nat}:oJ F lo hi vs bs→oI F lo p pv→lH F lo us ps→(us≠[]→Y.find F iu=bS 1 30 us∧lo≤iu∧iu<hi)→oJ F lo hi (vs++[.agg [pv,.sc (.string s),aW 1 us iu]]) (bs++[(p,s,ps)])
theorem oJ.keep{F G:Y}{lo hi hi':Nat}{vs:List AV}{bs:List kz}(h:oJ F lo hi vs bs)(hh:hi≤hi')(k:∀id b,Y.find F id=some b→b.k=1→b.exact=false→lo≤id→id<hi→Y.find G id=some b)(kp:∀id p,Y.find F id=some ⟨1,aK p,false,3⟩→Y.find G id=some ⟨1,aK p,false,3⟩):oJ G lo hi' vs bs:=by
 induction h with
 |nil=>exact .nil
 |snoc h h1 h2 h3 ih =>
  refine .snoc ih (h1.keep fun id h=>kp id _ h) (h2.keep kp) fun e=>?_
  obtain ⟨g1,g2,g3⟩:=h3 e
  rw[bj e] at g1 ⊢
  exact ⟨k _ _ g1 rfl rfl g2 g3,g2,by omega⟩
theorem oJ.len{F:Y}{lo hi:Nat}{vs:List AV}{bs:List kz}(h:oJ F lo hi vs bs):vs.length=bs.length:=by
 induction h with
 |nil=>rfl
 |snoc h _ _ _ ih=>simp[ih]
theorem oJ.gz{F:Y}{lo hi:Nat}{vs:List AV}{bs:List kz}(h:oJ F lo hi vs bs):dt F lo [] vs (bs.map gB):=by
 induction h with
 |nil=>exact .nil
 |snoc h h1 h2 h3 ih =>
  rename_i vs bs pv us p s ps iu
  rw[List.map_append]
  refine zA ih (.cons (.agg (.cons (h1.gz fun _ _=>by simp) (.cons (.same trivial) (.cons ?_ .nil)))) .nil)
  have hn:∀e:us≠[],cP lo [] iu=none:=fun e=>by
   unfold cP
   rw[if_neg (by have:=(h3 e).2;omega)]
   simp
  exact qa (ty:=30) hn (fun e=>(h3 e).1) h2.gz
def vH(l:List Pl)(k:Nat):List kz:=((List.range k).filter fun i=>ga (au l i)).map fun i=>((au l i).p,(au l i).n.text,e8 l l i)
theorem Mz(l:List Pl)(k:Nat):vH l (k+1)=vH l k++if ga (au l k)=true then [((au l k).p,(au l k).n.text,e8 l l k)] else []:=by
 unfold vH
 rw[List.range_succ,List.filter_append,List.map_append]
 congr 1
 by_cases c:ga (au l k)=true
 ·simp[c]
 ·simp[c]
theorem P8(l:List Pl)(k:Nat):(vH l k).length≤k:=by
 unfold vH
 rw[List.length_map]
 exact Nat.le_trans (List.length_filter_le _ _) (by simp)
theorem P9(l:List Pl)(u k:Nat):(e8 l (l.take u) k).length≤l.length:=by
 unfold e8
 rw[List.length_map]
 exact Nat.le_trans (List.length_filter_le _ _) (by simp;omega)
theorem vI(n:Nd)(ro:Option (List AV))(hro:∀ok,AV.gG ok ro)(hz:n.size≤1000000)(H:Y):D Tryz.prog 21 [dZ n ro] H (.ret (.am 3 ((eC n).map gB) none)) H:=by
 have ki:=fun H=>Hy n ro hro hz H
 have dY:=fun H=>Hu n ro hro hz H
 rw[aQ] at ki dY ⊢
 unfold Ej at ki
 refine aG (Nat.le_refl _) (ah4 (aA ?_))
 simp only[adE,ux]
 refine Z fun L hL=>?_
 refine aw ?_
 refine hL _ _ ?_
 clear hL
 refine Z fun L hL=>?_
 refine aw ?_
 refine ae (ki _) ?_
 refine aw ?_
 refine hL _ _ ?_
 clear hL
 refine Z fun L hL=>?_
 by_cases hc0:(fp n).1=0
 case neg =>
  have hb:eC n=[]:=by unfold eC;rw[if_neg hc0]
  rw[hb]
  refine aI hc0 ?_
  exact dD (.cons (.cons .refl)) .nil
 have hkR:n.kind=1∧bH n 40=true:=by
  by_cases c:n.kind=1∧bH n 40=true
  ·exact c
  ·unfold fp at hc0
   rw[if_neg c] at hc0
   simp at hc0
 have hb:eC n=((List.range (bI n []).length).filter fun i=>ga (au (bI n []) i)).map fun i=>((au (bI n []) i).p,(au (bI n []) i).n.text,e8 (bI n []) (bI n []) i):=by unfold eC;rw[if_pos hc0]
 have hok:=Mv hkR.1 hkR.2 hz
 have ef:(bI n []).length≤1000000:=by rw[eL];exact hz
 refine aI hc0 ?_
 refine hL _ _ ?_
 clear hL
 refine Z fun L hL=>?_
 refine aw ?_
 refine hL _ _ ?_
 clear hL
 refine Z fun L hL=>?_
 refine aw ?_
 refine ae (dY _) ?_
 have hlen:((bI n []).map fq).length=(bI n []).length:=by simp
 refine aw ?_
 refine hL _ _ ?_
 clear hL
 refine Z fun L hL=>?_
 refine Z fun L hL=>?_
 refine aw ?_
 refine hL _ _ ?_
 clear hL
 generalize hl:bI n []=l at *
 have hb':eC n=vH l l.length:=hb
 clear hl hb
 have hH1:∀i,i<H.length→Y.find (some ⟨2,[AV.agg [.sc (.int .i64 0),.sc (.int .i64 (fp n).2)]],true,93⟩::some ⟨4,[AV.agg [.sc (.int .u8 n.kind),.sc (.string n.text),.sc (.int .i64 n.num),.am 4 (bh n.kids) ro]],true,25⟩::H) i=Y.find H i:=fun i hi=>by
  rw[ai (by simp;omega),ai hi]
 refine aZ (fun ts F=>∃(k io:Nat)(xs:List AV),(k≤l.length∧oJ F H.length F.length xs (vH l k)∧(xs≠[]→Y.find F io=bS 3 47 xs∧H.length≤io))∧((∀i,i<H.length→Y.find F i=Y.find H i)∧H.length≤F.length)∧
  Fr (fg (some (aW 3 xs io)::some (.am 5 (l.map fq) none)::some (.sc (.int .i64 k))::fg (iv (dL (bf (bf [])))))) ts) (fun ts _=>l.length-(aM (ts.getD 6 .top)).toNat) ?_ ?_
 ·exact ⟨0,0,[],⟨Nat.zero_le _,.nil,fun e=>absurd rfl e⟩,⟨hH1,by simp;omega⟩,by simp[Fr,aW]⟩
 rintro ts F ⟨k,io,xs,⟨hk,xE,UN⟩,⟨hold,qj⟩,aX⟩ L2 bM
 obtain ⟨js,rfl⟩:=aX.opened
 clear aX
 by_cases hd:k<l.length
 case neg =>
  have d1:¬(k:Int)<l.length:=by omega
  have hkk:k=l.length:=by omega
  subst hkk
  refine fB (ak d1 hlen) ?_
  clear bM
  refine hL _ _ ?_
  clear hL
  refine aw ?_
  rw[hb']
  refine px hold (qa (ty:=47) (fun e=>?_) (fun e=>(UN e).1) xE.gz)
  unfold cP
  rw[if_neg (by have:=(UN e).2;omega)]
  simp
 have d1:(k:Int)<l.length:=by omega
 have hg:=mD hd
 have hbk:=Mz l k
 by_cases cD:ga (au l k)=true
 case neg =>
  rw[if_neg cD,List.append_nil] at hbk
  have cD':ga (au l k)=false:=by simpa using cD
  simp only[ga,Bool.or_eq_false_iff,decide_eq_false_iff_not] at cD'
  obtain ⟨c2,c4,c6⟩:=cD'
  refine fB (yR d1 hg hlen c2 c4 c6) ?_
  exact ⟨by omega,bM _ _ ⟨k+1,io,xs,⟨by omega,by rw[hbk];exact xE,UN⟩,⟨hold,qj⟩,by simp[Fr]⟩ (by simp[aM,mk];omega)⟩
 rw[if_pos cD] at hbk
 have hvl:=xE.len
 have ir:=P8 l k
 obtain ⟨pv,F1,Mh,fe,nT,q1,q2,q3,q4,q5,q6,q7⟩:=Ja (some ⟨3,[.agg [.am 0 [] (some []),.sc (.string ⟨#[]⟩),.am 0 [] (some [])]],true,47⟩::F) H.length (au l k).p (by simp;omega) ((hok k hd).1)
 have hbx:Y.find F1 F.length=some ⟨3,[.agg [.am 0 [] (some []),.sc (.string ⟨#[]⟩),.am 0 [] (some [])]],true,47⟩:=by rw[nT _ (by simp)];exact aJ rfl
 have hiD:(au l k).n.kind=2∨(au l k).n.kind=4∨(au l k).n.kind=6:=by
  simpa only[ga,Bool.or_eq_true,decide_eq_true_eq] using cD
 simp only[List.length_cons] at fe nT
 rcases hiD with c2|c2|c2
 all_goals
  refine fB (yT d1 hg hlen c2 q1 q2 q3 q4 q5 q6 q7 hbx) ?_
 all_goals
  refine ⟨by omega,by omega,by omega,?_⟩
  have i1:∀e:xs≠[],io<F.length:=fun e=>by have:=(UN e).1;rw[bj e] at this;exact Y.ax this
  have gK:∀i,i<F.length→∀x,Y.find (Y.set F1 F.length x) i=Y.find F i:=fun i hi x=>by
   rw[Y.aj (by omega),nT i (by omega),ai hi]
  refine aZ (fun ts G=>∃(u iu:Nat)(us:List AV),(u≤l.length∧lH G H.length us (e8 l (l.take u) k)∧(us≠[]→Y.find G iu=bS 1 30 us∧F.length<iu)∧Y.find G F.length=some ⟨3,[.agg [pv,.sc (.string (au l k).n.text),aW 1 us iu]],true,47⟩)∧
   (oI G H.length (au l k).p pv∧oJ G H.length F.length xs (vH l k)∧(xs≠[]→Y.find G io=bS 3 47 xs)∧(∀i,i<H.length→Y.find G i=Y.find H i)∧F.length<G.length)∧
   Fr (fg (some (aW 3 xs io)::some (.am 5 (l.map fq) none)::some (.sc (.int .i64 k))::none::some (.ptr 3 F.length 0 0)::some (.sc (.int .i64 u))::none::iv (dL (bf (bf []))))) ts) (fun ts _=>l.length-(aM (ts.getD 9 .top)).toNat) ?_ ?_
  ·refine ⟨0,0,[],⟨Nat.zero_le _,.nil,fun e=>absurd rfl e,Y.aC (by omega)⟩,⟨Mh.keep fun id h=>?_,xE.keep (Nat.le_refl _) (fun id b h _ _ _ hlt=>by rw[gK id hlt];exact h) (fun id p h=>by rw[gK id (Y.ax h)];exact h),fun e=>by rw[gK io (i1 e)];exact (UN e).1,fun i hi=>by rw[gK i (by omega)];exact hold i hi,by rw[Y.af];omega⟩,by simp[Fr,aW]⟩
   rw[Y.aj fun e=>?_]
   ·exact h
   ·rw[e,hbx] at h;cases h
  rintro ts G ⟨u,iu,us,⟨hu,yO,Jd,mF⟩,⟨hpG,hbG,RR,Qa,El⟩,aX⟩ L3 sr
  obtain ⟨js,rfl⟩:=aX.opened
  clear aX
  by_cases Uh:u<l.length
  case neg =>
   have d2:¬(u:Int)<l.length:=by omega
   have huu:u=l.length:=by omega
   subst huu
   rw[List.take_length] at yO
   have uv:xs.length≤1000000:=by omega
   obtain ⟨PI,G',p1,p2,p3,p4,p5,p6⟩:=tt (H:=G) (k:=3) (ty:=47) (xs:=xs) (ys:=[.agg [pv,.sc (.string (au l k).n.text),aW 1 us iu]]) (id:=io) RR (by simp;omega)
   have ZG:xs++[AV.agg [pv,.sc (.string (au l k).n.text),aW 1 us iu]]≠[]:=by simp
   obtain ⟨vD,L8⟩:=p4 ZG
   refine fB (yR d2 hlen mF p1 p2 p3) ?_
   have Ay:∀id b,Y.find G id=some b→b.k≠3→Y.find G' id=some b:=fun id b h h3=>by
    rw[p6 id (Y.ax h) fun e e2=>?_]
    ·exact h
    ·rw[e2,RR e,bj e] at h
     cases h
     exact h3 rfl
   refine bM _ _ ⟨k+1,PI,xs++[.agg [pv,.sc (.string (au l k).n.text),aW 1 us iu]],⟨by omega,?_,fun _=>⟨vD,by omega⟩⟩,⟨fun i hi=>?_,by omega⟩,by simp[Fr]⟩ (by simp[aM,mk];omega)
   ·rw[hbk]
    refine .snoc (hbG.keep (by omega) (fun id b h h1 _ _ _=>Ay id b h (by omega)) fun id p h=>Ay id _ h (by simp)) (hpG.keep fun id h=>Ay id _ h (by simp)) (yO.keep fun id p h=>Ay id _ h (by simp)) fun e=>?_
    obtain ⟨e1,e2⟩:=Jd e
    rw[bj e] at e1 ⊢
    have:=Y.ax e1
    exact ⟨Ay _ _ e1 (by simp),by omega,by omega⟩
   ·rw[p6 i (by omega) fun e=>by have:=(UN e).2;omega]
    exact Qa i hi
  have d2:(u:Int)<l.length:=by omega
  have IV:=mD Uh
  have hut:=My (l:=l) (i:=k) Uh
  have ua:=yO.len
  have ajq:=P9 l u k
  have wA:=fun H=>Hj l none ef hok u Uh H
  have ZH:¬(gj (au l u)=true∧bW l (au l u)=(k:Int))→∀ts',Fr (fg (some (aW 3 xs io)::some (.am 5 (l.map fq) none)::some (.sc (.int .i64 k))::none::some (.ptr 3 F.length 0 0)::some (.sc (.int .i64 ((u+1:Nat):Int)))::none::iv (dL (bf (bf []))))) ts'→l.length-(aM (ts'.getD 9 .top)).toNat<l.length-u→L3 ts' G:=fun hn ts' h1 h2=>by
   rw[if_neg hn,List.append_nil] at hut
   exact sr _ _ ⟨u+1,iu,us,⟨by omega,by rw[hut];exact yO,Jd,mF⟩,⟨hpG,hbG,RR,Qa,El⟩,h1⟩ (by simpa [aM,mk] using h2)
  by_cases cU:gj (au l u)=true
  case neg =>
   have UL:gj (au l u)=false:=by simpa using cU
   simp only[gj,Bool.or_eq_false_iff,decide_eq_false_iff_not] at UL
   obtain ⟨qH,qG⟩:=UL
   refine fB (kZ d2 IV hlen qH qG) ?_
   exact ⟨by omega,by omega,ZH (fun h=>cU h.1) _ (by simp[Fr]) (by simp[aM,mk];omega)⟩
  have cU2:=cU
  simp only[gj,Bool.or_eq_true,decide_eq_true_eq] at cU2
  by_cases cs:bW l (au l u)=(k:Int)
  case neg =>
   rcases cU2 with qH|qH
   all_goals
    refine fB (ei d2 IV hlen qH) ?_
    first
     | refine ⟨by omega,ae (wA _) ?_⟩
     | refine ⟨by omega,by omega,ae (wA _) ?_⟩
    refine aI cs ?_
    exact ZH (fun h=>cs h.2) _ (by simp[Fr]) (by simp[aM,mk];omega)
  rw[cs] at wA
  rw[if_pos ⟨cU,cs⟩] at hut
  obtain ⟨pu,G1,hpu,gl1,Qb,r1,r2,r3,r4,r5,r6,r7⟩:=Ja G H.length (au l u).p (by omega) ((hok u Uh).1)
  obtain ⟨iu',G2,s1,s2,s3,s4,s5,s6⟩:=tt (H:=G1) (k:=1) (ty:=30) (xs:=us) (ys:=[pu]) (id:=iu) (fun e=>by have e1:=(Jd e).1;rw[Qb iu (by rw[bj e] at e1;exact Y.ax e1)];exact e1) (by simp;omega)
  obtain ⟨s4a,s4b⟩:=s4 (by simp)
  have P0:Y.find G2 F.length=some ⟨3,[.agg [pv,.sc (.string (au l k).n.text),aW 1 us iu]],true,47⟩:=by
   rw[s6 _ (by omega) fun e=>by have:=(Jd e).2;omega,Qb _ El]
   exact mF
  have ail:∀e:us≠[],iu<G.length:=fun e=>by have e1:=(Jd e).1;rw[bj e] at e1;exact Y.ax e1
  have Ay:∀(x:Option aP) id b,Y.find G id=some b→(us≠[]→id≠iu)→id≠F.length→Y.find (Y.set G2 F.length x) id=some b:=fun x id b h h3 h4=>by
   have:=Y.ax h
   rw[Y.aj h4,s6 id (by omega) h3,Qb id this]
   exact h
  have hty:∀id b,Y.find G id=some b→(b.k≠1∨b.ty≠30)→us≠[]→id≠iu:=fun id b h h3 e e2=>by
   have e1:=(Jd e).1
   rw[e2,e1,bj e] at h
   cases h
   simp at h3
  have hnb:∀id b,Y.find G id=some b→(b.k≠3∨b.exact=false)→id≠F.length:=fun id b h h3 e2=>by
   rw[e2,mF] at h
   cases h
   simp at h3
  have aim:∀ts',Fr (fg (some (aW 3 xs io)::some (.am 5 (l.map fq) none)::some (.sc (.int .i64 k))::none::some (.ptr 3 F.length 0 0)::some (.sc (.int .i64 ((u+1:Nat):Int)))::none::iv (dL (bf (bf []))))) ts'→l.length-(aM (ts'.getD 9 .top)).toNat<l.length-u→L3 ts' (Y.set G2 F.length (some ⟨3,[.agg [pv,.sc (.string (au l k).n.text),aW 1 (us++[pu]) iu']],true,47⟩)):=fun ts' h1 h2=>by
   refine sr _ _ ⟨u+1,iu',us++[pu],⟨by omega,?_,fun _=>⟨?_,by omega⟩,Y.aC (by omega)⟩,⟨hpG.keep fun id h=>Ay _ id _ h (hty id _ h (by simp)) (hnb id _ h (by simp)),hbG.keep (Nat.le_refl _) (fun id b h b1 b2 b3 b4=>Ay _ id _ h (fun e=>by have:=(Jd e).2;omega) (by omega)) (fun id p h=>Ay _ id _ h (hty id _ h (by simp)) (hnb id _ h (by simp))),fun e=>?_,fun i hi=>?_,by rw[Y.af];omega⟩,h1⟩ (by simpa [aM,mk] using h2)
   ·rw[hut]
    refine .snoc (yO.keep fun id p h=>Ay _ id _ h (hty id _ h (by simp)) (hnb id _ h (by simp))) (hpu.keep fun id h=>?_)
    have h0:=Y.ax h
    have hne:id≠F.length:=fun e=>by
     rw[e,Qb _ El,mF] at h
     cases h
    rw[Y.aj hne,s6 id h0 fun e e2=>?_]
    ·exact h
    ·have e1:=(Jd e).1
     rw[e2,Qb _ (ail e),e1,bj e] at h
     simp at h
   ·rw[Y.aj (by omega)]
    exact s4a
   ·have e1:=RR e
    rw[bj e] at e1 ⊢
    exact Ay _ _ _ e1 (hty _ _ e1 (by simp)) (hnb _ _ e1 (by simp))
   ·have:=(Qa i hi)
    rw[Y.aj (by omega),s6 i (by omega) fun e=>by have:=(Jd e).2;omega,Qb i (by omega)]
    exact this
  rcases cU2 with qH|qH
  all_goals
   refine fB (ei d2 IV hlen qH) ?_
   first
    | refine ⟨by omega,ae (wA _) ?_⟩
    | refine ⟨by omega,by omega,ae (wA _) ?_⟩
   refine aI (XJ d2 IV hlen mF r1 r2 r3 r4 r5 r6 r7 s1 s2 s3 P0) ?_
   exact ⟨by omega,by rw[Qb _ El];exact mF,aim _ (by simp[Fr]) (by simp[aM,mk];omega)⟩
def adR:IC:=(.seq (.ops [iH 2 (.box 4 25 (.t 0)),iH 3 (.box 4 25 (.t 1)),iP 4 (.mv kF)]) (.seq (.ops [iP 5 (.mv (.k (.fn (.func 30) [] [])))]) (.seq (.di [iH 6 (yA 4 2),iH 7 (.call 33 [(.t 6)]),iM 8 7,gH 9 8 true (yA 4 3),gH 10 8 true (.call 33 [(.t 9)]),iP 11 (.pick (.t 8) (.t 10) kF),iM 12 11,gH 13 12 true (yA 4 2),gH 14 12 true (yA 4 3),gH 15 12 true (yC 34 13 14),iP 16 (.pick (.t 12) (.t 15) kF),iM 17 16,gH 18 17 true (yA 4 2),gH 19 17 true (.call 23 [(.t 18)]),gH 20 17 true (yA 4 3),gH 21 17 true (.call 23 [(.t 20)]),gM 22 17 true 5,gH 23 17 true (.call 35 [(.t 19),(.t 21),(.t 22)]),iP 24 (.pick (.t 17) (.t 23) kF),iM 4 24] [[],[0],[1,0],[2,1,0],[3,2,1,0],[2,1,0,4,3],[5,2,1,0,4,3],[6,5,2,1,0,4,3],[6,5,2,1,0,4,3],[7,6,5,2,1,0,4,3,8],[6,5,2,1,0,4,3,9,7,8],[10,6,5,2,1,0,4,3,9,7,8],[11,10,6,5,2,1,0,4,3,9,7,8],[12,11,10,6,5,2,1,0,4,3,9,7,8],[11,10,6,5,2,1,0,4,3,9,7,8],[14,11,10,6,5,2,1,0,4,3,9,7,8,13,12],[11,10,6,5,2,1,0,4,3,9,7,8],[13,12,11,10,6,5,2,1,0,4,3,9,7,8,15,14,16],[11,10,6,5,2,1,0,4,3,9,7,8,17,13,12,15,14,16],[18,11,10,6,5,2,1,0,4,3,9,7,8,17,13,12,15,14,16]]) .ret)))
theorem ain:Dk Tryz.prog 10 adR [(.t 4)] 25:=aV Tryz.func10
def adS:IC:=(.seq (.ops [iH 2 (.box 3 47 (.t 0)),iH 3 (.box 3 47 (.t 1)),iP 4 (.mv kF)]) (.seq (.ops [iP 5 (.an 0 (.t 2)),iH 6 (yD 1 5),iP 7 (.an 0 (.t 3)),iH 8 (yD 1 7),iH 9 (yC 31 6 8),iM 10 9,gP 11 10 true (.an 2 (.t 2)),gH 12 10 true (yD 1 11),gP 13 10 true (.an 2 (.t 3)),gH 14 10 true (yD 1 13),gH 15 10 true (.call 32 [(.t 12),(.t 14),(.k (.fn (.func 31) [] []))]),iP 16 (.pick (.t 10) (.t 15) kF),iM 4 16]) .ret))
theorem aio:Dk Tryz.prog 30 adS [(.t 4)] 17:=aV Tryz.func30
def adT:IC:=(.seq (.ops [iH 3 (.box 4 25 (.t 0)),iH 5 (.box 1 30 (.t 2)),⟨(some 6),none,(.h (.alloc (.agg [(.sc (.int .u8 0)),(.sc (.string ⟨#[]⟩)),(.sc (.int .i64 0)),bG]) 25))⟩,iP 7 (xI 0)]) (.seq (.block 0 (.seq (.ops [iP 13 (.an 0 (.t 3)),iH 14 (yD 1 13),iP 15 (.aN .neq (.t 14) (.k (.sc (.int .u8 1)))),iM 16 15,gH 17 16 false (yA 4 3),gH 18 16 false (.call 40 [(.t 17)]),gP 19 16 false (xN 18),iP 20 (.pick (.t 16) kT (.t 19)),iM 12 20]) (.cond (.t 12) (.seq (.ops [⟨(some 21),none,(.p (.build [(.sc (.int .u8 0)),(.sc (.string ⟨#[]⟩)),(.sc (.int .i64 0)),bG] []))⟩,iS 4 6 21,iP 7 (xI 4)]) .ret) (.seq (.ops [iH 23 (yA 4 3),iH 24 (.call 33 [(.t 23)]),iP 25 (xN 24),iM 22 25]) (.cond (.t 22) (.seq (.ops [⟨(some 26),none,(.p (.build [(.sc (.int .u8 0)),(.sc (.string ⟨#[]⟩)),(.sc (.int .i64 0)),bG] []))⟩,iS 4 6 26,iP 7 (xI 122)]) .ret) .skip))))) (.seq (.ops [iH 27 (yA 4 3),iH 28 (.call 23 [(.t 27)]),iM 8 28]) (.seq (.ops [iM 29 8,iP 30 (.oQ (.func 42) [] [(.t 5)]),iH 31 (yC 41 29 30),iM 9 31]) (.seq (.block 1 (.seq (.ops [iM 33 9,iP 34 (.aN .lss (.t 33) (kI 0)),iM 32 34]) (.cond (.t 32) (.seq (.ops [⟨(some 35),none,(.p (.build [(.sc (.int .u8 0)),(.sc (.string ⟨#[]⟩)),(.sc (.int .i64 0)),bG] []))⟩,iS 4 6 35,iP 7 (xI 6)]) .ret) (.seq (.ops [iM 37 1,iH 38 (.call 43 [(.t 37)]),iP 39 (xN 38),iM 36 39]) (.cond (.t 36) (.seq (.ops [⟨(some 40),none,(.p (.build [(.sc (.int .u8 0)),(.sc (.string ⟨#[]⟩)),(.sc (.int .i64 0)),bG] []))⟩,iS 4 6 40,iP 7 (xI 2)]) .ret) .skip))))) (.seq (.ops [iM 41 1,⟨(some 42),none,(.p (.build [bG,(.sc (.string ⟨#[]⟩))] [(1,1,(.t 41))]))⟩,iH 43 (.box 2 66 (.t 42)),iM 10 43]) (.seq (.di [iM 44 10,iP 45 (.bV (.t 44)),iP 46 (.an 0 (.t 45)),iH 47 (yD 1 5),iH 48 (.ep 1 30 bG 1 [(0,(.t 47))]),iH 49 (yC 44 46 48)] [[],[0],[1,0],[],[3],[2,1,0,4,3]]) (.seq (.di [iM 50 10,iP 51 (.bV (.t 50)),iP 52 (.an 0 (.t 51)),iM 53 8,iM 54 9,iP 55 (xA 3 53 54),iP 56 (.an 2 (.t 55)),iH 57 (yD 1 56),iH 58 (yC 44 52 57)] [[],[0],[1,0],[],[],[3,4],[5,3,4],[6,5,3,4],[2,1,0,7,6,5,3,4]]) (.seq (.ops [iM 59 10,iH 60 (yA 4 3),iH 61 (yC 45 59 60),⟨(some 11),none,(.h (.alloc (.agg [(.sc (.int .u8 0)),(.sc (.string ⟨#[]⟩)),(.sc (.int .i64 0)),bG]) 25))⟩,iS 4 11 61]) (.seq (.seq (.ops [iH 62 (yA 4 3),iH 63 (yA 4 11),iH 64 (yC 10 62 63),iP 65 (xN 64)]) (.cond (.t 65) (.seq (.ops [⟨(some 66),none,(.p (.build [(.sc (.int .u8 0)),(.sc (.string ⟨#[]⟩)),(.sc (.int .i64 0)),bG] []))⟩,iS 4 6 66,iP 7 (xI 120)]) .ret) .skip)) (.seq (.ops [iH 67 (yA 4 11),iS 4 6 67,iP 7 (xI 0)]) .ret)))))))))))
theorem aip:Dk Tryz.prog 14 adT [(.c 6 4 true),(.t 7)] 68:=aV Tryz.func14
def adU:IC:=(.seq (.ops [iH 2 (.box 3 47 (.t 0)),iP 3 (.mv kF)]) (.seq (.ops [iP 4 (.an 0 (.t 2)),iH 5 (yD 1 4),iH 6 (yD 1 1),iH 7 (yC 31 5 6),iM 3 7]) .ret))
theorem aiq:Dk Tryz.prog 42 adU [(.t 3)] 8:=aV Tryz.func42
def adV:IC:=(.seq (.ops [iH 1 (.box 4 25 (.t 0)),iP 2 (.mv kF)]) (.seq (.ops [iP 3 (.an 0 (.t 1)),iH 4 (yD 1 3),iP 5 (.aN .eql (.t 4) (.k (.sc (.int .u8 1)))),iM 6 5,gH 7 6 true (yA 4 1),gH 8 6 true (.call 57 [(.t 7)]),gP 9 6 true (.field 0 1 false (.t 8)),gP 10 6 true (.aN .eql (.t 9) (kI 0)),iP 11 (.pick (.t 6) (.t 10) kF),iM 2 11]) .ret))
theorem air:Dk Tryz.prog 33 adV [(.t 2)] 12:=aV Tryz.func33
def adW:IC:=(.seq (.ops [iH 2 (.box 4 25 (.t 0)),iH 3 (.box 4 25 (.t 1)),iP 4 (.mv kF)]) (.seq (.ops [iP 5 (.an 0 (.t 2)),iH 6 (yD 1 5),iP 7 (.an 0 (.t 3)),iH 8 (yD 1 7),iP 9 (xB .eql 6 8),iM 10 9,gP 11 10 true (.an 2 (.t 2)),gH 12 10 true (yD 1 11),gP 13 10 true (.an 2 (.t 3)),gH 14 10 true (yD 1 13),gP 15 10 true (xB .eql 12 14),iP 16 (.pick (.t 10) (.t 15) kF),iM 17 16,gP 18 17 true (.an 0 (.t 2)),gH 19 17 true (yD 1 18),gH 20 17 true (.call 64 [(.t 19)]),gM 21 17 true 20,gP 22 21 false (.an 1 (.t 2)),gH 23 21 false (yD 1 22),gP 24 21 false (.an 1 (.t 3)),gH 25 21 false (yD 1 24),gP 26 21 false (xB .eql 23 25),gP 27 17 true (.pick (.t 21) kT (.t 26)),iP 28 (.pick (.t 17) (.t 27) kF),iM 29 28,gP 30 29 true (.an 3 (.t 2)),gH 31 29 true (yD 1 30),gP 32 29 true (.an 3 (.t 3)),gH 33 29 true (yD 1 32),gH 34 29 true (.call 65 [(.t 31),(.t 33),(.k (.fn (.func 34) [] []))]),iP 35 (.pick (.t 29) (.t 34) kF),iM 4 35]) .ret))
theorem ais:Dk Tryz.prog 34 adW [(.t 4)] 36:=aV Tryz.func34
def adX:IC:=(.seq (.ops [iP 2 (.mv kF)]) (.seq (.ops [iH 3 (.ep 1 22 (.sc (.int .u8 0)) 5 [(0,(.k (.sc (.int .u8 2)))),(1,(.k (.sc (.int .u8 4)))),(2,(.k (.sc (.int .u8 6)))),(3,(.k (.sc (.int .u8 22)))),(4,(.k (.sc (.int .u8 25))))]),iM 4 0,iH 5 (yC 121 3 4),iM 2 5]) .ret))
theorem ait:Dk Tryz.prog 64 adX [(.t 2)] 6:=aV Tryz.func64
def adY:IC:=(.seq (.ops [iP 6 (.mv kF)]) (.seq (.ops [iM 7 0,iM 8 1,iM 9 2,iH 10 (.call 63 [(.t 7),(.t 8),(.t 9)]),iM 6 10]) .ret))
theorem aiu:Dk Tryz.prog 32 adY [(.t 6)] 11:=aV Tryz.func32
def adZ:IC:=(.seq (.ops [iP 6 (.mv kF)]) (.seq (.ops [iM 7 0,iM 8 1,iM 9 2,iH 10 (.call 66 [(.t 7),(.t 8),(.t 9)]),iM 6 10]) .ret))
theorem aiv:Dk Tryz.prog 35 adZ [(.t 6)] 11:=aV Tryz.func35
def ad0:IC:=(.seq (.ops [iP 6 (.mv kF)]) (.seq (.ops [iM 7 0,iM 8 1,iM 9 2,iH 10 (.call 122 [(.t 7),(.t 8),(.t 9)]),iM 6 10]) .ret))
theorem aiw:Dk Tryz.prog 65 ad0 [(.t 6)] 11:=aV Tryz.func65
def ad1:IC:=(.seq (.ops [iP 4 (xI 0)]) (.seq (.seq (.ops [iM 6 0,iP 7 (xL 6),iP 8 (xI 0)]) (.block 0 (.loop (.seq (.ops [iP 9 (xB .lss 8 7)]) (.seq (.cond (.t 9) .skip (.exit 0)) (.seq (.block 1 (.seq (.ops [iM 10 8,iM 5 10]) (.seq (.ops [iM 11 1,iM 12 0,iM 13 5,iP 14 (xA 3 12 13),iH 15 (yA 3 14),iH 16 (.cq (.t 11) [(.t 15)])]) (.cond (.t 16) (.seq (.ops [iM 17 5,iM 4 17]) .ret) .skip)))) (.ops [iP 18 (.aN .add (.t 8) (kI 1)),iM 8 18]))))))) (.seq (.ops [iP 4 (xI (-1))]) .ret)))
theorem aix:Dk Tryz.prog 41 ad1 [(.t 4)] 19:=aV Tryz.func41
def ad2:IC:=(.seq (.ops [iP 6 (.mv kF)]) (.seq (.seq (.ops [iM 10 0,iP 11 (xL 10),iM 12 1,iP 13 (xL 12),iP 14 (xB .neq 11 13)]) (.cond (.t 14) (.seq (.ops [iP 6 (.mv kF)]) .ret) .skip)) (.seq (.seq (.ops [iM 15 0,iP 16 (xL 15),iP 17 (xI 0)]) (.block 0 (.loop (.seq (.ops [iP 18 (xB .lss 17 16)]) (.seq (.cond (.t 18) .skip (.exit 0)) (.seq (.block 1 (.seq (.ops [iM 19 17,iP 20 (xA 1 15 17),iH 21 (yD 1 20),iM 7 19,iM 8 21]) (.seq (.ops [iM 22 1,iM 23 7,iP 24 (xA 1 22 23),iH 25 (yD 1 24),iM 9 25]) (.seq (.ops [iM 26 2,iM 27 8,iM 28 9,iH 29 (.cq (.t 26) [(.t 27),(.t 28)]),iP 30 (xN 29)]) (.cond (.t 30) (.seq (.ops [iP 6 (.mv kF)]) .ret) .skip))))) (.ops [iP 31 (.aN .add (.t 17) (kI 1)),iM 17 31]))))))) (.seq (.ops [iP 6 (.mv kT)]) .ret))))
theorem aiy:Dk Tryz.prog 63 ad2 [(.t 6)] 32:=aV Tryz.func63
def ad3:IC:=(.seq (.ops [iP 6 (.mv kF)]) (.seq (.seq (.ops [iM 10 0,iP 11 (xL 10),iM 12 1,iP 13 (xL 12),iP 14 (xB .neq 11 13)]) (.cond (.t 14) (.seq (.ops [iP 6 (.mv kF)]) .ret) .skip)) (.seq (.seq (.ops [iM 15 0,iP 16 (xL 15),iP 17 (xI 0)]) (.block 0 (.loop (.seq (.ops [iP 18 (xB .lss 17 16)]) (.seq (.cond (.t 18) .skip (.exit 0)) (.seq (.block 1 (.seq (.ops [iM 19 17,iP 20 (xA 3 15 17),iH 21 (yA 3 20),⟨(some 8),none,(.h (.alloc (.agg [bG,(.sc (.string ⟨#[]⟩)),bG]) 47))⟩,iM 7 19,iS 3 8 21]) (.seq (.ops [iM 22 1,iM 23 7,iP 24 (xA 3 22 23),iH 25 (yA 3 24),⟨(some 9),none,(.h (.alloc (.agg [bG,(.sc (.string ⟨#[]⟩)),bG]) 47))⟩,iS 3 9 25]) (.seq (.ops [iM 26 2,iH 27 (yA 3 8),iH 28 (yA 3 9),iH 29 (.cq (.t 26) [(.t 27),(.t 28)]),iP 30 (xN 29)]) (.cond (.t 30) (.seq (.ops [iP 6 (.mv kF)]) .ret) .skip))))) (.ops [iP 31 (.aN .add (.t 17) (kI 1)),iM 17 31]))))))) (.seq (.ops [iP 6 (.mv kT)]) .ret))))
theorem aiz:Dk Tryz.prog 66 ad3 [(.t 6)] 32:=aV Tryz.func66
def ZI:IC:=(.seq (.ops [iP 4 (.mv kF)]) (.seq (.ops [iM 5 0,iM 6 1,iH 7 (yC 181 5 6),iP 8 (.aN .geq (.t 7) (kI 0)),iM 4 8]) .ret))
theorem agi:Dk Tryz.prog 128 ZI [(.t 4)] 9:=aV Tryz.func128
def ZJ:IC:=(.seq (.ops [iP 4 (xI 0)]) (.seq (.seq (.ops [iM 6 0,iP 7 (xL 6),iP 8 (xI 0)]) (.block 0 (.loop (.seq (.ops [iP 9 (xB .lss 8 7)]) (.seq (.cond (.t 9) .skip (.exit 0)) (.seq (.block 1 (.seq (.ops [iM 10 8,iM 5 10]) (.seq (.ops [iM 11 1,iM 12 0,iM 13 5,iP 14 (xA 1 12 13),iH 15 (yD 1 14),iH 16 (.cq (.t 11) [(.t 15)])]) (.cond (.t 16) (.seq (.ops [iM 17 5,iM 4 17]) .ret) .skip)))) (.ops [iP 18 (.aN .add (.t 8) (kI 1)),iM 8 18]))))))) (.seq (.ops [iP 4 (xI (-1))]) .ret)))
theorem agj:Dk Tryz.prog 181 ZJ [(.t 4)] 19:=aV Tryz.func181
def ad4:IC:=(.ops [iM 4 0,iM 5 0,iP 6 (.bV (.t 5)),iP 7 (.an 0 (.t 6)),iH 8 (yD 1 7),iM 9 1,iH 10 (.ez 1 30 (.t 8) (.t 9)),iP 11 (.bV (.t 4)),iP 12 (.an 0 (.t 11)),iS 1 12 10])
theorem aiA:Dk Tryz.prog 44 ad4 [] 13:=aV Tryz.func44
def ad5:IC:=(.seq (.ops [iH 3 (.box 1 30 (.t 1)),iP 4 (.mv kF)]) (.seq (.ops [iM 5 0,iP 6 (.bV (.t 5)),iP 7 (.an 0 (.t 6)),iH 8 (yD 1 7),iP 9 (.oQ (.func 129) [] [(.t 3)]),iH 10 (yC 128 8 9),iM 4 10]) .ret))
theorem aiB:Dk Tryz.prog 76 ad5 [(.t 4)] 11:=aV Tryz.func76
def ZK:IC:=(.seq (.ops [iP 3 (.mv kF)]) (.seq (.ops [iM 4 0,iH 5 (yD 1 1),iH 6 (yC 31 4 5),iM 3 6]) .ret))
theorem agk:Dk Tryz.prog 129 ZK [(.t 3)] 7:=aV Tryz.func129
def ad6:IC:=(.seq (.ops [iH 2 (.box 1 62 (.t 0)),iH 3 (.box 4 25 (.t 1)),⟨(some 4),none,(.h (.alloc (.agg [(.sc (.int .u8 0)),(.sc (.string ⟨#[]⟩)),(.sc (.int .i64 0)),bG]) 25))⟩]) (.seq (.ops [iH 5 (.alloc bG 30)]) (.seq (.ops [iH 6 (.alloc (.sc .nilFunc) 28)]) (.seq (.ops [iP 7 (.oQ (.func 75) [] [(.t 2),(.t 5),(.t 6)]),iS 1 6 7]) (.seq (.ops [iH 8 (yD 1 6),iH 9 (yA 4 3),iH 10 (.cq (.t 8) [(.t 9)]),iS 4 4 10]) .ret)))))
theorem aiC:Dk Tryz.prog 45 ad6 [(.c 4 4 true)] 11:=aV Tryz.func45
def jn:IC:=(.seq (.ops [iH 4 (.box 4 25 (.t 0)),⟨(some 5),none,(.h (.alloc (.agg [(.sc (.int .u8 0)),(.sc (.string ⟨#[]⟩)),(.sc (.int .i64 0)),bG]) 25))⟩]) (.seq (.seq (.di [iH 9 (yD 1 1),iP 10 (.bV (.t 9)),iP 11 (.an 0 (.t 10)),iH 12 (yD 1 2),iH 13 (yC 76 11 12)] [[],[0],[1,0],[],[2,1,0,3]]) (.cond (.t 13) (.ops [iH 14 (yD 1 1),iP 15 (.bV (.t 14)),iP 16 (.an 1 (.t 15)),iH 17 (yD 1 16),iP 18 (.an 1 (.t 4)),iS 1 18 17]) .skip)) (.seq (.ops [iP 19 (.an 3 (.t 4)),iH 20 (yD 1 19),iM 6 20]) (.seq (.ops [iP 21 (.an 3 (.t 4)),⟨none,none,(.h (.store 1 (.t 21) (.k bG)))⟩]) (.seq (.seq (.ops [iM 22 6,iP 23 (xL 22),iP 24 (xI 0)]) (.block 0 (.loop (.seq (.ops [iP 25 (xB .lss 24 23)]) (.seq (.cond (.t 25) .skip (.exit 0)) (.seq (.block 1 (.seq (.ops [iM 26 24,iP 27 (xA 4 22 24),iH 28 (yA 4 27),⟨(some 8),none,(.h (.alloc (.agg [(.sc (.int .u8 0)),(.sc (.string ⟨#[]⟩)),(.sc (.int .i64 0)),bG]) 25))⟩,iM 7 26,iS 4 8 28]) (.seq (.ops [iH 29 (yD 1 2),iM 30 7,iH 31 (.ep 1 3 (.sc (.int .i64 0)) 1 [(0,(.t 30))]),iH 32 (.ez 1 3 (.t 29) (.t 31)),iS 1 2 32]) (.seq (.di [iP 33 (.an 3 (.t 4)),iH 34 (yD 1 33),iH 35 (yD 1 3),iH 36 (yA 4 8),iH 37 (.cq (.t 35) [(.t 36)]),⟨(some 38),none,(.h (.ep 4 25 (.agg [(.sc (.int .u8 0)),(.sc (.string ⟨#[]⟩)),(.sc (.int .i64 0)),bG]) 1 [(0,(.t 37))]))⟩,iH 39 (.ez 4 25 (.t 34) (.t 38)),iP 40 (.an 3 (.t 4)),iS 1 40 39] [[],[0],[],[],[2,3],[4,2,3],[1,0,5,4,2,3],[0,1,2,3,4,5,6],[7,0,1,2,3,4,5,6]]) (.ops [iH 41 (yD 1 2),iH 42 (yD 1 2),iP 43 (xL 42),iP 44 (.aN .sub (.t 43) (kI 1)),iP 45 (.qC 1 (.t 41) none (some (.t 44)) none),iS 1 2 45]))))) (.ops [iP 46 (.aN .add (.t 24) (kI 1)),iM 24 46]))))))) (.seq (.ops [iH 47 (yA 4 4),iS 4 5 47]) .ret))))))
theorem UO(k:Int)(H:Y):D Tryz.prog 64 [.sc (.int .u8 k)] H (.ret (.sc (.bool (eM k)))) H:=by
 refine aG (Nat.le_refl _) (ait (aA ?_))
 simp only[adX,ux]
 have hc:=y2 [2,4,6,22,25] (some []) k (by decide)
 rw[show Dx [2,4,6,22,25]=[.sc (.int .u8 2),.sc (.int .u8 4),.sc (.int .u8 6),.sc (.int .u8 22),.sc (.int .u8 25)] from rfl] at hc
 refine aw ?_
 refine ae (hc _) ?_
 refine aw ?_
 exact aq .refl (DA k)
theorem MA(l:List Nd)(hz:Nd.ay l≤1000000)(ih:∀a∈l,∀(b:Nd)(H:Y),D Tryz.prog 34 [dZ a none,dZ b none] H (.ret (.sc (.bool (jY a b)))) H)(m:List Nd)(ro l6:Option (List AV))(H:Y):D Tryz.prog 122 [.am 4 (bh l) ro,.am 4 (bh m) l6,.fn (.func 34) [] []] H (.ret (.sc (.bool (jZ l m)))) H:=by
 have hl:=Nd.fZ l
 have cl:cr Tryz.prog 34=true:=by kernel_rfl
 refine aG (Nat.le_refl _) (afJ (aA ?_))
 simp only[Yb,ux]
 refine Z fun L hL=>?_
 refine aw ?_
 refine hL _ _ ?_
 clear hL
 refine Z fun L hL=>?_
 by_cases c1:l.length=m.length
 rotate_left
 ·have c2:¬(l.length:Int)=m.length:=by omega
  refine aI (ak @aH c2) ?_
  exact aq .refl (ze c1).symm
 have c2:(l.length:Int)=m.length:=by omega
 refine aI (ak @aH c2) ?_
 refine hL _ _ ?_
 clear hL
 refine Z fun L hL=>?_
 refine aI @aH ?_
 refine aZ (fun ts F=>∃k:Nat,(k≤l.length∧∀j,j<k→jY (aE l j) (aE m j)=true)∧Over H F∧Fr (some (.am 4 (bh l) ro)::some (.am 4 (bh m) l6)::some (.fn (.func 34) [] [])::none::none::none::some (.sc (.bool false))::iv (some (.am 4 (bh l) ro)::some (.sc (.int .i64 l.length))::some (.sc (.int .i64 k))::none::none::fg (iv []))) ts) (fun ts _=>l.length-(aM (ts.getD 17 .top)).toNat) ?_ ?_
 ·exact ⟨0,⟨Nat.zero_le _,fun j h=>absurd h (Nat.not_lt_zero _)⟩,.refl,by simp[Fr]⟩
 rintro ts F ⟨k,⟨hk,hp⟩,hF,aX⟩ L2 bM
 obtain ⟨js,rfl⟩:=aX.opened
 clear aX
 by_cases hd:k<l.length
 ·have d1:(k:Int)<l.length:=by omega
  have d2:(k:Int)<m.length:=by omega
  have hg:=dG hd
  have su:=dG (l:=m) (k:=k) (by omega)
  have hi:=fun H=>ih _ (eJ hd) (aE m k) H
  rw[aQ,aQ] at hi
  refine df (kZ d1 d2 hg su @aH) ?_
  refine ⟨by omega,by omega,cl,ae (hi _) ?_⟩
  cases e1:jY (aE l k) (aE m k)
  ·refine aw ?_
   exact aq (.cons (.cons hF)) (LG c1 hd e1).symm
  refine aw ?_
  refine bM _ _ ⟨k+1,⟨by omega,fun j hj=>?_⟩,.cons (.cons hF),by simp[Fr]⟩ (by simp[aM,mk];omega)
  rcases Nat.lt_succ_iff_lt_or_eq.1 hj with h'|rfl
  ·exact hp j h'
  ·exact e1
 ·have d1:¬(k:Int)<l.length:=by omega
  refine df d1 ?_
  refine hL _ _ ?_
  clear hL
  refine fh ?_
  exact aq hF (LH c1 fun j hj=>hp j (by omega)).symm
theorem acl(a:Nd):∀(hz:a.size≤1000000)(b:Nd)(ro l6:Option (List AV))(H:Y),D Tryz.prog 34 [dZ a ro,dZ b l6] H (.ret (.sc (.bool (jY a b)))) H:=by
 induction a using Nd.ind with
 |_ a ih =>
  intro hz b ro l6 H
  have hs:=Nd.size_eq a
  have hk:=fun H=>MA a.kids (by omega) (fun x hx b H=>ih x hx (by have:=Nd.pg hx;omega) b none none H) b.kids ro l6 H
  have he:∀H,D Tryz.prog 65 [.am 4 (bh a.kids) ro,.am 4 (bh b.kids) l6,.fn (.func 34) [] []] H (.ret (.sc (.bool (jZ a.kids b.kids)))) H:=fun H=>by
   refine aG (Nat.le_refl _) (aiw (aA ?_))
   simp only[ad0,ux]
   refine aw ?_
   refine ae (hk _) ?_
   refine aw ?_
   exact aq .refl rfl
  have hq:=GV a b
  rw[aQ,aQ]
  refine aG (Nat.le_refl _) (ais (aA ?_))
  simp only[adW,ux]
  refine Z fun L hL=>?_
  refine aw ?_
  refine hL _ _ ?_
  clear hL
  refine Z fun L hL=>?_
  by_cases c1:a.kind=b.kind
  rotate_left
  ·refine aI c1 ?_
   refine hL _ _ ?_
   clear hL
   refine aw ?_
   exact aq (.cons (.cons .refl)) (by rw[hq];simp[c1])
  have CV:=decide_eq_true c1
  by_cases c3:a.num=b.num
  rotate_left
  ·refine aI (ak CV c3) ?_
   refine hL _ _ ?_
   clear hL
   refine aw ?_
   exact aq (.cons (.cons .refl)) (by rw[hq];simp[c3])
  have PP:=decide_eq_true c3
  refine aI (ak CV PP) ?_
  refine ae (UO _ _) ?_
  cases cn:eM a.kind
  ·by_cases c2:a.text=b.text
   rotate_left
   ·refine aI (ak cn c2) ?_
    refine hL _ _ ?_
    clear hL
    refine aw ?_
    exact aq (.cons (.cons .refl)) (by rw[hq];simp[cn,c2])
   ·have P4:=decide_eq_true c2
    refine aI (ak cn P4) ?_
    refine ae (he _) ?_
    refine aw ?_
    refine hL _ _ ?_
    clear hL
    refine aw ?_
    exact aq (.cons (.cons .refl)) (by rw[hq];simp[cn,c1,c2,c3])
  ·refine aI cn ?_
   refine ae (he _) ?_
   refine aw ?_
   refine hL _ _ ?_
   clear hL
   refine aw ?_
   exact aq (.cons (.cons .refl)) (by rw[hq,cn];simp[c1,c3])
mutual
theorem Qc(H:Y):∀t:Nd,View H (eu t) (eu t)
 |⟨k,s,n,l⟩=>by
  simp only[eu]
  exact .agg (.cons .sc (.cons .sc (.cons .sc (.cons (.am (xJ H l)) .nil))))
theorem xJ(H:Y):∀l:List Nd,cJ H (bh l) (bh l)
 |[]=>.nil
 |t::r=>by
  simp only[bh]
  exact .cons (Qc H t) (xJ H r)
end
theorem iE(t:Nd)(ro:Option (List AV))(H:Y):View H (dZ t ro) (eu t):=by
 rw[ew,aQ]
 exact .agg (.cons .sc (.cons .sc (.cons .sc (.cons (.am (xJ H t.kids)) .nil))))
theorem xK(n:Nd)(hw:n.wt≤500000)(hs:n.size≤500000)(ro:Option (List AV))(H:Y):D Tryz.prog 33 [dZ n ro] H (.ret (.sc (.bool (iB n)))) H:=by
 have ki:=fun H=>Mu n hw hs (iE n ro H)
 rw[aQ] at ki ⊢
 unfold Ej at ki
 refine aG (Nat.le_refl _) (air (aA ?_))
 simp only[adV,ux]
 refine Z fun L hL=>?_
 refine aw ?_
 refine hL _ _ ?_
 clear hL
 refine Z fun L hL=>?_
 by_cases c1:n.kind=1
 rotate_left
 ·refine aI c1 ?_
  refine hL _ _ ?_
  clear hL
  refine aw ?_
  exact aq (.cons .refl) (by simp[iB,c1])
 rw[c1] at ki
 refine aI c1 ?_
 refine ae (ki _) ?_
 refine aw ?_
 refine hL _ _ ?_
 clear hL
 refine aw ?_
 exact aq (.cons .refl) (by simp[iB,c1])
def dS(l:List (List Int))(k:Nat):List Int:=l.getD k []
theorem dg(l:List (List Int)):(bc l).length=l.length:=by simp[bc]
theorem nD{l:List (List Int)}{k:Nat}(h:k<l.length):(bc l).getD k .top = .am 1 (aK (dS l k)) none:=by simp[bc,dS,List.getD,h]
theorem vJ{l:List (List Int)}{k:Nat}(h:k<l.length):dS l k=l[k]:=by simp[dS,List.getD,h]
theorem Hz{a b:List (List Int)}(h:a.length=b.length)(e:∀j,j<a.length→dS a j=dS b j):a=b:=by
 refine List.ext_getElem h fun i h1 h2=>?_
 have:=e i h1
 rwa [vJ h1,vJ h2] at this
theorem Qd(l m:List (List Int))(ro l6:Option (List AV))(hz:l.length≤1000000)(hp:∀k,k<l.length→(dS l k).length≤1000000)(H:Y):D Tryz.prog 63 [.am 1 (bc l) ro,.am 1 (bc m) l6,.fn (.func 31) [] []] H (.ret (.sc (.bool (decide (l=m))))) H:=by
 have cl:cr Tryz.prog 31=true:=by kernel_rfl
 refine aG (Nat.le_refl _) (aiy (aA ?_))
 simp only[ad2,ux]
 refine Z fun L hL=>?_
 refine aw ?_
 refine hL _ _ ?_
 clear hL
 refine Z fun L hL=>?_
 by_cases c1:l.length=m.length
 rotate_left
 ·have c2:¬(l.length:Int)=m.length:=by omega
  refine aI (ak @dg c2) ?_
  exact aq .refl (by simp;intro e;exact c1 (by rw[e]))
 have c2:(l.length:Int)=m.length:=by omega
 refine aI (ak @dg c2) ?_
 refine hL _ _ ?_
 clear hL
 refine Z fun L hL=>?_
 refine aI @dg ?_
 refine aZ (fun ts F=>∃k:Nat,(k≤l.length∧∀j,j<k→dS l j=dS m j)∧F=H∧Fr (some (.am 1 (bc l) ro)::some (.am 1 (bc m) l6)::some (.fn (.func 31) [] [])::none::none::none::some (.sc (.bool false))::iv (some (.am 1 (bc l) ro)::some (.sc (.int .i64 l.length))::some (.sc (.int .i64 k))::none::none::fg (iv []))) ts) (fun ts _=>l.length-(aM (ts.getD 17 .top)).toNat) ?_ ?_
 ·exact ⟨0,⟨Nat.zero_le _,fun j h=>absurd h (Nat.not_lt_zero _)⟩,rfl,by simp[Fr]⟩
 rintro ts F ⟨k,⟨hk,j8⟩,rfl,aX⟩ L2 bM
 obtain ⟨js,rfl⟩:=aX.opened
 clear aX
 by_cases hd:k<l.length
 ·have d1:(k:Int)<l.length:=by omega
  have d2:(k:Int)<m.length:=by omega
  have hg:=nD hd
  have su:=nD (l:=m) (k:=k) (by omega)
  have hi:=fun H=>wj (dS l k) (dS m k) none none H (by have:=hp k hd;omega)
  refine df (kZ d1 d2 hg su @dg) ?_
  refine ⟨by omega,by omega,cl,ae (hi _) ?_⟩
  by_cases e1:dS l k=dS m k
  ·refine aI e1 ?_
   refine bM _ _ ⟨k+1,⟨by omega,fun j hj=>?_⟩,rfl,by simp[Fr]⟩ (by simp[aM,mk];omega)
   rcases Nat.lt_succ_iff_lt_or_eq.1 hj with h'|rfl
   ·exact j8 j h'
   ·exact e1
  ·refine aI e1 ?_
   exact aq .refl (by simp;intro e;exact e1 (by rw[e]))
 ·have d1:¬(k:Int)<l.length:=by omega
  refine df d1 ?_
  refine hL _ _ ?_
  clear hL
  refine fh ?_
  have Ib:l=m:=Hz c1 fun j hj=>j8 j (by omega)
  exact aq .refl (by simp[Ib])
theorem ZL(l m:List (List Int))(ro l6:Option (List AV))(hz:l.length≤1000000)(hp:∀k,k<l.length→(dS l k).length≤1000000)(H:Y):D Tryz.prog 32 [.am 1 (bc l) ro,.am 1 (bc m) l6,.fn (.func 31) [] []] H (.ret (.sc (.bool (decide (l=m))))) H:=by
 refine aG (Nat.le_refl _) (aiu (aA ?_))
 simp only[adY,ux]
 refine aw ?_
 refine ae (Qd l m ro l6 hz hp _) ?_
 refine aw ?_
 exact aq .refl rfl
def Je(b:kz):Prop:=b.1.length≤1000000∧b.2.2.length≤1000000∧∀k,k<b.2.2.length→(dS b.2.2 k).length≤1000000
theorem ZM(x y:kz)(hx:Je x)(H:Y):D Tryz.prog 30 [gB x,gB y] H (.ret (.sc (.bool (kG x y)))) H:=by
 have h1:=fun H=>wj x.1 y.1 none none H (by have:=hx.1;omega)
 have h2:=fun H=>ZL x.2.2 y.2.2 none none hx.2.1 hx.2.2 H
 unfold gB
 refine aG (Nat.le_refl _) (aio (aA ?_))
 simp only[adS,ux]
 refine Z fun L hL=>?_
 refine aw ?_
 refine hL _ _ ?_
 clear hL
 refine Z fun L hL=>?_
 refine aw ?_
 refine ae (h1 _) ?_
 by_cases e1:x.1=y.1
 ·refine aI e1 ?_
  refine ae (h2 _) ?_
  refine aw ?_
  refine hL _ _ ?_
  clear hL
  refine aw ?_
  exact aq (.cons (.cons .refl)) (by simp[kG,e1])
 ·refine aI e1 ?_
  refine hL _ _ ?_
  clear hL
  refine aw ?_
  exact aq (.cons (.cons .refl)) (by simp[kG,e1])
def kz.none:kz:=([],⟨#[]⟩,[])
def cS(l:List kz)(k:Nat):kz:=l.getD k kz.none
theorem lZ{l:List kz}{k:Nat}(h:k<l.length):(l.map gB).getD k .top = .agg [.am 1 (aK (cS l k).1) none,.sc (.string (cS l k).2.1),.am 1 (bc (cS l k).2.2) none]:=by simp[cS,List.getD,h,gB]
theorem od:∀{a b:List kz},a.length=b.length→(jc a b=true↔∀j,j<a.length→kG (cS a j) (cS b j)=true)
 |[],[],_=>by simp[jc]
 |[],_::_,h=>by simp at h
 |_::_,[],h=>by simp at h
 |x::r,y::s,h=>by
  simp only[jc,Bool.and_eq_true]
  rw[od (by simpa using h)]
  constructor
  ·rintro ⟨h1,h2⟩ j hj
   cases j with
   |zero=>simpa [cS] using h1
   |succ j=>simpa [cS] using h2 j (by simpa using hj)
  ·intro h
   exact ⟨by simpa [cS] using h 0 (by simp),fun j hj=>by simpa [cS] using h (j+1) (by simpa using hj)⟩
theorem AW:∀{a b:List kz},¬a.length=b.length→jc a b=false
 |[],[],h=>absurd rfl h
 |[],_::_,_=>by simp[jc]
 |_::_,[],_=>by simp[jc]
 |a::r,b::q,h=>by
  simp only[jc,Bool.and_eq_false_iff]
  exact .inr (AW (by simpa using h))
theorem Qe(l m:List kz)(ro l6:Option (List AV))(hz:l.length≤1000000)(hp:∀k,k<l.length→Je (cS l k))(H:Y):D Tryz.prog 66 [.am 3 (l.map gB) ro,.am 3 (m.map gB) l6,.fn (.func 30) [] []] H (.ret (.sc (.bool (jc l m)))) H:=by
 have cl:cr Tryz.prog 30=true:=by kernel_rfl
 have ef:∀l:List kz,(l.map gB).length=l.length:=fun l=>by simp
 refine aG (Nat.le_refl _) (aiz (aA ?_))
 simp only[ad3,ux]
 refine Z fun L hL=>?_
 refine aw ?_
 refine hL _ _ ?_
 clear hL
 refine Z fun L hL=>?_
 by_cases c1:l.length=m.length
 rotate_left
 ·have c2:¬(l.length:Int)=m.length:=by omega
  refine aI (ak ef c2) ?_
  exact aq .refl (AW c1).symm
 have c2:(l.length:Int)=m.length:=by omega
 refine aI (ak ef c2) ?_
 refine hL _ _ ?_
 clear hL
 refine Z fun L hL=>?_
 refine aI ef ?_
 refine aZ (fun ts F=>∃k:Nat,(k≤l.length∧∀j,j<k→kG (cS l j) (cS m j)=true)∧Over H F∧Fr (some (.am 3 (l.map gB) ro)::some (.am 3 (m.map gB) l6)::some (.fn (.func 30) [] [])::none::none::none::some (.sc (.bool false))::iv (some (.am 3 (l.map gB) ro)::some (.sc (.int .i64 l.length))::some (.sc (.int .i64 k))::none::none::fg (iv []))) ts) (fun ts _=>l.length-(aM (ts.getD 17 .top)).toNat) ?_ ?_
 ·exact ⟨0,⟨Nat.zero_le _,fun j h=>absurd h (Nat.not_lt_zero _)⟩,.refl,by simp[Fr]⟩
 rintro ts F ⟨k,⟨hk,j8⟩,hF,aX⟩ L2 bM
 obtain ⟨js,rfl⟩:=aX.opened
 clear aX
 by_cases hd:k<l.length
 ·have d1:(k:Int)<l.length:=by omega
  have d2:(k:Int)<m.length:=by omega
  have hg:=lZ hd
  have su:=lZ (l:=m) (k:=k) (by omega)
  have hi:=fun H=>ZM (cS l k) (cS m k) (hp k hd) H
  unfold gB at hi
  refine df (kZ d1 d2 hg su ef) ?_
  refine ⟨by omega,by omega,cl,ae (hi _) ?_⟩
  cases e1:kG (cS l k) (cS m k)
  ·refine aw ?_
   exact aq (.cons (.cons hF)) (by
    cases h2:jc l m
    ·rfl
    ·rw[(od c1).1 h2 k hd] at e1;cases e1)
  refine aw ?_
  refine bM _ _ ⟨k+1,⟨by omega,fun j hj=>?_⟩,.cons (.cons hF),by simp[Fr]⟩ (by simp[aM,mk];omega)
  rcases Nat.lt_succ_iff_lt_or_eq.1 hj with h'|rfl
  ·exact j8 j h'
  ·exact e1
 ·have d1:¬(k:Int)<l.length:=by omega
  refine df d1 ?_
  refine hL _ _ ?_
  clear hL
  refine fh ?_
  exact aq hF ((od c1).2 fun j hj=>j8 j (by omega)).symm
theorem UQ(t:Nd):∀(p:List Int)(b:Pl),b∈bI t p→b.p.length<p.length+t.size:=by
 induction t using Nd.ind with
 |_ t ih =>
  intro p b hb
  rw[cR] at hb
  rcases List.mem_cons.1 hb with rfl|hb
  ·have:=t.size_pos;simp only;omega
  ·obtain ⟨j,u,⟨_,h2⟩,h3⟩:=eS _ _ _ _ hb
   have hu:=List.mem_of_getElem? h2
   have:=ih u hu _ b h3
   have:=Nd.pg hu
   simp at *
   omega
theorem sw(n:Nd):(bQ n).length≤n.size:=by
 rw[jv]
 unfold eC
 split
 ·rw[List.length_map]
  refine Nat.le_trans (List.length_filter_le _ _) ?_
  rw[List.length_range,eL]
  exact Nat.le_refl _
 ·simp
theorem zC(n:Nd)(hs:n.size≤1000000):∀k,k<(bQ n).length→Je (cS (bQ n) k):=by
 rw[jv]
 intro k hk
 have hm:cS (eC n) k∈eC n:=by
  have:cS (eC n) k=(eC n)[k]:=by simp[cS,List.getD,hk]
  rw[this]
  exact List.getElem_mem _
 generalize cS (eC n) k=b at hm ⊢
 unfold eC at hm
 split at hm
 ·obtain ⟨i,hi,rfl⟩:=List.mem_map.1 hm
  have hi2:=List.mem_range.1 (List.mem_filter.1 hi).1
  have dY:∀u∈bI n [],u.p.length≤1000000:=fun u hu=>by
   have:=UQ n [] u hu
   simp at this
   omega
  refine ⟨?_,?_,fun j hj=>?_⟩
  ·have:au (bI n []) i=(bI n [])[i]:=by simp[au,List.getD,hi2]
   rw[this]
   exact dY _ (List.getElem_mem _)
  ·unfold e8
   rw[List.length_map]
   refine Nat.le_trans (List.length_filter_le _ _) ?_
   rw[eL]
   exact hs
  ·rw[vJ hj]
   have:=List.getElem_mem hj
   simp only at this
   obtain ⟨u,hu,e⟩:=List.mem_map.1 this
   rw[←e]
   exact dY u (List.mem_filter.1 hu).1
 ·simp at hm
theorem UR(H:Y)(a b:AV)(h:∀id,id<H.length→∃x,Y.find H id=some x∧tw x):∀id,id<(some (⟨4,[a],true,25⟩:aP)::some ⟨4,[b],true,25⟩::H).length→∃x,Y.find (some (⟨4,[a],true,25⟩:aP)::some ⟨4,[b],true,25⟩::H) id=some x∧tw x:=by
 intro id hid
 simp only[List.length_cons] at hid
 by_cases c:id=H.length+1
 ·exact ⟨_,aJ (by simpa using c),by simp,by simp,by simp,by simp⟩
 by_cases c2:id=H.length
 ·exact ⟨_,by rw[ai (by simp;omega),aJ c2],by simp,by simp,by simp,by simp⟩
 ·obtain ⟨x,h1,h2⟩:=h id (by omega)
  exact ⟨x,by rw[ai (by simp;omega),ai (by omega),h1],h2⟩
theorem ZN(a b:Nd)(hwa:a.wt≤500000)(BP:a.size≤500000)(hwb:b.wt≤500000)(H8:b.size≤500000)(ra rb:Option (List AV))(H:Y)(AU:∀id,id<H.length→∃x,Y.find H id=some x∧tw x):D Tryz.prog 10 [dZ a ra,dZ b rb] H (.ret (.sc (.bool (gb a b)))) H:=by
 have xM:=fun H=>xK a hwa BP ra H
 have hpb:=fun H=>xK b hwb H8 rb H
 have lN:=fun H=>acl a (by omega) b ra rb H
 have hba:=fun H h=>xH a hwa BP ra (iE a ra) H h
 have Kk:=fun H h=>xH b hwb H8 rb (iE b rb) H h
 have hee:∀H,D Tryz.prog 35 [.am 3 ((bQ a).map gB) none,.am 3 ((bQ b).map gB) none,.fn (.func 30) [] []] H (.ret (.sc (.bool (jc (bQ a) (bQ b))))) H:=fun H=>by
  have hk:=fun H=>Qe (bQ a) (bQ b) none none (by have:=sw a;omega) (zC a (by omega)) H
  refine aG (Nat.le_refl _) (aiv (aA ?_))
  simp only[adZ,ux]
  refine aw ?_
  refine ae (hk _) ?_
  refine aw ?_
  exact aq .refl rfl
 have wy:=UR H (dZ b rb) (dZ a ra) AU
 have ad7:=hba _ wy
 have ad8:=Kk _ wy
 rw[aQ,aQ] at ad7 ad8
 clear hba Kk
 rw[aQ] at xM hpb
 rw[aQ,aQ] at lN
 rw[aQ,aQ]
 refine aG (Nat.le_refl _) (ain (aA ?_))
 simp only[adR,ux]
 refine Z fun L hL=>?_
 refine aw ?_
 refine hL _ _ ?_
 clear hL
 refine Z fun L hL=>?_
 refine aw ?_
 refine hL _ _ ?_
 clear hL
 refine Z fun L hL=>?_
 cases c1:iB a
 ·rw[c1] at xM
  refine aw ?_
  refine aL (xM _) ?_
  refine aw ?_
  refine hL _ _ ?_
  clear hL
  refine aw ?_
  exact aq (.cons (.cons .refl)) (by simp[gb,c1])
 rw[c1] at xM
 cases c2:iB b
 ·rw[c2] at hpb
  refine aw ?_
  refine aL (xM _) ?_
  refine aw ?_
  refine aL (hpb _) ?_
  refine aw ?_
  refine hL _ _ ?_
  clear hL
  refine aw ?_
  exact aq (.cons (.cons .refl)) (by simp[gb,c2])
 rw[c2] at hpb
 cases c3:jY a b
 ·rw[c3] at lN
  refine aw ?_
  refine aL (xM _) ?_
  refine aw ?_
  refine aL (hpb _) ?_
  refine aw ?_
  refine aL (lN _) ?_
  refine aw ?_
  refine hL _ _ ?_
  clear hL
  refine aw ?_
  exact aq (.cons (.cons .refl)) (by simp[gb,c3])
 rw[c3] at lN
 refine aw ?_
 refine aL (xM _) ?_
 refine aw ?_
 refine aL (hpb _) ?_
 refine aw ?_
 refine aL (lN _) ?_
 refine aw ?_
 refine aL ad7 ?_
 refine aw ?_
 refine aL ad8 ?_
 refine aw ?_
 refine aL (hee _) ?_
 refine aw ?_
 refine hL _ _ ?_
 clear hL
 refine aw ?_
 exact aq (.cons (.cons .refl)) (by simp[gb,c1,c2,c3])
theorem Em(a b:Nd)(hwa:a.wt≤500000)(BP:a.size≤500000)(hwb:b.wt≤500000)(H8:b.size≤500000){x y:AV}{H:Y}(hx:View H x (eu a))(hy:View H y (eu b)):D Tryz.prog 10 [x,y] H (.ret (.sc (.bool (gb a b)))) H:=by
 have h:=ZN a b hwa BP hwb H8 none none [] fun id h=>by simp at h
 rw[ky,ky] at h
 exact tc (.cons hx (.cons hy .nil)) .sc h
def ad9:IC:=(.seq (.ops [iH 2 (.box 4 25 (.t 0)),iH 3 (.box 4 25 (.t 1)),iP 4 (.mv kF)]) (.seq (.seq (.ops [iH 8 (yA 4 2),iH 9 (.call 36 [(.t 8)]),iP 10 (xN 9),iM 11 10,gH 12 11 false (yA 4 3),gH 13 11 false (.call 36 [(.t 12)]),gP 14 11 false (xN 13),iP 15 (.pick (.t 11) kT (.t 14)),iM 16 15,gH 17 16 false (yA 4 2),gH 18 16 false (yA 4 3),gH 19 16 false (yC 37 17 18),gP 20 16 false (xN 19),iP 21 (.pick (.t 16) kT (.t 20))]) (.cond (.t 21) (.seq (.ops [iP 4 (.mv kF)]) .ret) .skip)) (.seq (.di [iH 22 (yA 4 2),iH 23 (.call 21 [(.t 22)]),iH 24 (yA 4 3),iH 25 (.call 21 [(.t 24)]),iM 5 23,iM 6 25] [[],[0],[],[2,1,0],[1,0,3,2],[3,2,1,0,4]]) (.seq (.seq (.ops [iM 26 5,iP 27 (xL 26),iM 28 6,iP 29 (xL 28),iP 30 (xB .neq 27 29)]) (.cond (.t 30) (.seq (.ops [iP 4 (.mv kF)]) .ret) .skip)) (.seq (.seq (.ops [iP 7 (xI 0)]) (.block 0 (.loop (.seq (.seq (.ops [iM 31 7,iM 32 5,iP 33 (xL 32),iP 34 (xB .lss 31 33)]) (.cond (.t 34) .skip (.exit 0))) (.seq (.block 1 (.seq (.di [iM 37 5,iM 38 7,iP 39 (xA 3 37 38),iP 40 (.an 0 (.t 39)),iH 41 (yD 1 40),iM 42 6,iM 43 7,iP 44 (xA 3 42 43),iP 45 (.an 0 (.t 44)),iH 46 (yD 1 45),iH 47 (yC 26 41 46),iP 48 (xN 47),iM 49 48,gM 50 49 false 5,gM 51 49 false 7,gP 52 49 false (xA 3 50 51),gP 53 49 false (.an 2 (.t 52)),gH 54 49 false (yD 1 53),gM 55 49 false 6,gM 56 49 false 7,gP 57 49 false (xA 3 55 56),gP 58 49 false (.an 2 (.t 57)),gH 59 49 false (yD 1 58),gH 60 49 false (yC 27 54 59),gP 61 49 false (xN 60),iP 62 (.pick (.t 49) kT (.t 61))] [[],[],[0,1],[2,0,1],[3,2,0,1],[],[],[5,6],[7,5,6],[8,7,5,6],[4,3,2,0,1,9,8,7,5,6],[10,4,3,2,0,1,9,8,7,5,6],[11,10,4,3,2,0,1,9,8,7,5,6],[12,11,10,4,3,2,0,1,9,8,7,5,6],[12,11,10,4,3,2,0,1,9,8,7,5,6],[13,12,11,10,4,3,2,0,1,9,8,7,5,6,14],[15,13,12,11,10,4,3,2,0,1,9,8,7,5,6,14],[16,15,13,12,11,10,4,3,2,0,1,9,8,7,5,6,14],[12,11,10,4,3,2,0,1,9,8,7,5,6],[12,11,10,4,3,2,0,1,9,8,7,5,6],[18,12,11,10,4,3,2,0,1,9,8,7,5,6,19],[20,18,12,11,10,4,3,2,0,1,9,8,7,5,6,19],[21,20,18,12,11,10,4,3,2,0,1,9,8,7,5,6,19],[17,16,15,13,12,11,10,4,3,2,0,1,9,8,7,5,6,14,22,21,20,18,19],[23,17,16,15,13,12,11,10,4,3,2,0,1,9,8,7,5,6,14,22,21,20,18,19],[12,11,10,4,3,2,0,1,9,8,7,5,6,24,23,17,16,15,13,14,22,21,20,18,19]]) (.cond (.t 62) (.seq (.ops [iP 4 (.mv kF)]) .ret) .skip))) (.ops [iM 35 7,iP 36 (.aN .add (.t 35) (kI 1)),iM 7 36])))))) (.seq (.ops [iP 4 (.mv kT)]) .ret))))))
theorem aiD:Dk Tryz.prog 11 ad9 [(.t 4)] 63:=aV Tryz.func11
def aea:IC:=(.seq (.ops [iH 3 (.box 4 25 (.t 0)),⟨(some 6),none,(.h (.alloc (.agg [(.sc (.int .u8 0)),(.sc (.string ⟨#[]⟩)),(.sc (.int .i64 0)),bG]) 25))⟩,iP 7 (xI 0)]) (.seq (.seq (.ops [iP 13 (.an 0 (.t 3)),iH 14 (yD 1 13),iP 15 (.aN .neq (.t 14) (.k (.sc (.int .u8 1)))),iM 16 15,gH 17 16 false (yA 4 3),gH 18 16 false (.call 46 [(.t 17)]),gP 19 16 false (xN 18),iP 20 (.pick (.t 16) kT (.t 19))]) (.cond (.t 20) (.seq (.ops [⟨(some 21),none,(.p (.build [(.sc (.int .u8 0)),(.sc (.string ⟨#[]⟩)),(.sc (.int .i64 0)),bG] []))⟩,iS 4 6 21,iP 7 (xI 4)]) .ret) .skip)) (.seq (.seq (.ops [iH 22 (yA 4 3),iH 23 (.call 36 [(.t 22)]),iP 24 (xN 23)]) (.cond (.t 24) (.seq (.ops [⟨(some 25),none,(.p (.build [(.sc (.int .u8 0)),(.sc (.string ⟨#[]⟩)),(.sc (.int .i64 0)),bG] []))⟩,iS 4 6 25,iP 7 (xI 122)]) .ret) .skip)) (.seq (.ops [iH 26 (yA 4 3),iH 27 (.call 21 [(.t 26)]),iM 8 27]) (.seq (.ops [iP 9 (xI (-1))]) (.seq (.seq (.ops [iP 10 (xI 0)]) (.block 0 (.loop (.seq (.seq (.ops [iM 28 10,iM 29 8,iP 30 (xL 29),iP 31 (xB .lss 28 30)]) (.cond (.t 31) .skip (.exit 0))) (.seq (.block 1 (.seq (.ops [iM 34 8,iM 35 10,iP 36 (xA 3 34 35),iP 37 (.an 0 (.t 36)),iH 38 (yD 1 37),iM 39 2,iH 40 (yC 26 38 39)]) (.cond (.t 40) (.ops [iM 41 10,iM 9 41]) .skip))) (.ops [iM 32 10,iP 33 (.aN .add (.t 32) (kI 1)),iM 10 33])))))) (.seq (.seq (.ops [iM 42 9,iP 43 (.aN .lss (.t 42) (kI 0))]) (.cond (.t 43) (.seq (.ops [⟨(some 44),none,(.p (.build [(.sc (.int .u8 0)),(.sc (.string ⟨#[]⟩)),(.sc (.int .i64 0)),bG] []))⟩,iS 4 6 44,iP 7 (xI 6)]) .ret) .skip)) (.seq (.seq (.ops [iM 45 1,iH 46 (.call 47 [(.t 45)]),iP 47 (xN 46)]) (.cond (.t 47) (.seq (.ops [⟨(some 48),none,(.p (.build [(.sc (.int .u8 0)),(.sc (.string ⟨#[]⟩)),(.sc (.int .i64 0)),bG] []))⟩,iS 4 6 48,iP 7 (xI 2)]) .ret) .skip)) (.seq (.ops [iH 49 (yA 4 3),iH 50 (.call 28 [(.t 49)]),iM 51 1,iM 52 2,iH 53 (.call 48 [(.t 50),(.t 51),(.t 52)]),⟨(some 11),none,(.h (.alloc (.agg [(.sc (.int .u8 0)),(.sc (.string ⟨#[]⟩)),(.sc (.int .i64 0)),bG]) 25))⟩,iS 4 11 53]) (.seq (.seq (.ops [iP 12 (xI 0)]) (.block 2 (.loop (.seq (.seq (.ops [iM 54 12,iM 55 8,iM 56 9,iP 57 (xA 3 55 56),iP 58 (.an 2 (.t 57)),iH 59 (yD 1 58),iP 60 (xL 59),iP 61 (xB .lss 54 60)]) (.cond (.t 61) .skip (.exit 2))) (.seq (.block 3 (.di [iH 64 (yA 4 11),iM 65 1,iM 66 8,iM 67 9,iP 68 (xA 3 66 67),iP 69 (.an 2 (.t 68)),iH 70 (yD 1 69),iM 71 12,iP 72 (xA 1 70 71),iH 73 (yD 1 72),iH 74 (.call 48 [(.t 64),(.t 65),(.t 73)]),iS 4 11 74] [[],[],[],[],[2,3],[4,2,3],[5,4,2,3],[],[6,5,4,2,3,7],[8,6,5,4,2,3,7],[0,1,9,8,6,5,4,2,3,7],[10,0,1,9,8,6,5,4,2,3,7]])) (.ops [iM 62 12,iP 63 (.aN .add (.t 62) (kI 1)),iM 12 63])))))) (.seq (.seq (.ops [iH 75 (yA 4 3),iH 76 (yA 4 11),iH 77 (yC 11 75 76),iP 78 (xN 77)]) (.cond (.t 78) (.seq (.ops [⟨(some 79),none,(.p (.build [(.sc (.int .u8 0)),(.sc (.string ⟨#[]⟩)),(.sc (.int .i64 0)),bG] []))⟩,iS 4 6 79,iP 7 (xI 120)]) .ret) .skip)) (.seq (.ops [iH 80 (yA 4 11),iS 4 6 80,iP 7 (xI 0)]) .ret))))))))))))
theorem aiE:Dk Tryz.prog 15 aea [(.c 6 4 true),(.t 7)] 81:=aV Tryz.func15
def aeb:IC:=(.seq (.ops [iH 2 (.box 4 25 (.t 0)),iH 3 (.box 4 25 (.t 1)),iP 4 (.mv kF)]) (.seq (.seq (.ops [iP 6 (.an 0 (.t 2)),iH 7 (yD 1 6),iP 8 (.an 0 (.t 3)),iH 9 (yD 1 8),iP 10 (xB .neq 7 9),iM 11 10,gP 12 11 false (.an 2 (.t 2)),gH 13 11 false (yD 1 12),gP 14 11 false (.an 2 (.t 3)),gH 15 11 false (yD 1 14),gP 16 11 false (xB .neq 13 15),iP 17 (.pick (.t 11) kT (.t 16)),iM 18 17,gP 19 18 false (.an 1 (.t 2)),gH 20 18 false (yD 1 19),gP 21 18 false (.an 1 (.t 3)),gH 22 18 false (yD 1 21),gP 23 18 false (xB .neq 20 22),gM 24 18 false 23,gP 25 24 true (.an 0 (.t 2)),gH 26 24 true (yD 1 25),gH 27 24 true (.call 67 [(.t 26)]),gP 28 24 true (xN 27),gP 29 18 false (.pick (.t 24) (.t 28) kF),iP 30 (.pick (.t 18) kT (.t 29)),iM 31 30,gP 32 31 false (.an 3 (.t 2)),gH 33 31 false (yD 1 32),gP 34 31 false (xL 33),gP 35 31 false (.an 3 (.t 3)),gH 36 31 false (yD 1 35),gP 37 31 false (xL 36),gP 38 31 false (xB .neq 34 37),iP 39 (.pick (.t 31) kT (.t 38))]) (.cond (.t 39) (.seq (.ops [iP 4 (.mv kF)]) .ret) .skip)) (.seq (.seq (.ops [iP 5 (xI 0)]) (.block 0 (.loop (.seq (.seq (.ops [iM 40 5,iP 41 (.an 3 (.t 2)),iH 42 (yD 1 41),iP 43 (xL 42),iP 44 (xB .lss 40 43)]) (.cond (.t 44) .skip (.exit 0))) (.seq (.block 1 (.seq (.di [iP 47 (.an 3 (.t 2)),iH 48 (yD 1 47),iM 49 5,iP 50 (xA 4 48 49),iH 51 (yA 4 50),iP 52 (.an 3 (.t 3)),iH 53 (yD 1 52),iM 54 5,iP 55 (xA 4 53 54),iH 56 (yA 4 55),iH 57 (yC 37 51 56),iP 58 (xN 57)] [[],[0],[],[1,0,2],[3,1,0,2],[],[5],[],[6,5,7],[8,6,5,7],[4,3,1,0,2,9,8,6,5,7],[10,4,3,1,0,2,9,8,6,5,7]]) (.cond (.t 58) (.seq (.ops [iP 4 (.mv kF)]) .ret) .skip))) (.ops [iM 45 5,iP 46 (.aN .add (.t 45) (kI 1)),iM 5 46])))))) (.seq (.ops [iP 4 (.mv kT)]) .ret))))
theorem aiF:Dk Tryz.prog 37 aeb [(.t 4)] 59:=aV Tryz.func37
def aec:IC:=(.seq (.ops [iP 2 (.mv kF)]) (.seq (.ops [iM 3 0,iP 4 (.aN .eql (.t 3) (.k (.sc (.int .u8 2)))),iM 5 4,gM 6 5 false 0,gP 7 5 false (.aN .eql (.t 6) (.k (.sc (.int .u8 4)))),iP 8 (.pick (.t 5) kT (.t 7)),iM 9 8,gM 10 9 false 0,gP 11 9 false (.aN .eql (.t 10) (.k (.sc (.int .u8 6)))),iP 12 (.pick (.t 9) kT (.t 11)),iM 13 12,gM 14 13 false 0,gP 15 13 false (.aN .eql (.t 14) (.k (.sc (.int .u8 22)))),iP 16 (.pick (.t 13) kT (.t 15)),iM 17 16,gM 18 17 false 0,gP 19 17 false (.aN .eql (.t 18) (.k (.sc (.int .u8 25)))),iP 20 (.pick (.t 17) kT (.t 19)),iM 2 20]) .ret))
theorem aiG:Dk Tryz.prog 67 aec [(.t 2)] 21:=aV Tryz.func67
def aed:IC:=(.seq (.ops [iH 1 (.box 4 25 (.t 0)),iP 2 (.mv kF)]) (.seq (.ops [iP 3 (.an 0 (.t 1)),iH 4 (yD 1 3),iP 5 (.aN .eql (.t 4) (.k (.sc (.int .u8 1)))),iM 6 5,gH 7 6 true (yA 4 1),gH 8 6 true (.call 46 [(.t 7)]),iP 9 (.pick (.t 6) (.t 8) kF),iM 10 9,gH 11 10 true (yA 4 1),gH 12 10 true (.call 54 [(.t 11)]),gP 13 10 true (.field 0 1 false (.t 12)),gP 14 10 true (.aN .eql (.t 13) (kI 0)),iP 15 (.pick (.t 10) (.t 14) kF),iM 2 15]) .ret))
theorem aiH:Dk Tryz.prog 36 aed [(.t 2)] 16:=aV Tryz.func36
def ZO:IC:=(.seq (.ops [iH 3 (.box 4 25 (.t 0)),⟨(some 6),none,(.h (.alloc (.agg [(.sc (.int .u8 0)),(.sc (.string ⟨#[]⟩)),(.sc (.int .i64 0)),bG]) 25))⟩]) (.seq (.ops [iH 8 (yA 4 3),⟨(some 7),none,(.h (.alloc (.agg [(.sc (.int .u8 0)),(.sc (.string ⟨#[]⟩)),(.sc (.int .i64 0)),bG]) 25))⟩,iS 4 7 8]) (.seq (.seq (.ops [iM 9 2,iP 10 (xL 9),iP 11 (.aN .eql (.t 10) (kI 0))]) (.cond (.t 11) (.seq (.ops [iM 12 1,iP 13 (.an 1 (.t 7)),iS 1 13 12]) (.seq (.ops [iH 14 (yA 4 7),iS 4 6 14]) .ret)) .skip)) (.seq (.ops [⟨(some 15),none,(.h (.ep 4 25 (.agg [(.sc (.int .u8 0)),(.sc (.string ⟨#[]⟩)),(.sc (.int .i64 0)),bG]) 0 []))⟩,iP 16 (.an 3 (.t 3)),iH 17 (yD 1 16),iH 18 (.ez 4 25 (.t 15) (.t 17)),iP 19 (.an 3 (.t 7)),iS 1 19 18]) (.seq (.di [iP 20 (.an 3 (.t 7)),iH 21 (yD 1 20),iM 22 2,iP 23 (.gm 1 (.t 22) (kI 0)),iH 24 (yD 1 23),iP 25 (.an 3 (.t 3)),iH 26 (yD 1 25),iM 27 2,iP 28 (.gm 1 (.t 27) (kI 0)),iH 29 (yD 1 28),iP 30 (xA 4 26 29),iH 31 (yA 4 30),iM 32 1,iM 33 2,iP 34 (.qC 1 (.t 33) (some (kI 1)) none none),iH 35 (.call 48 [(.t 31),(.t 32),(.t 34)]),iP 36 (xA 4 21 24),iS 4 36 35] [[],[0],[],[2],[3,2],[],[5],[],[7],[8,7],[6,5,9,8,7],[10,6,5,9,8,7],[],[],[13],[11,10,6,5,9,8,7,12,14,13],[1,0,4,3,2,5,6,7,8,9,10,11,12,13,14,15],[16,1,0,4,3,2,5,6,7,8,9,10,11,12,13,14,15]]) (.seq (.ops [iH 37 (yA 4 7),iS 4 6 37]) .ret))))))
theorem aee:Dk Tryz.prog 48 ZO [(.c 6 4 true)] 38:=aV Tryz.func48
def aef:IC:=(.seq (.ops [iP 4 (.mv kF)]) (.seq (.seq (.ops [iM 6 0,iP 7 (xL 6),iM 8 1,iP 9 (xL 8),iP 10 (xB .neq 7 9)]) (.cond (.t 10) (.seq (.ops [iP 4 (.mv kF)]) .ret) .skip)) (.seq (.seq (.ops [iP 5 (xI 0)]) (.block 0 (.loop (.seq (.seq (.ops [iM 11 5,iM 12 0,iP 13 (xL 12),iP 14 (xB .lss 11 13)]) (.cond (.t 14) .skip (.exit 0))) (.seq (.block 1 (.seq (.di [iM 17 0,iM 18 5,iP 19 (xA 1 17 18),iH 20 (yD 1 19),iM 21 1,iM 22 5,iP 23 (xA 1 21 22),iH 24 (yD 1 23),iH 25 (yC 26 20 24),iP 26 (xN 25)] [[],[],[0,1],[2,0,1],[],[],[4,5],[6,4,5],[3,2,0,1,7,6,4,5],[8,3,2,0,1,7,6,4,5]]) (.cond (.t 26) (.seq (.ops [iP 4 (.mv kF)]) .ret) .skip))) (.ops [iM 15 5,iP 16 (.aN .add (.t 15) (kI 1)),iM 5 16])))))) (.seq (.ops [iP 4 (.mv kT)]) .ret))))
theorem aiI:Dk Tryz.prog 27 aef [(.t 4)] 27:=aV Tryz.func27
theorem Jf(l m:List (List Int))(ro l6:Option (List AV))(hz:l.length≤1000000)(hp:∀k,k<l.length→(dS l k).length≤1000000)(H:Y):D Tryz.prog 27 [.am 1 (bc l) ro,.am 1 (bc m) l6] H (.ret (.sc (.bool (decide (l=m))))) H:=by
 refine aG (Nat.le_refl _) (aiI (aA ?_))
 simp only[aef,ux]
 refine Z fun L hL=>?_
 refine aw ?_
 refine hL _ _ ?_
 clear hL
 refine Z fun L hL=>?_
 by_cases c1:l.length=m.length
 rotate_left
 ·have c2:¬(l.length:Int)=m.length:=by omega
  refine aI (ak @dg c2) ?_
  exact aq .refl (by simp;intro e;exact c1 (by rw[e]))
 have c2:(l.length:Int)=m.length:=by omega
 refine aI (ak @dg c2) ?_
 refine hL _ _ ?_
 clear hL
 refine Z fun L hL=>?_
 refine Z fun L hL=>?_
 refine aI @dg ?_
 refine hL _ _ ?_
 clear hL
 refine aZ (fun ts F=>∃k:Nat,(k≤l.length∧∀j,j<k→dS l j=dS m j)∧F=H∧Fr (some (.am 1 (bc l) ro)::some (.am 1 (bc m) l6)::none::none::some (.sc (.bool false))::some (.sc (.int .i64 k))::none::fg (dL [])) ts) (fun ts _=>l.length-(aM (ts.getD 5 .top)).toNat) ?_ ?_
 ·exact ⟨0,⟨Nat.zero_le _,fun j h=>absurd h (Nat.not_lt_zero _)⟩,rfl,by simp[Fr]⟩
 rintro ts F ⟨k,⟨hk,j8⟩,rfl,aX⟩ L2 bM
 obtain ⟨js,rfl⟩:=aX.opened
 clear aX
 by_cases hd:k<l.length
 ·have d1:(k:Int)<l.length:=by omega
  have d2:(k:Int)<m.length:=by omega
  have hg:=nD hd
  have su:=nD (l:=m) (k:=k) (by omega)
  have hi:=fun H=>ob (dS l k) (dS m k) none none H (by have:=hp k hd;omega)
  simp -implicitDefEqProofs (maxSteps:=99999999) (disch:=first|omega|(simp only[vl];first|done|omega)) only[mk,vg,d1,d2,hg,su,dg,va,vg,vs,vw,vk,simprocAttr]
  refine ⟨by omega,by omega,aL (hi _) ?_⟩
  by_cases e1:dS l k=dS m k
  ·refine aI e1 ?_
   refine bM _ _ ⟨k+1,⟨by omega,fun j hj=>?_⟩,rfl,by simp[Fr]⟩ (by simp[aM,mk];omega)
   rcases Nat.lt_succ_iff_lt_or_eq.1 hj with h'|rfl
   ·exact j8 j h'
   ·exact e1
  ·refine aI e1 ?_
   exact aq .refl (by simp;intro e;exact e1 (by rw[e]))
 ·have d1:¬(k:Int)<l.length:=by omega
  refine df (ak d1 @dg) ?_
  clear bM
  refine hL _ _ ?_
  clear hL
  refine aw ?_
  have Ib:l=m:=Hz c1 fun j hj=>j8 j (by omega)
  exact aq .refl (by simp[Ib])
theorem UT(k:Int)(H:Y):D Tryz.prog 67 [.sc (.int .u8 k)] H (.ret (.sc (.bool (eM k)))) H:=by
 refine aG (Nat.le_refl _) (aiG (aA ?_))
 simp only[aec,ux]
 by_cases c2:k=2
 ·subst c2
  refine aw ?_
  exact aq .refl rfl
 by_cases c4:k=4
 ·subst c4
  refine aw ?_
  exact aq .refl rfl
 by_cases c6:k=6
 ·subst c6
  refine aw ?_
  exact aq .refl rfl
 by_cases qH:k=22
 ·subst qH
  refine aw ?_
  exact aq .refl rfl
 by_cases qG:k=25
 ·subst qG
  refine aw ?_
  exact aq .refl rfl
 ·refine aI (kZ c2 c4 c6 qH qG) ?_
  exact aq .refl (by simp[eM,c2,c4,c6,qH,qG])
theorem ZP(a:Nd):∀(hz:a.size≤1000000)(b:Nd)(ro l6:Option (List AV))(H:Y),D Tryz.prog 37 [dZ a ro,dZ b l6] H (.ret (.sc (.bool (jY a b)))) H:=by
 induction a using Nd.ind with
 |_ a ih =>
  intro hz b ro l6 H
  have hs:=Nd.size_eq a
  have hl:=Nd.fZ a.kids
  have hq:=GV a b
  rw[aQ,aQ]
  refine aG (Nat.le_refl _) (aiF (aA ?_))
  simp only[aeb,ux]
  refine Z fun L hL=>?_
  refine aw ?_
  refine hL _ _ ?_
  clear hL
  refine Z fun L hL=>?_
  by_cases c1:a.kind=b.kind
  rotate_left
  ·refine aI c1 ?_
   exact aq (.cons (.cons .refl)) (by rw[hq];simp[c1])
  by_cases c3:a.num=b.num
  rotate_left
  ·refine aI (ak c1 c3) ?_
   exact aq (.cons (.cons .refl)) (by rw[hq];simp[c3])
  have rest:∀(hnt:(eM a.kind|| decide (a.text=b.text))=true),jY a b=jZ a.kids b.kids:=fun hnt=>by rw[hq,hnt];simp[c1,c3]
  have fin:∀(ts:List AV)(F0:Y)(a1 a2 a3 b1 b2 b3:AV),a.kids.length=b.kids.length→jY a b=jZ a.kids b.kids→Fr (none::none::some (.ptr 4 H.length 0 0)::some (.ptr 4 (H.length+1) 0 0)::some (.sc (.bool false))::none::none::fg (dL (bf []))) ts→Y.find F0 H.length=some ⟨4,[.agg [a1,a2,a3,.am 4 (bh a.kids) ro]],true,25⟩→Y.find F0 (H.length+1)=some ⟨4,[.agg [b1,b2,b3,.am 4 (bh b.kids) l6]],true,25⟩→Over H F0→L ts F0:=by
   intro ts F0 a1 a2 a3 b1 b2 b3 c5 lN aX hA hB hO
   obtain ⟨js,rfl⟩:=aX.opened
   clear aX
   refine hL _ _ ?_
   clear hL
   refine Z fun L hL=>?_
   refine Z fun L hL=>?_
   refine zG0 ?_
   refine hL _ _ ?_
   clear hL
   refine aZ (fun ts F=>∃k:Nat,(k≤a.kids.length∧∀j,j<k→jY (aE a.kids j) (aE b.kids j)=true)∧F=F0∧Fr (none::none::some (.ptr 4 H.length 0 0)::some (.ptr 4 (H.length+1) 0 0)::some (.sc (.bool false))::some (.sc (.int .i64 k))::none::fg (dL (bf []))) ts) (fun ts _=>a.kids.length-(aM (ts.getD 5 .top)).toNat) ?_ ?_
   ·exact ⟨0,⟨Nat.zero_le _,fun j h=>absurd h (Nat.not_lt_zero _)⟩,rfl,by simp[Fr]⟩
   rintro ts F ⟨k,⟨hk,j8⟩,Ek,aX⟩ L2 bM
   rw[Ek]
   obtain ⟨js,rfl⟩:=aX.opened
   clear aX
   by_cases hd:k<a.kids.length
   ·have d1:(k:Int)<a.kids.length:=by omega
    have d2:(k:Int)<b.kids.length:=by omega
    have hg:=dG hd
    have su:=dG (l:=b.kids) (k:=k) (by omega)
    have hi:=fun H=>ih _ (eJ hd) (by have:=Nd.de (eJ hd);omega) (aE b.kids k) none none H
    rw[aQ,aQ] at hi
    refine fB (mN d1 d2 hg su hA hB @aH) ?_
    refine ⟨by omega,by omega,aL (hi _) ?_⟩
    cases e1:jY (aE a.kids k) (aE b.kids k)
    ·refine aw ?_
     exact aq hO (by rw[lN];exact (LG c5 hd e1).symm)
    refine aw ?_
    refine bM _ _ ⟨k+1,⟨by omega,fun j hj=>?_⟩,rfl,by simp[Fr]⟩ (by simp[aM,mk];omega)
    rcases Nat.lt_succ_iff_lt_or_eq.1 hj with h'|rfl
    ·exact j8 j h'
    ·exact e1
   ·have d1:¬(k:Int)<a.kids.length:=by omega
    refine fB (ei d1 hA hB @aH) ?_
    clear bM
    refine hL _ _ ?_
    clear hL
    refine aw ?_
    exact aq hO (by rw[lN];exact (LH c5 fun j hj=>j8 j (by omega)).symm)
  by_cases c2:a.text=b.text
  ·have lN:=rest (by simp[c2])
   by_cases c5:a.kids.length=b.kids.length
   rotate_left
   ·have c6:¬(a.kids.length:Int)=b.kids.length:=by omega
    refine aI (kZ c1 c2 c3 c6 @aH) ?_
    exact aq (.cons (.cons .refl)) (by rw[lN];exact (ze c5).symm)
   have c6:(a.kids.length:Int)=b.kids.length:=by omega
   refine aI (kZ c1 c2 c3 c6 @aH) ?_
   exact fin _ _ _ _ _ _ _ _ c5 lN (by simp[Fr]) (by rw[ai (by simp),aJ rfl]) (aJ (by simp)) (.cons (.cons .refl))
  ·have hnk:=fun H=>UT b.kind H
   cases cn:eM b.kind
   ·rw[cn] at hnk
    refine aI (gq c1 c2 c3) ?_
    refine ae (hnk _) ?_
    refine aw ?_
    exact aq (.cons (.cons .refl)) (by rw[hq,c1,cn];simp[c2])
   ·rw[cn] at hnk
    have lN:=rest (by rw[c1,cn];simp)
    by_cases c5:a.kids.length=b.kids.length
    rotate_left
    ·have c6:¬(a.kids.length:Int)=b.kids.length:=by omega
     refine aI (kZ c1 c2 c3 c6 @aH) ?_
     refine ae (hnk _) ?_
     refine aI (ak c6 @aH) ?_
     exact aq (.cons (.cons .refl)) (by rw[lN];exact (ze c5).symm)
    have c6:(a.kids.length:Int)=b.kids.length:=by omega
    refine aI (kZ c1 c2 c3 c6 @aH) ?_
    refine ae (hnk _) ?_
    refine aI (ak c6 @aH) ?_
    exact fin _ _ _ _ _ _ _ _ c5 lN (by simp[Fr]) (by rw[ai (by simp),aJ rfl]) (aJ (by simp)) (.cons (.cons .refl))
theorem vK(n:Nd)(hs:n.size≤1000000)(ro:Option (List AV))(hro:∀ok,AV.gG ok ro)(H:Y):D Tryz.prog 36 [dZ n ro] H (.ret (.sc (.bool (iB n)))) H:=by
 have ki:=fun H=>Hy n ro hro hs H
 have lA:=fun H=>AQ n ro (by omega) H
 rw[aQ] at ki lA ⊢
 unfold Ej at ki
 have j8:iB n=(decide (n.kind=1) && (bH n 40 && decide ((fp n).1=0))):=by
  unfold iB
  rw[vt]
  by_cases c:n.kind=1∧bH n 40=true
  ·simp[c]
  ·have:fp n=(4,0):=by unfold fp;rw[if_neg c]
   rw[this]
   by_cases c1:n.kind=1
   ·have:bH n 40=false:=by
     cases h:bH n 40
     ·rfl
     ·exact absurd ⟨c1,h⟩ c
    simp[this]
   ·simp[c1]
 rw[j8]
 refine aG (Nat.le_refl _) (aiH (aA ?_))
 simp only[aed,ux]
 refine Z fun L hL=>?_
 refine aw ?_
 refine hL _ _ ?_
 clear hL
 refine Z fun L hL=>?_
 by_cases c1:n.kind=1
 rotate_left
 ·refine aI c1 ?_
  refine hL _ _ ?_
  clear hL
  refine aw ?_
  exact aq (.cons .refl) (by simp[c1])
 rw[c1] at ki lA
 cases c2:bH n 40
 ·refine aI c1 ?_
  refine ae (lA _) ?_
  rw[c2]
  refine aw ?_
  refine hL _ _ ?_
  clear hL
  refine aw ?_
  exact aq (.cons .refl) (by simp[c2])
 refine aI c1 ?_
 refine ae (lA _) ?_
 rw[c2]
 refine aw ?_
 refine ae (ki _) ?_
 refine aw ?_
 refine hL _ _ ?_
 clear hL
 refine aw ?_
 exact aq (.cons .refl) (by simp[c1,c2])
theorem UU(a b:Nd)(BP:a.size≤1000000)(H8:b.size≤1000000)(ra rb:Option (List AV))(hra:∀ok,AV.gG ok ra)(Qf:∀ok,AV.gG ok rb)(H:Y):D Tryz.prog 11 [dZ a ra,dZ b rb] H (.ret (.sc (.bool (gb a b)))) H:=by
 have xM:=fun H=>vK a BP ra hra H
 have hpb:=fun H=>vK b H8 rb Qf H
 have lN:=fun H=>ZP a BP b ra rb H
 have hba:=fun H=>vI a ra hra BP H
 have Kk:=fun H=>vI b rb Qf H8 H
 rw[←jv] at hba Kk
 have hoa:=zC a BP
 have yJ:=sw a
 have hlb:=sw b
 have ef:∀l:List kz,(l.map gB).length=l.length:=fun l=>by simp
 rw[aQ] at xM hpb hba Kk
 rw[aQ,aQ] at lN
 rw[aQ,aQ]
 refine aG (Nat.le_refl _) (aiD (aA ?_))
 simp only[ad9,ux]
 refine Z fun L hL=>?_
 refine aw ?_
 refine hL _ _ ?_
 clear hL
 refine Z fun L hL=>?_
 cases c1:iB a
 ·rw[c1] at xM
  refine aw ?_
  refine ae (xM _) ?_
  refine aw ?_
  exact aq (.cons (.cons .refl)) (by simp[gb,c1])
 rw[c1] at xM
 cases c2:iB b
 ·rw[c2] at hpb
  refine aw ?_
  refine ae (xM _) ?_
  refine aw ?_
  refine ae (hpb _) ?_
  refine aw ?_
  exact aq (.cons (.cons .refl)) (by simp[gb,c2])
 rw[c2] at hpb
 cases c3:jY a b
 ·rw[c3] at lN
  refine aw ?_
  refine ae (xM _) ?_
  refine aw ?_
  refine ae (hpb _) ?_
  refine aw ?_
  refine ae (lN _) ?_
  refine aw ?_
  exact aq (.cons (.cons .refl)) (by simp[gb,c3])
 rw[c3] at lN
 have hal:gb a b=jc (bQ a) (bQ b):=by simp[gb,c1,c2,c3]
 refine aw ?_
 refine ae (xM _) ?_
 refine aw ?_
 refine ae (hpb _) ?_
 refine aw ?_
 refine ae (lN _) ?_
 refine aw ?_
 refine hL _ _ ?_
 clear hL
 refine Z fun L hL=>?_
 refine aw ?_
 refine aL (hba _) ?_
 refine aw ?_
 refine aL (Kk _) ?_
 refine aw ?_
 refine hL _ _ ?_
 clear hL
 refine Z fun L hL=>?_
 generalize bQ a=l at *
 generalize bQ b=m at *
 by_cases c5:l.length=m.length
 rotate_left
 ·have c6:¬(l.length:Int)=m.length:=by omega
  refine aI (ak ef c6) ?_
  exact aq (.cons (.cons .refl)) (by rw[hal];exact (AW c5).symm)
 have c6:(l.length:Int)=m.length:=by omega
 refine aI (ak ef c6) ?_
 refine hL _ _ ?_
 clear hL
 refine Z fun L hL=>?_
 refine Z fun L hL=>?_
 refine aI ef ?_
 refine hL _ _ ?_
 clear hL
 refine aZ (fun ts F=>∃k:Nat,(k≤l.length∧∀j,j<k→kG (cS l j) (cS m j)=true)∧Over H F∧Fr (fg (some (.sc (.bool false))::some (.am 3 (l.map gB) none)::some (.am 3 (m.map gB) none)::some (.sc (.int .i64 k))::none::none::none::fg (dL (bf [])))) ts) (fun ts _=>l.length-(aM (ts.getD 7 .top)).toNat) ?_ ?_
 ·exact ⟨0,⟨Nat.zero_le _,fun j h=>absurd h (Nat.not_lt_zero _)⟩,.cons (.cons .refl),by simp[Fr]⟩
 rintro ts F ⟨k,⟨hk,j8⟩,hO,aX⟩ L2 bM
 obtain ⟨js,rfl⟩:=aX.opened
 clear aX
 by_cases hd:k<l.length
 ·have d1:(k:Int)<l.length:=by omega
  have d2:(k:Int)<m.length:=by omega
  have hg:=lZ hd
  have su:=lZ (l:=m) (k:=k) (by omega)
  have hok:=hoa k hd
  have hi:=fun H=>ob (cS l k).1 (cS m k).1 none none H (by have:=hok.1;omega)
  have hj:=fun H=>Jf (cS l k).2.2 (cS m k).2.2 none none hok.2.1 hok.2.2 H
  have VY:kG (cS l k) (cS m k)=false→jc l m=false:=fun e=>by
   cases h2:jc l m
   ·rfl
   ·rw[(od c5).1 h2 k hd] at e;cases e
  by_cases e1:(cS l k).1=(cS m k).1
  ·rw[decide_eq_true e1] at hi
   by_cases e2:(cS l k).2.2=(cS m k).2.2
   ·rw[decide_eq_true e2] at hj
    have e3:kG (cS l k) (cS m k)=true:=by simp[kG,e1,e2]
    refine fB (kZ d1 d2 hg su ef) ?_
    refine ⟨by omega,by omega,aL (hi _) ?_⟩
    refine fB (kZ d1 d2 hg su ef) ?_
    refine ⟨by omega,by omega,aL (hj _) ?_⟩
    refine aw ?_
    refine bM _ _ ⟨k+1,⟨by omega,fun j hj=>?_⟩,hO,by simp[Fr]⟩ (by simp[aM,mk];omega)
    rcases Nat.lt_succ_iff_lt_or_eq.1 hj with h'|rfl
    ·exact j8 j h'
    ·exact e3
   ·rw[decide_eq_false e2] at hj
    refine fB (kZ d1 d2 hg su ef) ?_
    refine ⟨by omega,by omega,aL (hi _) ?_⟩
    refine fB (kZ d1 d2 hg su ef) ?_
    refine ⟨by omega,by omega,aL (hj _) ?_⟩
    refine aw ?_
    exact aq hO (by rw[hal];exact (VY (by simp[kG,e2])).symm)
  ·rw[decide_eq_false e1] at hi
   refine fB (kZ d1 d2 hg su ef) ?_
   refine ⟨by omega,by omega,aL (hi _) ?_⟩
   refine aw ?_
   exact aq hO (by rw[hal];exact (VY (by simp[kG,e1])).symm)
 ·have d1:¬(k:Int)<l.length:=by omega
  refine fB (ak d1 ef) ?_
  clear bM
  refine hL _ _ ?_
  clear hL
  refine aw ?_
  exact aq hO (by rw[hal];exact ((od c5).2 fun j hj=>j8 j (by omega)).symm)
def En:Nd→Nat→Nat→Nat→List Int→Option (Nat×Nat)
 |_,id,j,_,[]=>some (id,j)
 |t,id,j,a,k::r=>if 0≤k∧k<t.kids.length then En (aE t.kids k.toNat) a k.toNat (a+1+Nd.ay (t.kids.take k.toNat)) r else none
theorem jd.at_{F:Y}:∀{l:List Nd}{a k:Nat},jd F l a→k<l.length→dP F (aE l k) (a+Nd.ay (l.take k))
 |[],_,_,_,h=>by simp at h
 |t::r,a,0,hl,_=>by simpa [aE,Nd.ay] using hl.first
 |t::r,a,k+1,hl,h=>by
  have:=hl.rest.at_ (k:=k) (by simpa using h)
  simp only[List.take_succ_cons,Nd.ay]
  rw[show a+(t.size+Nd.ay (r.take k))=a+t.size+Nd.ay (r.take k) by omega]
  simpa [aE] using this
def Qg:Nd→Nd→List Int→Nd
 |_,vi,[]=>vi
 |t,vi,k::r=>⟨t.kind,t.text,t.num,t.kids.set k.toNat (Qg (aE t.kids k.toNat) vi r)⟩
theorem zD{l:List Nd}{k:Nat}(h:k<l.length):Nd.ay (l.take k)+(aE l k).size≤Nd.ay l:=by
 have h1:=iK h
 have h2:=pF l (k+1)
 omega
theorem MB{l:List Nd}{m q:Nat}(h:m<q)(hm:m<l.length):Nd.ay (l.take m)+(aE l m).size≤Nd.ay (l.take q):=by
 have h1:=iK hm
 have h2:=pF (l.take q) (m+1)
 rw[List.take_take,Nat.min_eq_left (by omega)] at h2
 omega
theorem ZQ{t:Nd}{id j a i m:Nat}{q:Int}{r:List Int}(h:En t id j a (q::r)=some (i,m)):a≤i∧i<a+t.size:=by
 induction r generalizing t id j a q with
 |nil =>
  simp only[En] at h
  split at h
  ·simp only[Option.some.injEq,Prod.mk.injEq] at h
   have:=t.size_pos
   omega
  ·cases h
 |cons q2 r ih =>
  rw[En] at h
  split at h
  ·rename_i hk
   have h1:=ih h
   have h2:=zD (l:=t.kids) (k:=q.toNat) (by omega)
   have h3:=Nd.size_eq t
   omega
  ·cases h
theorem MC{l:List Nd}{m:Nat}(h:m<l.length):(bh l)[m]? = some (eu (aE l m)):=by
 rw[qb,eH h]
 simp[h]
structure aiJ(G:Y)(n0:Nat)(R:AV→AV→Prop):Prop where
 same:∀{t:Nd}{a:Nat},n0≤a→dP G t a→R (fF t a) (eu t)
 node:∀{k n:Int}{s:ByteArray}{xs xs':List AV}{ys:List AV}{a:Nat},n0≤a→xs.length=xs'.length→(xs'≠[]→Y.find G a=some ⟨4,xs',false,25⟩)→xs'.length=ys.length→(∀(m:Nat)(x y:AV),xs'[m]? = some x→ys[m]? = some y→R x y)→R (.agg [.sc (.int .u8 k),.sc (.string s),.sc (.int .i64 n),aW 4 xs a]) (.agg [.sc (.int .u8 k),.sc (.string s),.sc (.int .i64 n),.am 4 ys none])
theorem MF{l:List Nd}{k m:Nat}{x:Nd}(hk:k<l.length):aE (l.set k x) m=if m=k then x else aE l m:=by
 unfold aE
 rw[List.getD_eq_getElem?_getD,List.getElem?_set,List.getD_eq_getElem?_getD]
 by_cases e:k=m
 ·subst e
  simp[hk]
 ·rw[if_neg e,if_neg (fun h=>e h.symm)]
theorem aiK{F G:Y}{n0:Nat}{R:AV→AV→Prop}(hR:aiJ G n0 R){vi:Nd}{b:Nat}(aiL:R (fF vi b) (eu vi))(r:List Int):∀{t:Nd}{id j a i m:Nat}{q:Int}{es:List AV},n0≤a→dP F t a→En t id j a (q::r)=some (i,m)→Y.find F i=some ⟨4,es,false,25⟩→Y.find G i=some ⟨4,es.set m (fF vi b),false,25⟩→(∀x,a≤x→x<a+t.size→x≠i→Y.find G x=Y.find F x)→R (fF t a) (eu (Qg t vi (q::r))):=by
 induction r with
 |nil =>
  intro t id j a i m q es hn hl hp hf hg ho
  simp only[En] at hp
  split at hp
  case isFalse=>cases hp
  rename_i hq
  simp only[Option.some.injEq,Prod.mk.injEq] at hp
  obtain ⟨rfl,rfl⟩:=hp
  have Qh:q.toNat<t.kids.length:=by omega
  have hne:eT t.kids (a+1)≠[]:=fun e=>by have:=gW t.kids (a+1);rw[e] at this;simp at this;omega
  have mg:es=eT t.kids (a+1):=by
   have:=hl.head
   rw[hf,bj hne] at this
   simpa using this
  subst mg
  rw[ey,ew]
  show R (.agg [.sc (.int .u8 t.kind),.sc (.string t.text),.sc (.int .i64 t.num),aW 4 (eT t.kids (a+1)) a]) (.agg [.sc (.int .u8 t.kind),.sc (.string t.text),.sc (.int .i64 t.num),.am 4 (bh (t.kids.set q.toNat vi)) none])
  refine hR.node hn (xs':=(eT t.kids (a+1)).set q.toNat (fF vi b)) (by simp) (fun _=>hg) (by rw[List.length_set,gW,aH,List.length_set]) (fun m x y hx hy=>?_)
  have o8:m<t.kids.length:=by
   have:=(List.getElem?_eq_some_iff.1 hx).1
   rwa [List.length_set,gW] at this
  rw[MC (by rw[List.length_set];exact o8),MF Qh] at hy
  cases hy
  rw[List.getElem?_set] at hx
  by_cases e:q.toNat=m
  ·rw[if_pos e,if_pos (by rw[gW];omega)] at hx
   cases hx
   rw[if_pos e.symm]
   exact aiL
  ·rw[if_neg e,LX _ _ _ o8] at hx
   cases hx
   rw[if_neg (fun h=>e h.symm)]
   have hsz:=zD o8
   have zY:=Nd.size_eq t
   exact hR.same (by omega) ((hl.kids.at_ o8).of fun x h1 h2=>ho x (by omega) (by omega) (by omega))
 |cons q2 r ih =>
  intro t id j a i m q es hn hl hp hf hg ho
  rw[En] at hp
  split at hp
  case isFalse=>cases hp
  rename_i hq
  have Qh:q.toNat<t.kids.length:=by omega
  have hin:=ZQ hp
  have hne:eT t.kids (a+1)≠[]:=fun e=>by have:=gW t.kids (a+1);rw[e] at this;simp at this;omega
  have hsz:=zD Qh
  have zY:=Nd.size_eq t
  have hG:Y.find G a=some ⟨4,eT t.kids (a+1),false,25⟩:=by
   rw[ho a (by omega) (by omega) (by omega),hl.head,bj hne]
  have h1:=ih (by omega) (hl.kids.at_ Qh) hp hf hg (fun x h1 h2 h3=>ho x (by omega) (by omega) h3)
  rw[ey,ew]
  show R (.agg [.sc (.int .u8 t.kind),.sc (.string t.text),.sc (.int .i64 t.num),aW 4 (eT t.kids (a+1)) a]) (.agg [.sc (.int .u8 t.kind),.sc (.string t.text),.sc (.int .i64 t.num),.am 4 (bh (t.kids.set q.toNat (Qg (aE t.kids q.toNat) vi (q2::r)))) none])
  refine hR.node hn (xs':=eT t.kids (a+1)) rfl (fun _=>hG) (by rw[gW,aH,List.length_set]) (fun m x y hx hy=>?_)
  have o8:m<t.kids.length:=by
   have:=(List.getElem?_eq_some_iff.1 hx).1
   rwa [gW] at this
  rw[MC (by rw[List.length_set];exact o8),MF Qh] at hy
  cases hy
  rw[LX _ _ _ o8] at hx
  cases hx
  by_cases e:q.toNat=m
  ·subst e
   rw[if_pos rfl]
   exact h1
  ·rw[if_neg (fun h=>e h.symm)]
   have uy:=zD o8
   refine hR.same (by omega) ((hl.kids.at_ o8).of fun x h1 h2=>ho x (by omega) (by omega) ?_)
   rcases Nat.lt_or_gt_of_ne e with g|g
   ·have:=MB g (by omega:q.toNat<t.kids.length)
    omega
   ·have:=MB g o8
    omega
def wR(t:Nd)(i:Nat):AV:=.agg [.sc (.int .u8 t.kind),.sc (.string t.text),.sc (.int .i64 t.num),aW 4 (bh t.kids) i]
theorem zE(t:Nd)(i:Nat):wR t i = .agg [.sc (.int .u8 t.kind),.sc (.string t.text),.sc (.int .i64 t.num),aW 4 (bh t.kids) i]:=rfl
def Eo(l:List Nd):Prop:=∀(ro:Option (List AV))(H:Y),Nd.ay l≤1000000→D Tryz.prog 61 [.am 4 (bh l) ro] H (.ret (aW 4 (bh l) H.length)) (bS 4 25 (bh l)::H)
theorem zF(t:Nd)(h:Eo t.kids)(hz:t.size≤1000000)(ro:Option (List AV))(H:Y):D Tryz.prog 28 [dZ t ro] H (.ret (wR t H.length)) (bS 4 25 (bh t.kids)::H):=by
 have zY:=Nd.size_eq t
 have hk:=fun H=>h ro H (by omega)
 rw[aQ]
 refine aG (by simp) (ahU (aA ?_))
 simp only[adu,ux]
 refine Z fun L hL=>?_
 refine aw ?_
 refine hL _ _ ?_
 clear hL
 refine Z fun L hL=>?_
 refine aw ?_
 refine ae (hk _) ?_
 simp only[List.length_cons,Nat.add_assoc,Nat.reduceAdd]
 obtain ⟨kv,HZ⟩:∃kv,aW 4 (bh t.kids) (H.length+2)=kv:=⟨_,rfl⟩
 have k1:kv.bT=false∧kv.isAgg=false∧kv.az=1∧kv.cells=[kv]:=by
  rw[←HZ]
  exact ⟨nr,u7,s9,nU⟩
 obtain ⟨q1,q2,q3,q4⟩:=k1
 rw[HZ]
 refine aI (ei q1 q2 q3 q4) ?_
 refine hL _ _ ?_
 clear hL
 refine Z fun L hL=>?_
 refine aI (ei q1 q2 q3 q4) ?_
 refine hL _ _ ?_
 clear hL
 refine aI (ei q1 q2 q3 q4) ?_
 rw[←HZ]
 refine ny (H:=H) [bS 4 25 (bh t.kids)] [H.length+2] rfl (by simp) (by simp) (fun i hi=>by rw[ai (by simp;omega),ai (by simp;omega),ai hi]) (fun i k s hb hs=>?_) ?_
 ·cases i with
  |zero =>
   simp only[List.getElem?_cons_zero,Option.some.injEq] at hb hs
   subst hs
   obtain ⟨hn,rfl⟩:=pZ hb
   exact ⟨_,by rw[aJ (by simp),hb],rfl,rfl,fun h=>h,zt _⟩
  |succ i=>simp at hs
 ·exact .agg (.cons (.same trivial) (.cons (.same trivial) (.cons (.same trivial) (.cons (Dr fun _=>xh (by omega)) .nil))))
def qq(l:List Nd)(io:Nat→Nat)(k:Nat):List AV:=(List.range k).map fun j=>wR (aE l j) (io j)
theorem tA{l:List Nd}{io:Nat→Nat}{k:Nat}:(qq l io k).length=k:=by simp[qq]
theorem Ep{l:List Nd}{io:Nat→Nat}{k i:Nat}:qq l (fun j=>if j=k then i else io j) (k+1)=qq l io k++[wR (aE l k) i]:=by
 unfold qq
 rw[List.range_succ,List.map_append]
 congr 1
 ·refine List.map_congr_left fun j hj=>?_
  have:=List.mem_range.1 hj
  simp only
  rw[if_neg (by omega)]
 ·simp
theorem Er(l:List Nd)(ih:∀t∈l,Eo t.kids):Eo l:=by
 intro ro H hz
 have hlen:=Nd.fZ l
 refine aG (by simp) (ahV (aA ?_))
 simp only[adw,ux]
 have xO:=aH l
 refine Z fun L hL=>?_
 refine fh ?_
 refine hL _ _ ?_
 clear hL
 refine Z fun L hL=>?_
 refine fh ?_
 refine hL _ _ ?_
 clear hL
 refine Z fun L hL=>?_
 refine fh ?_
 refine aZ (fun ts G=>∃(k lE:Nat)(io:Nat→Nat),(k≤l.length∧H.length≤G.length∧(∀i,i<H.length→Y.find G i=Y.find H i)∧(qq l io k≠[]→Y.find G lE=bS 4 25 (qq l io k)∧H.length≤lE∧lE<G.length)∧∀j,j<k→H.length≤io j∧io j<G.length∧(qq l io k≠[]→io j≠lE)∧Y.find G (io j)=bS 4 25 (bh (aE l j).kids))∧Fr (some (.am 4 (bh l) ro)::none::none::some (aW 4 (qq l io k) lE)::some (.sc (.int .i64 k))::none::dL []) ts) (fun ts _=>l.length-(aM (ts.getD 4 .top)).toNat) ?_ ?_
 ·exact ⟨0,0,fun _=>0,⟨Nat.zero_le _,Nat.le_refl _,fun _ _=>rfl,fun h=>(h rfl).elim,fun j hj=>by omega⟩,by simp[Fr,qq,aW]⟩
 rintro ts G ⟨k,lE,io,⟨hk,q1,q2,q3,q4⟩,aX⟩ L2 bM
 obtain ⟨js,rfl⟩:=aX.opened
 clear aX
 by_cases hd:k<l.length
 ·have k1:(k:Int)<l.length:=by omega
  have hg:=dG hd
  have dW:=eJ hd
  have hsz:=Nd.de dW
  have tX:=zF (aE l k) (ih _ dW) (by omega) none G
  rw[aQ] at tX
  obtain ⟨x,hx⟩:∃x,wR (aE l k) G.length=x:=⟨_,rfl⟩
  have hx0:=zE (aE l k) G.length
  rw[hx] at tX hx0
  have c1:x.bT=false:=by rw[hx0];rfl
  have c2:x.isAgg=true:=by rw[hx0];rfl
  have c3:x.az=4:=by rw[hx0];rfl
  have c4:AV.agg (x.cells.take 4)=x:=by rw[hx0];rfl
  have c5:AV.agg x.cells=x:=by rw[hx0];rfl
  have c6:4≤x.cells.length:=by rw[hx0];exact Nat.le_refl _
  refine df (gq xO hg k1) ?_
  refine ⟨by omega,ae tX ?_⟩
  have ajr:(AV.agg [.sc (.int .u8 0),.sc (.string ⟨#[]⟩),.sc (.int .i64 0),.am 0 [] (some [])]).lu 0 x=x:=by rw[hx0];rfl
  obtain ⟨aeg,F',p1,p2,p3,p4,p5,p6⟩:=tt (H:=some ⟨4,[x],true,25⟩::bS 4 25 (bh (aE l k).kids)::G) (k:=4) (ty:=25) (xs:=qq l io k) (ys:=[x]) (id:=lE) (fun e=>by
   obtain ⟨g1,g2,g3⟩:=q3 e
   rw[ai (by simp;omega),ai g3,g1]) (by rw[tA];simp;omega)
  refine eQ (Ds c1 c2 c3 c4 c5 p1 p2 p3) ?_
  obtain ⟨vD,L8⟩:=p4 (by simp)
  simp only[List.length_cons] at L8 p5 p6
  rw[←hx] at vD ⊢
  refine ⟨by rw[hx];exact c6,bM _ _ ⟨k+1,aeg,fun j=>if j=k then G.length else io j,⟨by omega,by omega,fun i hi=>?_,fun _=>?_,fun j hj=>?_⟩,by rw[Ep];simp[Fr]⟩ (by simp[aM,mk];omega)⟩
  ·rw[p6 i (by omega) (fun e=>by have:=(q3 e).2.1;omega),ai (by simp;omega),ai (by omega),q2 i hi]
  ·rw[Ep]
   have acP:aeg<F'.length:=by
    have h9:=vD
    rw[bj (by simp)] at h9
    exact Y.ax h9
   exact ⟨vD,by omega,acP⟩
  ·simp only
   split
   ·rename_i e
    subst e
    refine ⟨by omega,by omega,fun _=>by omega,?_⟩
    rw[p6 _ (by omega) (fun e=>by have:=(q3 e).2.2;omega),ai (by simp),aJ rfl]
   ·rename_i e
    obtain ⟨s1,s2,s3,s4⟩:=q4 j (by omega)
    refine ⟨s1,by omega,fun _=>by omega,?_⟩
    rw[p6 _ (by omega) s3,ai (by simp;omega),ai s2,s4]
 ·have k1:¬(k:Int)<l.length:=by omega
  refine df (ak xO k1) ?_
  refine hL _ _ ?_
  clear hL
  refine eQ (ei @nr @s9 @u7 @nU) ?_
  have mO:k=l.length:=by omega
  subst mO
  by_cases e:l=[]
  ·subst e
   have hO:aW 4 (qq [] io ([]:List Nd).length) lE = .am 0 [] (some []):=rfl
   have hO2:aW 4 (bh []) H.length = .am 0 [] (some []):=rfl
   rw[hO,hO2]
   exact ny (H:=H) [bS 4 25 (bh [])] [H.length] rfl (by simp) (by simp) q2 (fun i k s hb hs=>by
    cases i with
    |zero=>simp[bS,bh] at hb
    | succ i=>simp at hs) .XA
  ·have hel:qq l io l.length≠[]:=fun h=>e (by
    have:=congrArg List.length h
    rw[tA] at this
    exact List.length_eq_zero_iff.1 (by simpa using this))
   obtain ⟨r1,r2,r3⟩:=q3 hel
   have hgz:dt G H.length [lE] (qq l io l.length) (bh l):=by
    have key:∀L:List Nat,(∀j∈L,j<l.length)→dt G H.length [lE] (L.map fun j=>wR (aE l j) (io j)) (L.map fun j=>eu (aE l j)):=by
     intro L
     induction L with
     |nil=>intro _;exact .nil
     |cons j r ih =>
      intro h
      obtain ⟨s1,s2,s3,s4⟩:=q4 j (h j (by simp))
      refine .cons ?_ (ih fun i hi=>h i (by simp[hi]))
      show Gz G H.length [lE] (wR (aE l j) (io j)) (eu (aE l j))
      rw[zE,ew]
      have hno:cP H.length [lE] (io j)=none:=by
       unfold cP
       rw[if_neg (by omega)]
       have:=s3 hel
       simp[List.idxOf?_cons,Ne.symm this]
      exact .agg (.cons (.same trivial) (.cons (.same trivial) (.cons (.same trivial) (.cons (qa (fun _=>hno) (fun _=>s4) (zt _)) .nil))))
    have e2:bh l=(List.range l.length).map fun j=>eu (aE l j):=by
     apply List.ext_getElem
     ·simp[aH]
     ·intro i h1 h2
      have hi:i<l.length:=by rw[aH] at h1;exact h1
      simp[qb,eH hi]
    rw[e2]
    exact key _ fun j hj=>List.mem_range.1 hj
   have hnl:bh l≠[]:=fun h=>e (by
    have:=congrArg List.length h
    rw[aH] at this
    exact List.length_eq_zero_iff.1 (by simpa using this))
   rw[G8 (show (qq l io l.length).length=(bh l).length by rw[tA,aH])]
   refine ny (H:=H) [bS 4 25 (bh l)] [lE] rfl (by simp) (by simpa using r2) q2 (fun i k s hb hs=>?_) (Dr fun _=>xh r2)
   cases i with
   |zero =>
    simp only[List.getElem?_cons_zero,Option.some.injEq] at hb hs
    subst hs
    obtain ⟨hn,rfl⟩:=pZ hb
    rw[bj hel] at r1
    exact ⟨_,r1,rfl,rfl,fun h=>h,hgz⟩
   |succ i=>simp at hs
theorem MG(l:List Nd):Eo l:=by
 have key:∀n:Nat,∀l:List Nd,Nd.ay l≤n→Eo l:=by
  intro n
  induction n with
  |zero =>
   intro l h
   refine Er l fun t ht=>?_
   have:=Nd.de ht
   have:=t.size_pos
   omega
  |succ n ih =>
   intro l h
   refine Er l fun t ht=>ih _ ?_
   have:=Nd.de ht
   have:=Nd.size_eq t
   omega
 exact key _ l (Nat.le_refl _)
theorem MH(t:Nd)(hz:t.size≤1000000)(ro:Option (List AV))(H:Y):D Tryz.prog 28 [dZ t ro] H (.ret (wR t H.length)) (bS 4 25 (bh t.kids)::H):=zF t (MG _) hz ro H
theorem ZR{l m:List Nd}(h:l.length=m.length)(hp:∀j,j<l.length→nt (aE l j) (aE m j)=true):oA l m=true:=by
 rw[xm]
 refine List.ext_getElem h fun j h1 h2=>?_
 have:=(xl _ _).1 (hp j h1)
 rwa [eH h1,eH h2] at this
theorem ZS{l m:List Nd}(h:¬l.length=m.length):oA l m=false:=by
 rw[←Bool.not_eq_true,xm]
 exact fun e=>h (by rw[e])
theorem ZT{l m:List Nd}{k:Nat}(hk:k<l.length)(h:nt (aE l k) (aE m k)=false):oA l m=false:=by
 rw[←Bool.not_eq_true,xm]
 rintro rfl
 rw[qS] at h
 cases h
theorem FF(l:List Nd)(hz:Nd.ay l≤1000000)(ih:∀a∈l,∀(b:Nd)(H:Y),D Tryz.prog 16 [dZ a none,dZ b none] H (.ret (.sc (.bool (nt a b)))) H)(m:List Nd)(ro l6:Option (List AV))(H:Y):D Tryz.prog 49 [.am 4 (bh l) ro,.am 4 (bh m) l6] H (.ret (.sc (.bool (oA l m)))) H:=by
 have hl:=Nd.fZ l
 refine aG (Nat.le_refl _) (ahT (aA ?_))
 simp only[adt,ux]
 refine Z fun L hL=>?_
 refine aw ?_
 refine hL _ _ ?_
 clear hL
 refine Z fun L hL=>?_
 by_cases c1:l.length=m.length
 rotate_left
 ·have c2:¬(l.length:Int)=m.length:=by omega
  refine aI (ak @aH c2) ?_
  exact aq .refl (ZS c1).symm
 have c2:(l.length:Int)=m.length:=by omega
 refine aI (ak @aH c2) ?_
 refine hL _ _ ?_
 clear hL
 refine Z fun L hL=>?_
 refine aw ?_
 refine aZ (fun ts F=>∃k:Nat,(k≤l.length∧∀j,j<k→nt (aE l j) (aE m j)=true)∧F=H∧Fr (some (.am 4 (bh l) ro)::some (.am 4 (bh m) l6)::none::none::some (.sc (.bool false))::some (.sc (.int .i64 k))::none::fg (dL [])) ts) (fun ts _=>l.length-(aM (ts.getD 5 .top)).toNat) ?_ ?_
 ·exact ⟨0,⟨Nat.zero_le _,fun j h=>absurd h (Nat.not_lt_zero _)⟩,rfl,by simp[Fr]⟩
 rintro ts F ⟨k,⟨hk,hp⟩,rfl,aX⟩ L2 bM
 obtain ⟨js,rfl⟩:=aX.opened
 clear aX
 by_cases hd:k<l.length
 ·have d1:(k:Int)<l.length:=by omega
  have d2:(k:Int)<m.length:=by omega
  have hg:=dG hd
  have su:=dG (l:=m) (k:=k) (by omega)
  have hi:=fun H=>ih _ (eJ hd) (aE m k) H
  rw[aQ,aQ] at hi
  refine df (kZ d1 d2 hg su @aH) ?_
  refine ⟨by omega,by omega,aL (hi _) ?_⟩
  cases e1:nt (aE l k) (aE m k)
  ·refine aw ?_
   exact aq .refl (ZT hd e1).symm
  refine aw ?_
  refine bM _ _ ⟨k+1,⟨by omega,fun j hj=>?_⟩,rfl,by simp[Fr]⟩ (by simp[aM,mk];omega)
  rcases Nat.lt_succ_iff_lt_or_eq.1 hj with h'|rfl
  ·exact hp j h'
  ·exact e1
 ·have d1:¬(k:Int)<l.length:=by omega
  refine df (ak d1 @aH) ?_
  refine hL _ _ ?_
  clear hL
  refine fh ?_
  exact aq .refl (ZR c1 fun j hj=>hp j (by omega)).symm
theorem qY(a:Nd):∀(hz:a.size≤1000000)(b:Nd)(ro l6:Option (List AV))(H:Y),D Tryz.prog 16 [dZ a ro,dZ b l6] H (.ret (.sc (.bool (nt a b)))) H:=by
 induction a using Nd.ind with
 |_ a ih =>
  intro hz b ro l6 H
  have hs:=Nd.size_eq a
  have hk:=fun H=>FF a.kids (by omega) (fun x hx b H=>ih x hx (by have:=Nd.pg hx;omega) b none none H) b.kids ro l6 H
  have hq:=TX a b
  rw[aQ,aQ]
  refine aG (Nat.le_refl _) (ahS (aA ?_))
  simp only[ads,ux]
  refine Z fun L hL=>?_
  refine aw ?_
  refine hL _ _ ?_
  clear hL
  refine Z fun L hL=>?_
  by_cases c1:a.kind=b.kind
  rotate_left
  ·refine aI c1 ?_
   refine hL _ _ ?_
   clear hL
   refine aw ?_
   exact aq (.cons (.cons .refl)) (by rw[hq];simp[c1])
  have CV:=decide_eq_true c1
  by_cases c2:a.text=b.text
  rotate_left
  ·refine aI (ak CV c2) ?_
   refine hL _ _ ?_
   clear hL
   refine aw ?_
   exact aq (.cons (.cons .refl)) (by rw[hq];simp[c2])
  have P4:=decide_eq_true c2
  by_cases c3:a.num=b.num
  rotate_left
  ·refine aI (gq CV P4 c3) ?_
   refine hL _ _ ?_
   clear hL
   refine aw ?_
   exact aq (.cons (.cons .refl)) (by rw[hq];simp[c3])
  have PP:=decide_eq_true c3
  refine aI (gq CV P4 PP) ?_
  refine ae (hk _) ?_
  refine aw ?_
  refine hL _ _ ?_
  clear hL
  refine aw ?_
  exact aq (.cons (.cons .refl)) (by rw[hq];simp[c1,c2,c3])
theorem MI(k i:Int):IntKind.i64.wrap (gu k i)=gu k i:=by
 have hb:∀n:Int,IntKind.i64.wrap n=n.bmod 18446744073709551616:=fun n=>by
  simp only[IntKind.wrap,show IntKind.i64.bits=64 from rfl,show IntKind.i64.signed=true from rfl,Bool.true_and,decide_eq_true_eq,Int.bmod]
  split<;>split<;>omega
 unfold gu
 rw[hb (IntKind.i64.wrap (1000003*IntKind.i64.wrap (k+7))+i),hb]
 exact Int.bmod_bmod
def qt(k i:Int):AV:=.agg [.sc (.int .u8 0),.sc (.string ⟨#[]⟩),.sc (.int .i64 (gu k i)),.am 0 [] (some [])]
theorem wo(k i:Int):qt k i = .agg [.sc (.int .u8 0),.sc (.string ⟨#[]⟩),.sc (.int .i64 (gu k i)),.am 0 [] (some [])]:=rfl
def je(j:Nat):List AV:=(List.range j).map fun i:Nat=>qt 1 (i:Int)
theorem vL{j:Nat}:(je j).length=j:=by simp[je]
theorem Jg{j:Nat}:je (j+1)=je j++[qt 1 j]:=by simp[je,List.range_succ]
theorem UV{F:Y}{n0:Nat}{src:List Nat}(k i:Int):Gz F n0 src (qt k i) (qt k i):=.agg (.cons (.same trivial) (.cons (.same trivial) (.cons (.same trivial) (.cons .XA .nil))))
theorem Es{F:Y}{n0:Nat}{src:List Nat}(j:Nat):dt F n0 src (je j) (je j):=dt.map fun i _=>UV _ _
abbrev Et(n a:Nat):AV:=.aD 4 a 0 n (some (n+12))
def oU(t:Nd)(a:Nat):AV:=.agg [.sc (.int .u8 t.kind),.sc (.string t.text),.sc (.int .i64 t.num),Et t.kids.length a]
theorem j9(t:Nd)(a:Nat):oU t a = .agg [.sc (.int .u8 t.kind),.sc (.string t.text),.sc (.int .i64 t.num),.aD 4 a 0 t.kids.length (some (t.kids.length+12))]:=rfl
def tU:List Nd→Nat→List AV
 |[],_=>[]
 |t::r,a=>oU t a::tU r (a+t.size)
theorem kJ(l:List Nd):∀a,(tU l a).length=l.length:=by
 induction l with
 |nil=>intro a;rfl
 |cons x r ih=>intro a;simp[tU,ih]
def jG(l:List Nd)(a:Nat):List AV:=tU l (a+1)++je 12
theorem tB{l:List Nd}{a:Nat}:(jG l a).length=l.length+12:=by rw[jG,List.length_append,kJ,vL]
abbrev mH(xs:List AV):Option aP:=some ⟨4,xs,true,25⟩
mutual
def qu:Nd→Nat→Y
 |⟨_,_,_,l⟩,a=>lg l (a+1)++[mH (jG l a)]
def lg:List Nd→Nat→Y
 |[],_=>[]
 |t::r,a=>lg r (a+t.size)++qu t a
end
theorem Eu(t:Nd)(a:Nat):qu t a=lg t.kids (a+1)++[mH (jG t.kids a)]:=by cases t;simp[qu,Nd.kids]
theorem tC(t:Nd):∀a,(qu t a).length=t.size:=by
 induction t using Nd.ind with
 |_ t ih =>
  intro a
  have key:∀(l:List Nd),(∀k∈l,∀a,(qu k a).length=k.size)→∀a,(lg l a).length=Nd.ay l:=by
   intro l
   induction l with
   |nil=>intro _ a;rfl
   |cons x r fC =>
    intro h a
    simp only[lg,List.length_append,Nd.ay,fC fun k hk=>h k (by simp[hk]),h x (by simp)]
    omega
  rw[Eu,List.length_append,key _ ih,Nd.size_eq]
  simp
  omega
theorem FG(l:List Nd):∀a,(lg l a).length=Nd.ay l:=by
 induction l with
 |nil=>intro a;rfl
 |cons x r ih =>
  intro a
  simp only[lg,List.length_append,Nd.ay,ih,tC]
  omega
mutual
def mU:Nd→Nat→List (List AV)
 |⟨_,_,_,l⟩,a=>jG l a::gw l (a+1)
def gw:List Nd→Nat→List (List AV)
 |[],_=>[]
 |t::r,a=>mU t a++gw r (a+t.size)
end
theorem qv(t:Nd)(a:Nat):mU t a=jG t.kids a::gw t.kids (a+1):=by cases t;simp[mU,Nd.kids]
theorem gf(t:Nd):∀a,(mU t a).length=t.size:=by
 induction t using Nd.ind with
 |_ t ih =>
  intro a
  have key:∀(l:List Nd),(∀k∈l,∀a,(mU k a).length=k.size)→∀a,(gw l a).length=Nd.ay l:=by
   intro l
   induction l with
   |nil=>intro _ a;rfl
   |cons x r fC =>
    intro h a
    simp only[gw,List.length_append,Nd.ay,fC fun k hk=>h k (by simp[hk]),h x (by simp)]
  rw[qv,List.length_cons,key _ ih,Nd.size_eq]
  omega
theorem FH(l:List Nd):∀a,(gw l a).length=Nd.ay l:=by
 induction l with
 |nil=>intro a;rfl
 |cons x r ih=>intro a;simp only[gw,List.length_append,Nd.ay,ih,gf]
theorem xP:∀(p q:List (Option aP))(H:Y),lays (p++q) H=lays q (lays p H)
 |[],_,_=>rfl
 |x::r,q,H=>by simp only[List.cons_append,lays,xP r q]
def wC(l:List (List AV)):List (Option aP):=l.map mH
theorem xQ(t:Nd):∀(a:Nat)(H:Y),qu t a++H=lays (wC (mU t a)) H:=by
 induction t using Nd.ind with
 |_ t ih =>
  intro a H
  have key:∀(l:List Nd),(∀k∈l,∀(a:Nat)(H:Y),qu k a++H=lays (wC (mU k a)) H)→∀(a:Nat)(H:Y),lg l a++H=lays (wC (gw l a)) H:=by
   intro l
   induction l with
   |nil=>intro _ a H;rfl
   |cons x r fC =>
    intro h a H
    simp only[lg,gw,wC,List.map_append,xP,List.append_assoc]
    have h1:=h x (by simp) a H
    have h2:=fC (fun k hk=>h k (by simp[hk])) (a+x.size) (lays (wC (mU x a)) H)
    rw[h1,h2]
    rfl
  rw[Eu,qv,List.append_assoc]
  have:=key t.kids ih (a+1) (mH (jG t.kids a)::H)
  rw[List.singleton_append,this]
  rfl
theorem BF(l:List Nd):∀(a:Nat)(H:Y),lg l a++H=lays (wC (gw l a)) H:=by
 induction l with
 |nil=>intro a H;rfl
 |cons x r ih =>
  intro a H
  simp only[lg,gw,wC,List.map_append,xP,List.append_assoc]
  rw[xQ,ih]
  rfl
theorem Ev{F:Y}{n0 s0 c0 m:Nat}{src:List Nat}(hN:∀j,j<m→cP n0 src (s0+j)=some (c0+j))(t:Nd)(j:Nat)(h:j+t.size≤m):Gz F n0 src (oU t (s0+j)) (oU t (c0+j)):=by
 have:=t.size_pos
 exact .agg (.cons (.same trivial) (.cons (.same trivial) (.cons (.same trivial) (.cons (.Gw (hN j (by omega)) (.inl rfl)) .nil))))
theorem ZU{F:Y}{n0 s0 c0 m:Nat}{src:List Nat}(hN:∀j,j<m→cP n0 src (s0+j)=some (c0+j))(l:List Nd):∀j,j+Nd.ay l≤m→dt F n0 src (tU l (s0+j)) (tU l (c0+j)):=by
 induction l with
 |nil=>intro j _;exact .nil
 |cons x r ih =>
  intro j hj
  simp only[Nd.ay] at hj
  simp only[tU]
  have:=ih (j+x.size) (by omega)
  rw[←Nat.add_assoc,←Nat.add_assoc] at this
  exact .cons (Ev hN x j (by omega)) this
theorem ZV{F:Y}{n0 s0 c0 m:Nat}{src:List Nat}(hN:∀j,j<m→cP n0 src (s0+j)=some (c0+j))(l:List Nd)(j:Nat)(h:j+1+Nd.ay l≤m):dt F n0 src (jG l (s0+j)) (jG l (c0+j)):=by
 have:=ZU (F:=F) hN l (j+1) h
 rw[←Nat.add_assoc,←Nat.add_assoc] at this
 exact dt.append this (Es 12)
theorem UW{F:Y}{n0 s0 c0 m:Nat}{src:List Nat}(l:List Nd)(ih:∀t∈l,∀j,j+t.size≤m→∀(i:Nat)(ys:List AV),(mU t (c0+j))[i]? = some ys→∃xs,(mU t (s0+j))[i]? = some xs∧dt F n0 src xs ys):∀j,j+Nd.ay l≤m→∀(i:Nat)(ys:List AV),(gw l (c0+j))[i]? = some ys→∃xs,(gw l (s0+j))[i]? = some xs∧dt F n0 src xs ys:=by
 induction l with
 |nil=>intro j _ i ys h;simp[gw] at h
 |cons x r fC =>
  intro j hj i ys h
  simp only[Nd.ay] at hj
  simp only[gw] at h ⊢
  have hx:(mU x (c0+j)).length=(mU x (s0+j)).length:=by rw[gf,gf]
  by_cases c:i<(mU x (c0+j)).length
  ·rw[List.getElem?_append_left c] at h
   rw[List.getElem?_append_left (by omega)]
   exact ih x (by simp) j (by omega) i ys h
  ·rw[List.getElem?_append_right (by omega)] at h
   rw[List.getElem?_append_right (by omega),←hx]
   have:=fC (fun t ht=>ih t (by simp[ht])) (j+x.size) (by omega) (i-(mU x (c0+j)).length) ys
   rw[←Nat.add_assoc,←Nat.add_assoc] at this
   exact this h
theorem MJ{F:Y}{n0 s0 c0 m:Nat}{src:List Nat}(hN:∀j,j<m→cP n0 src (s0+j)=some (c0+j))(t:Nd):∀j,j+t.size≤m→∀(i:Nat)(ys:List AV),(mU t (c0+j))[i]? = some ys→∃xs,(mU t (s0+j))[i]? = some xs∧dt F n0 src xs ys:=by
 induction t using Nd.ind with
 |_ t ih =>
  intro j hj i ys h
  rw[Nd.size_eq] at hj
  rw[qv] at h ⊢
  cases i with
  |zero =>
   simp only[List.getElem?_cons_zero,Option.some.injEq] at h
   refine ⟨_,List.getElem?_cons_zero,?_⟩
   rw[←h]
   exact ZV hN t.kids j (by omega)
  |succ i =>
   rw[List.getElem?_cons_succ] at h
   rw[List.getElem?_cons_succ]
   have:=UW (F:=F) t.kids ih (j+1) (by omega) i ys
   rw[←Nat.add_assoc,←Nat.add_assoc] at this
   exact this h
def iO(F:Y)(t:Nd)(a:Nat):Prop:=∀(i:Nat)(xs:List AV),(mU t a)[i]? = some xs→Y.find F (a+i)=mH xs
def wS(F:Y)(l:List Nd)(a:Nat):Prop:=∀(i:Nat)(xs:List AV),(gw l a)[i]? = some xs→Y.find F (a+i)=mH xs
structure Ew(F:Y)(l:List Nd)(a:Nat):Prop where
 row:Y.find F a=mH (jG l a)
 kids:wS F l (a+1)
theorem iO.row{F:Y}{t:Nd}{a:Nat}(h:iO F t a):Ew F t.kids a where
 row:=h 0 _ (by rw[qv];rfl)
 kids:=fun i xs hx=>by
  rw[show a+1+i=a+(i+1) by omega]
  exact h (i+1) xs (by rw[qv,List.getElem?_cons_succ];exact hx)
theorem wS.first{F:Y}{t:Nd}{r:List Nd}{a:Nat}(h:wS F (t::r) a):iO F t a:=fun i xs hx=>by
 refine h i xs ?_
 simp only[gw]
 rw[List.getElem?_append_left (List.getElem?_eq_some_iff.1 hx).1]
 exact hx
theorem wS.rest{F:Y}{t:Nd}{r:List Nd}{a:Nat}(h:wS F (t::r) a):wS F r (a+t.size):=fun i xs hx=>by
 rw[show a+t.size+i=a+(t.size+i) by omega]
 refine h (t.size+i) xs ?_
 simp only[gw]
 rw[List.getElem?_append_right (by rw[gf];omega),gf,Nat.add_sub_cancel_left]
 exact hx
theorem wS.at_{F:Y}:∀{l:List Nd}{a k:Nat},wS F l a→k<l.length→iO F (aE l k) (a+Nd.ay (l.take k))
 |[],_,_,_,hk=>by simp at hk
 |x::r,a,0,h,_=>by simpa [aE,Nd.ay] using h.first
 |x::r,a,k+1,h,hk=>by
  have:=wS.at_ (k:=k) h.rest (by simpa using hk)
  simp only[List.take_succ_cons,Nd.ay]
  rw[show a+(x.size+Nd.ay (r.take k))=a+x.size+Nd.ay (r.take k) by omega]
  exact this
theorem Ex:∀{l:List Nd}{k a:Nat},k<l.length→(tU l a).getD k .top=oU (aE l k) (a+Nd.ay (l.take k))
 |[],_,_,h=>by simp at h
 |x::r,0,a,_=>by simp[tU,aE,Nd.ay]
 |x::r,k+1,a,h=>by
  have:=Ex (l:=r) (k:=k) (a:=a+x.size) (by simpa using h)
  simp only[tU,List.getD_cons_succ,List.take_succ_cons,Nd.ay]
  rw[this,show a+(x.size+Nd.ay (r.take k))=a+x.size+Nd.ay (r.take k) by omega]
  rfl
theorem AY{l:List Nd}{k a:Nat}(h:k<l.length):(jG l a).getD k .top=oU (aE l k) (a+1+Nd.ay (l.take k)):=by
 rw[←Ex h,jG,List.getD_eq_getElem?_getD,List.getElem?_append_left (by rw[kJ];exact h),List.getD_eq_getElem?_getD]
theorem Ey{l:List Nd}{t a:Nat}(h:t<12):(jG l a).getD (l.length+t) .top=qt 1 t:=by
 rw[jG,List.getD_eq_getElem?_getD,List.getElem?_append_right (by rw[kJ];omega),kJ]
 simp[je,h]
theorem Ez{F:Y}(t:Nd):∀{a:Nat},iO F t a→View F (oU t a) (eu t):=by
 induction t using Nd.ind with
 |_ t ih =>
  intro a h
  have key:∀(l:List Nd),(∀k∈l,∀{a:Nat},iO F k a→View F (oU k a) (eu k))→∀a,wS F l a→cJ F (tU l a) (bh l):=by
   intro l
   induction l with
   |nil=>intro _ a _;exact .nil
   |cons x r fC =>
    intro hx a hl
    exact .cons (hx x (by simp) hl.first) (fC (fun k hk=>hx k (by simp[hk])) _ hl.rest)
  rw[j9,ew]
  refine .agg (.cons .sc (.cons .sc (.cons .sc (.cons (.aD h.row.row rfl (by rw[tB];omega) ?_) .nil))))
  rw[List.drop_zero,jG,List.take_append_of_le_length (by rw[kJ];exact Nat.le_refl _),List.take_of_length_le (by rw[kJ];exact Nat.le_refl _)]
  exact key _ ih _ h.row.kids
theorem iO.of{F G:Y}{t:Nd}{a:Nat}(h:iO F t a)(hs:∀i,a≤i→i<a+t.size→Y.find G i=Y.find F i):iO G t a:=fun i xs hx=>by
 have hi:=(List.getElem?_eq_some_iff.1 hx).1
 rw[gf] at hi
 rw[hs _ (by omega) (by omega)]
 exact h i xs hx
theorem EA{l:List Nd}{H:Y}:Ew (lg l (H.length+1)++(mH (jG l H.length)::H)) l H.length where
 row:=by rw[Y.bF (by simp),aJ rfl]
 kids:=fun i xs hx=>by
  rw[BF]
  have:=sg (H:=mH (jG l H.length)::H) (bs:=wC (gw l (H.length+1))) (i:=i) (b:=mH xs) (by simp[wC,hx])
  simpa using this
theorem qZ(k i:Int)(H:Y):D Tryz.prog 62 [.sc (.int .i64 k),.sc (.int .i64 i)] H (.ret (qt k i)) H:=by
 refine aG (Nat.le_refl _) (ahR (aA ?_))
 simp -implicitDefEqProofs (maxSteps:=99999999) (disch:=first|omega|(simp only[vl];first|done|omega)) only[adr,va,vg,vs,vw,vk,simprocAttr]
 refine ae (I2 _ _ _) ?_
 refine eQ @MI ?_
 exact dD (.cons .refl) (.same (by simp[qt,AV.ids,AV.cV,AV.gG]))
def kS:List Nd→Nat→List AV
 |[],_=>[]
 |t::r,b=>oU t b::kS r (b+t.size+1)
theorem zG(l:List Nd):∀b,(kS l b).length=l.length:=by
 induction l with
 |nil=>intro b;rfl
 |cons x r ih=>intro b;simp[kS,ih]
theorem Jh(p q:List Nd):∀b,kS (p++q) b=kS p b++kS q (b+Nd.ay p+p.length):=by
 induction p with
 |nil=>intro b;simp[kS,Nd.ay]
 |cons x r ih =>
  intro b
  simp only[List.cons_append,kS,ih,Nd.ay,List.length_cons]
  rw[show b+(x.size+Nd.ay r)+(r.length+1)=b+x.size+1+Nd.ay r+r.length by omega]
def sx(F:Y):List Nd→Nat→Prop
 |[],_=>True
 |t::r,b=>iO F t b∧sx F r (b+t.size+1)
theorem sx.append{F:Y}:∀{p q:List Nd}{b:Nat},sx F p b→sx F q (b+Nd.ay p+p.length)→sx F (p++q) b
 |[],q,b,_,h=>by simpa [Nd.ay] using h
 |x::r,q,b,h,k=>by
  refine ⟨h.1,sx.append h.2 ?_⟩
  simp only[Nd.ay,List.length_cons] at k
  rw[show b+x.size+1+Nd.ay r+r.length=b+(x.size+Nd.ay r)+(r.length+1) by omega]
  exact k
theorem sx.of{F G:Y}:∀{l:List Nd}{b:Nat},sx F l b→(∀i,b≤i→i<b+Nd.ay l+l.length→Y.find G i=Y.find F i)→sx G l b
 |[],_,_,_=>trivial
 |t::r,b,h,hs=>by
  simp only[Nd.ay,List.length_cons] at hs
  exact ⟨h.1.of fun i h1 h2=>hs i h1 (by omega),h.2.of fun i h1 h2=>hs i (by omega) (by omega)⟩
def qw:List Nd→Nat→List Nat
 |[],_=>[]
 |t::r,b=>(List.range t.size).map (b+·)++qw r (b+t.size+1)
theorem Ji(l:List Nd):∀b,(qw l b).length=Nd.ay l:=by
 induction l with
 |nil=>intro b;rfl
 |cons x r ih=>intro b;simp[qw,ih,Nd.ay]
theorem EB(l:List Nd):∀b,∀s∈qw l b,b≤s:=by
 induction l with
 |nil=>intro b s h;simp[qw] at h
 |cons x r ih =>
  intro b s h
  simp only[qw,List.mem_append,List.mem_map] at h
  rcases h with ⟨i,_,rfl⟩|h
  ·omega
  ·have:=ih _ s h;omega
theorem MK(l:List Nd):∀b,(qw l b).Nodup:=by
 induction l with
 |nil=>intro b;simp[qw]
 |cons x r ih =>
  intro b
  simp only[qw]
  refine List.nodup_append.2 ⟨D5 fun i j h=>by omega,ih _,fun s h1 s' h2 e=>?_⟩
  obtain ⟨i,hi,rfl⟩:=List.mem_map.1 h1
  have:=EB r _ s' h2
  have:=List.mem_range.1 hi
  omega
def ML(n0:Nat)(src:List Nat):List Nd→Nat→Nat→Prop
 |[],_,_=>True
 |t::r,b,c=>(∀j,j<t.size→cP n0 src (b+j)=some (c+j))∧ML n0 src r (b+t.size+1) (c+t.size)
theorem MM{n0:Nat}{src:List Nat}:∀(l:List Nd)(b p:Nat),(∀i s,(qw l b)[i]? = some s→cP n0 src s=some (p+i))→ML n0 src l b p
 |[],_,_,_=>trivial
 |t::r,b,p,h=>by
  refine ⟨fun j hj=>h j (b+j) ?_,MM r _ _ fun i s hs=>?_⟩
  ·simp only[qw]
   rw[List.getElem?_append_left (by simpa using hj)]
   simp[hj]
  ·rw[show p+t.size+i=p+(t.size+i) by omega]
   refine h _ _ ?_
   simp only[qw]
   rw[List.getElem?_append_right (by simp)]
   simpa using hs
theorem MN{F:Y}{n0:Nat}{src:List Nat}:∀{l:List Nd}{b c:Nat},ML n0 src l b c→dt F n0 src (kS l b) (tU l c)
 |[],_,_,_=>.nil
 |t::r,b,c,h=>.cons (Ev (m:=t.size) h.1 t 0 (by omega)) (MN h.2)
theorem MO{F:Y}{n0:Nat}{src:List Nat}:∀{l:List Nd}{b c:Nat},ML n0 src l b c→sx F l b→∀(i:Nat)(ys:List AV),(gw l c)[i]? = some ys→∃s,(qw l b)[i]? = some s∧∃xs,Y.find F s=mH xs∧dt F n0 src xs ys
 |[],_,_,_,_,i,ys,h=>by simp[gw] at h
 |t::r,b,c,hw,hr,i,ys,h=>by
  simp only[gw] at h
  simp only[qw]
  have hx:=gf t c
  by_cases hi:i<t.size
  ·rw[List.getElem?_append_left (by omega)] at h
   rw[List.getElem?_append_left (by simpa using hi)]
   obtain ⟨xs,h1,h2⟩:=MJ (F:=F) (m:=t.size) hw.1 t 0 (by omega) i ys h
   exact ⟨b+i,by simp[hi],xs,hr.1 i xs h1,h2⟩
  ·rw[List.getElem?_append_right (by omega),hx] at h
   rw[List.getElem?_append_right (by simpa using hi)]
   simp only[List.length_map,List.length_range]
   exact MO hw.2 hr.2 (i-t.size) ys h
abbrev nE:AV:=.agg [.sc (.int .u8 0),.sc (.string ⟨#[]⟩),.sc (.int .i64 0),.am 0 [] (some [])]
def EC(l:List Nd):Prop:=∀(ro:Option (List AV))(H:Y),Nd.ay l≤1000000→D Tryz.prog 29 [.am 4 (bh l) ro] H (.ret (Et l.length H.length)) (lg l (H.length+1)++(mH (jG l H.length)::H))
theorem zH(t:Nd)(h:EC t.kids)(hz:t.size≤1000000)(ro:Option (List AV))(H:Y):D Tryz.prog 9 [dZ t ro] H (.ret (oU t H.length)) (qu t H.length++H):=by
 have zY:=Nd.size_eq t
 have hk:=fun H=>h ro H (by omega)
 rw[aQ]
 refine aG (by simp) (dk9 (aA ?_))
 simp only[ic9,ux]
 refine Z fun L hL=>?_
 refine aw ?_
 refine hL _ _ ?_
 clear hL
 refine Z fun L hL=>?_
 refine aw ?_
 refine ae (hk _) ?_
 generalize hG:lg t.kids _++_=G
 have hR:=EA (l:=t.kids) (H:=some ⟨4,[nE],true,25⟩::some ⟨4,[.agg [.sc (.int .u8 t.kind),.sc (.string t.text),.sc (.int .i64 t.num),.am 4 (bh t.kids) ro]],true,25⟩::H)
 rw[hG] at hR
 simp only[List.length_cons,Nat.add_assoc,Nat.reduceAdd] at hR ⊢
 have El:G.length=H.length+2+t.size:=by
  rw[←hG,List.length_append,FG]
  simp
  omega
 have f1:Y.find G H.length=some ⟨4,[.agg [.sc (.int .u8 t.kind),.sc (.string t.text),.sc (.int .i64 t.num),.am 4 (bh t.kids) ro]],true,25⟩:=by
  rw[←hG,Y.bF (by simp;omega),ai (by simp;omega),ai (by simp),aJ rfl]
 have f2:Y.find G (H.length+1)=some ⟨4,[nE],true,25⟩:=by
  rw[←hG,Y.bF (by simp),ai (by simp),aJ (by simp)]
 have f3:∀i,i<H.length→Y.find G i=Y.find H i:=fun i hi=>by
  rw[←hG,Y.bF (by simp;omega),ai (by simp;omega),ai (by simp;omega),ai hi]
 clear hG
 refine aI (ak f1 f2) ?_
 refine hL _ _ ?_
 clear hL
 refine Z fun L hL=>?_
 refine aI (ak f1 f2) ?_
 refine hL _ _ ?_
 clear hL
 refine aI (ak f1 f2) ?_
 have hO:iO G t (H.length+2):=fun i xs hx=>by
  rw[qv] at hx
  cases i with
  |zero =>
   simp only[List.getElem?_cons_zero,Option.some.injEq] at hx
   rw[←hx,Nat.add_zero]
   exact hR.row
  |succ i =>
   rw[List.getElem?_cons_succ] at hx
   rw[show H.length+2+(i+1)=H.length+2+1+i by omega]
   exact hR.kids i xs hx
 have pR:((List.range t.size).map (H.length+2+·)).length=t.size:=by simp
 have hsn:((List.range t.size).map (H.length+2+·)).Nodup:=D5 (fun i j h=>by omega)
 have hsi:∀i,i<t.size→((List.range t.size).map (H.length+2+·))[i]? = some (H.length+2+i):=fun i hi=>by simp[hi]
 have hN:∀j,j<t.size→cP H.length ((List.range t.size).map (H.length+2+·)) (H.length+2+j)=some (H.length+j):=fun j hj=>nB hsn (hsi j hj) (by omega)
 rw[xQ]
 refine ny _ ((List.range t.size).map (H.length+2+·)) (by rw[pR];simp[wC,gf]) hsn (fun s hs=>?_) (fun i hi=>?_) (fun i k s hb hs=>?_) ?_
 ·obtain ⟨i,_,rfl⟩:=List.mem_map.1 hs
  omega
 ·rw[Y.aj (by omega),Y.aj (by omega),f3 i hi]
 ·have hi:i<t.size:=by
   have:=(List.getElem?_eq_some_iff.1 hs).1
   rwa [pR] at this
  rw[hsi i hi] at hs
  cases hs
  simp only[wC,List.getElem?_map,Option.map_eq_some_iff,Option.some.injEq] at hb
  obtain ⟨ys,hy,rfl⟩:=hb
  obtain ⟨xs,hx,hg⟩:=MJ (F:=Y.set (Y.set G H.length (some ⟨4,[.agg [.sc (.int .u8 t.kind),.sc (.string t.text),.sc (.int .i64 t.num),.aD 4 (H.length+2) 0 t.kids.length (some (t.kids.length+12))]],true,25⟩)) (H.length+1) (some ⟨4,[.agg [.sc (.int .u8 t.kind),.sc (.string t.text),.sc (.int .i64 t.num),.aD 4 (H.length+2) 0 t.kids.length (some (t.kids.length+12))]],true,25⟩)) (s0:=H.length+2) (c0:=H.length) hN t 0 (by omega) i ys hy
  refine ⟨⟨4,xs,true,25⟩,?_,rfl,rfl,fun h=>h,hg⟩
  rw[Y.aj (by omega),Y.aj (by omega)]
  exact hO i xs hx
 ·exact Ev (s0:=H.length+2) (c0:=H.length) hN t 0 (by omega)
theorem ED(l:List Nd)(ih:∀t∈l,EC t.kids):EC l:=by
 intro ro H hz
 have hlen:=Nd.fZ l
 refine aG (by simp;omega) (ahO (aA ?_))
 simp only[ado,ux]
 obtain ⟨m,hm⟩:∃m,m=l.length+12:=⟨_,rfl⟩
 have Eb:((l.length:Int)+12).toNat=m:=by omega
 have xO:=aH l
 refine Z fun L hL=>?_
 refine fh ?_
 refine hL _ _ ?_
 clear hL
 refine Z fun L hL=>?_
 refine eQ (ak xO Eb) ?_
 refine ⟨by omega,?_⟩
 refine hL _ _ ?_
 clear hL
 refine Z fun L hL=>?_
 refine fh ?_
 refine aZ (fun ts G=>∃k:Nat,(k≤l.length∧G.length=H.length+1+Nd.ay (l.take k)+k∧Y.find G H.length=some ⟨4,kS (l.take k) (H.length+1)++List.replicate (m-k) nE,true,25⟩∧sx G (l.take k) (H.length+1)∧∀i,i<H.length→Y.find G i=Y.find H i)∧Fr (some (.am 4 (bh l) ro)::none::none::some (.aD 4 H.length 0 k (some m))::some (.sc (.int .i64 k))::none::none::bf []) ts) (fun ts _=>l.length-(aM (ts.getD 4 .top)).toNat) ?_ ?_
 ·refine ⟨0,⟨Nat.zero_le _,by simp[Nd.ay],?_,trivial,fun i hi=>?_⟩,by simp[Fr]⟩
  ·refine fh ?_
   simp[kS]
  ·exact fh trivial
 ·rintro ts G ⟨k,⟨hk,q1,q2,q3,q4⟩,aX⟩ L2 bM
  obtain ⟨js,rfl⟩:=aX.opened
  clear aX
  by_cases hd:k<l.length
  ·have k0:(0:Int)≤(k:Int):=by omega
   have k1:(k:Int)<l.length:=by omega
   have hg:=dG hd
   have dW:=eJ hd
   have hsz:=Nd.de dW
   have mb:=zH (aE l k) (ih _ dW) (by omega) none G
   rw[aQ] at mb
   refine df (ei xO hg k0 k1) ?_
   refine ae mb ?_
   obtain ⟨G2,ZW⟩:∃G2,qu (aE l k) G.length++G=G2:=⟨_,rfl⟩
   rw[ZW]
   have g0:G2.length=G.length+(aE l k).size:=by rw[←ZW,List.length_append,tC];omega
   have g1:∀i,i<G.length→Y.find G2 i=Y.find G i:=fun i hi=>by rw[←ZW,Y.bF hi]
   have g2:Y.find G2 H.length=some ⟨4,kS (l.take k) (H.length+1)++List.replicate (m-k) nE,true,25⟩:=by rw[g1 _ (by omega),q2]
   have g3:iO G2 (aE l k) G.length:=fun i xs hx=>by
    rw[←ZW,xQ]
    exact sg (by simp[wC,hx])
   clear ZW mb
   have dY:=zG (l.take k) (H.length+1)
   rw[List.length_take,Nat.min_eq_left hk] at dY
   have htk:(kS (l.take k) (H.length+1)++List.replicate (m-k) nE).take k=kS (l.take k) (H.length+1):=by rw[List.take_append_of_le_length (by omega),List.take_of_length_le (by omega)]
   have hdk:(kS (l.take k) (H.length+1)++List.replicate (m-k) nE).drop (k+1)=List.replicate (m-(k+1)) nE:=by
    rw[List.drop_append,List.drop_of_length_le (by omega),dY,List.nil_append,List.drop_replicate]
    congr 1
    omega
   have ef:(kS (l.take k) (H.length+1)++List.replicate (m-k) nE).length=m:=by rw[List.length_append,dY,List.length_replicate];omega
   have hroom:k+1≤m:=by omega
   have hkm:k≤m:=by omega
   have vM:k+1≤100000000:=by omega
   refine eQ (Ds g2 htk hdk ef hroom hkm vM @j9) ?_
   have hst:=iK hd
   have hne:∀i,i<G.length→i≠H.length→∀(b x:Option aP),Y.find (b::Y.set G2 H.length x) i=Y.find G i:=fun i h1 h2 b x=>by
    rw[ai (by rw[Y.af];omega),Y.aj h2,g1 i h1]
   have sQ:(l.take k).length=k:=by rw[List.length_take];omega
   refine bM _ _ ⟨k+1,⟨by omega,by simp[Y.af];omega,?_,?_,fun i hi=>?_⟩,by simp[Fr]⟩ (by simp[aM,mk];omega)
   ·rw[ai (by rw[Y.af];omega),Y.aC (by omega),List.take_succ_eq_append_getElem hd,Jh,←eH hd,sQ,←q1]
    simp only[kS,List.append_assoc,List.singleton_append,oU]
   ·rw[List.take_succ_eq_append_getElem hd,←eH hd]
    refine sx.append (q3.of fun i h1 h2=>?_) ⟨?_,trivial⟩
    ·rw[sQ] at h2
     exact hne i (by omega) (by omega) _ _
    ·rw[sQ,←q1]
     refine g3.of fun i h1 h2=>?_
     rw[ai (by rw[Y.af];omega),Y.aj (by omega)]
   ·rw[hne i (by omega) (by omega)]
    exact q4 i hi
  ·have mO:k=l.length:=by omega
   subst mO
   have k1:¬((l.length:Nat):Int)<l.length:=by omega
   refine df (ak xO k1) ?_
   refine hL _ _ ?_
   clear hL bM
   refine Z fun L hL=>?_
   refine fh ?_
   have htk:l.take l.length=l:=List.take_length
   rw[htk] at q1 q2 q3
   have dY:=zG l (H.length+1)
   have ed:m-l.length=12:=by omega
   rw[ed] at q2
   refine aZ (fun ts F=>∃j:Nat,(j≤12∧F.length=G.length∧Y.find F H.length=some ⟨4,kS l (H.length+1)++(je j++List.replicate (12-j) nE),true,25⟩∧∀i,i<G.length→i≠H.length→Y.find F i=Y.find G i)∧Fr (some (.am 4 (bh l) ro)::none::none::some (.aD 4 H.length 0 (l.length+j) (some m))::none::none::some (.sc (.int .i64 j))::bf []) ts) (fun ts _=>12-(aM (ts.getD 6 .top)).toNat) ⟨0,⟨by omega,rfl,by simpa [je] using q2,fun _ _ _=>rfl⟩,by simp[Fr]⟩ ?_
   rintro ts F ⟨j,⟨hj,p1,p2,p3⟩,aX⟩ L2 bM
   obtain ⟨js,rfl⟩:=aX.opened
   clear aX
   refine yV ?_
   refine dz (fun h=>?_) (fun h=>?_)
   ·have h1:j<12:=by omega
    refine fh ?_
    refine ae (qZ _ _ _) ?_
    have o8:=vL (j:=j)
    have htk:(kS l (H.length+1)++(je j++List.replicate (12-j) nE)).take (l.length+j)=kS l (H.length+1)++je j:=by
     rw[←List.append_assoc,List.take_append_of_le_length (by simp[dY,o8]),List.take_of_length_le (by simp[dY,o8])]
    have hdk:(kS l (H.length+1)++(je j++List.replicate (12-j) nE)).drop (l.length+(j+1))=List.replicate (12-(j+1)) nE:=by
     rw[←List.append_assoc,List.drop_append,List.drop_of_length_le (by simp[dY,o8]),List.length_append,dY,o8,List.nil_append,List.drop_replicate]
     congr 1
     omega
    have ef:(kS l (H.length+1)++(je j++List.replicate (12-j) nE)).length=m:=by rw[List.length_append,List.length_append,dY,o8,List.length_replicate];omega
    have hroom:l.length+(j+1)≤m:=by omega
    have hkm:l.length+j≤m:=by omega
    have vM:l.length+(j+1)≤100000000:=by omega
    refine eQ (Ds p2 htk hdk ef hroom hkm vM @wo) ?_
    refine bM _ _ ⟨j+1,⟨by omega,by rw[Y.af];exact p1,?_,fun i h2 h3=>?_⟩,by simp[Fr]⟩ (by simp[aM,mk];omega)
    ·rw[Y.aC (by omega),Jg]
     simp only[List.append_assoc,List.singleton_append,List.cons_append,List.nil_append]
     rw[show 12-(j+1)=11-j by omega]
     rfl
    ·rw[Y.aj h3]
     exact p3 i h2 h3
   ·have aiM:j=12:=by omega
    subst aiM
    refine hL _ _ ?_
    clear hL bM
    have hkm:l.length≤m:=by omega
    have h0m:0<m:=by omega
    refine eQ (ei xO hkm h0m @Nat.sub_zero) ?_
    refine ⟨⟨by omega,rfl,by omega⟩,?_⟩
    simp only[Nat.sub_self,List.replicate_zero,List.append_nil] at p2
    obtain ⟨src,hsrc⟩:∃src,src=H.length::qw l (H.length+1):=⟨_,rfl⟩
    have aiN:src.length=1+Nd.ay l:=by rw[hsrc,List.length_cons,Ji];omega
    have snd:src.Nodup:=by
     rw[hsrc]
     refine List.nodup_cons.2 ⟨fun h=>?_,MK _ _⟩
     have:=EB _ _ _ h
     omega
    have sge:∀s∈src,H.length≤s:=fun s hs=>by
     rw[hsrc] at hs
     rcases List.mem_cons.1 hs with rfl|hs
     ·exact Nat.le_refl _
     ·have:=EB _ _ _ hs;omega
    have s0:cP H.length src H.length=some H.length:=nB (i:=0) snd (by rw[hsrc];rfl) (Nat.le_refl _)
    have aeh:ML H.length src l (H.length+1) (H.length+1):=MM l _ _ fun i s hs=>by
     rw[show H.length+1+i=H.length+(i+1) by omega]
     have hs':src[i+1]? = some s:=by rw[hsrc,List.getElem?_cons_succ];exact hs
     exact nB snd hs' (sge s (List.mem_of_getElem? hs'))
    have aiO:sx F l (H.length+1):=q3.of fun i h1 h2=>p3 i (by omega) (by omega)
    have yh:lg l (H.length+1)++(mH (jG l H.length)::H)=lays (wC (jG l H.length::gw l (H.length+1))) H:=by
     rw[BF]
     rfl
    rw[yh]
    have eV:Et l.length H.length = .aD 4 H.length 0 l.length (some m):=by rw[hm]
    rw[eV]
    refine ny _ src (by rw[aiN];simp[wC,FH];omega) snd sge (fun i hi=>(p3 i (by omega) (by omega)).trans (q4 i hi)) (fun i kb s hb hs=>?_) (.Gw s0 (.inl rfl))
    cases i with
    |zero =>
     rw[hsrc] at hs
     simp only[List.getElem?_cons_zero,Option.some.injEq] at hs
     simp only[wC,List.map_cons,List.getElem?_cons_zero,Option.some.injEq] at hb
     subst hs hb
     exact ⟨_,p2,rfl,rfl,fun h=>h,dt.append (MN aeh) (Es 12)⟩
    |succ i =>
     rw[hsrc,List.getElem?_cons_succ] at hs
     simp only[wC,List.map_cons,List.getElem?_cons_succ,List.getElem?_map,Option.map_eq_some_iff,Option.some.injEq] at hb
     obtain ⟨ys,hy,rfl⟩:=hb
     obtain ⟨s',z1,xs,z2,z3⟩:=MO (F:=F) aeh aiO i ys hy
     rw[hs] at z1
     cases z1
     exact ⟨⟨4,xs,true,25⟩,z2,rfl,rfl,fun h=>h,z3⟩
theorem MP(l:List Nd):EC l:=by
 have key:∀n:Nat,∀l:List Nd,Nd.ay l≤n→EC l:=by
  intro n
  induction n with
  |zero =>
   intro l h
   refine ED l fun t ht=>?_
   have:=Nd.de ht
   have:=t.size_pos
   omega
  |succ n ih =>
   intro l h
   refine ED l fun t ht=>ih _ ?_
   have:=Nd.de ht
   have:=Nd.size_eq t
   omega
 exact key _ l (Nat.le_refl _)
theorem MQ(t:Nd)(hz:t.size≤1000000)(ro:Option (List AV))(H:Y):D Tryz.prog 9 [dZ t ro] H (.ret (oU t H.length)) (qu t H.length++H):=zH t (MP _) hz ro H
theorem BG(k i:Int)(H:Y):D Tryz.prog 16 [qt k i,qt k i] H (.ret (.sc (.bool true))) H:=by
 have h:=qY ⟨0,⟨#[]⟩,gu k i,[]⟩ (by simp[Nd.size,Nd.ay]) ⟨0,⟨#[]⟩,gu k i,[]⟩ none none H
 rw[qS] at h
 have hl:Le (qt k i) (dZ ⟨0,⟨#[]⟩,gu k i,[]⟩ none):=.agg (.cons .refl (.cons .refl (.cons .refl (.cons .nil .nil))))
 exact acX (.cons hl (.cons hl .nil)) h
theorem iO.over{H G:Y}{t:Nd}{a:Nat}(h:iO H t a)(ho:Over H G):iO G t a:=fun i xs hx=>by
 have h1:=h i xs hx
 rw[Over.find ho (Y.ax h1)]
 exact h1
theorem Ew.over{H G:Y}{l:List Nd}{a:Nat}(h:Ew H l a)(ho:Over H G):Ew G l a where
 row:=by rw[Over.find ho (Y.ax h.row)];exact h.row
 kids:=fun i xs hx=>by
  have h1:=h.kids i xs hx
  rw[Over.find ho (Y.ax h1)]
  exact h1
def EE(l:List Nd):Prop:=∀(rl:Option (List AV))(a:Nat)(H:Y),Nd.ay l≤1000000→Ew H l a→D Tryz.prog 38 [Et l.length a,.am 4 (bh l) rl] H (.ret (.sc (.bool true))) H
theorem ZX{H:Y}(t:Nd):View H (eu t) (eu t):=by
 induction t using Nd.ind with
 |_ t ih =>
  have key:∀l:List Nd,(∀k∈l,View H (eu k) (eu k))→cJ H (bh l) (bh l):=by
   intro l
   induction l with
   |nil=>intro _;exact .nil
   |cons x r fC=>intro h;exact .cons (h x (by simp)) (fC fun k hk=>h k (by simp[hk]))
  rw[ew]
  exact .agg (.cons .sc (.cons .sc (.cons .sc (.cons (.am (key _ ih)) .nil))))
theorem MR{H:Y}{t:Nd}{a:Nat}(hz:t.size≤1000000)(h:iO H t a):D Tryz.prog 16 [oU t a,dZ t none] H (.ret (.sc (.bool true))) H:=by
 have hs:=qY t hz t none none []
 rw[qS,ky] at hs
 rw[ky]
 exact tc (.cons (Ez t h) (.cons (ZX t) .nil)) .sc hs
theorem zI(t:Nd)(h:EE t.kids)(hz:t.size≤1000000)(a:Nat)(H:Y)(hl:iO H t a):D Tryz.prog 12 [oU t a,dZ t none] H (.ret (.sc (.bool true))) H:=by
 have zY:=Nd.size_eq t
 have uy:=fun (G:Y) hg=>MR (H:=G) (a:=a) hz hg
 have hkk:=fun G hg=>h none a G (by omega) hg
 rw[aQ,j9] at *
 refine aG (Nat.le_refl _) (ahQ (aA ?_))
 simp only[adq,ux]
 refine Z fun L hL=>?_
 refine aw ?_
 refine hL _ _ ?_
 clear hL
 refine Z fun L hL=>?_
 refine aw ?_
 refine ae (uy _ (hl.over (.cons (.cons .refl)))) ?_
 refine aw ?_
 refine ae (hkk _ (hl.row.over (.cons (.cons .refl)))) ?_
 refine aw ?_
 refine hL _ _ ?_
 clear hL
 refine aw ?_
 exact bL (.cons (.cons .refl))
theorem EF(l:List Nd)(ih:∀t∈l,EE t.kids):EE l:=by
 intro rl a H hz hr
 have hlen:=Nd.fZ l
 have hrow:=hr.row
 refine aG (Nat.le_refl _) (ahP (aA ?_))
 simp only[adp,ux]
 obtain ⟨m,hm⟩:∃m,m=l.length+12:=⟨_,rfl⟩
 have Eb:((l.length:Int)+12).toNat=m:=by omega
 have c0:0<m:=by omega
 have xO:=aH l
 have yJ:(jG l a).length=m:=by rw[tB,hm]
 rw[show Et l.length a = .aD 4 a 0 l.length (some m) from by rw[hm]]
 refine Z fun L hL=>?_
 refine fh ?_
 refine hL _ _ ?_
 clear hL
 refine Z fun L hL=>?_
 simp -implicitDefEqProofs (maxSteps:=99999999) (disch:=first|omega|(simp only[vl];first|done|omega)) only[xO,ne_eq,va,vg,vs,vw,vk,simprocAttr]
 refine hL _ _ ?_
 clear hL
 refine Z fun L hL=>?_
 refine eQ (ei xO Eb c0 @Nat.sub_zero) ?_
 refine ⟨⟨by omega,rfl,by omega,by omega⟩,?_⟩
 refine hL _ _ ?_
 clear hL
 refine Z fun L hL=>?_
 refine fh ?_
 refine aZ (fun ts G=>∃j:Nat,(j≤m∧G=H)∧Fr (some (.aD 4 a 0 l.length (some m))::some (.am 4 (bh l) rl)::none::none::some (.sc (.bool false))::some (.aD 4 a 0 m (some m))::some (.sc (.int .i64 j))::none::none::none::dL (bf [])) ts) (fun ts _=>m-(aM (ts.getD 6 .top)).toNat) ⟨0,⟨by omega,rfl⟩,by simp[Fr]⟩ ?_
 rintro ts H ⟨j,⟨hj,rfl⟩,aX⟩ L2 bM
 obtain ⟨js,rfl⟩:=aX.opened
 clear aX
 refine yV ?_
 refine dz (fun h=>?_) (fun h=>?_)
 ·have h1:j<m:=by omega
  have j0:(0:Int)≤(j:Int):=by omega
  have j1:(j:Int)<m:=by omega
  by_cases c1:j<l.length
  ·have c2:(j:Int)<l.length:=by omega
   have c3:¬((j:Int)≥l.length):=by omega
   have xv:=AY (a:=a) c1
   have su:=dG c1
   have dW:=eJ c1
   have hsz:=Nd.de dW
   have hk:=zI (aE l j) (ih _ dW) (by omega) _ H (hr.kids.at_ c1)
   obtain ⟨q,hq⟩:∃q,a+1+Nd.ay (l.take j)=q:=⟨_,rfl⟩
   rw[hq,j9] at xv hk
   rw[aQ] at hk
   simp -implicitDefEqProofs (maxSteps:=99999999) (disch:=first|omega|(simp only[vl];first|done|omega)) only[hrow,xO,yJ,h1,j0,j1,c1,c2,c3,xv,su,va,vg,vs,vw,vk,simprocAttr]
   refine aL hk ?_
   simp -implicitDefEqProofs (maxSteps:=99999999) (disch:=first|omega|(simp only[vl];first|done|omega)) only[hrow,xO,yJ,h1,j0,j1,c1,c2,c3,xv,su,va,vg,vs,vw,vk,simprocAttr]
   exact bM _ _ ⟨j+1,⟨by omega,rfl⟩,by simp[Fr]⟩ (by simp[aM,mk];omega)
  ·obtain ⟨t,rfl⟩:∃t,j=l.length+t:=⟨j-l.length,by omega⟩
   have c2:¬(((l.length+t:Nat):Int)<l.length):=by omega
   have c3:((l.length+t:Nat):Int)≥l.length:=by omega
   have xv:=Ey (l:=l) (a:=a) (t:=t) (by omega)
   have hmk:=qZ
   have uy:=BG
   simp only[wo] at xv hmk uy
   have e2:((l.length+t:Nat):Int)-l.length=t:=by omega
   simp -implicitDefEqProofs (maxSteps:=99999999) (disch:=first|omega|(simp only[vl];first|done|omega)) only[hrow,xO,yJ,h1,j0,j1,c1,c2,c3,xv,e2,va,vg,vs,vw,vk,simprocAttr]
   refine aL (hmk _ _ _) ?_
   simp -implicitDefEqProofs (maxSteps:=99999999) (disch:=first|omega|(simp only[vl];first|done|omega)) only[hrow,xO,yJ,h1,j0,j1,c1,c2,c3,xv,e2,va,vg,vs,vw,vk,simprocAttr]
   refine aL (uy _ _ _) ?_
   simp -implicitDefEqProofs (maxSteps:=99999999) (disch:=first|omega|(simp only[vl];first|done|omega)) only[hrow,xO,yJ,h1,j0,j1,c1,c2,c3,xv,e2,va,vg,vs,vw,vk,simprocAttr]
   exact bM _ _ ⟨l.length+t+1,⟨by omega,rfl⟩,by simp[Fr]⟩ (by simp[aM,mk];omega)
 ·refine hL _ _ ?_
  clear hL
  refine fh ?_
  exact eB.refl _ _ _
theorem MS(l:List Nd):EE l:=by
 have key:∀n:Nat,∀l:List Nd,Nd.ay l≤n→EE l:=by
  intro n
  induction n with
  |zero =>
   intro l h
   refine EF l fun t ht=>?_
   have:=Nd.de ht
   have:=t.size_pos
   omega
  |succ n ih =>
   intro l h
   refine EF l fun t ht=>ih _ ?_
   have:=Nd.de ht
   have:=Nd.size_eq t
   omega
 exact key _ l (Nat.le_refl _)
mutual
inductive OW(F:Y):Nd→AV→List Nat→Prop
 | mk {k:Int}{s:ByteArray}{n:Int}{l:List Nd}{xs:List AV}{i:Nat}{is:List Nat}:(xs≠[]→Y.find F i=bS 4 25 xs)→mR F l xs is→OW F ⟨k,s,n,l⟩ (.agg [.sc (.int .u8 k),.sc (.string s),.sc (.int .i64 n),aW 4 xs i]) (i::is)
inductive mR(F:Y):List Nd→List AV→List Nat→Prop
 | nil:mR F [] [] []
 | cons {t:Nd}{l:List Nd}{x:AV}{xs:List AV}{a b:List Nat}:OW F t x a→mR F l xs b→mR F (t::l) (x::xs) (a++b)
end
theorem mR.append{F:Y}:∀{l m:List Nd}{xs ys:List AV}{a b:List Nat},mR F l xs a→mR F m ys b→mR F (l++m) (xs++ys) (a++b)
 |[],_,_,_,_,_,.nil,h=>h
 |_::_,_,_,_,_,_,.cons h1 h2,h=>by
  rw[List.append_assoc]
  exact .cons h1 (mR.append h2 h)
theorem mR.len{F:Y}:∀{l:List Nd}{xs:List AV}{a:List Nat},mR F l xs a→xs.length=l.length
 |[],_,_,.nil=>rfl
 |_::_,_,_,.cons _ h=>by simp[mR.len h]
theorem OW.Qi{F:Y}(t:Nd):∀{x:AV}{is:List Nat},OW F t x is→is.length=t.size:=by
 induction t using Nd.ind with
 |_ t ih =>
  intro x is h
  have key:∀(l:List Nd),(∀k∈l,∀{x:AV}{is:List Nat},OW F k x is→is.length=k.size)→∀{xs:List AV}{is:List Nat},mR F l xs is→is.length=Nd.ay l:=by
   intro l
   induction l with
   |nil=>intro _ xs is h;cases h;rfl
   |cons y r fC =>
    intro hk xs is h
    cases h with
    |cons h1 h2 =>
     rw[List.length_append,hk y (by simp) h1,fC (fun k hk'=>hk k (by simp[hk'])) h2]
     rfl
  cases h with
  |mk h1 h2 =>
   rw[List.length_cons,key _ ih h2]
   simp only[Nd.size,Nd.kids]
   omega
theorem Qj{F:Y}(t:Nd):∀{a:Nat},dP F t a→OW F t (fF t a) (List.range' a t.size):=by
 induction t using Nd.ind with
 |_ t ih =>
  intro a h
  have key:∀(l:List Nd),(∀k∈l,∀{a:Nat},dP F k a→OW F k (fF k a) (List.range' a k.size))→∀a,jd F l a→mR F l (eT l a) (List.range' a (Nd.ay l)):=by
   intro l
   induction l with
   |nil=>intro _ a _;exact .nil
   |cons x r fC =>
    intro hx a hl
    simp only[eT,Nd.ay]
    rw[←List.range'_append_1]
    exact .cons (hx x (by simp) hl.first) (fC (fun k hk=>hx k (by simp[hk])) _ hl.rest)
  have h1:=h.head
  have h2:=key _ ih _ h.kids
  cases t with
  |mk k s n l =>
   simp only[fF,Nd.size,Nd.kids] at *
   rw[Nat.add_comm 1,List.range'_succ]
   exact .mk (fun _=>h1) h2
theorem ZY{F K:Y}{n0:Nat}{src:List Nat}(t:Nd):∀{x:AV}{is:List Nat}{c:Nat},OW F t x is→(∀(k i:Nat),is[k]? = some i→cP n0 src i=some (c+k))→
  Gz K n0 src x (fF t c)∧∀(k:Nat)(ys:List AV),(AG t c)[k]? = some ys→∃(i:Nat)(xs:List AV),is[k]? = some i∧(xs≠[]→Y.find F i=bS 4 25 xs)∧dt K n0 src xs ys:=by
 induction t using Nd.ind with
 |_ t ih =>
  intro x is c h hN
  have key:∀(l:List Nd),(∀k∈l,∀{x:AV}{is:List Nat}{c:Nat},OW F k x is→(∀(k i:Nat),is[k]? = some i→cP n0 src i=some (c+k))→
    Gz K n0 src x (fF k c)∧∀(j:Nat)(ys:List AV),(AG k c)[j]? = some ys→∃(i:Nat)(xs:List AV),is[j]? = some i∧(xs≠[]→Y.find F i=bS 4 25 xs)∧dt K n0 src xs ys)→
    ∀{xs:List AV}{is:List Nat}{c:Nat},mR F l xs is→(∀(k i:Nat),is[k]? = some i→cP n0 src i=some (c+k))→
    dt K n0 src xs (eT l c)∧∀(j:Nat)(ys:List AV),(lV l c)[j]? = some ys→∃(i:Nat)(xs:List AV),is[j]? = some i∧(xs≠[]→Y.find F i=bS 4 25 xs)∧dt K n0 src xs ys:=by
   intro l
   induction l with
   |nil=>intro _ xs is c h _;cases h;exact ⟨.nil,fun j ys h=>by simp[lV] at h⟩
   |cons y r fC =>
    intro hk xs is c h hN
    cases h with
    |@cons _ _ x xs a b h1 h2 =>
     have hal:=OW.Qi _ h1
     have k1:=hk y (by simp) h1 (c:=c) (fun k i hi=>hN k i (by rw[List.getElem?_append_left (List.getElem?_eq_some_iff.1 hi).1];exact hi))
     have k2:=fC (fun k hk'=>hk k (by simp[hk'])) h2 (c:=c+y.size) (fun k i hi=>by
      rw[show c+y.size+k=c+(a.length+k) by omega]
      exact hN _ i (by rw[List.getElem?_append_right (by omega),Nat.add_sub_cancel_left];exact hi))
     refine ⟨.cons k1.1 k2.1,fun j ys hj=>?_⟩
     simp only[lV] at hj
     by_cases hlt:j<y.size
     ·rw[List.getElem?_append_left (by rw[gY];exact hlt)] at hj
      obtain ⟨i,zs,e1,e2⟩:=k1.2 j ys hj
      exact ⟨i,zs,by rw[List.getElem?_append_left (by omega)];exact e1,e2⟩
     ·rw[List.getElem?_append_right (by rw[gY];omega),gY] at hj
      obtain ⟨i,zs,e1,e2⟩:=k2.2 _ ys hj
      exact ⟨i,zs,by rw[List.getElem?_append_right (by omega),hal];exact e1,e2⟩
  cases h with
  |@mk k s n l xs i is h1 h2 =>
   have h3:=key l ih h2 (c:=c+1) (fun k j hj=>by
    rw[show c+1+k=c+(k+1) by omega]
    exact hN (k+1) j (by rw[List.getElem?_cons_succ];exact hj))
   refine ⟨?_,fun j ys hj=>?_⟩
   ·simp only[fF]
    refine .agg (.cons (.same trivial) (.cons (.same trivial) (.cons (.same trivial) (.cons ?_ .nil))))
    rw[G8 (show (eT l (c+1)).length=xs.length by rw[gW,h2.len])]
    exact Dr fun _=>hN 0 i rfl
   ·simp only[AG] at hj
    cases j with
    |zero =>
     simp only[List.getElem?_cons_zero,Option.some.injEq] at hj
     exact ⟨i,xs,rfl,h1,hj▸h3.1⟩
    |succ j =>
     rw[List.getElem?_cons_succ] at hj
     obtain ⟨i',zs,e1,e2⟩:=h3.2 j ys hj
     exact ⟨i',zs,by rw[List.getElem?_cons_succ];exact e1,e2⟩
theorem MT{H F:Y}{t:Nd}{x:AV}{is:List Nat}{v:Value}(h:OW F t x is)(hn:is.Nodup)(hge:∀i∈is,H.length≤i)(ho:∀i,i<H.length→Y.find F i=Y.find H i) :
  eB H (.ret (.aO [x,.sc v])) F (.ret (.aO [fF t H.length,.sc v])) (gd t H.length++H):=by
 have hN:∀(k i:Nat),is[k]? = some i→cP H.length is i=some (H.length+k):=fun k i hi=>nB hn hi (hge i (List.mem_of_getElem? hi))
 obtain ⟨g1,g2⟩:=ZY (K:=F) t h hN
 rw[G7]
 refine ny _ is (by rw[OW.Qi _ h];simp[LY,gY]) hn hge ho (fun i k s hb hs=>?_) (.aO (.cons g1 (.cons (.same trivial) .nil)))
 simp only[LY,List.getElem?_map,Option.map_eq_some_iff] at hb
 obtain ⟨ys,hy,hk⟩:=hb
 obtain ⟨hne,rfl⟩:=pZ hk
 obtain ⟨i',xs,e1,e2,e3⟩:=g2 i ys hy
 rw[hs] at e1
 cases e1
 have Fg:xs≠[]:=fun e=>hne (by have:=e3.len;rw[e] at this;exact List.length_eq_zero_iff.1 (by simpa using this))
 have e4:=e2 Fg
 rw[bj Fg] at e4
 exact ⟨_,e4,rfl,rfl,fun h=>h,e3⟩
theorem Jj(p q:List Nd):∀a,lV (p++q) a=lV p a++lV q (a+Nd.ay p):=by
 induction p with
 |nil=>intro a;simp[lV,Nd.ay]
 |cons x r ih =>
  intro a
  simp only[List.cons_append,lV,ih,Nd.ay,List.append_assoc]
  rw[show a+(x.size+Nd.ay r)=a+x.size+Nd.ay r by omega]
theorem tD(l:List Nd):∀a,(lV l a).length=Nd.ay l:=by
 induction l with
 |nil=>intro a;rfl
 |cons x r ih=>intro a;simp only[lV,List.length_append,gY,ih,Nd.ay]
theorem jd.split{F:Y}{p q:List Nd}{a:Nat}(h:jd F (p++q) a):jd F p a∧jd F q (a+Nd.ay p):=by
 unfold jd at *
 rw[Jj] at h
 refine ⟨fun i xs hx=>h i xs ?_,fun i xs hx=>?_⟩
 ·rw[List.getElem?_append_left (List.getElem?_eq_some_iff.1 hx).1]
  exact hx
 ·rw[Nat.add_assoc]
  refine h _ xs ?_
  rw[List.getElem?_append_right (by rw[tD];omega),tD,Nat.add_sub_cancel_left]
  exact hx
theorem jd.of{F G:Y}{l:List Nd}{a:Nat}(h:jd F l a)(hs:∀i,a≤i→i<a+Nd.ay l→Y.find G i=Y.find F i):jd G l a:=fun i xs hx=>by
 have hi:=(List.getElem?_eq_some_iff.1 hx).1
 rw[tD] at hi
 rw[hs _ (by omega) (by omega)]
 exact h i xs hx
theorem py{a n y:Nat}(h:y∈List.range' a n):a≤y∧y<a+n:=by
 obtain ⟨i,hi,rfl⟩:=List.mem_range'.1 h
 omega
theorem Jk(n:Nat)(t:Nd):∀a,(fF t a).up n=fF t (n+a)∧Y.up n (gd t a)=gd t (n+a)∧(fF t a).op=true∧∀b∈gd t a,∀k,b=some k→AV.ql k.es=true:=by
 induction t using Nd.ind with
 |_ t ih =>
  intro a
  have key:∀l:List Nd,(∀k∈l,∀a,(fF k a).up n=fF k (n+a)∧Y.up n (gd k a)=gd k (n+a)∧(fF k a).op=true∧∀b∈gd k a,∀c,b=some c→AV.ql c.es=true)→
    ∀a,AV.mP n (eT l a)=eT l (n+a)∧Y.up n (si l a)=si l (n+a)∧AV.ql (eT l a)=true∧∀b∈si l a,∀c,b=some c→AV.ql c.es=true:=by
   intro l
   induction l with
   |nil=>intro _ a;exact ⟨rfl,rfl,rfl,fun b h=>by simp[si] at h⟩
   |cons x r fC =>
    intro hk a
    obtain ⟨h1,h2,h3,h4⟩:=hk x (by simp) a
    obtain ⟨g1,g2,g3,g4⟩:=fC (fun k h=>hk k (by simp[h])) (a+x.size)
    rw[show n+(a+x.size)=n+a+x.size by omega] at g1 g2
    refine ⟨by simp only[eT,AV.mP,h1,g1],?_,by simp only[eT,AV.ql,h3,g3,Bool.and_self],?_⟩
    ·simp only[si]
     rw[←h2,←g2]
     unfold Y.up
     rw[List.map_append]
    ·intro b hb c hc
     simp only[si,List.mem_append] at hb
     exact hb.elim (fun h=>g4 b h c hc) fun h=>h4 b h c hc
  obtain ⟨k1,k2,k3,k4⟩:=key t.kids ih (a+1)
  rw[show n+(a+1)=n+a+1 by omega] at k1 k2
  have hup:∀(xs:List AV)(i:Nat),(aW 4 xs i).up n=aW 4 (AV.mP n xs) (n+i):=by
   intro xs i
   cases xs with
   |nil=>rfl
   |cons x r =>
    rw[jj (by simp),jj (by simp[AV.mP])]
    simp[AV.up,AV.j5]
  have NJ:∀(xs:List AV),(bS 4 25 xs).map (aP.up n)=bS 4 25 (AV.mP n xs):=by
   intro xs
   cases xs with
   |nil=>rfl
   |cons x r=>rw[bj (by simp),bj (by simp[AV.mP])];rfl
  have hop:∀(xs:List AV)(i:Nat),(aW 4 xs i).op=true:=by
   intro xs i
   cases xs with
   |nil=>rfl
   |cons x r=>rw[jj (by simp)];rfl
  refine ⟨?_,?_,?_,?_⟩
  ·rw[ey,ey]
   simp only[AV.up,AV.mP,hup,k1]
  ·rw[zq,zq]
   unfold Y.up at k2 ⊢
   rw[List.map_append,k2,List.map_cons,List.map_nil,NJ,k1]
  ·rw[ey]
   simp only[AV.op,AV.ql,hop,Bool.and_self]
  ·intro b hb c hc
   rw[zq,List.mem_append] at hb
   rcases hb with h|h
   ·exact k4 b h c hc
   ·rw[List.mem_singleton.1 h] at hc
    obtain ⟨h1,rfl⟩:=pZ hc
    exact k3
theorem ZZ{G:Y}(h:∀b∈G,∀k,b=some k→AV.ql k.es=true):Y.op G:=by
 intro id b hb
 induction G with
 |nil=>simp[Y.find] at hb
 |cons x r ih =>
  simp only[Y.find] at hb
  split at hb
  ·exact h x (by simp) b hb
  ·exact ih (fun b hb=>h b (by simp[hb])) hb
theorem acm{F:Y}{n0:Nat}{src:List Nat}(t:Nd)(r:Option (List AV)):Gz F n0 src (dZ t r) (eu t):=by
 rw[ew]
 exact .agg (.cons (.same trivial) (.cons (.same trivial) (.cons (.same trivial) (.cons (.am (zt _)) .nil))))
theorem MU{F:Y}{n0 i:Nat}(t:Nd)(hi:n0≤i)(hf:Y.find F i=bS 4 25 (bh t.kids)):Gz F n0 [] (wR t i) (eu t):=by
 rw[zE,ew]
 exact .agg (.cons (.same trivial) (.cons (.same trivial) (.cons (.same trivial) (.cons (qa (fun _=>by unfold cP;rw[if_neg (by omega)];rfl) (fun _=>hf) (zt _)) .nil))))
theorem Z0{l:List Nd}{m:Nat}(u:Nd):(bh l).set m (eu u)=bh (l.set m u):=by
 rw[qb,qb,List.map_set]
theorem Z1{H:Y}{k k2:Nat}{ys:List AV}(h:ys≠[]):lC H k ys (.am k2 [] (some [])) = .aD k H.length 0 ys.length none:=by
 cases ys with
 |nil=>exact absurd rfl h
 |cons y r=>simp[Gy]
theorem Z2{H:Y}{k k2 ty:Nat}{ys:List AV}(h:ys≠[]):jy H k ty ys (.am k2 [] (some []))=some ⟨k,ys,false,ty⟩::H:=by
 cases ys with
 |nil=>exact absurd rfl h
 |cons y r=>simp[GA]
theorem RS(x:ByteArray)(p:List Int):∀(t:Nd)(H:Y),t.size≤1000000→p.length≤1000000→(lW t p).isSome=true→D Tryz.prog 48 [dZ t none,.sc (.string x),.am 1 (aK p) none] H (.ret (eu (D7 x p t))) H:=by
 induction p with
 |nil =>
  intro t H hz hp hs
  rw[aQ,Hf]
  refine aG (Nat.le_refl _) (aee (aA ?_))
  simp only[ZO,ux]
  refine Z fun L hL=>?_
  refine aw ?_
  refine hL _ _ ?_
  clear hL
  refine Z fun L hL=>?_
  refine aw ?_
  refine hL _ _ ?_
  clear hL
  refine Z fun L hL=>?_
  refine aw ?_
  rw[show eu (D7 x [] t) = .agg [.sc (.int .u8 t.kind),.sc (.string x),.sc (.int .i64 t.num),.am 4 (bh t.kids) none] from ew _]
  exact nA (fun i hi=>by rw[ai (by simp;omega),ai (by simp;omega),ai hi]) (.agg (.cons (.same trivial) (.cons (.same trivial) (.cons (.same trivial) (.cons (.am (zt _)) .nil)))))
 |cons q r ih =>
  intro t H hz hp hs
  have hq:0≤q∧q<t.kids.length:=by
   simp only[lW] at hs
   split at hs
   ·assumption
   ·cases hs
  simp only[lW] at hs
  rw[if_pos hq] at hs
  obtain ⟨m,rfl⟩:∃m:Nat,q=m:=⟨q.toNat,by omega⟩
  rw[Int.toNat_natCast] at hs
  have hm:m<t.kids.length:=by omega
  have mO:=Nd.pg (eJ hm)
  have hi:=fun H=>ih (aE t.kids m) H (by omega) (by simp at hp;omega) hs
  rw[aQ] at hi
  rw[aQ,xD]
  have dY:=aB r
  have ua:=aH t.kids
  have hkn:=Nd.fZ t.kids
  have hts:=Nd.size_eq t
  have hge:=dG hm
  have hnl:bh t.kids≠[]:=fun h=>by rw[h] at ua;simp at ua;omega
  have hpt:List.take (aK r).length (aK r)=aK r:=List.take_length
  have ea:∀K:Y,lC K 4 (bh t.kids) (.am 4 [] (some [])) = .aD 4 K.length 0 t.kids.length none:=fun K=>by rw[Z1 hnl,ua]
  have eh:∀K:Y,jy K 4 25 (bh t.kids) (.am 4 [] (some []))=some ⟨4,bh t.kids,false,25⟩::K:=fun K=>Z2 hnl
  have q1:(m:Int)<t.kids.length:=by omega
  have z1:¬(((aK r).length+1:Nat):Int)=0:=by omega
  refine aG (Nat.le_refl _) (aee (aA ?_))
  simp only[ZO,ux]
  refine Z fun L hL=>?_
  refine aw ?_
  refine hL _ _ ?_
  clear hL
  refine Z fun L hL=>?_
  refine aw ?_
  refine hL _ _ ?_
  clear hL
  refine Z fun L hL=>?_
  refine aI z1 ?_
  refine hL _ _ ?_
  clear hL
  refine Z fun L hL=>?_
  refine aI (gq ua ea eh) ?_
  refine ⟨by omega,?_⟩
  refine hL _ _ ?_
  clear hL
  refine Z fun L hL=>?_
  refine aI (ei q1 ua hge hpt) ?_
  obtain ⟨w,hw⟩:∃w,D7 x r (aE t.kids m)=w:=⟨_,rfl⟩
  rw[hw,ew] at hi
  have gK:=Z0 (l:=t.kids) (m:=m) w
  rw[ew] at gK
  have hwe:D7 x ((m:Int)::r) t=⟨t.kind,t.text,t.num,t.kids.set m w⟩:=by simp only[D7,Int.toNat_natCast,hw]
  refine ⟨by omega,by omega,by omega,Nat.le_refl _,aL (hi _) ?_⟩
  refine aI (yR q1 ua hge hpt hm gK) ?_
  refine ⟨by omega,?_⟩
  refine hL _ _ ?_
  clear hL
  refine aI (yR q1 ua hge hpt hm gK) ?_
  have pR:bh (t.kids.set m w)≠[]:=fun h=>by
   have:=aH (t.kids.set m w)
   rw[h,List.length_set] at this
   simp at this
   omega
  have e:AV.agg [.sc (.int .u8 t.kind),.sc (.string t.text),.sc (.int .i64 t.num),.aD 4 (H.length+3) 0 t.kids.length none]=wR (D7 x ((m:Int)::r) t) (H.length+3):=by
   rw[hwe,zE]
   show _=AV.agg [.sc (.int .u8 t.kind),.sc (.string t.text),.sc (.int .i64 t.num),aW 4 (bh (t.kids.set m w)) (H.length+3)]
   rw[jj pR,aH,List.length_set]
  rw[e]
  refine nA (fun i hi=>?_) (MU _ (by omega) ?_)
  ·rw[ai (by simp;omega),ai (by simp;omega),ai (by simp;omega),ai hi]
  ·rw[aJ (by simp),hwe]
   show _=bS 4 25 (bh (t.kids.set m w))
   rw[bj pR]
def wT(p:List Int):List (List Int)→Nat→Int
 |[],_=>-1
 |q::r,i=>if q=p then i else wT p r (i+1)
theorem MV{p:List Int}:∀{l:List (List Int)}{i k:Nat},k<l.length→(∀j,j<k→¬dS l j=p)→dS l k=p→wT p l i=(i+k:Nat)
 |[],_,_,h,_,_=>by simp at h
 |q::r,i,0,_,_,h=>by simp[dS] at h;simp[wT,h]
 |q::r,i,k+1,h,hn,he=>by
  have h0:¬q=p:=by simpa [dS] using hn 0 (by omega)
  rw[wT,if_neg h0,MV (i:=i+1) (k:=k) (by simpa using h) (fun j hj=>by simpa [dS] using hn (j+1) (by omega)) (by simpa [dS] using he)]
  omega
theorem EG{p:List Int}:∀{l:List (List Int)}{i:Nat},(∀j,j<l.length→¬dS l j=p)→wT p l i=-1
 |[],_,_=>rfl
 |q::r,i,hn=>by
  have h0:¬q=p:=by simpa [dS] using hn 0 (by simp)
  rw[wT,if_neg h0,EG fun j hj=>by simpa [dS] using hn (j+1) (by simpa using hj)]
theorem BH{p:List Int}:∀{l:List (List Int)}{i:Nat},bX l p=decide (wT p l i≥0)
 |[],i=>by simp[bX,wT]
 |q::r,i=>by
  rw[wT]
  by_cases c:q=p
  ·rw[if_pos c]
   simp[bX,c]
  ·rw[if_neg c,←BH (l:=r)]
   simp[bX,c]
theorem acn(l:List (List Int))(p:List Int)(ro:Option (List AV))(hz:l.length≤1000000)(hp:∀k,k<l.length→(dS l k).length≤1000000)(gh:Nat)(H:Y)(hb:Y.find H gh=some ⟨1,[.am 1 (aK p) none],true,30⟩) :
  D Tryz.prog 181 [.am 1 (bc l) ro,.fn (.func 129) [] [.ptr 1 gh 0 0]] H (.ret (.sc (.int .i64 (wT p l 0)))) H:=by
 have cl:cr Tryz.prog 129=true:=by kernel_rfl
 have hone:∀(q:List Int)(hq:q.length≤1000000),D Tryz.prog 129 [.am 1 (aK q) none,.ptr 1 gh 0 0] H (.ret (.sc (.bool (decide (q=p))))) H:=fun q hq=>by
  have hlt:=Y.ax hb
  have h1:=fun H=>wj q p none none H (by omega)
  refine aG (Nat.le_refl _) (agk (aA ?_))
  simp only[ZK,ux]
  refine aI hb ?_
  refine ae (h1 _) ?_
  refine aw ?_
  exact aq .refl rfl
 refine aG (Nat.le_refl _) (agj (aA ?_))
 simp only[ZJ,ux]
 refine Z fun L hL=>?_
 refine aw ?_
 refine hL _ _ ?_
 clear hL
 refine Z fun L hL=>?_
 refine Z fun L hL=>?_
 refine aI @dg ?_
 refine hL _ _ ?_
 clear hL
 refine aZ (fun ts F=>∃k:Nat,(k≤l.length∧∀j,j<k→¬dS l j=p)∧F=H∧Fr (some (.am 1 (bc l) ro)::some (.fn (.func 129) [] [.ptr 1 gh 0 0])::none::none::some (.sc (.int .i64 0))::none::none::some (.sc (.int .i64 l.length))::some (.sc (.int .i64 k))::none::none::iv []) ts) (fun ts _=>l.length-(aM (ts.getD 8 .top)).toNat) ?_ ?_
 ·exact ⟨0,⟨Nat.zero_le _,fun j h=>absurd h (Nat.not_lt_zero _)⟩,rfl,by simp[Fr]⟩
 rintro ts F ⟨k,⟨hk,j8⟩,Ek,aX⟩ L2 bM
 rw[Ek]
 obtain ⟨js,rfl⟩:=aX.opened
 clear aX
 by_cases hd:k<l.length
 ·have d1:(k:Int)<l.length:=by omega
  have hg:=nD hd
  by_cases e1:dS l k=p
  ·have hi:=hone (dS l k) (hp k hd)
   rw[decide_eq_true e1] at hi
   have Fm:=MV (i:=0) hd j8 e1
   rw[Nat.zero_add] at Fm
   refine df (gq d1 hg @dg) ?_
   refine ⟨by omega,cl,ae hi ?_⟩
   refine aw ?_
   rw[Fm]
   exact bL .refl
  ·have hi:=hone (dS l k) (hp k hd)
   rw[decide_eq_false e1] at hi
   refine df (gq d1 hg @dg) ?_
   refine ⟨by omega,cl,ae hi ?_⟩
   refine aw ?_
   refine bM _ _ ⟨k+1,⟨by omega,fun j hj=>?_⟩,rfl,by simp[Fr]⟩ (by simp[aM,mk];omega)
   rcases Nat.lt_succ_iff_lt_or_eq.1 hj with h'|rfl
   ·exact j8 j h'
   ·exact e1
 ·have d1:¬(k:Int)<l.length:=by omega
  have Fm:=EG (i:=0) fun j hj=>j8 j (by omega)
  refine df d1 ?_
  clear bM
  refine hL _ _ ?_
  clear hL
  refine aw ?_
  rw[Fm]
  exact bL .refl
theorem agl(l:List (List Int))(x:ByteArray)(p:List Int)(hz:l.length≤1000000)(hp:∀k,k<l.length→(dS l k).length≤1000000) :
  D Tryz.prog 76 [.lp (.agg [.am 1 (bc l) none,.sc (.string x)]) 0,.am 1 (aK p) none] [] (.ret (.sc (.bool (bX l p)))) []:=by
 have h1:∀(gh:Nat)(H:Y),Y.find H gh=some ⟨1,[.am 1 (aK p) none],true,30⟩→D Tryz.prog 128 [.am 1 (bc l) none,.fn (.func 129) [] [.ptr 1 gh 0 0]] H (.ret (.sc (.bool (bX l p)))) H:=fun gh H hb=>by
  refine aG (Nat.le_refl _) (agi (aA ?_))
  simp only[ZI,ux]
  refine aw ?_
  refine ae (acn l p none hz hp gh _ hb) ?_
  refine aw ?_
  rw[BH (i:=0)]
  exact aq .refl rfl
 refine aG (Nat.le_refl _) (aiB (aA ?_))
 simp only[ad5,ux]
 refine Z fun L hL=>?_
 refine aw ?_
 refine hL _ _ ?_
 clear hL
 refine Z fun L hL=>?_
 refine aw ?_
 refine ae (h1 _ _ (aJ rfl)) ?_
 refine aw ?_
 refine hL _ _ ?_
 clear hL
 refine aw ?_
 exact aq (.cons .refl) rfl
def CP(P:Program)(bx:List Nat)(c:Code)(ic:IC):Prop:=dU P bx c=some ic∧∀id:Nat,bx.contains (id+1000)=false
def SE(P:Program)(bx:List Nat)(ic:IC)(K:Post)(ts:List AV)(H:Y):Prop :=
 ∀c,CP P bx c ic→∀(φ:aU)(w:World)(a:Act),Rel φ H w→FR φ (Own φ H) w ts a→c.wp P (CK K φ H w a.defers) a w
section
variable {P:Program}{bx:List Nat}
theorem SE.mJ{ic:IC}{K:Post}{ts:List AV}{H:Y}(h:ES P ic K ts H):SE P bx ic K ts H:=fun c hc φ w a hR hF=>uM c ic hc.1 K φ H w ts a hR hF (Kw h)
theorem AZ{id:Nat}{ops:Array Oper}{draw:Bool}{ic:IC}(h:CP P bx (.region id ops draw) ic):(∃l,ic = .ops l)∨∃l A,ic = .di l A:=by
 obtain ⟨h,hv⟩:=h
 simp only[dU] at h
 split at h
 ·cases h
 split at h
 ·split at h
  ·rw[hv id] at h
   cases h
   exact .inr ⟨_,_,rfl⟩
  ·unfold Ip at h
   simp only at h
   split at h
   ·cases h
   split at h
   ·cases h
    exact .inr ⟨_,_,rfl⟩
   ·cases h
 ·cases h
  exact .inl ⟨_,rfl⟩
theorem UX{c:Code}{x y:IC}(h:CP P bx c (.seq x y)):∃c1 c2,c = .seq c1 c2∧CP P bx c1 x∧CP P bx c2 y:=by
 obtain ⟨h,hv⟩:=h
 cases c with
 |seq a b =>
  simp only[dU] at h
  split at h
  ·rename_i h1 h2
   cases h
   exact ⟨a,b,rfl,⟨h1,hv⟩,h2,hv⟩
  ·cases h
 |region id ops draw =>
  rcases AZ ⟨h,hv⟩ with ⟨l,e⟩|⟨l,A,e⟩<;>cases e
 |cond c a b =>
  simp only[dU] at h
  split at h<;>cases h
 |_=>simp[dU,Iq] at h
theorem MW{c:Code}{id:Nat}{x:IC}(h:CP P bx c (.block id x)):∃c1,c = .block id c1∧CP P bx c1 x:=by
 obtain ⟨h,hv⟩:=h
 cases c with
 |block i a =>
  simp only[dU,Option.map_eq_some_iff] at h
  obtain ⟨y,h1,h2⟩:=h
  cases h2
  exact ⟨a,rfl,h1,hv⟩
 |region id ops draw =>
  rcases AZ ⟨h,hv⟩ with ⟨l,e⟩|⟨l,A,e⟩<;>cases e
 |cond c a b =>
  simp only[dU] at h
  split at h<;>cases h
 |seq a b =>
  simp only[dU] at h
  split at h<;>cases h
 |_=>simp[dU,Iq] at h
theorem Qk{c:Code}{x:IC}(h:CP P bx c (.loop x)):∃c1,c = .loop c1∧CP P bx c1 x:=by
 obtain ⟨h,hv⟩:=h
 cases c with
 |loop a =>
  simp only[dU,Option.map_eq_some_iff] at h
  obtain ⟨y,h1,h2⟩:=h
  cases h2
  exact ⟨a,rfl,h1,hv⟩
 |region id ops draw =>
  rcases AZ ⟨h,hv⟩ with ⟨l,e⟩|⟨l,A,e⟩<;>cases e
 |cond c a b =>
  simp only[dU] at h
  split at h<;>cases h
 |seq a b =>
  simp only[dU] at h
  split at h<;>cases h
 |_=>simp[dU,Iq] at h
theorem SE.seq{x y:IC}{K:Post}{ts:List AV}{H:Y}(h:SE P bx x (kX (SE P bx y K) K) ts H):SE P bx (.seq x y) K ts H:=by
 intro c hc φ w a hR hF
 obtain ⟨c1,c2,rfl,h1,h2⟩:=UX hc
 refine wp_seq (wp_mono (h c1 h1 φ w a hR hF) ?_)
 rintro e a' w' ⟨x',ts',H',φ',k1,k2,k3,k4,k5,k6⟩
 cases x' with
 |normal =>
  cases e<;>try exact k1.elim
  show c2.wp P _ a' w'
  have:=k2 c2 h2 φ' w' a' k4 k3
  rw[k6] at this
  exact wp_mono this fun e a2 w2 hc=>hc.step k5
 |exit i =>
  cases e<;>try exact k1.elim
  exact ⟨_,ts',H',φ',k1,k2,k3,k4,k5,k6⟩
 |ret =>
  cases e<;>try exact k1.elim
  exact ⟨.ret,ts',H',φ',k1,k2,k3,k4,k5,k6⟩
 |bP v =>
  cases e<;>try exact k1.elim
  exact ⟨_,ts',H',φ',k1,k2,k3,k4,k5,k6⟩
theorem SE.block{id:Nat}{x:IC}{K:Post}{ts:List AV}{H:Y}(h:SE P bx x (mq id K) ts H):SE P bx (.block id x) K ts H:=by
 intro c hc φ w a hR hF
 obtain ⟨c1,rfl,h1⟩:=MW hc
 refine wp_block (wp_mono (h c1 h1 φ w a hR hF) ?_)
 rintro e a' w' ⟨x',ts',H',φ',k1,k2,k3,k4,k5,k6⟩
 cases x' with
 |normal =>
  cases e<;>try exact k1.elim
  exact ⟨.normal,ts',H',φ',k1,k2,k3,k4,k5,k6⟩
 |exit i =>
  cases e<;>try exact k1.elim
  rename_i j
  have:i=j:=k1
  subst this
  simp only[mq] at k2
  simp only[Exit.inBlock]
  split
  ·rename_i e2
   rw[if_pos e2] at k2
   exact ⟨.normal,ts',H',φ',trivial,k2,k3,k4,k5,k6⟩
  ·rename_i e2
   rw[if_neg e2] at k2
   exact ⟨.exit i,ts',H',φ',rfl,k2,k3,k4,k5,k6⟩
 |ret =>
  cases e<;>try exact k1.elim
  exact ⟨.ret,ts',H',φ',k1,k2,k3,k4,k5,k6⟩
 |bP v =>
  cases e<;>try exact k1.elim
  exact ⟨.bP v,ts',H',φ',k1,k2,k3,k4,k5,k6⟩
theorem SE.loop{x:IC}{K:Post}{ts:List AV}{H:Y}(I:List AV→Y→Prop)(μ:List AV→Y→Nat)(h2:I ts H)(h3:∀ts H,I ts H→SE P bx x (kX (fun ts' H'=>I ts' H'∧μ ts' H'<μ ts H) K) ts H):SE P bx (.loop x) K ts H:=by
 intro c0 hc φ w a hR hF
 obtain ⟨c,rfl,h1⟩:=Qk hc
 intro b k cs
 have key:∀n ig H1 bK w1 a1,μ ig H1=n→I ig H1→FR bK (Own bK H1) w1 ig a1→Rel bK H1 w1→Step φ H w bK H1 w1→a1.defers=a.defers→
   ∃e a' w',CK K φ H w a.defers e a' w'∧Arrives P (lone (b.at a1 (.code c::.inLoop c::k)) cs w1) b k cs e a' w':=by
  intro n
  induction n using Nat.strongRecOn with
  |_ n ihn =>
   intro ig H1 bK w1 a1 hn hI kY zX nS Ir
   obtain ⟨e,a2,w2,⟨x',ts',H',φ',k1,k2,k3,k4,k5,k6⟩,mh⟩:=h3 ig H1 hI c h1 bK w1 a1 zX kY b (.inLoop c::k) cs
   cases x' with
   |normal =>
    cases e<;>try exact k1.elim
    obtain ⟨g1,g2⟩:=k2
    obtain ⟨e3,a3,w3,Iu,N9⟩:=ihn (μ ts' H') (hn▸g2) ts' H' φ' w2 a2 rfl g1 k3 k4 (nS.trans k5) (by rw[k6,Ir])
    exact ⟨e3,a3,w3,Iu,.of_steps (Steps.trans mh (.one step_inLoop)) N9⟩
   |exit i =>
    cases e<;>try exact k1.elim
    exact ⟨_,a2,w2,⟨.exit i,ts',H',φ',k1,k2,k3,k4,nS.trans k5,by rw[k6,Ir]⟩,.pass (x:=.inLoop c) rfl (fun _ _=>.inl (by simp)) mh⟩
   |ret =>
    cases e<;>try exact k1.elim
    exact ⟨_,a2,w2,⟨.ret,ts',H',φ',k1,k2,k3,k4,nS.trans k5,by rw[k6,Ir]⟩,.pass (x:=.inLoop c) rfl (fun _ _=>.inl (by simp)) mh⟩
   |bP v =>
    cases e<;>try exact k1.elim
    exact ⟨_,a2,w2,⟨.bP v,ts',H',φ',k1,k2,k3,k4,nS.trans k5,by rw[k6,Ir]⟩,.pass (x:=.inLoop c) rfl (fun _ _=>.inl (by simp)) mh⟩
 obtain ⟨e,a',w',hq,mh⟩:=key _ ts H φ w a rfl h2 hF hR (Step.refl _ _ _) rfl
 exact ⟨e,a',w',hq,.of_steps (.one step_loop) mh⟩
theorem SE.opened{ic:IC}{K:Post}{ts:List AV}{H:Y}(i:Nat){k id off n:Nat}(hi:ts[i]? = some (.aD k id off n none))(h:∀c,n≤c→c≤maxLen→SE P bx ic K (ts.set i (.aD k id off n (some c))) H):SE P bx ic K ts H:=by
 intro c0 hc φ w a hR hF
 have qE:i<ts.length:=(List.getElem?_eq_some_iff.1 hi).1
 have hv:=hF.2 i
 have hg:ts.getD i .top = .aD k id off n none:=by simp[List.getD,hi]
 rw[hg] at hv
 obtain ⟨b,c',cur,e,fr,v1,v2,v3,v4,v5,v6,v7⟩:=iV hv
 refine h c' v3 v4 c0 hc φ w a hR ⟨by rw[List.length_set];exact hF.1,fun j=>?_⟩
 by_cases hj:i=j
 ·subst hj
  have:(ts.set i (.aD k id off n (some c'))).getD i .top = .aD k id off n (some c'):=by simp[List.getD,qE]
  rw[this,v2]
  exact ⟨rfl,b,c',cur,e,fr,v1,rfl,v3,v4,fun m hm=>by cases hm;rfl,v6,v7⟩
 ·have:(ts.set i (.aD k id off n (some c'))).getD j .top=ts.getD j .top:=by simp[List.getD,List.getElem?_set_ne hj]
  rw[this]
  exact hF.2 j
theorem SE.mono{ic:IC}{K K':Post}{ts:List AV}{H:Y}(h:SE P bx ic K ts H)(hk:∀x ts H,K x ts H→K' x ts H):SE P bx ic K' ts H:=fun c hc φ w a hR hF =>
 wp_mono (h c hc φ w a hR hF) fun e a' w' ⟨x',ts',H',φ',k1,k2,k3⟩=>⟨x',ts',H',φ',k1,hk _ _ _ k2,k3⟩
theorem SE.gen{ic:IC}{K:Post}{ts:List AV}{H:Y}(h:∀L:Post,(∀x ts H,K x ts H→L x ts H)→SE P bx ic L ts H):SE P bx ic K ts H:=h K fun _ _ _ h=>h
theorem SE.agm{x:IC}{K:Post}{ts:List AV}{H:Y}(I:List AV→Y→Prop)(μ:List AV→Y→Nat)(h0:I ts H)(h:∀ts H,I ts H→∀L:List AV→Y→Prop,(∀ts' H',I ts' H'→μ ts' H'<μ ts H→L ts' H')→SE P bx x (kX L K) ts H):SE P bx (.loop x) K ts H :=
 SE.loop I μ h0 fun ts H hI=>h ts H hI _ fun ts' H' h1 h2=>⟨h1,h2⟩
def rH(H:Y):Y:=H.map fun _=>none
theorem wU(H:Y):(rH H).length=H.length:=by simp[rH]
theorem vN(H:Y)(i:Nat):Y.find (rH H) i=none:=by
 induction H with
 |nil=>rfl
 |cons b r ih =>
  simp only[rH,List.map_cons,Y.find]
  split
  ·rfl
  ·exact ih
inductive nL(H:Y):List AV→List AV→Prop where
 | nil:nL H [] []
 | view {x y:AV}{r s:List AV}:View H x y→nL H r s→nL H (x::r) (y::s)
 | top {x:AV}{r s:List AV}:nL H r s→nL H (x::r) (.top::s)
theorem nL.len{H:Y}:∀{xs ys:List AV},nL H xs ys→ys.length=xs.length
 |_,_,.nil=>rfl
 |_,_,.view _ h=>by simp[h.len]
 |_,_,.top h=>by simp[h.len]
theorem nL.get{H:Y}:∀{xs ys:List AV},nL H xs ys→∀i,View H (xs.getD i .top) (ys.getD i .top)∨ys.getD i .top = .top
 |_,_,.nil,i=>.inr (by simp)
 |_,_,.view h r,0=>.inl (by simpa using h)
 |_,_,.view h r,i+1=>by simpa using r.get i
 |_,_,.top r,0=>.inr (by simp)
 |_,_,.top r,i+1=>by simpa using r.get i
theorem SE.freeze{ic:IC}{K:Post}{ts ts':List AV}{H:Y}(hv:nL H ts ts')(h:SE P bx ic K ts' (rH H)):SE P bx ic K ts H:=by
 intro c0 hc φ w a hR hF
 have hno:∀b,¬Own φ (rH H) b:=fun b ⟨id,blk,h1,h2⟩=>by rw[vN] at h2;cases h2
 have Py:Later (fun _=>True) φ φ (Own φ H) (Own φ (rH H)) w w:=⟨fun _ _ _ h=>h,Nat.le_refl _,fun b _ _=>hno b,fun _ _ _=>rfl,fun _ _=>rfl⟩
 have Z3:Later (fun _=>True) gS φ O0 (Own φ (rH H)) w w:=⟨fun id b _ h=>by simp[gS] at h,Nat.le_refl _,fun b _ _=>hno b,fun _ _ _=>rfl,fun _ _=>rfl⟩
 have hS:Step φ H w φ (rH H) w:={ Py with os:=rfl,tape:=rfl,output:=rfl,len:=by rw[wU];exact Nat.le_refl _,old:=fun _ _=>rfl }
 have CQ:Rel φ (rH H) w:={ jC:=hR.jC.less (fun b ho=>(hno b ho).elim),dom:=fun id b h=>by rw[wU];exact hR.dom id b h,inj:=fun i j b _ _ h1 _=>by rw[vN] at h1;simp at h1,blk:=fun id b k _ h=>by rw[vN] at h;cases h }
 refine wp_mono (h c0 hc φ w a CQ ⟨by rw[hv.len];exact hF.1,fun i=>?_⟩) fun e a' w' hh=>hh.step hS
 have hi:=hF.2 i
 rcases hv.get i with hw|hw
 ·exact ⟨hw.kV hi.1,lh Z3 _ _ _ (AV.lQ _) (fun _ _ h=>h) (hw.R hR hi.2)⟩
 ·rw[hw]
  exact ⟨trivial,trivial⟩
theorem UY{f:FuncId}{fn:Func}{c:Code}{ic:IC}{rs:List RV}(hf:P.funcs[f]? = some fn)(hb:fn.body=some c)(hc:dU P bx c=some ic)(hr:ox P fn.results.toList=some rs){args:List AV}{H:Y}{Kr:cH→Y→Prop}
  (h0:SE P bx ic (sZ rs Kr) (args++List.replicate (fn.ntmps-args.length) (.aO [])) H)(hv:∀id:Nat,bx.contains (id+1000)=false:=by intro id;rfl):DK P f args H Kr:=by
 have h:=h0.mono mu
 intro φ w vs hR ha
 have hF:=Al (n:=fn.ntmps) ha
 refine calls_of_wp hf hb (wp_mono (h c ⟨hc,hv⟩ φ w _ hR hF) ?_)
 rintro e a' w' ⟨x',ts',H',φ',k1,k2,k3,k4,k5,k6⟩
 have Kn:(uN rs ts' H' fun l=>Kr (.ret (oneOf l)) H')→a'.defers=[]∧∃v,(results fn a'.tmps).run P w' = .ok v w'∧∃e H2 dJ,Bg dJ (Own dJ H2) w' e (.returned v)∧Kr e H2∧Rel dJ H2 w'∧Step φ H w dJ H2 w':=by
  intro hl
  obtain ⟨y,v,g1,g2,g3⟩:=pb k4 k3 hr (K:=fun x=>Kr (.ret x) H') hl
  exact ⟨k6,v,g3,.ret y,H',φ',g2,g1,k4,k5⟩
 cases x' with
 |normal =>
  cases e<;>try exact k1.elim
  exact Kn k2
 |ret =>
  cases e<;>try exact k1.elim
  exact Kn k2
 |exit i=>exact k2.elim
 |bP v =>
  cases e<;>try exact k1.elim
  exact ⟨k6,.bP v,H',φ',k1,k2,k4,k5⟩
end
def jo(H:Y)(id n:Nat):Y:=match Y.find H id with
 |some b=>if b.k=0 then H else Y.set H id (some ⟨b.k,b.es.take n,false,b.ty⟩)
 |none=>H
theorem pz{H:Y}{id n:Nat}:(jo H id n).length=H.length:=by
 unfold jo
 split
 ·split
  ·rfl
  ·rw[Y.af]
 ·rfl
theorem sy{H:Y}{id n i:Nat}(h:i≠id):Y.find (jo H id n) i=Y.find H i:=by
 unfold jo
 split
 ·split
  ·rfl
  ·rw[Y.aj h]
 ·rfl
theorem tE{H:Y}{id n:Nat}{b:aP}(h:Y.find H id=some b)(hk:b.k≠0):Y.find (jo H id n) id=some ⟨b.k,b.es.take n,false,b.ty⟩:=by
 unfold jo
 rw[h]
 simp only
 rw[if_neg hk,Y.aC (Y.ax h)]
theorem tF{H:Y}{id n i:Nat}:(Y.find (jo H id n) i).isSome=(Y.find H i).isSome:=by
 by_cases c:i=id
 ·subst c
  cases h:Y.find H i with
  |none =>
   have:jo H i n=H:=by unfold jo;rw[h]
   rw[this,h]
  |some b =>
   by_cases hk:b.k=0
   ·have:jo H i n=H:=by unfold jo;rw[h];simp[hk]
    rw[this,h]
   ·rw[tE h hk]
    rfl
 ·rw[sy c]
theorem EH{φ:aU}{H:Y}{id n b:Nat}:Own φ (jo H id n) b↔Own φ H b:=by
 constructor
 ·rintro ⟨i,k,h1,h2⟩
  have:=tF (H:=H) (id:=id) (n:=n) (i:=i)
  rw[h2] at this
  obtain ⟨k',h3⟩:=Option.isSome_iff_exists.1 this.symm
  exact ⟨i,k',h1,h3⟩
 ·rintro ⟨i,k,h1,h2⟩
  have:=tF (H:=H) (id:=id) (n:=n) (i:=i)
  rw[h2] at this
  obtain ⟨k',h3⟩:=Option.isSome_iff_exists.1 this
  exact ⟨i,k',h1,h3⟩
theorem vO{φ:aU}{H:Y}{id n:Nat}:Own φ (jo H id n)=Own φ H:=funext fun b=>propext EH
theorem HA{φ:aU}{O:Nat→Prop}{w:World}{b k:Nat}:∀{xs:List AV}{n off:Nat},Rl φ O w b k xs off→Rl φ O w b k (xs.take n) off
 |[],n,off,h=>by rw[List.take_nil];trivial
 |x::r,0,off,h=>trivial
 |x::r,n+1,off,h=>⟨h.1,h.2.1,h.2.2.1,HA h.2.2.2⟩
theorem Rel.cut{φ:aU}{H:Y}{w:World}(h:Rel φ H w)(id n:Nat):Rel φ (jo H id n) w:=by
 refine ⟨h.jC.less fun b ho=>EH.1 ho,fun i b hb=>by rw[pz];exact h.dom i b hb,fun i j b h1 h2 h3 h4=>h.inj i j b h1 h2 (by rwa [tF] at h3) (by rwa [tF] at h4),fun i b k hb hk=>?_⟩
 rw[vO]
 by_cases c:i=id
 ·subst c
  cases hf:Y.find H i with
  |none =>
   have:jo H i n=H:=by unfold jo;rw[hf]
   rw[this,hf] at hk
   cases hk
  |some k0 =>
   by_cases cE:k0.k=0
   ·have:jo H i n=H:=by unfold jo;rw[hf];simp[cE]
    rw[this] at hk
    exact h.blk i b k hb hk
   ·rw[tE hf cE] at hk
    cases hk
    obtain ⟨cur,cap,a1,a2,a3,a4,a5,a6⟩:=(h.blk i b k0 hb hf).cells (by omega)
    refine .inl ⟨by simp only;omega,cur,cap,a1,a2,?_,fun e=>by simp at e,a5,HA a6⟩
    simp only[List.length_take]
    omega
 ·rw[sy c] at hk
  exact h.blk i b k hb hk
theorem HB{φ:aU}{H:Y}{w:World}{id n:Nat}:Step φ H w φ (jo H id n) w :=
 { toLater:=⟨fun _ _ _ h=>h,Nat.le_refl _,fun b _ ho fN=>ho (EH.1 fN),fun _ _ _=>rfl,fun _ _=>rfl⟩,os:=rfl,tape:=rfl,output:=rfl,len:=by rw[pz];exact Nat.le_refl _,old:=fun _ _=>rfl }
theorem SE.cut{P:Program}{bx:List Nat}{ic:IC}{K:Post}{ts:List AV}{H:Y}(id n:Nat)(h:SE P bx ic K ts (jo H id n)):SE P bx ic K ts H:=by
 intro c0 hc φ w a hR hF
 have z7:FR φ (Own φ (jo H id n)) w ts a:=by rw[vO];exact hF
 exact wp_mono (h c0 hc φ w a (hR.cut id n) z7) fun e a' w' hh=>hh.step HB
theorem eB.cut{H H1 H2:Y}{e1 e:cH}(id n:Nat)(h:eB H e1 (jo H1 id n) e H2):eB H e1 H1 e H2:=by
 intro φ w bK w1 en hR he zX hS
 exact h φ w bK w1 en hR (by rw[vO];exact he) (zX.cut id n) (hS.trans HB)
theorem sA{φ:aU}{H:Y}{i:Nat}{b b':aP}(h:Y.find H i=some b):Own φ (Y.set H i (some b'))=Own φ H:=by
 have hl:=Y.ax h
 refine funext fun a=>propext ⟨?_,?_⟩
 ·rintro ⟨j,k,h1,h2⟩
  by_cases c:j=i
  ·subst c
   exact ⟨j,b,h1,h⟩
  ·rw[Y.aj c] at h2
   exact ⟨j,k,h1,h2⟩
 ·rintro ⟨j,k,h1,h2⟩
  by_cases c:j=i
  ·subst c
   exact ⟨j,b',h1,Y.aC hl⟩
  ·exact ⟨j,k,h1,by rw[Y.aj c];exact h2⟩
theorem Rel.RT{φ:aU}{H:Y}{w:World}(hR:Rel φ H w){i:Nat}{b b':aP}(h:Y.find H i=some b)(hb:∀a,φ i=some a→jJ φ (Own φ H) w b a→jJ φ (Own φ H) w b' a):Rel φ (Y.set H i (some b')) w:=by
 have hl:=Y.ax h
 have Z4:∀j,(Y.find (Y.set H i (some b')) j).isSome=(Y.find H j).isSome:=fun j=>by
  by_cases c:j=i
  ·subst c;rw[Y.aC hl,h];rfl
  ·rw[Y.aj c]
 refine ⟨hR.jC.less fun a ho=>by rwa [sA h] at ho,fun j a hj=>by rw[Y.af];exact hR.dom j a hj,fun j k a h1 h2 h3 h4=>hR.inj j k a h1 h2 (by rwa [Z4] at h3) (by rwa [Z4] at h4),fun j a k hj hk=>?_⟩
 rw[sA h]
 by_cases c:j=i
 ·subst c
  rw[Y.aC hl] at hk
  cases hk
  exact hb a hj (hR.blk j a b hj h)
 ·rw[Y.aj c] at hk
  exact hR.blk j a k hj hk
theorem EI{φ:aU}{H:Y}{w:World}{i:Nat}{b b':aP}(h:Y.find H i=some b):Step φ H w φ (Y.set H i (some b')) w :=
 { toLater:=⟨fun _ _ _ h=>h,Nat.le_refl _,fun b _ ho fN=>ho (by rwa [sA h] at fN),fun _ _ _=>rfl,fun _ _=>rfl⟩,os:=rfl,tape:=rfl,output:=rfl,len:=by rw[Y.af];exact Nat.le_refl _,old:=fun _ _=>rfl }
theorem SE.RT{P:Program}{bx:List Nat}{ic:IC}{K:Post}{ts:List AV}{H:Y}{i:Nat}{b b':aP}(h:Y.find H i=some b)(hb:∀(φ:aU)(w:World) a,φ i=some a→jJ φ (Own φ H) w b a→jJ φ (Own φ H) w b' a)(hs:SE P bx ic K ts (Y.set H i (some b'))):SE P bx ic K ts H:=by
 intro c0 hc φ w a hR hF
 have z7:FR φ (Own φ (Y.set H i (some b'))) w ts a:=by rw[sA h];exact hF
 exact wp_mono (hs c0 hc φ w a (hR.RT h fun a ha=>hb φ w a ha) z7) fun e a' w' hh=>hh.step (EI h)
theorem SE.agn{P:Program}{bx:List Nat}{ic:IC}{K:Post}{ts:List AV}{H:Y}{i k:Nat}{es es':List AV}{ex:Bool}{ty:TypeId}(h:Y.find H i=some ⟨k,es,ex,ty⟩)(hk:0<k)(hl:pe es es')(hs:SE P bx ic K ts (Y.set H i (some ⟨k,es',ex,ty⟩))):SE P bx ic K ts H:=by
 refine SE.RT h (fun φ w a _ hb=>?_) hs
 obtain ⟨cur,cap,a1,a2,a3,a4,a5,a6⟩:=hb.cells hk
 exact .inl ⟨hk,cur,cap,a1,a2,by rw[hl.len];exact a3,fun e=>by rw[hl.len];exact a4 e,a5,hl.Rl a6⟩
theorem SE.ago{P:Program}{bx:List Nat}{ic:IC}{K:Post}{ts:List AV}{H:Y}{i k id off n:Nat}{ex:Bool}{ty:TypeId}(h:Y.find H i=some ⟨1,[.aD k id off n none],ex,ty⟩)(hn:n≤maxLen)
  (hs:∀c,n≤c→c≤maxLen→SE P bx ic K ts (Y.set H i (some ⟨1,[.aD k id off n (some c)],ex,ty⟩))):SE P bx ic K ts H:=by
 intro c0 hc φ w a hR hF
 have key:∃c,n≤c∧c≤maxLen∧∀b,φ i=some b→jJ φ (Own φ H) w ⟨1,[.aD k id off n none],ex,ty⟩ b→jJ φ (Own φ H) w ⟨1,[.aD k id off n (some c)],ex,ty⟩ b:=by
  cases N5:φ i with
  |none=>exact ⟨n,Nat.le_refl _,hn,fun b hb=>by cases hb⟩
  |some b =>
   obtain ⟨cur,cap,a1,a2,a3,a4,a5,a6⟩:=(hR.blk i b _ N5 h).cells (by simp)
   obtain ⟨x1,x2,⟨b2,c',uC,e,fr,v1,v2,v3,v4,v5,v6,v7⟩,x4⟩:=a6
   refine ⟨c',v3,v4,fun b' hb' _=>?_⟩
   cases hb'
   exact .inl ⟨by simp,cur,cap,a1,a2,a3,a4,a5,x1,x2,⟨b2,c',uC,e,fr,v1,v2,v3,v4,fun m hm=>by cases hm;rfl,v6,v7⟩,x4⟩
 obtain ⟨c,h1,h2,h3⟩:=key
 have z7:FR φ (Own φ (Y.set H i (some ⟨1,[.aD k id off n (some c)],ex,ty⟩))) w ts a:=by rw[sA h];exact hF
 exact wp_mono (hs c h1 h2 c0 hc φ w a (hR.RT h h3) z7) fun e a' w' hh=>hh.step (EI h)
mutual
theorem OW.keep{F G:Y}(k:∀i xs,xs≠[]→Y.find F i=bS 4 25 xs→Y.find G i=bS 4 25 xs):∀{t:Nd}{x:AV}{is:List Nat},OW F t x is→OW G t x is
 |_,_,_,.mk h1 h2=>.mk (fun e=>k _ _ e (h1 e)) (mR.keep k h2)
theorem mR.keep{F G:Y}(k:∀i xs,xs≠[]→Y.find F i=bS 4 25 xs→Y.find G i=bS 4 25 xs):∀{l:List Nd}{xs:List AV}{is:List Nat},mR F l xs is→mR G l xs is
 |_,_,_,.nil=>.nil
 |_,_,_,.cons h1 h2=>.cons (OW.keep k h1) (mR.keep k h2)
end
mutual
theorem OW.EJ{F G:Y}:∀{t:Nd}{x:AV}{is:List Nat},OW F t x is→(∀i∈is,∀xs,xs≠[]→Y.find F i=bS 4 25 xs→Y.find G i=bS 4 25 xs)→OW G t x is
 |_,_,_,.mk h1 h2,k=>.mk (fun e=>k _ List.mem_cons_self _ e (h1 e)) (mR.EJ h2 fun i hi=>k i (List.mem_cons_of_mem _ hi))
theorem mR.EJ{F G:Y}:∀{l:List Nd}{xs:List AV}{is:List Nat},mR F l xs is→(∀i∈is,∀xs,xs≠[]→Y.find F i=bS 4 25 xs→Y.find G i=bS 4 25 xs)→mR G l xs is
 |_,_,_,.nil,_=>.nil
 |_,_,_,.cons h1 h2,k=>.cons (OW.EJ h1 fun i hi=>k i (List.mem_append_left _ hi)) (mR.EJ h2 fun i hi=>k i (List.mem_append_right _ hi))
end
theorem xR{H F G:Y}{T:Nd}{x:AV}{pre is:List Nat}(hG:G.length=H.length+pre.length)(hO:OW F T x is)(hn:(pre++is).Nodup)(hge:∀i∈pre++is,H.length≤i)
  (h1:∀id k,id<H.length→Y.find G id=some k→(Y.find H id=some k∧Y.find F id=some k)∨∃k1,Y.find F id=some k1∧Gx F H.length (pre++is) k1 k)
  (h2:∀i s k,pre[i]? = some s→Y.find G (H.length+i)=some k→∃k1,Y.find F s=some k1∧Gx F H.length (pre++is) k1 k) :
  eB H (.ret x) F (.ret (fF T G.length)) (gd T G.length++G):=by
 have hN:∀(k i:Nat),is[k]? = some i→cP H.length (pre++is) i=some (G.length+k):=fun k i hi=>by
  have h3:(pre++is)[pre.length+k]? = some i:=by rw[List.getElem?_append_right (by omega),Nat.add_sub_cancel_left];exact hi
  rw[nB hn h3 (hge i (List.mem_of_getElem? h3))]
  congr 1
  omega
 obtain ⟨g1,g2⟩:=ZY (K:=F) T hO hN
 have qE:=OW.Qi _ hO
 refine kw (pre++is) (by rw[List.length_append,iL,hG,List.length_append,qE];omega) hn hge (fun id k hid hk=>?_) (fun i s k hs hk=>?_) g1
 ·rw[Y.bF (by omega)] at hk
  exact h1 id k hid hk
 ·by_cases c:i<pre.length
  ·rw[Y.bF (by omega)] at hk
   rw[List.getElem?_append_left c] at hs
   exact h2 i s k hs hk
  ·rw[List.getElem?_append_right (by omega)] at hs
   have rQ:=(List.getElem?_eq_some_iff.1 hs).1
   have iG:i-pre.length<(AG T G.length).length:=by rw[gY];omega
   have hL:=j6 (t:=T) (H:=G) (i-pre.length) _ (List.getElem?_eq_getElem iG)
   rw[show G.length+(i-pre.length)=H.length+i by omega,hk] at hL
   obtain ⟨hne,rfl⟩:=pZ hL.symm
   obtain ⟨i',xs,e1,e2,e3⟩:=g2 _ _ (List.getElem?_eq_getElem iG)
   rw[hs] at e1
   cases e1
   have Fg:xs≠[]:=fun e=>hne (by have:=e3.len;rw[e] at this;exact List.length_eq_zero_iff.1 (by simpa using this))
   have e4:=e2 Fg
   rw[bj Fg] at e4
   exact ⟨_,e4,rfl,rfl,fun h=>h,e3⟩
def nF(v:AV):aP:=⟨1,[v],true,30⟩
def pA:AV→Option Nat
 |.aD _ id _ _ _=>some id
 |_=>none
def oL:Option Nat→Y→Y
 |none,H=>H
 |some i,H=>Y.set H i none
theorem cT{o:Option Nat}{H:Y}:(oL o H).length=H.length:=by
 cases o with
 |none=>rfl
 |some i=>exact Y.af ..
theorem A1{o:Option Nat}{H:Y}{i:Nat}(h:∀a,o=some a→i≠a):Y.find (oL o H) i=Y.find H i:=by
 cases o with
 |none=>rfl
 |some a=>exact Y.aj (h a rfl)
theorem MX{o:Option Nat}{H:Y}{i:Nat}{b:aP}(h:Y.find (oL o H) i=some b):Y.find H i=some b∧∀a,o=some a→i≠a:=by
 cases o with
 |none=>exact ⟨h,fun a e=>by cases e⟩
 |some a =>
  have hne:i≠a:=fun e=>by
   subst e
   by_cases c:i<H.length
   ·rw[oL,Y.aC c] at h;cases h
   ·rw[Y.ya (by rw[oL,Y.af];omega)] at h;cases h
  exact ⟨by rwa [oL,Y.aj hne] at h,fun b e=>by cases e;exact hne⟩
def xS(F:Y)(p:List Int)(v:AV):Prop:=(p=[]∧v = .am 0 [] (some []))∨∃bB c es,v = .aD 1 bB 0 p.length c∧Y.find F bB=some ⟨1,es,false,3⟩∧es.take p.length=aK p
def EK(F:Y)(p:List Int)(v:AV):Prop:=(p=[]∧v = .am 0 [] (some []))∨∃bB,v = .aD 1 bB 0 p.length none∧Y.find F bB=some ⟨1,aK p,false,3⟩
theorem xS.keep{F G:Y}{p:List Int}{v:AV}(h:xS F p v)(k:∀a,pA v=some a→Y.find G a=Y.find F a):xS G p v:=by
 rcases h with h|⟨bB,c,es,rfl,h2,h3⟩
 ·exact .inl h
 ·exact .inr ⟨bB,c,es,rfl,by rw[k bB rfl];exact h2,h3⟩
theorem EK.keep{F G:Y}{p:List Int}{v:AV}(h:EK F p v)(k:∀a,pA v=some a→Y.find G a=Y.find F a):EK G p v:=by
 rcases h with h|⟨bB,rfl,h2⟩
 ·exact .inl h
 ·exact .inr ⟨bB,rfl,by rw[k bB rfl];exact h2⟩
theorem xS.at{F:Y}{p:List Int}{v:AV}(h:xS F p v):∀a,pA v=some a→∃es,Y.find F a=some ⟨1,es,false,3⟩:=by
 rcases h with ⟨_,rfl⟩|⟨bB,c,es,rfl,h2,_⟩
 ·intro a e;cases e
 ·intro a e;cases e;exact ⟨es,h2⟩
theorem EK.at{F:Y}{p:List Int}{v:AV}(h:EK F p v):∀a,pA v=some a→Y.find F a=some ⟨1,aK p,false,3⟩:=by
 rcases h with ⟨_,rfl⟩|⟨bB,rfl,h2⟩
 ·intro a e;cases e
 ·intro a e;cases e;exact h2
theorem EK.v{F:Y}{p:List Int}{v:AV}(h:EK F p v):xS F p v:=by
 rcases h with h|⟨bB,e,h2⟩
 ·exact .inl h
 ·exact .inr ⟨bB,none,_,e,h2,by rw[List.take_of_length_le (by simp[aB])]⟩
theorem xS.view{F:Y}{p:List Int}{v:AV}(h:xS F p v):View F v (.am 1 (aK p) none):=by
 rcases h with ⟨rfl,rfl⟩|⟨bB,c,es,rfl,h2,h3⟩
 ·exact .nil
 ·have hl:p.length≤es.length:=by
   have:=congrArg List.length h3
   rw[List.length_take,aB] at this
   omega
  refine .aD h2 rfl (by simpa using hl) ?_
  rw[List.drop_zero,h3]
  exact cJ.Tq
theorem xS.flat{F:Y}{p:List Int}{v:AV}(h:xS F p v):v.isAgg=false∧v.bT=false∧v.az=1∧v.cells=[v]:=by
 rcases h with ⟨rfl,rfl⟩|⟨bB,c,es,rfl,h2,h3⟩<;>exact ⟨rfl,rfl,rfl,rfl⟩
theorem xS.lu{F:Y}{p:List Int}{v:AV}(h:xS F p v):∀y,v.lu 0 y=y:=by
 rcases h with ⟨rfl,rfl⟩|⟨bB,c,es,rfl,h2,h3⟩<;>exact fun y=>rfl
theorem SE.agp{P:Program}{bx:List Nat}{ic:IC}{K:Post}{ts:List AV}{F:Y}{p:List Int}{v:AV}{ab:Nat}(ha:Y.find F ab=some (nF v))(h:xS F p v)
  (hs:∀F' v',EK F' p v'→Y.find F' ab=some (nF v')→F'.length=F.length→pA v'=pA v→(∀i b,Y.find F i=some b→i≠ab→¬(b.k=1∧b.exact=false∧b.ty=3)→Y.find F' i=some b)→(∀i,i≠ab→(∀a,pA v=some a→i≠a)→Y.find F' i=Y.find F i)→(pA v=none→F'=F∧v'=v)→SE P bx ic K ts F'):SE P bx ic K ts F:=by
 have hal:=Y.ax ha
 rcases h with ⟨rfl,rfl⟩|⟨bB,c,es,rfl,h2,h3⟩
 ·exact hs F _ (.inl ⟨rfl,rfl⟩) ha rfl rfl (fun i b h _ _=>h) (fun _ _ _=>rfl) fun _=>⟨rfl,rfl⟩
 ·have hne:ab≠bB:=fun e=>by rw[e,h2] at ha;simp[nF] at ha
  have Mi:Y.find (jo F bB p.length) ab=some ⟨1,[.aD 1 bB 0 p.length c],true,30⟩:=by rw[sy hne];exact ha
  refine SE.cut bB p.length (SE.agn Mi (by simp) (es':=[.aD 1 bB 0 p.length none]) (.cons .aD .nil) (hs _ (.aD 1 bB 0 p.length none) (.inr ⟨bB,rfl,?_⟩) ?_ ?_ rfl (fun i b hb hi hn=>?_) (fun i hi Z5=>?_) fun e=>by cases e))
  ·rw[Y.aj hne.symm,tE h2 (by simp),h3]
  ·exact Y.aC (by rw[pz];exact hal)
  ·rw[Y.af,pz]
  ·rw[Y.aj hi,sy fun e=>?_]
   ·exact hb
   ·rw[e,h2] at hb;cases hb;simp at hn
  ·rw[Y.aj hi,sy (Z5 bB rfl)]
theorem EK.ez{F G:Y}{p:List Int}{v:AV}(h:EK F p v)(k:Int)(hp:p.length≤1000000)(hG:∀a,pA v=some a→Y.find G a=Y.find F a):gQ G 1 3 [.sc (.int .i64 k)] v∧lC G 1 [.sc (.int .i64 k)] v = .aD 1 G.length 0 (p.length+1) none∧jy G 1 3 [.sc (.int .i64 k)] v=some ⟨1,aK (p++[k]),false,3⟩::oL (pA v) G:=by
 rcases h with ⟨rfl,rfl⟩|⟨bB,rfl,h2⟩
 ·refine ⟨?_,?_,?_⟩
  ·simp[gQ]
  ·simp[lC]
  ·simp[jy,aK,oL,pA]
 ·have h3:=hG bB rfl
  rw[h2] at h3
  refine ⟨?_,?_,?_⟩
  ·simp only[gQ,h3]
   simp[aB];omega
  ·simp only[lC]
   simp
  ·simp only[jy,h3]
   simp[aK,oL,pA]
structure TP(cb ab tb oM ee:Nat)(ps:List (List Int))(x:ByteArray)(H:Y):Prop where
 c:Y.find H cb=some ⟨1,[.ptr 2 oM 0 0],true,62⟩
 s:Y.find H oM=some ⟨2,[.agg [aW 1 (bc ps) ee,.sc (.string x)]],true,66⟩
 l:bc ps≠[]→Y.find H ee=bS 1 30 (bc ps)
 t:Y.find H tb=some ⟨1,[.fn (.func 75) [] [.ptr 1 cb 0 0,.ptr 1 ab 0 0,.ptr 1 tb 0 0]],true,28⟩
end Go.Proofs.YtnoplgongieehaaGreatDoor
