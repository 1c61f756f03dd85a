import Derived.Test.YtnoplgongieehaaGreatDoorM4
import Derived.Test.YtnoplgongieehaaGreatDoorM3
import Derived.Test.YtnoplgongieehaaGreatDoorProg
import Derived.KernelRfl
namespace Go.Proofs.YtnoplgongieehaaGreatDoor
open Go.RowKit
set_option maxHeartbeats 0
set_option maxRecDepth 1000000
set_option linter.unusedVariables false
set_option linter.unusedSimpArgs false
structure St(wid cf:Nat)(fu:bn)(B:List Nat)(ws:WS)(env:List bn)(s:AV)(m:Nat)(ms:List Nat)(H:Y):Prop where
 bs:∃bB U,BS wid cf bB B U ws H
 er:gu B H env s (m::ms)
 fm:Y.find H cf=some (j6 B fu)
 nf:cf≠m∧cf∉ms
 nd:m∉ms∧ms.Nodup
 fo:∀f∈env,k8 ws.bs.length f
 ff:k8 ws.bs.length fu
theorem gu.ne{B:List Nat}{H:Y}{env:List bn}{s:AV}{ms:List Nat}(h:gu B H env s ms):env≠[]:=by
 cases env with
 |nil=>exact h.elim
 |cons f r=>simp
theorem wl{n:Nat}:∀{env:List bn},(∀f∈env,k8 n f)→∀x j,cF env x=some j→j<n
 |[],_,x,j,h=>by simp[cF] at h
 |f::r,hf,x,j,h=>by
  rw[cF] at h
  cases hg:cL x f with
  |none=>rw[hg] at h;exact wl (fun g hg=>hf g (by simp[hg])) x j h
  |some i =>
   rw[hg] at h
   cases h
   have:∀{M:bn},cL x M=some j→∃p∈M,p.2=j:=by
    intro M
    induction M with
    |nil=>intro h;simp[cL] at h
    |cons q r ih =>
     intro h
     rw[cL] at h
     split at h
     ·cases h;exact ⟨q,by simp,rfl⟩
     ·obtain ⟨p,h1,h2⟩:=ih h
      exact ⟨p,by simp[h1],h2⟩
   obtain ⟨p,h1,h2⟩:=this hg
   have:=hf f (by simp) p h1
   omega
theorem St.same{wid cf:Nat}{fu:bn}{B:List Nat}{ws:WS}{env:List bn}{s:AV}{m:Nat}{ms:List Nat}{H G:Y}(h:St wid cf fu B ws env s m ms H)(k:∀id,id<H.length→Y.find G id=Y.find H id):St wid cf fu B ws env s m ms G:=by
 obtain ⟨bB,U,hb⟩:=h.bs
 exact ⟨⟨bB,U,hb.same k⟩,h.er.keep fun id b hb _=>by rw[k id (Y.ax hb)];exact hb,by rw[k _ (Y.ax h.fm)];exact h.fm,h.nf,h.nd,h.fo,h.ff⟩
theorem St.cons{wid cf:Nat}{fu:bn}{B:List Nat}{ws:WS}{env:List bn}{s:AV}{m:Nat}{ms:List Nat}{H:Y}(h:St wid cf fu B ws env s m ms H)(b:Option aP):St wid cf fu B ws env s m ms (b::H):=h.same fun id hid=>ai hid
theorem St.post{wid cf:Nat}{fu:bn}{B:List Nat}{ws:WS}{env:List bn}{s:AV}{m:Nat}{ms:List Nat}{H:Y}(h:St wid cf fu B ws env s m ms H){C:List Nat}{q:List bn×WS}{G:Y}(hk:dr m H G)(hb:∃bB U,BS wid cf bB (B++C) U q.2 G)(he:gu (B++C) G q.1 s (m::ms))(hf:∀f∈q.1,k8 q.2.bs.length f)(hl:ws.bs.length≤q.2.bs.length):St wid cf fu (B++C) q.2 q.1 s m ms G:=by
 obtain ⟨bB,U,hB⟩:=h.bs
 refine ⟨hb,he,?_,h.nf,h.nd,hf,h.ff.le hl⟩
 rw[wj (by rw[hB.bl];exact h.ff)]
 exact hk.2 cf _ h.fm (.inr ⟨rfl,h.nf.1⟩)
def lK(wid cf:Nat)(fu:bn)(B:List Nat)(s:AV)(m:Nat)(ms:List Nat)(H:Y)(r:Except jT (List bn×WS))(e:cH)(H':Y):Prop:=match r with
 |.error f=>e = .bP (tu f)∧dr m H H'
 |.ok q=>e = .ret (.aO [])∧dr m H H'∧∃C,St wid cf fu (B++C) q.2 q.1 s m ms H'
theorem PS{env:List bn}{ws:WS}{s:ByteArray}{p:List Int}{a:Nat}{q:List bn×WS}(h:dx env ws s p a = .ok q):ws.bs.length≤q.2.bs.length:=by
 unfold dx at h
 split at h
 ·cases h
 ·cases h;simp
theorem Ma{wid cf:Nat}{fu:bn}{B:List Nat}{ws:WS}{env:List bn}{s:AV}{m:Nat}{ms:List Nat}{H:Y}(h:St wid cf fu B ws env s m ms H)
  (t:Nd)(ro:Option (List AV))(p:List Int)(hp:p.length≤1000000)(hts:t.text.size≤100000000)(hal:ws.all.length≤90000000)(a:Nat) :
  DK Tryz.prog 111 [.ptr 5 wid 0 0,s,dZ t ro,.am 1 (aK p) none,.sc (.int .i64 a)] H (lK wid cf fu B s m ms H (dx env ws t.text p a)):=by
 obtain ⟨bB,U,hB⟩:=h.bs
 refine (Rx wid cf bB B U ws H env s m ms hB h.er h.nd.1 h.fo t ro p hp hts hal a).mono fun e H' _ hq=>?_
 unfold PP at hq
 unfold lK
 cases hb:dx env ws t.text p a with
 |error f=>rw[hb] at hq;exact hq
 |ok q =>
  rw[hb] at hq
  obtain ⟨h1,h2,tR,C,U',h3,h4,h5⟩:=hq
  exact ⟨h1,h2,C,h.post h2 ⟨tR,U',h3⟩ h4 h5 (PS hb)⟩
theorem Uz{wid cf:Nat}{fu:bn}{B:List Nat}{ws:WS}{env:List bn}{s:AV}{m:Nat}{ms:List Nat}{H:Y}(h:St wid cf fu B ws env s m ms H)
  (t:Nd)(ro:Option (List AV))(p:List Int)(hp:p.length≤1000000)(hts:t.text.size≤100000000)(hal:ws.all.length≤90000000)(a:Nat)(b:Nat)
  (f1:Y.find H b=some ⟨1,[.ptr 5 wid 0 0],true,160⟩)(f2:Y.find H (b+1)=some ⟨2,[s],true,164⟩)(f3:Y.find H (b+2)=some ⟨4,[dZ t ro],true,25⟩)(f4:Y.find H (b+3)=some ⟨1,[.am 1 (aK p) none],true,30⟩)(f5:Y.find H (b+4)=some ⟨1,[.sc (.int .i64 a)],true,3⟩) :
  DK Tryz.prog 173 [.ptr 1 b 0 0,.ptr 2 (b+1) 0 0,.ptr 4 (b+2) 0 0,.ptr 1 (b+3) 0 0,.ptr 1 (b+4) 0 0] H (lK wid cf fu B s m ms H (dx env ws t.text p a)):=by
 obtain ⟨a0,m',uc,rfl,e,hm⟩:=h.er.form
 have hb:=Ma h t ro p hp hts hal a
 rw[aQ] at f3 hb
 unfold eE at f2 hb
 refine af4 (aA ?_)
 simp only[Y1,ux]
 refine aI (kY f1 f2 f3 f4 f5) ?_
 refine jr hb fun e H' hle hq=>?_
 unfold lK at hq ⊢
 cases hr:dx env ws t.text p a with
 |error f =>
  rw[hr] at hq
  obtain ⟨rfl,h2⟩:=hq
  exact ⟨rfl,h2⟩
 |ok q =>
  rw[hr] at hq
  obtain ⟨rfl,h2⟩:=hq
  refine aw ?_
  exact h2
theorem BS.af9{wid cf bB:Nat}{B U:List Nat}{ws:WS}{H:Y}(h:BS wid cf bB B U ws H)(a:Nat):BS wid cf bB B U { ws with at_:=a } (Y.set H wid (some (fG cf bB B { ws with at_:=a })))∧dQ H (Y.set H wid (some (fG cf bB B { ws with at_:=a }))):=by
 have hl:=Y.ax h.w
 have hk:∀id b,Y.find H id=some b→b.k≠5→Y.find (Y.set H wid (some (fG cf bB B { ws with at_:=a }))) id=some b:=fun id b hb h5=>by
  rw[Y.aj fun e=>?_]
  ·exact hb
  ·rw[e,h.w] at hb;cases hb;simp[fG] at h5
 refine ⟨⟨Y.aC hl,fun e=>hk _ _ (h.al e) (by simp),h.bl,h.ul,fun j hj=>hk _ _ (h.bd j hj) (by simp[jl]),fun j hj e=>hk _ _ (h.us j hj e) (by simp),h.nd,h.ud,h.ao⟩,by rw[Y.af];exact Nat.le_refl _,fun id b hb hs=>hk id b hb ?_⟩
 rcases hs with hs|hs
 ·exact hs.2.1
 ·omega
theorem BS.more{wid cf bB:Nat}{B U:List Nat}{ws:WS}{G:Y}(hB:BS wid cf bB B U ws G){j:Nat}(hj:j<ws.bs.length)(hal:ws.all.length≤90000000) :
  ∃tR F,gN G 1 105 [bp B j] (aW 1 (ws.all.map (bp B)) bB)∧lB G 1 [bp B j] (aW 1 (ws.all.map (bp B)) bB)=aW 1 ((ws.all++[j]).map (bp B)) tR∧
   jx G 1 105 [bp B j] (aW 1 (ws.all.map (bp B)) bB)=F∧Y.find F wid=some (fG cf bB B ws)∧
   dQ G (Y.set F wid (some (fG cf tR B { ws with all:=ws.all++[j] })))∧
   BS wid cf tR B U { ws with all:=ws.all++[j] } (Y.set F wid (some (fG cf tR B { ws with all:=ws.all++[j] }))):=by
 have rh:ws.all.map (bp B)≠[]→ws.all≠[]:=fun e e2=>e (by rw[e2];rfl)
 obtain ⟨tR,F,p1,p2,p3,p4,p5,p6⟩:=tq (H:=G) (k:=1) (ty:=105) (xs:=ws.all.map (bp B)) (ys:=[bp B j]) (id:=bB) (fun e=>by rw[hB.al (rh e),bj e]) (by simp only[List.length_map,List.length_cons,List.length_nil];omega)
 have hne:ws.all.map (bp B)++[bp B j]≠[]:=by simp
 obtain ⟨vC,L5⟩:=p4 hne
 rw[bj hne] at vC
 have hall:ws.all.map (bp B)++[bp B j]=(ws.all++[j]).map (bp B):=by simp
 have hwl:=Y.ax hB.w
 have cE:∀id b,Y.find G id=some b→(b.k≠1∨b.ty≠105∨b.exact=true)→Y.find F id=some b:=fun id b hb h=>by
  rw[p6 id (Y.ax hb) fun e e2=>?_]
  ·exact hb
  ·rw[e2,hB.al (rh e)] at hb
   cases hb
   simp at h
 have hk:∀(x:Option aP) id b,Y.find G id=some b→(b.k≠1∨b.ty≠105∨b.exact=true)→b.k≠5→Y.find (Y.set F wid x) id=some b:=fun x id b hb h h2=>by
  rw[Y.aj fun e=>?_]
  ·exact cE id b hb h
  ·rw[e,hB.w] at hb;cases hb;simp[fG] at h2
 refine ⟨tR,F,p1,by rw[p2,hall],p3,cE _ _ hB.w (.inl (by simp[fG])),⟨by rw[Y.af];exact p5,fun id b hb hs=>?_⟩,⟨Y.aC (Nat.lt_of_lt_of_le hwl p5),fun _=>?_,hB.bl,hB.ul,fun j hj=>hk _ _ _ (hB.bd j hj) (.inl (by simp[jl])) (by simp[jl]),fun j hj e=>hk _ _ _ (hB.us j hj e) (.inr (.inl (by simp))) (by simp),hB.nd,hB.ud,fun i hi=>?_⟩⟩
 ·refine hk _ id b hb ?_ ?_
  ·rcases hs with hs|hs
   ·by_cases c:b.k=1
    ·exact .inr (.inr (hs.2.2.2 c))
    ·exact .inl c
   ·exact .inl (by omega)
  ·rcases hs with hs|hs
   ·exact hs.2.1
   ·omega
 ·rw[Y.aj (by omega),vC,hall]
 ·rcases List.mem_append.1 hi with h|h
  ·exact hB.ao i h
  ·rw[List.mem_singleton] at h;exact h▸hj
theorem St.AL{wid cf:Nat}{fu:bn}{B:List Nat}{ws BZ:WS}{env:List bn}{s:AV}{m:Nat}{ms:List Nat}{H G:Y}(h:St wid cf fu B ws env s m ms H)(k:dQ H G)(hb:∃bB U,BS wid cf bB B U BZ G)(hl:BZ.bs.length=ws.bs.length):St wid cf fu B BZ env s m ms G :=
 ⟨hb,h.er.AL k,k.2 cf _ h.fm (.inr rfl),h.nf,h.nd,by rw[hl];exact h.fo,by rw[hl];exact h.ff⟩
inductive vD(fu:bn):Nd→Prop where
 | mk {t:Nd}:(t.kind=2→∃j,cL t.text fu=some j)→(∀k∈t.kids,vD fu k)→vD fu t
theorem vD.fn{fu:bn}{t:Nd}(h:vD fu t):t.kind=2→∃j,cL t.text fu=some j:=by cases h;assumption
theorem vD.ve{fu:bn}{t:Nd}(h:vD fu t):∀k∈t.kids,vD fu k:=by cases h;assumption
def PT(fu:bn)(t:Nd):Prop:=∀(wid cf:Nat)(B:List Nat)(ws:WS)(env:List bn)(s:AV)(m:Nat)(ms:List Nat)(H:Y)(p:List Int)(pv:AV)(N:Nat),St wid cf fu B ws env s m ms H→
 (pv = .am 1 (aK p) none∨(p=[]∧pv = .am 0 [] (some [])∧t.kind=1))→p.length+t.size≤1000000→t.wt≤2000000→vD fu t→SZ ws N→N+t.size≤80000000→ws.at_+t.size≤80000000→∀ro,
 DK Tryz.prog 113 [.ptr 5 wid 0 0,s,dZ t ro,pv] H (lK wid cf fu B s m ms H (bR fu t env ws p))
structure I2(wid b:Nat)(s1:AV)(t:Nd)(ro:Option (List AV))(pv:AV)(a:Nat)(F:Y):Prop where
 f1:Y.find F b=some ⟨1,[.ptr 5 wid 0 0],true,160⟩
 f2:Y.find F (b+1)=some ⟨2,[s1],true,164⟩
 f3:Y.find F (b+2)=some ⟨4,[dZ t ro],true,25⟩
 f4:Y.find F (b+3)=some ⟨1,[pv],true,30⟩
 f5:Y.find F (b+4)=some ⟨1,[.sc (.int .i64 a)],true,3⟩
 le:b+5≤F.length
theorem I2.keep{wid b:Nat}{s1:AV}{t:Nd}{ro:Option (List AV)}{pv:AV}{a:Nat}{F G:Y}(h:I2 wid b s1 t ro pv a F){m:Nat}(k:dr m F G):I2 wid b s1 t ro pv a G :=
 ⟨k.2 _ _ h.f1 (.inl ⟨by simp,by simp,by simp,by simp⟩),k.2 _ _ h.f2 (.inl ⟨by simp,by simp,by simp,by simp⟩),k.2 _ _ h.f3 (.inl ⟨by simp,by simp,by simp,by simp⟩),k.2 _ _ h.f4 (.inl ⟨by simp,by simp,by simp,by simp⟩),k.2 _ _ h.f5 (.inl ⟨by simp,by simp,by simp,by simp⟩),by have:=h.le;have:=k.1;omega⟩
theorem gu.lt{B:List Nat}{F:Y}:∀{env:List bn}{s:AV}{ms:List Nat},gu B F env s ms→∀x∈ms,x<F.length
 |[],_,_,h,_,_=>h.elim
 |[f],s,ms,h,x,hx=>by
  obtain ⟨m',rfl,g1,g2⟩:=h
  simp only[List.mem_singleton] at hx
  subst hx
  exact Y.ax g1
 |f::g::r,s,ms,h,x,hx=>by
  obtain ⟨m',uc,a',s',rfl,g1,g2,g3,g4⟩:=h
  rcases List.mem_cons.1 hx with rfl|hx
  ·exact Y.ax g1
  ·exact g4.lt x hx
theorem Ho{wid cf:Nat}{fu:bn}{B:List Nat}{ws:WS}{env:List bn}{a0:AV}{m:Nat}{ms:List Nat}{b:Nat}{t:Nd}{ro:Option (List AV)}{pv:AV}{a:Nat}{F F':Y}(hS:St wid cf fu B ws env (eE a0 m) m ms F)(hX:I2 wid b (eE a0 m) t ro pv a F)
  {a1 m1:Nat}(h1:F.length≤a1∧F.length≤m1)(h2:Y.find F' a1=some (tQ (eE a0 m)))(h3:Y.find F' m1=some (j6 [] []))(h4:F.length≤F'.length)(h5:∀id,id<F.length→Y.find F' id=Y.find F id) :
  St wid cf fu B ws ([]::env) (eE (.ptr 2 a1 0 0) m1) m1 (m::ms) (Y.set F' (b+1) (some ⟨2,[eE (.ptr 2 a1 0 0) m1],true,164⟩))∧
   I2 wid b (eE (.ptr 2 a1 0 0) m1) t ro pv a (Y.set F' (b+1) (some ⟨2,[eE (.ptr 2 a1 0 0) m1],true,164⟩))∧
   (∀H,dr m H F→H.length≤b→dr m H (Y.set F' (b+1) (some ⟨2,[eE (.ptr 2 a1 0 0) m1],true,164⟩)))∧
   Y.find (Y.set F' (b+1) (some ⟨2,[eE (.ptr 2 a1 0 0) m1],true,164⟩)) a1=some (tQ (eE a0 m)):=by
 have hle:=hX.le
 have hk:∀id b',Y.find F id=some b'→id≠b+1→Y.find (Y.set F' (b+1) (some ⟨2,[eE (.ptr 2 a1 0 0) m1],true,164⟩)) id=some b':=fun id b' hb hne=>by
  rw[Y.aj hne,h5 id (Y.ax hb)];exact hb
 have hne:∀id b',Y.find F id=some b'→b'.ty≠164∨b'.k≠2→id≠b+1:=fun id b' hb hc e=>by
  rw[e,hX.f2] at hb;cases hb;simp at hc
 have Zj:m1∉m::ms:=fun hc=>by
  have:=hS.er.lt _ hc
  omega
 obtain ⟨bB,U,hB⟩:=hS.bs
 have Mb:Y.find (Y.set F' (b+1) (some ⟨2,[eE (.ptr 2 a1 0 0) m1],true,164⟩)) a1=some (tQ (eE a0 m)):=by rw[Y.aj (by omega)];exact h2
 have sK:=Y.ax hS.fm
 refine ⟨⟨⟨bB,U,hB.keep fun id b' hb hc=>hk id b' hb (hne id b' hb (.inr (by omega)))⟩,?_,hk _ _ hS.fm (hne _ _ hS.fm (.inr (by simp[j6]))),⟨by omega,fun hc=>?_⟩,⟨Zj,List.nodup_cons.2 hS.nd⟩,fun f hf=>?_,hS.ff⟩,⟨?_,?_,?_,?_,?_,by rw[Y.af];omega⟩,fun H hH hb=>⟨by rw[Y.af];have:=hH.1;omega,fun id b' hb' hs=>hk id b' (hH.2 id b' hb' hs) (by have:=Y.ax hb';omega)⟩,Mb⟩
 ·have I3:gu B (Y.set F' (b+1) (some ⟨2,[eE (.ptr 2 a1 0 0) m1],true,164⟩)) env (eE a0 m) (m::ms):=hS.er.keep fun id b' hb hc=>hk id b' hb (hne id b' hb (by rcases hc with h|h;exact .inr (by omega);exact .inl (by rw[h.1];decide)))
  match env,I3 with
  |g::r,I3=>exact ⟨m1,m::ms,a1,eE a0 m,rfl,by rw[Y.aj (by omega)];exact h3,rfl,Mb,I3⟩
 ·rcases List.mem_cons.1 hc with h|h
  ·exact hS.nf.1 h
  ·exact hS.nf.2 h
 ·rcases List.mem_cons.1 hf with rfl|h
  ·exact fun p hp=>by simp at hp
  ·exact hS.fo f h
 ·exact hk _ _ hX.f1 (by omega)
 ·rw[Y.aC (by omega)]
 ·exact hk _ _ hX.f3 (by omega)
 ·exact hk _ _ hX.f4 (by omega)
 ·exact hk _ _ hX.f5 (by omega)
theorem Mc{env:List bn}{ws BZ:WS}{k:Int}{s:ByteArray}{n:Nat}{p:List Int}{a:Nat}(h:jU env ws k s n p a = .ok BZ):BZ.bs.length=ws.bs.length:=by
 unfold jU at h
 split at h
 ·cases h
 split at h
 ·cases h
 cases h
 simp
theorem Zk{P:Program}{f:FuncId}{args args':List AV}{H:Y}{K:cH→Y→Prop}{id:Nat}{blk:aP}(hf:Y.find H id=some blk)(hz:qQ id blk args args')(h:DK P f args' (Y.set H id none) K):DK P f args H K:=fun φ w vs hR ha=>by
 obtain ⟨r1,r2⟩:=hR.kill id
 exact (h φ w vs r1 (hz.Rt hR hf ha)).mono fun en w' ⟨e,H',φ',h1,h2,h3,h4⟩=>⟨e,H',φ',h1,h2,h3,r2.trans h4⟩
theorem Zl(fu:bn)(t:Nd)(ih:∀k∈t.kids,PT fu k):PT fu t:=by
 intro wid cf B ws env s m ms H p pv N hS Md hps hwt hfn hsz hN ej ro
 have aje:=t.size_pos
 obtain ⟨bB,U,hB⟩:=hS.bs
 obtain ⟨a0,m',uc,rfl,e1,hm⟩:=hS.er.form
 cases e1
 have hw:=hB.w
 unfold fG at hw
 have hwl:=Y.ax hB.w
 obtain ⟨JW,BN,Sw,hv4⟩:pv.bT=false∧pv.az=1∧pv.cells=[pv]∧pv.isAgg=false:=by
  rcases Md with rfl|⟨_,rfl,_⟩<;>exact ⟨rfl,rfl,rfl,rfl⟩
 refine af3 (aA ?_)
 rw[aQ]
 simp only[Y0,ux]
 unfold eE
 refine Z fun L hL=>?_
 refine aI (ei JW BN Sw hv4) ?_
 refine hL _ _ ?_
 clear hL
 refine Z fun L hL=>?_
 refine aI hw ?_
 refine hL _ _ ?_
 clear hL
 refine Z fun L hL=>?_
 refine aI hw ?_
 refine hL _ _ ?_
 clear hL
 refine Z fun L hL=>?_
 refine aI hw ?_
 refine hL _ _ ?_
 clear hL
 refine Z fun L hL=>?_
 have hv5:oy pv=True∧pR pv=p.length∧Db 1 (some p.length) true p.length 0 pv=True∧Ko 1 (some p.length) p.length 0 pv = .am 1 (aK p) (some []):=by
  rcases Md with rfl|⟨rfl,rfl,_⟩
  ·simp[oy,pR,Db,Ko,aB,List.take_of_length_le,List.drop_of_length_le]
  ·simp[oy,pR,Db,Ko,aK]
 obtain ⟨hv5,hv6,hv7,hv8⟩:=hv5
 have Al:∀(ts:List AV)(F:Y)(B1:List Nat)(mP:WS)(oS:List bn)(s1:AV)(m1:Nat)(UA:List Nat)(Zm:AV),
   Fr (fg (some (.ptr 1 H.length 0 0)::some (.ptr 2 (H.length+1) 0 0)::some (.ptr 4 (H.length+2) 0 0)::some (.ptr 1 (H.length+3) 0 0)::some (.ptr 1 (H.length+4) 0 0)::some (Zm)::none::ir (bf (bf (bf []))))) ts→
   St wid cf fu B1 mP oS s1 m1 UA F→I2 wid H.length s1 t ro pv ws.at_ F→SZ mP (N+1)→mP.at_=ws.at_+1→
   ((Zm = .sc .nilFunc∧∀q C F',bJ fu t.kids oS mP p 0 = .ok q→St wid cf fu (B1++C) q.2 q.1 s1 m1 UA F'→dr m1 F F'→lK wid cf fu B (eE a0 m) m ms H (bR fu t env ws p) (.ret (.aO [])) F')∨
    (Zm = .fn (.func 173) [] [.ptr 1 H.length 0 0,.ptr 2 (H.length+1) 0 0,.ptr 4 (H.length+2) 0 0,.ptr 1 (H.length+3) 0 0,.ptr 1 (H.length+4) 0 0]∧(s1=eE a0 m∧m1=m∧UA=ms∧B1=B∧pv = .am 1 (aK p) none)∧(∀q,bJ fu t.kids oS mP p 0 = .ok q→bR fu t env ws p=dx q.1 q.2 t.text p ws.at_)∧dr m H F))→
   (∀f F',bJ fu t.kids oS mP p 0 = .error f→dr m1 F F'→lK wid cf fu B (eE a0 m) m ms H (bR fu t env ws p) (.bP (tu f)) F')→L ts F:=by
  intro ts F B1 mP oS s1 m1 UA Zm aX nR hX hz1 RA ah6 ah7
  obtain ⟨js,rfl⟩:=aX.opened
  clear aX
  obtain ⟨a1,m1',ajf,hs1,e1,-⟩:=nR.er.form
  cases e1
  subst hs1
  refine hL _ _ ?_
  clear hL
  have f3:=hX.f3
  rw[aQ] at f3
  refine Z fun L hL=>?_
  refine Z fun L hL=>?_
  refine fB (ak f3 @aH) ?_
  refine hL _ _ ?_
  clear hL
  refine fh ?_
  refine aZ (fun ts G=>∃(k:Nat)(q:List bn×WS)(C:List Nat),k≤t.kids.length∧bJ fu (t.kids.take k) oS mP p 0 = .ok q∧St wid cf fu (B1++C) q.2 q.1 (eE a1 m1) m1 UA G∧dr m1 F G∧
   Fr (fg (some (.ptr 1 H.length 0 0)::some (.ptr 2 (H.length+1) 0 0)::some (.ptr 4 (H.length+2) 0 0)::some (.ptr 1 (H.length+3) 0 0)::some (.ptr 1 (H.length+4) 0 0)::some (Zm)::dL (bf (bf (some (.am 4 (bh t.kids) ro)::some (.sc (.int .i64 t.kids.length))::some (.sc (.int .i64 k))::none::none::fg (dL [])))))) ts) (fun ts _=>t.kids.length-(aM (ts.getD 92 .top)).toNat) ?_ ?_
  ·exact ⟨0,(oS,mP),[],Nat.zero_le _,by simp[bJ],by simpa using nR,.refl,by simp[Fr]⟩
  rintro ts G ⟨k,q,C,hk,hq,hSk,Zn,aX⟩ L2 bM
  obtain ⟨js,rfl⟩:=aX.opened
  clear aX
  have I4:=hX.keep Zn
  have gle:=I4.le
  have g1:=I4.f1
  have g2:=I4.f2
  have g4:=I4.f4
  unfold eE at g2
  by_cases hd:k<t.kids.length
  ·have d1:(k:Int)<t.kids.length:=by omega
   have hg:=dG hd
   refine fB (agS d1 hg @aH g1 g2 g4 JW BN Sw hv4 hv5 hv6 hv7 hv8) ?_
   have pQ:=iJ hd
   have mN:=Nd.fZ t.kids
   have adL:=pE t.kids (k+1)
   have htz:=t.size_eq
   have dW:aE t.kids k∈t.kids:=by rw[eH hd];exact List.getElem_mem hd
   have RB:=Hl (t.kids.take k) oS mP 0 q _ hz1 hq
   have ah8:=Nd.DZ dW
   have ajg:=Uw (t.kids.take k) oS mP 0 q hq
   have Zo:=t.oD
   have hX2:=(hSk.cons (some ⟨4,[.agg [.sc (.int .u8 (aE t.kids k).kind),.sc (.string (aE t.kids k).text),.sc (.int .i64 (aE t.kids k).num),.am 4 (bh (aE t.kids k).kids) none]],true,25⟩)).cons none
   have hih:=ih _ dW wid cf (B1++C) q.2 q.1 (eE a1 m1) m1 UA _ (p++[(k:Int)]) _ _ hX2 (.inl rfl) (by simp only[List.length_append,List.length_cons,List.length_nil];omega) (by omega) (hfn.ve _ dW) RB (by omega) (by omega) none
   rw[aQ] at hih
   unfold eE at hih
   have hkX:dr m1 F (none::some ⟨4,[.agg [.sc (.int .u8 (aE t.kids k).kind),.sc (.string (aE t.kids k).text),.sc (.int .i64 (aE t.kids k).num),.am 4 (bh (aE t.kids k).kids) none]],true,25⟩::G):=(Zn.cons _).cons _
   have htk:=L6 (fu:=fu) (p:=p) (env:=oS) (ws:=mP) (i:=0) hd
   rw[hq] at htk
   simp only[Nat.zero_add] at htk
   have e1:((aK p++[AV.sc (.int .i64 (k:Int))]).drop 0).take ((aK p).length+1)=aK (p++[(k:Int)]):=by
    rw[List.drop_zero,List.take_of_length_le (by simp)]
    simp[aK]
   rw[←e1] at hih
   have Dl:=Zk (H:=some ⟨1,aK p++[.sc (.int .i64 (k:Int))],false,3⟩::some ⟨4,[.agg [.sc (.int .u8 (aE t.kids k).kind),.sc (.string (aE t.kids k).text),.sc (.int .i64 (aE t.kids k).num),.am 4 (bh (aE t.kids k).kids) none]],true,25⟩::G) (id:=G.length+1) (aJ rfl) (.keep (.keep (.keep (.aD (k:=1) (off:=0) (n:=(aK p).length+1) (c:=none) rfl (by simp) .nil)))) (by rw[yP (by simp only[List.length_cons])];exact hih)
   refine ⟨by omega,by omega,by rw[aB];omega,jr Dl fun e H' hle jA=>?_⟩
   ·unfold lK at jA
    cases hr:bR fu (aE t.kids k) q.1 q.2 (p++[(k:Int)]) with
    |error f =>
     rw[hr] at jA htk
     obtain ⟨rfl,h2⟩:=jA
     exact ah7 f H' (L7 htk) (hkX.trans h2)
    |ok r =>
     rw[hr] at jA htk
     obtain ⟨rfl,h2,C',h3⟩:=jA
     refine aw ?_
     refine bM _ _ ⟨k+1,r,C++C',by omega,htk,by rw[←List.append_assoc];exact h3,hkX.trans h2,by simp[Fr]⟩ (by simp[aM,mk];omega)
  ·have d1:¬(k:Int)<t.kids.length:=by omega
   have FA:t.kids.take k=t.kids:=List.take_of_length_le (by omega)
   rw[FA] at hq
   refine fB d1 ?_
   clear bM
   refine hL _ _ ?_
   clear hL
   rcases ah6 with ⟨rfl,hend⟩|⟨rfl,⟨g1',rfl,rfl,rfl,rfl⟩,k9,hkF⟩
   ·simp -implicitDefEqProofs (maxSteps:=99999999) (disch:=first|omega|(simp only[vl]<;>omega)) only[vu,vg,vf,va,vg,vs,vw,vk,simprocAttr]
    exact hend q C G hq hSk Zn
   ·cases g1'
    have Zp:=Hl t.kids oS mP 0 q _ hz1 hq
    have htz:=t.size_eq
    have Zo:=t.oD
    have hbd:=Uz hSk t ro p (by omega) (by omega) (by have:=Zp.1;omega) ws.at_ H.length I4.f1 I4.f2 I4.f3 I4.f4 I4.f5
    unfold eE at hbd
    simp -implicitDefEqProofs (maxSteps:=99999999) (disch:=first|omega|(simp only[vl]<;>omega)) only[vu,vg,vf,va,vg,vs,vw,vk,simprocAttr]
    refine ⟨rfl,jr hbd fun e H' hle zZ=>?_⟩
    rw[k9 q hq]
    unfold lK at zZ ⊢
    cases hr:dx q.1 q.2 t.text p ws.at_ with
    |error f =>
     rw[hr] at zZ
     obtain ⟨rfl,h2⟩:=zZ
     exact ⟨rfl,hkF.trans (Zn.trans h2)⟩
    |ok r =>
     rw[hr] at zZ
     obtain ⟨rfl,h2,C',h3⟩:=zZ
     refine aw ?_
     exact ⟨hkF.trans (Zn.trans h2),C++C',by rw[←List.append_assoc];exact h3⟩
 have I5:∀(ts:List AV)(F:Y)(C0:List Nat)(mP:WS)(oS:List bn),
   Fr (fg (some (.ptr 1 H.length 0 0)::some (.ptr 2 (H.length+1) 0 0)::some (.ptr 4 (H.length+2) 0 0)::some (.ptr 1 (H.length+3) 0 0)::some (.ptr 1 (H.length+4) 0 0)::some (.sc .nilFunc)::none::ir (bf (bf (bf []))))) ts→
   St wid cf fu (B++C0) mP oS (eE a0 m) m ms F→I2 wid H.length (eE a0 m) t ro pv ws.at_ F→SZ mP (N+1)→mP.at_=ws.at_+1→dr m H F→bR fu t env ws p=bJ fu t.kids oS mP p 0→L ts F:=by
  intro ts F C0 mP oS aX nR hX hz1 RA oG k9
  refine Al ts F _ mP oS _ m ms _ aX nR hX hz1 RA (.inl ⟨rfl,fun q C F' hq I6 FB=>?_⟩) fun f F' he FB=>?_
  ·rw[k9,hq]
   exact ⟨rfl,oG.trans FB,C0++C,by rw[←List.append_assoc];exact I6⟩
  ·rw[k9,he]
   exact ⟨rfl,oG.trans FB⟩
 have Zq:∀(ts:List AV)(F:Y)(mP:WS)(a1 m1:Nat),
   Fr (fg (some (.ptr 1 H.length 0 0)::some (.ptr 2 (H.length+1) 0 0)::some (.ptr 4 (H.length+2) 0 0)::some (.ptr 1 (H.length+3) 0 0)::some (.ptr 1 (H.length+4) 0 0)::some (.sc .nilFunc)::none::ir (bf (bf (bf []))))) ts→
   St wid cf fu B mP ([]::env) (eE (.ptr 2 a1 0 0) m1) m1 (m::ms) F→I2 wid H.length (eE (.ptr 2 a1 0 0) m1) t ro pv ws.at_ F→SZ mP (N+1)→mP.at_=ws.at_+1→dr m H F→H.length≤m1→Y.find F a1=some (tQ (eE a0 m))→
   bR fu t env ws p=(match bJ fu t.kids ([]::env) mP p 0 with
    |.error e=>.error e
    | .ok r=>.ok (env,r.2))→L ts F:=by
  intro ts F mP a1 m1 aX nR hX hz1 RA oG Zj Mb k9
  have hKm:∀F',dr m1 F F'→dr m H F':=fun F' hk=>⟨Nat.le_trans oG.1 hk.1,fun id b hb hs=>hk.2 id b (oG.2 id b hb hs) (hs.imp (fun h=>h) fun h=>⟨h.1,by have:=Y.ax hb;omega⟩)⟩
  refine Al ts F _ mP _ _ m1 (m::ms) _ aX nR hX hz1 RA (.inl ⟨rfl,fun q C F' hq I6 FB=>?_⟩) fun f F' he FB=>?_
  ·rw[k9,hq]
   refine ⟨rfl,hKm F' FB,C,?_⟩
   have sP:=(L8 t.kids ([]::env) mP 0 q (by simp) hq).1
   have hne:=hS.er.ne
   have Mf:=FB.2 a1 _ Mb (.inl ⟨by simp[tQ],by simp[tQ],by simp[tQ],by simp[tQ]⟩)
   have I3:=I6.er
   have hfo:=I6.fo
   match q,sP,I3,hfo,I6 with
   |([],w),_,I3,_,_=>exact I3.elim
   |([f],w),sP,_,_,_=>exact absurd sP.symm hne
   |(f::g::r,w),sP,I3,hfo,I6 =>
    have sP:g::r=env:=sP
    obtain ⟨m',uc,a',s',e1,h1,e2,h3,h4⟩:=I3
    cases e1
    simp only[eE,AV.agg.injEq,List.cons.injEq,AV.ptr.injEq,true_and,and_true] at e2
    subst e2
    rw[Mf] at h3
    simp only[tQ,Option.some.injEq,aP.mk.injEq,List.cons.injEq,and_true,true_and] at h3
    subst h3
    rw[sP] at h4
    exact ⟨I6.bs,h4,I6.fm,hS.nf,hS.nd,fun x hx=>hfo x (by simp only;rw[sP];simp[hx]),I6.ff⟩
  ·rw[k9,he]
   exact ⟨rfl,hKm F' FB⟩
 refine Z fun L hL=>?_
 refine aI hw ?_
 refine hL _ _ ?_
 clear hL
 clear hL
 generalize gS:(some ⟨1,[AV.sc (.int .i64 ws.at_)],true,3⟩:Option aP)::_=F0
 have gJ:=hB.af9 (ws.at_+1)
 have pQ:(Y.set H wid (some (fG cf bB B { ws with at_:=ws.at_+1 }))).length=H.length:=Y.af ..
 have xF:St wid cf fu B { ws with at_:=ws.at_+1 } env (eE a0 m) m ms F0:=by
  rw[←gS]
  exact (((((hS.AL gJ.2 ⟨bB,U,gJ.1⟩ rfl).cons _).cons _).cons _).cons _).cons _
 have yu:dr m H F0:=by
  rw[←gS]
  exact (((((gJ.2.m m).cons _).cons _).cons _).cons _).cons _
 have AM:I2 wid H.length (eE a0 m) t ro pv ws.at_ F0:=by
  rw[←gS]
  have e:∀(x:Option aP),(Y.set H wid x).length=H.length:=fun x=>Y.af ..
  refine ⟨?_,?_,?_,?_,?_,by simp only[List.length_cons,e];omega⟩
  ·rw[ai (by simp only[List.length_cons,e];omega),ai (by simp only[List.length_cons,e];omega),ai (by simp only[List.length_cons,e];omega),ai (by simp only[List.length_cons,e];omega),aJ (by rw[e])]
  ·rw[ai (by simp only[List.length_cons,e];omega),ai (by simp only[List.length_cons,e];omega),ai (by simp only[List.length_cons,e];omega),aJ (by simp only[List.length_cons,e])]
   rfl
  ·rw[ai (by simp only[List.length_cons,e];omega),ai (by simp only[List.length_cons,e];omega),aJ (by simp only[List.length_cons,e])]
   rfl
  ·rw[ai (by simp only[List.length_cons,e];omega),aJ (by simp only[List.length_cons,e])]
  ·rw[aJ (by simp only[List.length_cons,e])]
 clear gS
 have BC:SZ { ws with at_:=ws.at_+1 } (N+1):=hsz.at_.le (by omega)
 have ajh:=AM.le
 have b1:=AM.f1
 have b2:=AM.f2
 have b3:=AM.f3
 have b5:=AM.f5
 rw[aQ] at b3
 unfold eE at b2
 have RC:¬t.kind=1→pv = .am 1 (aK p) none:=fun h=>by
  rcases Md with h1|⟨_,_,h3⟩
  ·exact h1
  ·exact absurd h3 h
 have Zo:=t.oD
 have b4:=AM.f4
 obtain ⟨Zr,U0,Zs⟩:=xF.bs
 have Mg:=Zs.w
 unfold fG at Mg
 by_cases k2:t.kind=2
 ·obtain ⟨j,hj⟩:=hfn.fn k2
  have rP:j<ws.bs.length:=wl (env:=[fu]) (by simpa using xF.ff) t.text j (by rw[cF,hj])
  obtain ⟨tR,F1,p1,p2,p3,p4,Sy,hB1⟩:=Zs.more (j:=j) rP (by have:=BC.1;omega)
  have hX1:=AM.keep (Sy.m m)
  have nR:=xF.AL Sy ⟨tR,U0,hB1⟩ rfl
  have c2:=hX1.f2
  rw[Y.aj (by omega)] at c2
  have c1:=hX1.f1
  rw[Y.aj (by omega)] at c1
  have sK:=Y.ax p4
  have fe:F0.length≤F1.length:=by have:=Sy.1;rwa [Y.af] at this
  have tS:=xF.fm
  have hok:=AJ B fu
  have iG:=sj (B:=B) (f:=fu) (x:=t.text)
  simp only[hj] at iG
  unfold lE at iG
  unfold j6 at tS
  unfold fG at p4
  unfold eE at c2
  dsimp only at p1 p2 p3 p4
  unfold bp at p1 p2 p3 p4 iG hok tS Mg
  refine aI (XE k2 b1 b2 b3 b4 b5 Mg tS hok iG p1 p2 p3 p4 c2) ?_
  refine ⟨c1,gp (Hf (.agg [a0,.ptr 0 m 0 0]) ⟨rfl,rfl⟩ _) ?_⟩
  rintro v F' hle ⟨a1,m1,rfl,h1,h2,h3,h4,h5⟩
  obtain ⟨g1,g2,g3,g4⟩:=Ho nR hX1 h1 h2 h3 h4 h5
  rw[Y.af] at h1 h4
  have jO:Y.find F' (H.length+1)=some ⟨2,[.agg [a0,.ptr 0 m 0 0]],true,164⟩:=by
   rw[h5 _ (by rw[Y.af];omega),Y.aj (by omega)]
   exact c2
  have k9:=Ze (fu:=fu) (env:=env) (ws:=ws) (p:=p) k2
  rw[hj] at k9
  have ah9:SZ { ws with at_:=ws.at_+1,all:=ws.all++[j] } (N+1):=⟨by simp only[List.length_append,List.length_cons,List.length_nil];have:=hsz.1;omega,fun i=>BC.2 i⟩
  unfold eE at *
  refine aI jO ?_
  exact Zq _ _ _ a1 m1 (by simp[Fr]) g1 g2 ah9 rfl (g3 H (yu.trans (Sy.m m)) (Nat.le_refl _)) (by omega) g4 k9
 by_cases k4:t.kind=4
 ·have e:=RC (by omega)
  subst e
  have hbd:=Ma xF t ro p (by omega) (by omega) (by have:=BC.1;omega) ws.at_
  rw[aQ] at hbd
  unfold eE at hbd
  refine aI (mM k2 k4 b1 b2 b3 b4 b5) ?_
  rw[k4] at hbd
  refine jr hbd fun e H' hle hq=>?_
  unfold lK at hq
  have k9:=Zf (fu:=fu) (env:=env) (ws:=ws) (p:=p) k4
  cases hr:dx env { ws with at_:=ws.at_+1 } t.text p ws.at_ with
  |error f =>
   rw[hr] at hq k9
   obtain ⟨rfl,h2⟩:=hq
   show lK wid cf fu B _ m ms H (bR fu t env ws p) _ _
   rw[k9]
   exact ⟨rfl,yu.trans h2⟩
  |ok r =>
   rw[hr] at hq k9
   obtain ⟨rfl,h2,C,h3⟩:=hq
   refine aw ?_
   exact I5 _ H' C r.2 r.1 (by simp[Fr]) h3 (AM.keep h2) (zy hsz.at_ hr) (Ef hr) (yu.trans h2) k9
 by_cases k5:t.kind=5
 ·refine aI (mM k2 k4 k5 b1 b2 b3 b5) ?_
  refine gp (Hf (.agg [a0,.ptr 0 m 0 0]) ⟨rfl,rfl⟩ F0) ?_
  rintro v F' hle ⟨a1,m1,rfl,h1,h2,h3,h4,h5⟩
  have jO:Y.find F' (H.length+1)=some ⟨2,[.agg [a0,.ptr 0 m 0 0]],true,164⟩:=by rw[h5 _ (by omega)];exact b2
  obtain ⟨g1,g2,g3,g4⟩:=Ho xF AM h1 h2 h3 h4 h5
  unfold eE at *
  refine aI jO ?_
  exact Zq _ _ _ a1 m1 (by simp[Fr]) g1 g2 BC rfl (g3 H yu (Nat.le_refl _)) (by omega) g4 (Zg k5)
 by_cases k6:t.kind=6
 ·have e:=RC (by omega)
  subst e
  obtain ⟨a0',m',uc,e0,e1,hm0⟩:=xF.er.form
  cases e1
  have tS:=hm0
  unfold j6 at tS
  have hok:=AJ B (env.headD [])
  have iG:=sj (B:=B) (f:=env.headD []) (x:=t.text)
  unfold lE at iG
  have k9:=Zh (fu:=fu) (env:=env) (ws:=ws) (p:=p) k6
  cases hg:cL t.text (env.headD []) with
  |some j =>
   simp only[hg] at iG
   rw[hg,if_pos (by simp)] at k9
   unfold bp at iG hok tS
   refine aI (yS k2 k4 k5 k6 b1 b2 b3 b4 b5 tS hok iG) ?_
   refine pU (zw (110,ws.at_) wid cf Zr B _ F0 Zs.w) ?_
   show lK wid cf fu B _ m ms H (bR fu t env ws p) _ _
   rw[k9]
   exact ⟨rfl,yu⟩
  |none =>
   simp only[hg] at iG
   rw[hg,if_neg (by simp)] at k9
   refine aI (yS k2 k4 k5 k6 b1 b2 b3 b4 b5 tS hok iG) ?_
   exact Al _ F0 B { ws with at_:=ws.at_+1 } env (eE a0 m) m ms _ (by simp[Fr]) xF AM BC rfl (.inr ⟨rfl,⟨rfl,rfl,rfl,rfl,rfl⟩,fun q hq=>by rw[k9,hq],yu⟩) (fun f F' he FB=>by rw[k9,he];exact ⟨rfl,yu.trans FB⟩)
 by_cases PU:t.kind=22
 ·have e:=RC (by omega)
  subst e
  have hbd:=Za wid cf Zr B U0 { ws with at_:=ws.at_+1 } F0 env (eE a0 m) (m::ms) Zs xF.er (wl xF.fo) t ro (.inl PU) p (by omega) (fun j=>by have:=BC.2 j;omega) ws.at_
  have k9:=Ux (fu:=fu) (env:=env) (ws:=ws) (p:=p) PU
  rw[aQ] at hbd
  rw[PU] at hbd k9
  unfold eE at hbd
  refine aI (XC k2 k4 k5 k6 PU b1 b2 b3 b4 b5) ?_
  refine jr hbd fun e H' hle hq=>?_
  unfold PQ at hq
  cases hr:jU env { ws with at_:=ws.at_+1 } 22 t.text t.kids.length p ws.at_ with
  |error f =>
   rw[hr] at hq k9
   obtain ⟨rfl,h2⟩:=hq
   show lK wid cf fu B _ m ms H (bR fu t env ws p) _ _
   rw[k9]
   exact ⟨rfl,yu.trans (h2.m m)⟩
  |ok r =>
   rw[hr] at hq k9
   obtain ⟨rfl,h2,Mh,U2,h3⟩:=hq
   refine aw ?_
   exact I5 _ H' [] r env (by simp[Fr]) (by simpa using xF.AL h2 ⟨Mh,U2,h3⟩ (Mc hr)) (AM.keep (h2.m m)) (Cm hsz.at_ hr) (Cn hr) (yu.trans (h2.m m)) k9
 by_cases ua:t.kind=25
 ·have e:=RC (by omega)
  subst e
  have hbd:=Za wid cf Zr B U0 { ws with at_:=ws.at_+1 } F0 [fu] (eE lE cf) [cf] Zs ⟨cf,rfl,xF.fm,rfl⟩ (wl (by simpa using xF.ff)) t ro (.inr ua) p (by omega) (fun j=>by have:=BC.2 j;omega) ws.at_
  have k9:=Uy (fu:=fu) (env:=env) (ws:=ws) (p:=p) ua
  rw[aQ] at hbd
  rw[ua] at hbd k9
  unfold eE at hbd
  unfold lE at hbd
  refine aI (yS k2 k4 k5 k6 PU ua Mg b1 b2 b3 b4 b5) ?_
  refine jr hbd fun e H' hle hq=>?_
  unfold PQ at hq
  cases hr:jU [fu] { ws with at_:=ws.at_+1 } 25 t.text t.kids.length p ws.at_ with
  |error f =>
   rw[hr] at hq k9
   obtain ⟨rfl,h2⟩:=hq
   show lK wid cf fu B _ m ms H (bR fu t env ws p) _ _
   rw[k9]
   exact ⟨rfl,yu.trans (h2.m m)⟩
  |ok r =>
   rw[hr] at hq k9
   obtain ⟨rfl,h2,Mh,U2,h3⟩:=hq
   refine aw ?_
   exact I5 _ H' [] r env (by simp[Fr]) (by simpa using xF.AL h2 ⟨Mh,U2,h3⟩ (Mc hr)) (AM.keep (h2.m m)) (Cm hsz.at_ hr) (Cn hr) (yu.trans (h2.m m)) k9
 ·refine aI (yQ k2 k4 k5 k6 PU ua) ?_
  exact I5 _ F0 [] { ws with at_:=ws.at_+1 } env (by simp[Fr]) (by simpa using xF) AM BC rfl yu (Zi k2 k4 k5 k6 PU ua)
theorem ace(fu:bn)(t:Nd):PT fu t:=by
 induction t using Nd.ind with
 |_ t ih=>exact Zl fu t ih
theorem BS.many{wid cf bB:Nat}{B U:List Nat}{ws:WS}{G:Y}(hB:BS wid cf bB B U ws G){j:Nat}(hj:j<ws.bs.length)(v:Int) :
  dQ G (Y.set G (B.getD j 0) (some (jl (U.getD j 0) { bq ws.bs j with many:=v })))∧
   BS wid cf bB B U { ws with bs:=ws.bs.set j { bq ws.bs j with many:=v } } (Y.set G (B.getD j 0) (some (jl (U.getD j 0) { bq ws.bs j with many:=v }))):=by
 have hbd:=hB.bd j hj
 have iq:=Y.ax hbd
 have hk:∀(x:Option aP) id b,Y.find G id=some b→id≠B.getD j 0→Y.find (Y.set G (B.getD j 0) x) id=some b:=fun x id b hb h2=>by
  rw[Y.aj h2];exact hb
 have ob:∀id b,Y.find G id=some b→(b.k≠4∨b.ty≠107)→id≠B.getD j 0:=fun id b hb h e=>by
  rw[e,hbd] at hb;cases hb;simp[jl] at h
 have xD:∀i,bq (ws.bs.set j { bq ws.bs j with many:=v }) i=if i=j then { bq ws.bs j with many:=v } else bq ws.bs i:=fun i=>by
  by_cases e:i=j
  ·subst e;simp[bq,List.getD,hj]
  ·rw[if_neg e];simp[bq,List.getD,List.getElem?_set_ne (Ne.symm e)]
 have hu:∀i,(bq (ws.bs.set j { bq ws.bs j with many:=v }) i).cZ=(bq ws.bs i).cZ:=fun i=>by
  rw[xD]
  split
  ·rename_i e;rw[e]
  ·rfl
 refine ⟨⟨by rw[Y.af];exact Nat.le_refl _,fun id b hb hs=>hk _ id b hb (ob id b hb ?_)⟩,⟨?_,fun e=>?_,?_,?_,fun i hi=>?_,fun i hi e=>?_,fun i i' hi hi' e=>?_,fun i i' hi hi' e1 e2 e=>?_,fun i hi=>?_⟩⟩
 ·rcases hs with hs|hs
  ·exact .inr hs.2.2.1
  ·exact .inl (by omega)
 ·exact hk _ _ _ hB.w (ob _ _ hB.w (.inl (by simp[fG])))
 ·exact hk _ _ _ (hB.al e) (ob _ _ (hB.al e) (.inl (by simp)))
 ·rw[List.length_set];exact hB.bl
 ·rw[List.length_set];exact hB.ul
 ·simp only[List.length_set] at hi
  simp only[xD]
  by_cases e:i=j
  ·subst e
   simp only[if_true]
   rw[Y.aC iq]
  ·simp only[if_neg e]
   exact hk _ _ _ (hB.bd i hi) (fun h=>e (hB.nd i j hi hj h))
 ·simp only[List.length_set] at hi
  simp only[hu] at e ⊢
  have hb:=hB.us i hi e
  exact hk _ _ _ hb (ob _ _ hb (.inl (by simp)))
 ·simp only[List.length_set] at hi hi'
  exact hB.nd i i' hi hi' e
 ·simp only[List.length_set] at hi hi'
  simp only[hu] at e1 e2
  exact hB.ud i i' hi hi' e1 e2 e
 ·simp only[List.length_set]
  exact hB.ao i hi
theorem pq{H F:Y}{x y:AV}(h:∀id,id<H.length→Y.find F id=Y.find H id)(hz:Gz F H.length [] x y):eB H (.ret x) F (.ret y) H :=
 ku [] (by simp) (by simp) (by simp) (fun id k hid hk=>.inl ⟨hk,by rw[h id hid];exact hk⟩) (fun i s k hs=>by simp at hs) hz
def tw(f:Nd)(k:Nat)(fu:bn)(ws:WS)(a:Nat):Except jT (bn×WS):=match dx [fu] ws f.text [(k:Int)] a with
 |.error e=>.error e
 |.ok q=>.ok (q.1.headD [],{ q.2 with bs:=q.2.bs.set ws.bs.length { bq q.2.bs ws.bs.length with many:=(aE f.kids 0).kids.length } })
theorem lX(f:Nd)(r:List Nd)(k:Nat)(fu:bn)(ws:WS)(a:Nat):gD (f::r) k fu ws a=match tw f k fu ws a with
  |.error e=>.error e
  |.ok q=>gD r (k+1) q.1 q.2 (a+f.size):=by
 simp only[gD,tw]
 cases dx [fu] ws f.text [(k:Int)] a<;>rfl
theorem Mi:∀{l:List Nd}{i k:Nat}{fu:bn}{ws:WS}{a:Nat},k<l.length→gD (l.take (k+1)) i fu ws a=match gD (l.take k) i fu ws a with
  |.error e=>.error e
  |.ok q=>tw (aE l k) (i+k) q.1 q.2 (a+Nd.ay (l.take k)):=by
 intro l
 induction l with
 |nil=>intro i k fu ws a h;simp at h
 |cons t r ih =>
  intro i k fu ws a h
  cases k with
  |zero =>
   have hn:aE (t::r) 0=t:=by simp[aE]
   simp only[List.take_succ_cons,List.take_zero,lX,hn,Nat.add_zero,Nd.ay]
   simp only[gD,Nd.ay,Nat.add_zero]
   cases tw t i fu ws a<;>rfl
  |succ k =>
   have hn:aE (t::r) (k+1)=aE r k:=by simp[aE]
   rw[List.take_succ_cons,List.take_succ_cons (i:=k),lX,lX,hn]
   cases tw t i fu ws a with
   |error e=>rfl
   |ok q =>
    simp only
    rw[ih (by simpa using h)]
    simp only[Nd.ay]
    rw[show i+(k+1)=i+1+k by omega,show a+(t.size+Nd.ay (r.take k))=a+t.size+Nd.ay (r.take k) by omega]
theorem Mj{e:jT}:∀{l:List Nd}{i k:Nat}{fu:bn}{ws:WS}{a:Nat},gD (l.take k) i fu ws a = .error e→gD l i fu ws a = .error e:=by
 intro l
 induction l with
 |nil=>intro i k fu ws a h;simpa using h
 |cons t r ih =>
  intro i k fu ws a h
  cases k with
  |zero=>simp[gD] at h
  |succ k =>
   rw[List.take_succ_cons,lX] at h
   rw[lX]
   cases hn:tw t i fu ws a with
   |error e'=>rw[hn] at h;simpa using h
   |ok q=>rw[hn] at h;exact ih h
theorem acf{P:Program}{f:FuncId}{args args':List AV}{H:Y}{K:cH→Y→Prop}(hl:pd args args')(h:DK P f args' H K):DK P f args H K:=fun φ w vs hR ha=>h φ w vs hR (hl.Rt ha)
theorem Ml:∀{l:List Nd}{i:Nat}{fu:bn}{ws:WS}{a N:Nat}{q:bn×WS},SZ ws N→gD l i fu ws a = .ok q→SZ q.2 (N+l.length):=by
 intro l
 induction l with
 |nil=>intro i fu ws a N q hz h;simp only[gD] at h;cases h;exact hz
 |cons t r ih =>
  intro i fu ws a N q hz h
  rw[lX] at h
  cases hs:tw t i fu ws a with
  |error e=>rw[hs] at h;cases h
  |ok q' =>
   rw[hs] at h
   have h1:SZ q'.2 (N+1):=by
    unfold tw at hs
    cases hb:dx [fu] ws t.text [(i:Int)] a with
    |error e=>rw[hb] at hs;cases hs
    |ok q2 =>
     rw[hb] at hs
     cases hs
     have h2:=zy hz hb
     refine ⟨h2.1,fun j=>?_⟩
     simp only
     rcases Hj (bs:=q2.2.bs) (b:={ bq q2.2.bs ws.bs.length with many:=((aE t.kids 0).kids.length:Nat) }) (i:=ws.bs.length) (j:=j) with h|h<;>rw[h]
     ·exact h2.2 j
     ·exact h2.2 ws.bs.length
   have h3:=ih h1 h
   exact h3.le (by simp only[List.length_cons];omega)
theorem BS.clear{wid cf bB:Nat}{B U:List Nat}{ws:WS}{H:Y}(h:BS wid cf bB B U ws H):BS wid cf bB B U { ws with all:=[] } (Y.set H wid (some (fG cf bB B { ws with all:=[] })))∧dQ H (Y.set H wid (some (fG cf bB B { ws with all:=[] }))):=by
 have hl:=Y.ax h.w
 have hk:∀id b,Y.find H id=some b→b.k≠5→Y.find (Y.set H wid (some (fG cf bB B { ws with all:=[] }))) id=some b:=fun id b hb h5=>by
  rw[Y.aj fun e=>?_]
  ·exact hb
  ·rw[e,h.w] at hb;cases hb;simp[fG] at h5
 refine ⟨⟨Y.aC hl,fun e=>absurd rfl e,h.bl,h.ul,fun j hj=>hk _ _ (h.bd j hj) (by simp[jl]),fun j hj e=>hk _ _ (h.us j hj e) (by simp),h.nd,h.ud,fun j hj=>by simp at hj⟩,by rw[Y.af];exact Nat.le_refl _,fun id b hb hs=>hk id b hb ?_⟩
 rcases hs with hs|hs
 ·exact hs.2.1
 ·omega
theorem BS.aga{wid cf bB:Nat}{B U:List Nat}{ws:WS}{H G:Y}(h:BS wid cf bB B U ws H)(k:∀id b,Y.find H id=some b→(b.k=5∨(b.k=1∧b.exact=false)∨b.k=4)→Y.find G id=some b):BS wid cf bB B U ws G :=
 ⟨k _ _ h.w (.inl rfl),fun e=>k _ _ (h.al e) (.inr (.inl ⟨rfl,rfl⟩)),h.bl,h.ul,fun j hj=>k _ _ (h.bd j hj) (.inr (.inr rfl)),fun j hj e=>k _ _ (h.us j hj e) (.inr (.inl ⟨rfl,rfl⟩)),h.nd,h.ud,h.ao⟩
theorem dQ.up{H F G:Y}(h:dQ H F){m:Nat}(hm:H.length≤m)(k:dr m F G):dQ H G:=⟨Nat.le_trans h.1 k.1,fun id b hb hs=>k.2 id b (h.2 id b hb hs) (hs.imp (fun h=>h) fun h0=>⟨h0,by have:=Y.ax hb;omega⟩)⟩
theorem dQ.set{H G:Y}(h:dQ H G){i:Nat}{x:Option aP}(hi:H.length≤i):dQ H (Y.set G i x):=⟨by rw[Y.af];exact h.1,fun id b hb hs=>by
 have:=Y.ax hb
 rw[Y.aj (by omega)];exact h.2 id b hb hs⟩
def AN(n:Nd)(H:Y)(e:cH)(H':Y):Prop:=dQ H H'∧match k7 n with
 |.error f=>e = .ret (.aO [.am 0 [] (some []),.agg [.sc (.int .i64 f.1),.sc (.int .i64 f.2)]])
 |.ok ws=>∃wid cf bB B U,e = .ret (.aO [aW 1 (ws.all.map (bp B)) bB,.agg [.sc (.int .i64 0),.sc (.int .i64 0)]])∧BS wid cf bB B U ws H'
theorem RD(n:Nd)(hr0:∀f∈n.kids,f.kids≠[])(hfn:∀q,gD n.kids 0 [] ⟨[],[],0⟩ 1 = .ok q→vD q.1 n)(hk:n.kind=1)(hs:n.size≤500000)(hw:n.wt≤2000000)(ro:Option (List AV))(H:Y):DK Tryz.prog 58 [dZ n ro] H (AN n H):=by
 refine ah3 ?_
 rw[aQ]
 simp -implicitDefEqProofs (maxSteps:=99999999) (disch:=first|omega|(simp only[vl]<;>omega)) only[adF,vu,va,vg,vs,vw,vk,simprocAttr]
 simp only[YY,ux]
 refine Z fun L hL=>?_
 refine aw ?_
 refine hL _ _ ?_
 clear hL
 refine Z fun L hL=>?_
 refine aw ?_
 refine hL _ _ ?_
 clear hL
 refine Z fun L hL=>?_
 refine Z fun L hL=>?_
 refine aw ?_
 refine hL _ _ ?_
 clear hL
 refine aZ (fun ts F=>∃(k:Nat)(q:bn×WS)(bB:Nat)(B U:List Nat),(k≤n.kids.length∧gD (n.kids.take k) 0 [] ⟨[],[],0⟩ 1 = .ok q∧q.2.all.length=k∧q.2.at_=0)∧BS (H.length+4) (H.length+3) bB B U q.2 F∧gu B F [q.1] (eE lE (H.length+3)) [H.length+3]∧k8 q.2.bs.length q.1∧
  (dQ H F∧Y.find F H.length=some ⟨4,[dZ n ro],true,25⟩∧Y.find F (H.length+1)=some ⟨1,[.am 0 [] (some [])],true,102⟩∧Y.find F (H.length+2)=some ⟨2,[.agg [.sc (.int .i64 0),.sc (.int .i64 0)]],true,93⟩)∧
  Fr (none::some (.ptr 4 H.length 0 0)::some (.ptr 1 (H.length+1) 0 0)::some (.ptr 2 (H.length+2) 0 0)::some (.ptr 5 (H.length+4) 0 0)::some (.sc (.int .i64 ((1+Nd.ay (n.kids.take k):Nat):Int)))::ir (some (.am 4 (bh n.kids) ro)::some (.sc (.int .i64 n.kids.length))::some (.sc (.int .i64 k))::dL (bf []))) ts) (fun ts _=>n.kids.length-(aM (ts.getD 16 .top)).toNat) ?_ ?_
 ·refine ⟨0,([],⟨[],[],0⟩),0,[],[],⟨Nat.zero_le _,rfl,rfl,rfl⟩,⟨aJ (by simp only[List.length_cons]),fun e=>absurd rfl e,rfl,rfl,fun j hj=>by simp at hj,fun j hj=>by simp at hj,fun i j hi=>by simp at hi,fun i j hi=>by simp at hi,fun j hj=>by simp at hj⟩,⟨H.length+3,rfl,?_,rfl⟩,fun p hp=>by simp at hp,⟨((((dQ.refl.cons _).cons _).cons _).cons _).cons _,?_,?_,?_⟩,by simp[Fr,Nd.ay,aH]⟩
  ·rw[ai (by simp only[List.length_cons];omega),aJ (by simp only[List.length_cons])]
   rfl
  ·rw[ai (by simp only[List.length_cons];omega),ai (by simp only[List.length_cons];omega),ai (by simp only[List.length_cons];omega),ai (by simp only[List.length_cons];omega),aJ rfl]
   rfl
  ·rw[ai (by simp only[List.length_cons];omega),ai (by simp only[List.length_cons];omega),ai (by simp only[List.length_cons];omega),aJ (by simp only[List.length_cons])]
  ·rw[ai (by simp only[List.length_cons];omega),ai (by simp only[List.length_cons];omega),aJ (by simp only[List.length_cons])]
 rintro ts F ⟨k,q,bB,B,U,⟨w6,hq,Zt,hqa⟩,hB,hE,hF,⟨hKH,b0,b1,b2⟩,aX⟩ L2 bM
 obtain ⟨js,rfl⟩:=aX.opened
 clear aX
 rw[aQ] at b0
 have UB:H.length+5≤F.length:=by have:=Y.ax hB.w;omega
 have Mg:=hB.w
 unfold fG at Mg
 have htz:=n.size_eq
 by_cases hd:k<n.kids.length
 ·have d1:(k:Int)<n.kids.length:=by omega
  have hg:=dG hd
  have mN:=Nd.fZ n.kids
  refine fB (ei d1 hg Mg @aH) ?_
  have dW:aE n.kids k∈n.kids:=by rw[eH hd];exact List.getElem_mem hd
  have ah8:=Nd.DZ dW
  have Zo:=n.oD
  have aji:=(aE n.kids k).oD
  have RB:=Nd.de dW
  have pQ:=iJ hd
  have adL:=pE n.kids (k+1)
  have hb:=Rx (H.length+4) (H.length+3) bB B U q.2 (some ⟨4,[.agg [.sc (.int .u8 (aE n.kids k).kind),.sc (.string (aE n.kids k).text),.sc (.int .i64 (aE n.kids k).num),.am 4 (bh (aE n.kids k).kids) none]],true,25⟩::F) [q.1] (eE lE (H.length+3)) (H.length+3) [] (hB.cons _) (hE.cons _) (by simp) (by simpa using hF) (aE n.kids k) none [(k:Int)] (by simp) (by omega) (by rw[Zt];omega) (1+Nd.ay (n.kids.take k))
  rw[aQ] at hb
  unfold eE lE at hb
  have htk:=Mi (l:=n.kids) (i:=0) (fu:=[]) (ws:=⟨[],[],0⟩) (a:=1) hd
  rw[hq] at htk
  simp only[Nat.zero_add] at htk
  unfold tw at htk
  refine ⟨by omega,jr (acf (.cons .refl (.cons .refl (.cons .refl (.cons (.am .refl) (.cons .refl .nil))))) hb) fun e H' hle jA=>?_⟩
  unfold PP at jA
  cases hr:dx [q.1] q.2 (aE n.kids k).text [(k:Int)] (1+Nd.ay (n.kids.take k)) with
  |error f =>
   rw[hr] at jA htk
   obtain ⟨rfl,h2⟩:=jA
   have hlp:k7 n = .error f:=by unfold k7;rw[Mj htk]
   have oG:dr (H.length+3) F H':=(dr.refl.cons _).trans h2
   have c1:=oG.2 _ _ b1 (.inl ⟨by simp,by simp,by simp,by simp⟩)
   have c2:=oG.2 _ _ b2 (.inl ⟨by simp,by simp,by simp,by simp⟩)
   have PV:H.length+5≤H'.length:=by have:=oG.1;omega
   unfold tu
   simp only[cH.post]
   simp -implicitDefEqProofs (maxSteps:=99999999) (disch:=first|omega|(simp only[vl]<;>omega)) only[Ea,zu,vu,vg,vf,c1,c2,va,vg,vs,vw,vk,simprocAttr]
   unfold AN
   rw[hlp]
   exact ⟨((hKH.up (Nat.le_add_right _ _) oG).set (by omega)).set (by omega),rfl⟩
  |ok r =>
   rw[hr] at jA htk
   obtain ⟨rfl,h2,Mh,C,U2,Ec,hE2,jG⟩:=jA
   have hrf:=hr
   unfold dx at hrf
   split at hrf
   ·cases hrf
   simp only[List.headD_cons,List.tail_cons,Except.ok.injEq] at hrf
   subst hrf
   simp only[List.headD_cons] at htk
   dsimp only at Ec hE2 jG
   obtain ⟨m0,e0,hm0,-⟩:=hE2
   cases e0
   have oG:dr (H.length+3) F H':=(dr.refl.cons _).trans h2
   have c0:=oG.2 _ _ b0 (.inl ⟨by simp,by simp,by simp,by simp⟩)
   have c1:=oG.2 _ _ b1 (.inl ⟨by simp,by simp,by simp,by simp⟩)
   have c2:=oG.2 _ _ b2 (.inl ⟨by simp,by simp,by simp,by simp⟩)
   have c7:=h2.2 F.length _ (aJ rfl) (.inl ⟨by simp,by simp,by simp,by simp⟩)
   have BW:=Ec.w
   unfold fG at BW
   dsimp only at BW
   have hok:=AJ (B++C) (fD (aE n.kids k).text q.2.bs.length q.1)
   have iG:=sj (B:=B++C) (f:=fD (aE n.kids k).text q.2.bs.length q.1) (x:=(aE n.kids k).text)
   rw[jt,if_pos rfl] at iG
   simp only at iG
   unfold lE at iG
   have tS:=hm0
   unfold j6 at tS
   unfold bp at iG hok tS 
   have rP:q.2.bs.length<(q.2.bs++[(⟨[(k:Int)],(aE n.kids k).text,[],0⟩:Bd)]).length:=by simp
   have hbd:=Ec.bd q.2.bs.length rP
   obtain ⟨hK3,hB3⟩:=Ec.many rP ((aE (aE n.kids k).kids 0).kids.length:Nat)
   unfold jl at hbd
   have hn0:0<(aE n.kids k).kids.length:=List.length_pos_iff.2 (hr0 _ dW)
   have y4:=dG hn0
   have wz:=fun H=>ab6 (aE n.kids k) (by omega) H
   simp only[aQ] at wz
   have PV:F.length<H'.length:=Y.ax c7
   have yw:=Y.ax hbd
   have ajj:F.length≠(B++C).getD q.2.bs.length 0:=fun e=>by
    rw[e,hbd] at c7
    simp at c7
   have JT:(0:Int)<(aE n.kids k).kids.length:=by omega
   simp only[cH.post]
   refine aI (Fq BW c7 tS hok iG y4 hbd @aH JT) ?_
   refine ae (wz _) ?_
   refine aw ?_
   have sf:∀id b,Y.find H' id=some b→tv b→Y.find (Y.set H' ((B++C).getD q.2.bs.length 0) (some (jl (U2.getD q.2.bs.length 0) { bq (q.2.bs++[(⟨[(k:Int)],(aE n.kids k).text,[],0⟩:Bd)]) q.2.bs.length with many:=((aE (aE n.kids k).kids 0).kids.length:Nat) }))) id=some b:=fun id b hb hs=>hK3.2 id b hb (.inl hs)
   refine bM _ _ ⟨k+1,_,Mh,B++C,U2,⟨by omega,htk,by simp[Zt],hqa⟩,hB3,⟨H.length+3,rfl,hK3.2 _ _ hm0 (.inr rfl),rfl⟩,?_,⟨(hKH.up (Nat.le_add_right _ _) oG).trans hK3,?_,?_,?_⟩,?_⟩ (by simp[aM,mk];omega)
   ·have:=jG _ (List.mem_singleton.2 rfl)
    simpa using this
   ·exact sf _ _ c0 ⟨by simp,by simp,by simp,by simp⟩
   ·exact sf _ _ c1 ⟨by simp,by simp,by simp,by simp⟩
   ·exact sf _ _ c2 ⟨by simp,by simp,by simp,by simp⟩
   ·simp[Fr,pQ]
    omega
 ·have FA:n.kids.take k=n.kids:=List.take_of_length_le (by omega)
  have d1:¬(k:Int)<n.kids.length:=by omega
  rw[FA] at hq
  refine fB d1 ?_
  clear bM
  refine hL _ _ ?_
  clear hL
  refine aI (ak Mg b0) ?_
  obtain ⟨m0,e0,hm0,-⟩:=hE
  cases e0
  obtain ⟨hBc,hKc⟩:=hB.clear
  have hSn:St (H.length+4) (H.length+3) q.1 B { q.2 with all:=[] } [[]] (eE lE F.length) F.length [] (some ⟨0,[],true,0⟩::Y.set F (H.length+4) (some (fG (H.length+3) bB B { q.2 with all:=[] }))):=by
   have e:(Y.set F (H.length+4) (some (fG (H.length+3) bB B { q.2 with all:=[] }))).length=F.length:=Y.af ..
   refine ⟨⟨bB,U,hBc.cons _⟩,⟨F.length,rfl,aJ e.symm,rfl⟩,?_,⟨by omega,by simp⟩,⟨by simp,by simp⟩,fun f hf=>?_,hF⟩
   ·rw[ai (by omega)]
    exact hKc.2 _ _ hm0 (.inr rfl)
   ·rw[List.mem_singleton] at hf
    subst hf
    exact fun p hp=>by simp at hp
  have Zp:SZ q.2 (0+n.kids.length):=Ml (ws:=⟨[],[],0⟩) ⟨Nat.le_refl _,fun j=>by simp[bq,Bd.none,List.getD]⟩ hq
  have mN:=Nd.fZ n.kids
  have hnd:=ace q.1 n (H.length+4) (H.length+3) B { q.2 with all:=[] } [[]] (eE lE F.length) F.length [] _ [] (.am 0 [] (some [])) n.kids.length hSn (.inr ⟨rfl,rfl,hk⟩) (by simp;omega) hw (hfn q hq) ⟨Nat.zero_le _,fun j=>Nat.le_trans (Zp.2 j) (by omega)⟩ (by omega) (by simp only[hqa];omega) ro
  rw[aQ] at hnd
  unfold eE lE fG at hnd
  refine jr hnd fun e H' hle jA=>?_
  have e4:(Y.set F (H.length+4) (some (fG (H.length+3) bB B { q.2 with all:=[] }))).length=F.length:=Y.af ..
  have hKn:dr F.length F (some ⟨0,[],true,0⟩::Y.set F (H.length+4) (some (fG (H.length+3) bB B { q.2 with all:=[] }))):=(hKc.m _).cons _
  have lM:k7 n=match bR q.1 n [[]] { q.2 with all:=[] } [] with
    |.error e=>.error e
    |.ok r=>.ok r.2:=by unfold k7;rw[hq]<;>rfl
  unfold lK at jA
  cases hr:bR q.1 n [[]] { q.2 with all:=[] } [] with
  |error f =>
   rw[hr] at lM
   replace jA:e = .bP (tu f)∧dr F.length (some ⟨0,[],true,0⟩::Y.set F (H.length+4) (some (fG (H.length+3) bB B { q.2 with all:=[] }))) H':=by rw[hr] at jA;exact jA
   obtain ⟨rfl,h2⟩:=jA
   have oG:=hKn.trans h2
   have c1:=oG.2 _ _ b1 (.inl ⟨by simp,by simp,by simp,by simp⟩)
   have c2:=oG.2 _ _ b2 (.inl ⟨by simp,by simp,by simp,by simp⟩)
   have PV:H.length+5≤H'.length:=by have:=oG.1;omega
   unfold tu
   simp only[cH.post]
   simp -implicitDefEqProofs (maxSteps:=99999999) (disch:=first|omega|(simp only[vl]<;>omega)) only[Ea,zu,vu,vg,vf,c1,c2,va,vg,vs,vw,vk,simprocAttr]
   unfold AN
   rw[lM]
   exact ⟨((hKH.up (by omega) oG).set (by omega)).set (by omega),rfl⟩
  |ok r =>
   rw[hr] at lM
   replace jA:e = .ret (.aO [])∧dr F.length (some ⟨0,[],true,0⟩::Y.set F (H.length+4) (some (fG (H.length+3) bB B { q.2 with all:=[] }))) H'∧∃C,St (H.length+4) (H.length+3) q.1 (B++C) r.2 r.1 (eE lE F.length) F.length [] H':=by rw[hr] at jA;exact jA
   obtain ⟨rfl,h2,C,hS⟩:=jA
   obtain ⟨aia,U3,hB3⟩:=hS.bs
   have oG:=hKn.trans h2
   have c1:=oG.2 _ _ b1 (.inl ⟨by simp,by simp,by simp,by simp⟩)
   have c2:=oG.2 _ _ b2 (.inl ⟨by simp,by simp,by simp,by simp⟩)
   have PV:H.length+5≤H'.length:=by have:=oG.1;omega
   have hw3:=hB3.w
   unfold fG at hw3
   simp only[cH.post]
   simp -implicitDefEqProofs (maxSteps:=99999999) (disch:=first|omega|(simp only[vl]<;>omega)) only[Ea,zu,vu,vg,vf,hw3,c1,c2,va,vg,vs,vw,vk,simprocAttr]
   unfold AN
   rw[lM]
   refine ⟨((hKH.up (by omega) oG).set (by omega)).set (by omega),H.length+4,H.length+3,aia,B++C,U3,rfl,hB3.aga fun id b hb hc=>?_⟩
   rw[Y.aj fun e=>?_,Y.aj fun e=>?_]
   ·exact hb
   ·rw[e,c1] at hb;cases hb;simp at hc
   ·rw[e,c2] at hb;cases hb;simp at hc
theorem Hp:∀(l:List Nd)(p:List Int)(i k:Nat),k<l.length→bZ (l.take (k+1)) p i=bZ (l.take k) p i++bI (aE l k) (p++[((i+k:Nat):Int)])
 |[],_,_,_,h=>by simp at h
 |t::r,p,i,0,_=>by simp[bZ,aE]
 |t::r,p,i,k+1,h=>by
  have:=Hp r p (i+1) k (by simpa using h)
  rw[show i+1+k=i+(k+1) by omega] at this
  simp only[List.take_succ_cons,bZ,List.append_assoc,this]
  simp[aE]
theorem Mm{ok:Nat→Prop}{a b:List AV}(h:AV.cV ok a)(k:AV.cV ok b):AV.cV ok (a++b):=by
 rw[AV.rI] at *
 intro x hx
 rcases List.mem_append.1 hx with e|e
 ·exact h x e
 ·exact k x e
theorem UC{ok:Nat→Prop}{a:List AV}{x:AV}{b:List AV}(h:AV.cV ok (a++[x]))(k:AV.cV ok b):AV.cV ok (a++x::b):=by
 have:=Mm h k
 simpa using this
theorem UD{ok:Nat→Prop}(l:List Int):AV.cV ok (aK l):=by
 rw[AV.rI]
 intro x hx
 simp only[aK,List.mem_map] at hx
 obtain ⟨i,_,rfl⟩:=hx
 trivial
mutual
theorem Zu{ok:Nat→Prop}:∀t:Nd,(eu t).ids ok
 |⟨k,s,n,l⟩=>by
  simp only[eu]
  exact ⟨trivial,trivial,trivial,⟨vE l,trivial⟩,trivial⟩
theorem vE{ok:Nat→Prop}:∀l:List Nd,AV.cV ok (bh l)
 |[]=>trivial
 |t::r=>by
  simp only[bh]
  exact ⟨Zu t,vE r⟩
end
theorem Zv{ok:Nat→Prop}(b:Pl):(fq b).ids ok:=⟨trivial,trivial,trivial,⟨vE _,trivial⟩,⟨UD _,trivial⟩,trivial⟩
theorem AO{ok:Nat→Prop}(l:List Pl):AV.cV ok (l.map fq):=by
 rw[AV.rI]
 intro x hx
 obtain ⟨b,_,rfl⟩:=List.mem_map.1 hx
 exact Zv b
theorem zz{F:Y}{n:Nat}{src:List Nat}:∀{a b c d:List AV},dt F n src a b→dt F n src c d→dt F n src (a++c) (b++d)
 |_,_,_,_,.nil,h=>h
 |_,_,_,_,.cons h r,k=>.cons h (zz r k)
theorem sk{F:Y}{n:Nat}{src:List Nat}:∀{a:List AV},AV.cV (fun i=>cP n src i=some i) a→dt F n src a a
 |[],_=>.nil
 |_::_,h=>.cons (.same h.1) (sk h.2)
def oH(F:Y)(lo:Nat)(p:List Int)(v:AV):Prop:=(p=[]∧v = .am 1 [] (some []))∨∃id,lo≤id∧v = .aD 1 id 0 p.length none∧Y.find F id=some ⟨1,aK p,false,3⟩
theorem oH.gz{F:Y}{lo:Nat}{p:List Int}{v:AV}(h:oH F lo p v){src:List Nat}(hs:∀id,Y.find F id=some ⟨1,aK p,false,3⟩→id∉src):Gz F lo src v (.am 1 (aK p) none):=by
 rcases h with ⟨rfl,rfl⟩|⟨id,h1,rfl,h2⟩
 ·exact .nil
 ·have hid:cP lo src id=none:=by
   unfold cP
   rw[if_neg (by omega)]
   simp only[Option.map_eq_none_iff]
   exact List.idxOf?_eq_none_iff.2 (hs id h2)
  refine .aD (blk:=⟨1,aK p,false,3⟩) hid h2 rfl (by simp[aB]) ?_
  simp only[List.drop_zero]
  rw[List.take_of_length_le (by simp[aB])]
  exact si
theorem oH.keep{F G:Y}{lo:Nat}{p:List Int}{v:AV}(h:oH F lo p v)(k:∀id,Y.find F id=some ⟨1,aK p,false,3⟩→Y.find G id=some ⟨1,aK p,false,3⟩):oH G lo p v:=by
 rcases h with h|⟨id,h1,h2,h3⟩
 ·exact .inl h
 ·exact .inr ⟨id,h1,h2,k id h3⟩
theorem I7(F0:Y)(lo:Nat)(p:List Int)(hlo:lo≤F0.length)(hp:p.length≤1000000):∃pv F1,oH F1 lo p pv∧F0.length≤F1.length∧(∀i,i<F0.length→Y.find F1 i=Y.find F0 i)∧
   gN F0 1 3 (aK p) (.am 1 [] (some []))∧lB F0 1 (aK p) (.am 1 [] (some []))=pv∧jx F0 1 3 (aK p) (.am 1 [] (some []))=F1∧pv.isAgg=false∧pv.bT=false∧pv.az=1∧pv.cells=[pv]:=by
 cases p with
 |nil =>
  refine ⟨_,F0,.inl ⟨rfl,rfl⟩,Nat.le_refl _,fun _ _=>rfl,?_,?_,?_,rfl,rfl,rfl,rfl⟩
  ·simp[gN,aK]
  ·simp[lB,aK]
  ·simp[jx,aK]
 |cons a r =>
  refine ⟨.aD 1 F0.length 0 (a::r).length none,some ⟨1,aK (a::r),false,3⟩::F0,.inr ⟨_,hlo,rfl,aJ rfl⟩,by simp,fun i hi=>ai hi,?_,?_,?_,rfl,rfl,rfl,rfl⟩
  ·simp only[List.length_cons] at hp
   simp[gN,aK];omega
  ·simp[lB,aK]
  ·simp[jx,aK]
theorem agb(F:Y)(p:List Int)(k:Int)(hp:p.length≤1000000):∃pv F1 F2 Mn,(gN F 1 3 (aK p) (.am 1 [] (some []))∧lB F 1 (aK p) (.am 1 [] (some []))=pv∧jx F 1 3 (aK p) (.am 1 [] (some []))=F1)∧
   (gN F1 1 3 [.sc (.int .i64 k)] pv∧lB F1 1 [.sc (.int .i64 k)] pv = .aD 1 Mn 0 (aK (p++[k])).length none∧jx F1 1 3 [.sc (.int .i64 k)] pv=F2)∧Y.find F2 Mn=some ⟨1,aK (p++[k]),false,3⟩∧F.length≤Mn∧Mn<F2.length∧
   (∀i,i<F.length→Y.find F1 i=Y.find F i∧Y.find F2 i=Y.find F i)∧(pv.isAgg=false∧pv.bT=false∧pv.az=1∧pv.cells=[pv])∧F.length≤F1.length:=by
 obtain ⟨pv,F1,h1,h2,h3,h4,h5,h6,h7,h8,h9,h10⟩:=I7 F 0 p (Nat.zero_le _) hp
 refine ⟨pv,F1,?_⟩
 cases p with
 |nil =>
  rcases h1 with ⟨_,rfl⟩|⟨id,_,e,h⟩
  ·have kX:F1=F:=by rw[←h6];simp[jx,aK]
   subst kX
   refine ⟨some ⟨1,aK [k],false,3⟩::F1,F1.length,⟨h4,h5,h6⟩,⟨?_,?_,?_⟩,aJ rfl,Nat.le_refl _,by simp,fun i hi=>⟨rfl,ai hi⟩,⟨h7,h8,h9,h10⟩,h2⟩
   ·simp[gN]
   ·simp[lB,aK]
   ·simp[jx,aK]
  ·rw[←h5] at e
   simp[lB,aK] at e
 |cons a r =>
  rcases h1 with ⟨e,_⟩|⟨id,_,e,h⟩
  ·simp at e
  ·have hid:F.length≤id:=by
    rw[←h5] at e
    simp[lB,aK] at e
    omega
   have hlt:=Y.ax h
   subst e
   refine ⟨some ⟨1,aK (a::r++[k]),false,3⟩::Y.set F1 id none,F1.length,⟨h4,h5,h6⟩,⟨?_,?_,?_⟩,aJ (Y.af ..).symm,h2,by simp[Y.af],fun i hi=>⟨h3 i hi,?_⟩,⟨h7,h8,h9,h10⟩,h2⟩
   ·simp only[gN,h]
    simp only[List.length_cons] at hp
    simp[aB];omega
   ·simp[lB,aK]
   ·simp only[jx,h]
    simp[aK]
   ·rw[ai (by rw[Y.af];omega),Y.aj (by omega),h3 i hi]
def qV(xs ys:List AV)(io:Nat)(H:Y):Y:=bS 5 100 ys::jR xs io H
theorem Mo{H F:Y}{xs ys zs:List AV}{io s:Nat}(hys:ys≠[])(hzs:zs≠[])(hs:H.length≤s)(hF:Y.find F s=bS 5 100 ys)(hold:∀i,i<H.length→(xs≠[]→i≠io)→Y.find F i=Y.find H i)(hz:dt F H.length [s] ys zs) :
  eB H (.ret (aW 5 ys s)) F (.ret (aW 5 zs H.length)) (qV xs zs io H):=by
 refine ku [s] (by simp[qV,bz]) (by simp) (by simpa using hs) (fun id k hid hk=>?_) (fun i s' k hs' hk=>?_) ?_
 ·left
  unfold qV at hk
  rw[ai (by rw[bz];exact hid)] at hk
  have hne:xs≠[]→id≠io:=fun hx e=>by
   rw[Tj hx,e,Y.aC (by omega)] at hk
   cases hk
  have h1:Y.find H id=some k:=by
   by_cases hx:xs=[]
   ·subst hx;exact hk
   ·rw[jS (hne hx)] at hk;exact hk
  exact ⟨h1,by rw[hold id hid hne];exact h1⟩
 ·cases i with
  |zero =>
   simp only[List.getElem?_cons_zero,Option.some.injEq] at hs'
   subst hs'
   unfold qV at hk
   rw[Nat.add_zero,aJ (by rw[bz]),bj hzs] at hk
   cases hk
   exact ⟨⟨5,ys,false,100⟩,by rw[hF,bj hys],rfl,rfl,fun h=>by simp at h,hz⟩
  |succ i=>simp at hs'
 ·rw[ji hys,ji hzs]
  show Gz _ _ _ _ _
  rw[show zs.length=ys.length from hz.len]
  exact .Gt (xg hs) (.inl rfl)
theorem PW(t:Nd)(ih:∀u∈t.kids,∀(ro:Option (List AV))(hro:∀ok,AV.gF ok ro)(p:List Int)(xs:List AV)(io:Nat)(H:Y),p.length+u.size≤1000000→xs.length+u.size≤50000000→(xs≠[]→Y.find H io=bS 5 100 xs)→AV.cV (fun i=>i<H.length) xs→
   D Tryz.prog 107 [aW 5 xs io,dZ u ro,.am 1 (aK p) none] H (.ret (aW 5 (xs++(bI u p).map fq) H.length)) (qV xs (xs++(bI u p).map fq) io H))
  (ro:Option (List AV))(hro:∀ok,AV.gF ok ro)(p:List Int)(xs:List AV)(io:Nat)(H:Y)(hp:p.length+t.size≤1000000)(uu:xs.length+t.size≤50000000)(hx:xs≠[]→Y.find H io=bS 5 100 xs)(hid:AV.cV (fun i=>i<H.length) xs) :
  D Tryz.prog 107 [aW 5 xs io,dZ t ro,.am 1 (aK p) none] H (.ret (aW 5 (xs++(bI t p).map fq) H.length)) (qV xs (xs++(bI t p).map fq) io H):=by
 have Mp:xs≠[]→io<H.length:=fun e=>by have:=hx e;rw[bj e] at this;exact Y.ax this
 have hsz:=t.size_eq
 refine aG (by simp[qV,bz]) (af0 (aA ?_))
 rw[aQ]
 simp only[YS,ux]
 refine Z fun L hL=>?_
 refine aw ?_
 refine hL _ _ ?_
 clear hL
 refine Z fun L hL=>?_
 generalize gS:(some ⟨4,[AV.agg [.sc (.int .u8 t.kind),.sc (.string t.text),.sc (.int .i64 t.num),.am 4 (bh t.kids) ro]],true,25⟩:Option aP)::H=F0
 have RF:F0.length=H.length+1:=by rw[←gS];rfl
 have sm:∀i,i<H.length→Y.find F0 i=Y.find H i:=fun i hi=>by rw[←gS];exact ai hi
 have RG:Y.find F0 H.length=some ⟨4,[.agg [.sc (.int .u8 t.kind),.sc (.string t.text),.sc (.int .i64 t.num),.am 4 (bh t.kids) ro]],true,25⟩:=by rw[←gS];exact aJ rfl
 clear gS
 obtain ⟨pv,F1,Md,fe,nS,q1,q2,q3,q4,q5,q6,q7⟩:=I7 F0 H.length p (by omega) (by omega)
 obtain ⟨io1,F2,p1,p2,p3,p4,p5,p6⟩:=tq (H:=F1) (k:=5) (ty:=100) (xs:=xs) (ys:=[.agg [.sc (.int .u8 t.kind),.sc (.string t.text),.sc (.int .i64 t.num),.am 4 (bh t.kids) ro,pv]]) (id:=io) (fun e=>by rw[nS io (by have:=Mp e;omega),sm io (Mp e),hx e]) (by simp;omega)
 have aib:xs++[AV.agg [.sc (.int .u8 t.kind),.sc (.string t.text),.sc (.int .i64 t.num),.am 4 (bh t.kids) ro,pv]]≠[]:=by simp
 obtain ⟨vC,L5⟩:=p4 aib
 refine aI (yR RG q1 q2 q3 q4 q5 q6 q7 p1 p2 p3) ?_
 refine ⟨by rw[nS _ (by omega)];exact RG,?_⟩
 refine hL _ _ ?_
 clear hL
 refine Z fun L hL=>?_
 refine Z fun L hL=>?_
 refine aw ?_
 refine hL _ _ ?_
 clear hL
 have aic:Y.find F2 H.length=some ⟨4,[.agg [.sc (.int .u8 t.kind),.sc (.string t.text),.sc (.int .i64 t.num),.am 4 (bh t.kids) ro]],true,25⟩:=by
  rw[p6 _ (by omega) (fun e=>by have:=Mp e;omega),nS _ (by omega)]
  exact RG
 have zA:∀i,i<H.length→(xs≠[]→i≠io)→Y.find F2 i=Y.find H i:=fun i hi hne=>by
  rw[p6 i (by omega) hne,nS i (by omega),sm i hi]
 have adM:oH F2 H.length p pv:=Md.keep fun id h=>by
  have hlt:=Y.ax h
  rw[p6 id hlt fun e e2=>?_]
  ·exact h
  ·rw[e2,nS io (by have:=Mp e;omega),sm io (Mp e),hx e,bj e] at h
   cases h
 clear p1 p2 p3 p5 p6 Md q1 q2 q3 RG sm nS
 have hgc:∀(G:Y)(s:Nat),oH G H.length p pv→Y.find G s=bS 5 100 (xs++AV.agg [.sc (.int .u8 t.kind),.sc (.string t.text),.sc (.int .i64 t.num),.am 4 (bh t.kids) ro,pv]::(bZ t.kids p 0).map fq)→dt G H.length [s] (xs++AV.agg [.sc (.int .u8 t.kind),.sc (.string t.text),.sc (.int .i64 t.num),.am 4 (bh t.kids) ro,pv]::(bZ t.kids p 0).map fq) (xs++(bI t p).map fq):=fun G s h1 h2=>by
  rw[cR,List.map_cons]
  refine zz (sk (AV.eU (fun i hi=>s7 hi) _ hid)) (.cons (.agg (.cons (.same trivial) (.cons (.same trivial) (.cons (.same trivial) (.cons (.am (sk (vE _))) (.cons (h1.gz fun id h=>?_) .nil)))))) (sk (AO _)))
  rw[List.mem_singleton]
  rintro rfl
  rw[h2,bj (by simp)] at h
  cases h
 have aie:∀n,H.length≤n→(∀id,pv = .aD 1 id 0 p.length none→id<n)→AV.cV (fun i=>i<n) (xs++[AV.agg [.sc (.int .u8 t.kind),.sc (.string t.text),.sc (.int .i64 t.num),.am 4 (bh t.kids) ro,pv]]):=fun n hn h=>by
  refine Mm (AV.eU (fun i hi=>by omega) _ hid) ⟨⟨trivial,trivial,trivial,⟨vE _,hro _⟩,?_,trivial⟩,trivial⟩
  rcases adM with ⟨_,e⟩|⟨id,_,e,_⟩
  ·rw[e];exact ⟨trivial,trivial⟩
  ·rw[e];exact h id e
 generalize hcv:(AV.agg [.sc (.int .u8 t.kind),.sc (.string t.text),.sc (.int .i64 t.num),.am 4 (bh t.kids) ro,pv])=cv at *
 clear hcv
 refine aZ (fun ts F=>∃(k i1:Nat),(k≤t.kids.length∧H.length<i1∧Y.find F i1=bS 5 100 (xs++cv::(bZ (t.kids.take k) p 0).map fq))∧(oH F H.length p pv∧(∀i,i<H.length→(xs≠[]→i≠io)→Y.find F i=Y.find H i)∧
  Y.find F H.length=some ⟨4,[.agg [.sc (.int .u8 t.kind),.sc (.string t.text),.sc (.int .i64 t.num),.am 4 (bh t.kids) ro]],true,25⟩)∧
  Fr (some (aW 5 (xs++cv::(bZ (t.kids.take k) p 0).map fq) i1)::none::some (.am 1 (aK p) none)::none::some (.ptr 4 H.length 0 0)::none::none::some (.sc (.int .i64 k))::none::fg (ir (dL []))) ts) (fun ts _=>t.kids.length-(aM (ts.getD 7 .top)).toNat) ?_ ?_
 ·exact ⟨0,io1,⟨Nat.zero_le _,by omega,by simpa [bZ] using vC⟩,⟨adM,zA,aic⟩,by simp[Fr,bZ]⟩
 rintro ts F ⟨k,i1,⟨hk,hi1,hrow⟩,⟨Zw,hold,mD⟩,aX⟩ L2 bM
 obtain ⟨js,rfl⟩:=aX.opened
 clear aX
 have RH:xs++cv::(bZ (t.kids.take k) p 0).map fq≠[]:=by simp
 by_cases hd:k<t.kids.length
 ·have d1:(k:Int)<t.kids.length:=by omega
  have hg:=dG hd
  have mN:=Nd.fZ t.kids
  obtain ⟨pv1,G1,G2,Mn,⟨g1,g2,g3⟩,⟨g4,g5,g6⟩,g7,g8,g9,g10,⟨g11,g12,g13,g14⟩,g15⟩:=agb F p k (by omega)
  have i1l:i1<F.length:=by rw[bj RH] at hrow;exact Y.ax hrow
  have hHl:H.length<F.length:=by omega
  have agc:Y.find G1 H.length=_:=(g10 _ hHl).1.trans mD
  have PX:Y.find G2 H.length=_:=(g10 _ hHl).2.trans mD
  have dW:=eJ hd
  have RB:=Nd.de dW
  have ajk:(bZ (t.kids.take k) p 0).length≤Nd.ay t.kids:=by rw[lT];exact I1 _ _
  have pQ:=iJ hd
  have adL:=pE t.kids (k+1)
  have hi:=ih _ dW none (fun _=>trivial) (p++[(k:Int)]) (xs++cv::(bZ (t.kids.take k) p 0).map fq) i1 (Y.set G2 Mn none) (by simp;omega) (by simp only[List.length_append,List.length_cons,List.length_map,lT];omega) (fun _=>by rw[Y.aj (by omega),(g10 i1 i1l).2];exact hrow) (UC (aie _ (by rw[Y.af];omega) fun id e=>by
    rw[Y.af]
    rcases Zw with ⟨_,e2⟩|⟨id2,_,e2,h2⟩
    ·rw[e2] at e;cases e
    ·rw[e2] at e
     cases e
     have:=Y.ax h2
     omega) (AO _))
  rw[aQ,show (xs++cv::(bZ (t.kids.take k) p 0).map fq)++(bI (aE t.kids k) (p++[(k:Int)])).map fq=xs++cv::((bZ (t.kids.take k) p 0).map fq++(bI (aE t.kids k) (p++[(k:Int)])).map fq) by simp] at hi
  have Dl:=aeC g7 (.keep (.keep (.aD (k:=1) (off:=0) (n:=(aK (p++[(k:Int)])).length) (c:=none) rfl (by simp) .nil))) (by
   simp only[List.drop_zero,List.take_length]
   exact hi)
  refine fB (agT d1 hg @aH mD agc PX g1 g2 g3 g4 g5 g6 g11 g12 g13 g14) ?_
  refine ⟨by omega,sX Dl (fun l hl _=>?_) ?_⟩
  ·simp only[List.mem_singleton] at hl
   subst hl
   show Y.find (qV _ _ _ _) _=Y.find G2 _
   unfold qV
   rw[ai (by rw[bz,Y.af];omega),jS (by omega),Y.aj (by omega)]
  have UE:xs++cv::(bZ (t.kids.take (k+1)) p 0).map fq=xs++cv::((bZ (t.kids.take k) p 0).map fq++(bI (aE t.kids k) (p++[(k:Int)])).map fq):=by
   rw[Hp t.kids p 0 k hd,List.map_append,Nat.zero_add]
  refine aw ?_
  have E9:∀i,i<F.length→i≠i1→Y.find (qV (xs++cv::(bZ (t.kids.take k) p 0).map fq) (xs++cv::((bZ (t.kids.take k) p 0).map fq++(bI (aE t.kids k) (p++[(k:Int)])).map fq)) i1 (Y.set G2 Mn none)) i=Y.find F i:=fun i hi hne=>by
   unfold qV
   rw[ai (by rw[bz,Y.af];omega),jS hne,Y.aj (by omega),(g10 i hi).2]
  refine bM _ _ ⟨k+1,(Y.set G2 Mn none).length,⟨by omega,by rw[Y.af];omega,?_⟩,⟨Zw.keep fun id h=>?_,fun i hi hne=>?_,?_⟩,?_⟩ (by simp[aM,mk];omega)
  ·rw[UE]
   unfold qV
   rw[aJ (by rw[bz])]
  ·rw[E9 id (Y.ax h) fun e=>?_]
   ·exact h
   ·rw[e,hrow,bj RH] at h
    cases h
  ·rw[E9 i (by omega) (by omega)]
   exact hold i hi hne
  ·rw[E9 _ hHl (by omega)]
   exact mD
  ·rw[UE]
   simp[Fr,Y.af]
 ·have d1:¬(k:Int)<t.kids.length:=by omega
  have FA:t.kids.take k=t.kids:=List.take_of_length_le (by omega)
  rw[FA] at hrow RH
  rw[FA]
  refine fB (gq d1 @aH mD) ?_
  clear bM
  refine hL _ _ ?_
  clear hL
  refine aw ?_
  exact Mo RH (by rw[cR];simp) (by omega) hrow hold (hgc F i1 Zw hrow)
theorem UF(t:Nd):∀(ro:Option (List AV))(hro:∀ok,AV.gF ok ro)(p:List Int)(xs:List AV)(io:Nat)(H:Y),p.length+t.size≤1000000→xs.length+t.size≤50000000→(xs≠[]→Y.find H io=bS 5 100 xs)→AV.cV (fun i=>i<H.length) xs→
  D Tryz.prog 107 [aW 5 xs io,dZ t ro,.am 1 (aK p) none] H (.ret (aW 5 (xs++(bI t p).map fq) H.length)) (qV xs (xs++(bI t p).map fq) io H):=by
 induction t using Nd.ind with
 |_ t ih=>exact fun ro hro p xs io H h1 h2 h3 h4=>PW t ih ro hro p xs io H h1 h2 h3 h4
theorem Hq(t:Nd)(ro:Option (List AV))(hro:∀ok,AV.gF ok ro)(hz:t.size≤1000000)(H:Y):D Tryz.prog 55 [dZ t ro] H (.ret (.am 5 ((bI t []).map fq) none)) H:=by
 have hp:=fun G=>UF t ro hro [] [] 0 G (by simp;omega) (by simp;omega) (fun e=>absurd rfl e) trivial
 have hp2:∀G,D Tryz.prog 107 [.am 0 [] (some []),dZ t ro,.am 0 [] (some [])] G (.ret (aW 5 ((bI t []).map fq) G.length)) (bS 5 100 ((bI t []).map fq)::G):=fun G=>by
  have h:=acT (.cons .refl (.cons .refl (.cons (.nil (k:=0) (room:=some [])) .nil))) (hp G)
  simpa [qV,jR,aW] using h
 rw[aQ] at hp2 ⊢
 refine aG (Nat.le_refl _) (ah1 (aA ?_))
 simp only[adC,ux]
 refine Z fun L hL=>?_
 refine aw ?_
 refine hL _ _ ?_
 clear hL
 refine Z fun L hL=>?_
 refine aw ?_
 refine ae (hp2 _) ?_
 refine aw ?_
 refine hL _ _ ?_
 clear hL
 refine aw ?_
 refine pq (fun id hid=>?_) (pZ (ty:=100) (fun _=>?_) (fun e=>?_) (sk (AO _)))
 ·rw[ai (by simp;omega),ai hid]
 ·unfold cP
  rw[if_neg (by simp)]
  simp
 ·rw[aJ (by simp)]
theorem Mq:∀(l:List Nd)(p:List Int)(i j:Nat)(hj:j<l.length)(b:Pl),b∈bI l[j] (p++[((i+j:Nat):Int)])→b∈bZ l p i
 |t::r,p,i,0,_,b,hb=>by simp only[bZ,List.mem_append];left;simpa using hb
 |t::r,p,i,j+1,hj,b,hb=>by
  simp only[bZ,List.mem_append]
  right
  refine Mq r p (i+1) j (by simpa using hj) b ?_
  rw[show i+1+j=i+(j+1) by omega]
  simpa using hb
theorem Zx(fu:bn)(t:Nd):∀p,(∀b∈bI t p,b.n.kind=2→∃j,cL b.n.text fu=some j)→vD fu t:=by
 induction t using Nd.ind with
 |_ t ih =>
  intro p h
  refine .mk (fun hk=>h ⟨t,p⟩ (by rw[cR];simp) hk) fun k hk=>?_
  obtain ⟨j,hj,rfl⟩:=List.getElem_of_mem hk
  refine ih _ hk (p++[((0+j:Nat):Int)]) fun b hb=>h b ?_
  rw[cR]
  exact List.mem_cons_of_mem _ (Mq _ _ 0 j hj b hb)
theorem Hr{n:Nd}(hk:n.kind=1)(h:bH n 40=true){q:bn×WS}(hq:gD n.kids 0 [] ⟨[],[],0⟩ 1 = .ok q):vD q.1 n:=by
 have hr:∀f∈n.kids,∃P B,Fn f P B:=fun f hf=>rY hk h hf
 obtain ⟨l,hl⟩:∃l,bI n []=l:=⟨_,rfl⟩
 have heq:l=[⟨n,[]⟩]++bZ n.kids [] 0:=by rw[←hl,cR];rfl
 have Fi:YC l [⟨n,[]⟩] [] [] ⟨[],[],0⟩:=by
  refine ⟨rfl,rfl,by simp,by simp,fun x=>by simp[iz,hk,enc,cL],fun x j hj=>by simp[cL] at hj,fun a c u hu h2=>?_,fun b hb h2=>?_⟩
  ·cases a with
   |nil=>simp at hu;rw[←hu.1] at h2;simp[hk] at h2
   |cons z a=>simp at hu
  ·simp at hb;rw[hb] at h2;simp[hk] at h2
 have hA:=GP n.kids hr l [⟨n,[]⟩] 0 [] [] ⟨[],[],0⟩ heq Fi
 rw[show ([(⟨n,[]⟩:Pl)]).length=1 from rfl,hq] at hA
 obtain ⟨_,ix,hH⟩:=hA
 refine Zx q.1 n [] fun b hb h2=>?_
 rw[hl] at hb
 obtain ⟨a,c,e⟩:=List.append_of_mem hb
 obtain ⟨j,hj,_⟩:=hH.fi a c b e h2
 exact ⟨j,hj⟩
theorem vF:∀F:Y,Over [] F
 |[]=>.refl
 |_::r=>.cons (vF r)
def Eh(f:jT):AV:=.agg [.sc (.int .i64 f.1),.sc (.int .i64 f.2)]
theorem Zy(n:Nd)(hw:n.wt≤500000)(hs:n.size≤500000)(ro:Option (List AV)):D Tryz.prog 57 [dZ n ro] [] (.ret (Eh (ja n))) []:=by
 have htr:=fun H=>GK n ro (by omega) H
 refine aG (Nat.le_refl _) (ah4 (aA ?_))
 rw[aQ] at htr ⊢
 simp only[adG,ux]
 refine Z fun L hL=>?_
 refine aw ?_
 refine hL _ _ ?_
 clear hL
 refine Z fun L hL=>?_
 by_cases hk:n.kind=1
 ·have lM:=fun (hR:bH n 40=true) H=>RD n (fun f hf=>by
    obtain ⟨P,B,h⟩:=rY hk hR hf
    rw[h.kids];simp) (fun q hq=>Hr hk hR hq) hk hs (by omega) ro H
  simp only[aQ,hk] at lM
  rw[hk] at htr
  simp -implicitDefEqProofs (maxSteps:=99999999) (disch:=first|omega|(simp only[vl]<;>omega)) only[vu,vg,hk,va,vg,vs,vw,vk,simprocAttr]
  refine ae (htr _) ?_
  cases hR:bH n 40 with
  |false =>
   have hc:ja n=(4,0):=by unfold ja;rw[if_neg (fun h=>by rw[hR] at h;simp at h)]
   rw[hc]
   refine aw ?_
   exact dD (vF _) (.agg (.cons (.same trivial) (.cons (.same trivial) .nil)))
  |true =>
   have hc:ja n=match k7 n with
    |.error e=>e
    |.ok _=>(0,0):=by unfold ja;rw[if_pos ⟨hk,hR⟩]<;>rfl
   refine aw ?_
   refine hL _ _ ?_
   clear hL
   refine Z fun L hL=>?_
   refine aw ?_
   refine jr (lM hR _) fun e H' hle jA=>?_
   unfold AN at jA
   obtain ⟨hK,jA⟩:=jA
   have c1:=hK.2 1 _ rfl (.inl ⟨by simp,by simp,by simp,by simp⟩)
   have eK:2≤H'.length:=hK.1
   cases hl:k7 n with
   |error f =>
    rw[hl] at jA hc
    subst jA
    simp only[cH.post]
    refine aI c1 ?_
    refine hL _ _ ?_
    clear hL
    refine aI c1 ?_
    rw[hc]
    exact dD (vF _) (.agg (.cons (.same trivial) (.cons (.same trivial) .nil)))
   |ok ws =>
    rw[hl] at jA hc
    obtain ⟨wid,cf,bB,B,U,rfl,hB⟩:=jA
    simp only[cH.post]
    refine aI c1 ?_
    refine hL _ _ ?_
    clear hL
    refine aI c1 ?_
    rw[hc]
    exact dD (vF _) (.agg (.cons (.same trivial) (.cons (.same trivial) .nil)))
 ·have hc:ja n=(4,0):=by unfold ja;rw[if_neg (fun h=>hk h.1)]
  rw[hc]
  simp -implicitDefEqProofs (maxSteps:=99999999) (disch:=first|omega|(simp only[vl]<;>omega)) only[vu,vg,hk,va,vg,vs,vw,vk,simprocAttr]
  exact dD (vF _) (.agg (.cons (.same trivial) (.cons (.same trivial) .nil)))
theorem Zz{P:Program}{f:FuncId}{args args':List AV}{v:AV}{H:Y}(hv:cJ H args args')(hp:∀{φ φ':aU}{O O':Nat→Prop}{w w':World}{g:Nat→Option Value},R φ O w v g→R φ' O' w' v g)(h:D P f args' [] (.ret v) []):D P f args H (.ret v) H:=by
 refine ⟨Nat.le_refl _,fun φ w vs hR ha=>(h.2 gR w vs (Rb (hR.jB.less fun b ho=>(tN ho).elim)) (hv.Rt hR ha)).mono fun en w' ⟨φ',h1,h2,h3⟩=>?_⟩
 have hb:=pW h3
 refine ⟨φ,?_,hR.grow hb.size hb.block,grow_step hb.os hb.tape hb.output hb.size hb.block⟩
 cases en with
 |returned u=>exact ⟨h1.1,hp h1.2⟩
 |_=>exact h1.elim
theorem Mr(n:Nd)(hw:n.wt≤500000)(hs:n.size≤500000){x:AV}{H:Y}(hx:View H x (eu n)):D Tryz.prog 57 [x] H (.ret (Eh (ja n))) H:=by
 have h:=Zy n hw hs none
 rw[kx] at h
 refine Zz (.cons hx .nil) (fun {φ φ' O O' w w' g} hr=>?_) h
 obtain ⟨h1,h2,h3,h4,h5,h6,h7⟩:=hr
 exact ⟨h1,h2,h3,h4,h5,h6,h7⟩
theorem acg(t:Nd):∀(ro:Option (List AV))(m:Nat)(Yu:m≤41)(hz:t.size≤1000000)(H:Y),D Tryz.prog 77 [dZ t ro,.sc (.int .i64 m)] H (.ret (.sc (.bool (bH t m)))) H:=by
 induction t using Nd.ind with
 |_ t ih =>
  intro ro m Yu hz H
  have mN:=Nd.Ll t
  have hP:=nt t m
  have PY:∀H,D Tryz.prog 132 [.agg [.sc (.int .u8 t.kind),.sc (.string t.text),.sc (.int .i64 t.num),.am 4 (bh t.kids) ro]] H (.ret (.sc (.bool (lI t)))) H:=fun H=>abZ t ro H
  have gJ:∀h:t.kind=7,qb t=true→t.kids.length=2:=fun h h2=>Lm h h2
  have Ht:qb t=(jD t.kind && nW t.kind t.num && lI t && (decide (eZ t.kind<0)|| decide ((t.kids.length:Int)=eZ t.kind))):=rfl
  refine aG (Nat.le_refl _) (ahu (aA ?_))
  simp only[ac5,ux]
  rw[aQ]
  have hJ:∀H F:Y,Over H F→bH t m=false→eB H (.ret (.sc (.bool false))) F (.ret (.sc (.bool (bH t m)))) H:=fun H F h e=>by rw[e];exact bL h
  refine Z fun L hL=>?_
  refine aw ?_
  refine hL _ _ ?_
  clear hL
  refine Z fun L hL=>?_
  suffices key:∀ts,Fr (none::some (.sc (.int .i64 m))::some (.ptr 4 H.length 0 0)::none::some (.sc (.bool false))::some (.sc (.bool (jD t.kind)))::none::none::none::fg (dL (bf (bf (bf []))))) ts→L ts (some ⟨4,[.agg [.sc (.int .u8 t.kind),.sc (.string t.text),.sc (.int .i64 t.num),.am 4 (bh t.kids) ro]],true,25⟩::H) by
   by_cases a1:t.kind≥1
   ·by_cases a2:t.kind≤12
    ·have e:jD t.kind=true:=by simp[jD,a2];omega
     refine aI (ak a1 a2) ?_
     exact key _ (by simp[Fr,e])
    ·have e:jD t.kind=eY t.kind:=by simp[jD,a2]
     refine aI (ak a1 a2) ?_
     refine ae (nV _ _) ?_
     refine aw ?_
     exact key _ (by simp[Fr,e])
   ·have e:jD t.kind=eY t.kind:=by simp[jD];omega
    refine aI a1 ?_
    refine ae (nV _ _) ?_
    refine aw ?_
    exact key _ (by simp[Fr,e])
  intro ts aX
  obtain ⟨js,rfl⟩:=aX.opened
  clear aX
  refine hL _ _ ?_
  clear hL
  refine Z fun L hL=>?_
  suffices key:∀ts,Fr (none::some (.sc (.int .i64 m))::some (.ptr 4 H.length 0 0)::none::some (.sc (.bool false))::some (.sc (.bool (jD t.kind)))::some (.sc (.bool (nW t.kind t.num)))::none::none::fg (dL (bf (bf (bf []))))) ts→L ts (some ⟨4,[.agg [.sc (.int .u8 t.kind),.sc (.string t.text),.sc (.int .i64 t.num),.am 4 (bh t.kids) ro]],true,25⟩::H) by
   by_cases a0:t.num=0
   ·have e:nW t.kind t.num=true:=by simp[nW,a0]
    have a0':=decide_eq_true a0
    refine df a0' ?_
    exact key _ (by simp[Fr,e])
   by_cases b0:t.kind=20
   ·have b0':=decide_eq_true b0
    by_cases a1:t.num > 0
    ·have e:nW t.kind t.num=true:=by simp[nW,b0,a1]
     refine df (gq a0 a1 b0') ?_
     exact key _ (by simp[Fr,e])
    ·have e:nW t.kind t.num=false:=by
      rw[←Bool.not_eq_true]
      simp[nW,b0,a0]
      omega
     have b1:¬t.kind=21:=by omega
     refine df (ei a0 a1 b0' b1) ?_
     exact key _ (by simp[Fr,e])
   by_cases b1:t.kind=21
   ·have b1':=decide_eq_true b1
    by_cases a1:t.num=1
    ·have e:nW t.kind t.num=true:=by simp[nW,b1,a1]
     have a1':=decide_eq_true a1
     refine df (ei a0 a1' b0 b1') ?_
     exact key _ (by simp[Fr,e])
    ·have e:nW t.kind t.num=false:=by simp[nW,b1,a0,a1]
     refine df (ei a0 a1 b0 b1') ?_
     exact key _ (by simp[Fr,e])
   ·have e:nW t.kind t.num=false:=by simp[nW,b0,b1,a0]
    refine df (gq a0 b0 b1) ?_
    exact key _ (by simp[Fr,e])
  clear js
  intro ts aX
  obtain ⟨js,rfl⟩:=aX.opened
  clear aX
  refine hL _ _ ?_
  clear hL
  refine Z fun L hL=>?_
  refine yU ?_
  refine ae (La _ _) ?_
  refine yU ?_
  refine hL _ _ ?_
  clear hL
  refine Z fun L hL=>?_
  by_cases c1:(m:Int)<1
  ·refine df c1 ?_
   exact hJ _ _ (.cons .refl) (by rw[hP];simp;omega)
  have hm:1≤m:=by omega
  cases hk:jD t.kind
  ·refine df c1 ?_
   exact hJ _ _ (.cons .refl) (by rw[hP,Ht];simp[hk])
  cases hn:nW t.kind t.num
  ·refine df c1 ?_
   exact hJ _ _ (.cons .refl) (by rw[hP,Ht];simp[hn])
  refine df c1 ?_
  refine ae (PY _) ?_
  cases ht:lI t
  ·refine yU ?_
   exact hJ _ _ (.cons .refl) (by rw[hP,Ht];simp[ht])
  by_cases c2:eZ t.kind≥0∧¬(t.kids.length:Int)=eZ t.kind
  ·obtain ⟨c2,c3⟩:=c2
   refine df (gq c2 c3 @aH) ?_
   exact hJ _ _ (.cons .refl) (by rw[hP,Ht];simp[c3];omega)
  have Yv:qb t=true:=by
   rw[Ht,hk,hn,ht]
   simp
   omega
  have DB:bH t m=(mw t.kind t.kids 0 (m-1) && wN t.kind t.kids):=by
   rw[nt,Yv]
   simp[hm]
  clear hP Ht
  suffices key:∀ts,Fr (none::some (.sc (.int .i64 m))::some (.ptr 4 H.length 0 0)::none::some (.sc (.bool false))::ir (dL (bf (bf (bf []))))) ts→L ts (some ⟨4,[.agg [.sc (.int .u8 t.kind),.sc (.string t.text),.sc (.int .i64 t.num),.am 4 (bh t.kids) ro]],true,25⟩::H) by
   by_cases PZ:eZ t.kind≥0
   ·have c3:(t.kids.length:Int)=eZ t.kind:=by omega
    refine df (gq PZ c3 @aH) ?_
    exact key _ (by simp[Fr])
   ·refine df (ak PZ @aH) ?_
    exact key _ (by simp[Fr])
  clear js
  intro ts aX
  obtain ⟨js,rfl⟩:=aX.opened
  clear aX
  refine hL _ _ ?_
  clear hL
  refine Z fun L hL=>?_
  refine df @aH ?_
  refine aZ (fun ts F=>∃k:Nat,(k≤t.kids.length∧∀j,j<k→eA t.kind (aE t.kids j).kind j=true∧bH (aE t.kids j) (m-1)=true)∧F=some ⟨4,[.agg [.sc (.int .u8 t.kind),.sc (.string t.text),.sc (.int .i64 t.num),.am 4 (bh t.kids) ro]],true,25⟩::H∧Fr (none::some (.sc (.int .i64 m))::some (.ptr 4 H.length 0 0)::none::some (.sc (.bool false))::none::none::none::some (.sc (.int .i64 k))::fg (dL (bf (bf (bf []))))) ts) (fun ts _=>t.kids.length-(aM (ts.getD 8 .top)).toNat) ?_ ?_
  ·exact ⟨0,⟨Nat.zero_le _,fun j h=>absurd h (Nat.not_lt_zero _)⟩,rfl,by simp[Fr]⟩
  clear js
  rintro ts F ⟨k,⟨hk,hp⟩,rfl,aX⟩ L2 bM
  obtain ⟨js,rfl⟩:=aX.opened
  clear aX
  have J0:Over H (some (⟨4,[.agg [.sc (.int .u8 t.kind),.sc (.string t.text),.sc (.int .i64 t.num),.am 4 (bh t.kids) ro]],true,25⟩:aP)::H):=.cons .refl
  by_cases DC:k<t.kids.length
  ·have d1:(k:Int)<t.kids.length:=by omega
   have hg:=dG DC
   have dW:=eJ DC
   have Zj:((m:Int)-1)=((m-1:Nat):Int):=by omega
   refine df (gq d1 hg @aH) ?_
   refine ⟨by omega,aL (Yo _ _ _ _) ?_⟩
   cases e1:eA t.kind (aE t.kids k).kind k
   ·refine aw ?_
    exact hJ _ _ J0 (by rw[DB,wc DC (.inl e1)];rfl)
   refine aI (ak hg @aH) ?_
   refine ⟨by omega,?_⟩
   have hi:=fun H=>ih _ dW none (m-1) (by omega) (by have:=Nd.pf dW;omega) H
   rw[aQ,←Zj] at hi
   refine aL (hi _) ?_
   cases e2:bH (aE t.kids k) (m-1)
   ·refine aw ?_
    exact hJ _ _ J0 (by rw[DB,wc DC (.inr e2)];rfl)
   refine aw ?_
   refine bM _ _ ⟨k+1,⟨by omega,fun j hj=>?_⟩,rfl,by simp[Fr]⟩ (by simp[aM,mk];omega)
   rcases Nat.lt_succ_iff_lt_or_eq.1 hj with h'|rfl
   ·exact hp j h'
   ·exact ⟨e1,e2⟩
  ·have d1:¬(k:Int)<t.kids.length:=by omega
   have hR:=GI DC hp
   refine df (ak d1 @aH) ?_
   refine hL _ _ ?_
   clear hL
   by_cases g7:t.kind=7
   ·have h2:=gJ g7 Yv
    have fx:¬k<2:=by omega
    have y4:=dG (l:=t.kids) (k:=0) (by omega)
    have rQ:=hp 0 (by omega)
    rw[g7] at rQ
    have h0:(0:Int)<(2:Nat):=by omega
    have g7':decide (¬t.kind=7)=false:=by simp[g7]
    by_cases g22:(aE t.kids 0).kind=22
    ·rw[g22] at y4
     refine aI (kY g7' y4 @aH h2 h0) ?_
     exact aq J0 (by rw[DB,hR,g7];simp[wN,g22])
    ·have Pq:(aE t.kids 0).kind=26:=by
      rcases GJ rQ.1 with h|h
      ·exact absurd h g22
      ·exact h
     have i2:=DA Pq rQ.2
     have xu:=dG (l:=(aE t.kids 0).kids) (k:=0) (by omega)
     rw[Pq] at y4
     refine aI (mM g7' y4 xu @aH h2 i2 h0) ?_
     exact aq J0 (by rw[DB,hR,g7];simp[wN,Pq])
   ·refine aI g7 ?_
    exact aq J0 (by rw[DB,hR];simp[wN,g7])
theorem AP(t:Nd)(ro:Option (List AV))(hz:t.size≤1000000)(H:Y):D Tryz.prog 46 [dZ t ro] H (.ret (.sc (.bool (bH t 40)))) H:=by
 have hr:=fun H=>acg t ro 40 (by omega) hz H
 rw[aQ] at hr ⊢
 refine aG (Nat.le_refl _) (aht (aA ?_))
 simp only[ac4,ux]
 refine aw ?_
 refine ae (hr _) ?_
 refine aw ?_
 exact aq (.cons .refl) rfl
theorem ZA(t:Nd):∀(p:List Int)(b:Pl),b∈bI t p→b.p.length<p.length+t.size:=by
 induction t using Nd.ind with
 |_ t ih =>
  intro p b hb
  rw[cR] at hb
  rcases List.mem_cons.1 hb with rfl|hb
  ·have:=t.size_pos;simp only;omega
  ·obtain ⟨j,u,⟨_,h2⟩,h3⟩:=eS _ _ _ _ hb
   have hu:=List.mem_of_getElem? h2
   have:=ih u hu _ b h3
   have:=Nd.pf hu
   simp at *
   omega
theorem AQ{n:Nd}(hk:n.kind=1)(hR:bH n 40=true){b:Pl}(hb:b∈bI n []):(b.n.kind=1∧b.p=[])∨(b.n.kind=2∧b.p≠[]∧b.n.kids≠[])∨(b.n.kind≠2∧2≤b.p.length):=by
 rw[cR] at hb
 rcases List.mem_cons.1 hb with rfl|hb
 ·exact .inl ⟨hk,rfl⟩
 ·obtain ⟨j,f,⟨_,h2⟩,h3⟩:=eS _ _ _ _ hb
  have hf:=List.mem_of_getElem? h2
  obtain ⟨P,B,hF⟩:=rY hk hR hf
  rcases Yz hF h3 with rfl|h4
  ·exact .inr (.inl ⟨hF.kind,by simp,by rw[hF.kids];simp⟩)
  ·refine .inr (.inr ⟨h4,?_⟩)
   rcases nY f _ b h3 with rfl|⟨j',s,e⟩
   ·exact absurd hF.kind h4
   ·rw[e];simp
theorem Ms{n:Nd}(hk:n.kind=1)(hR:bH n 40=true)(hs:n.size≤1000000):adE (bI n []):=fun k mN=>by
 have hm:au (bI n []) k∈bI n []:=by
  have:au (bI n []) k=(bI n [])[k]:=by simp[au,List.getD,mN]
  rw[this]
  exact List.getElem_mem _
 have h1:=ZA n [] _ hm
 simp at h1
 refine ⟨by omega,fun h=>?_,fun h=>?_⟩
 ·simp only[fH,Bool.or_eq_true,decide_eq_true_eq] at h
  rcases AQ hk hR hm with ⟨e,_⟩|⟨e,e2,_⟩|⟨_,e⟩
  ·omega
  ·exact e2
  ·intro e2;rw[e2] at e;simp at e
 ·rcases AQ hk hR hm with ⟨e,_⟩|⟨e,e2,_⟩|⟨_,e⟩<;>omega
theorem RI{x:ByteArray}{q:List Int}:∀(a:List Pl)(i:Nat)(f:Int),f<i+a.length→jV x q a i f<i+a.length
 |[],i,f,h=>by simpa [jV] using h
 |b::r,i,f,h=>by
  simp only[jV,List.length_cons] at *
  have:=RI (x:=x) (q:=q) r (i+1) (if b.n.text=x∧fH b=true∧cM b q=true then i else f) (by split<;>omega)
  omega
theorem RJ{x:ByteArray}:∀(a:List Pl)(i:Nat)(f:Int),f<i+a.length→iz x a i f<i+a.length
 |[],i,f,h=>by simpa [iz] using h
 |b::r,i,f,h=>by
  simp only[iz,List.length_cons] at *
  have:=RJ (x:=x) r (i+1) (if b.n.text=x∧b.n.kind=2∧f<0 then i else f) (by split<;>omega)
  omega
theorem P0{l:List Pl}{u:Pl}(h:0<l.length):bW l u<l.length:=by
 unfold bW
 split
 ·have:=RJ (x:=u.n.text) l 0 (-1) (by omega);omega
 ·have:=RI (x:=u.n.text) (q:=u.p) l 0 (-1) (by omega);omega
theorem Hu{x:ByteArray}:∀(l:List Pl)(i:Nat)(f:Int),(0≤iz x l i f)→iz x l i f=f∨∃j:Nat,iz x l i f=(i+j:Nat)∧j<l.length∧(au l j).n.kind=2
 |[],i,f,h=>.inl rfl
 |b::r,i,f,h=>by
  simp only[iz] at h ⊢
  rcases Hu r (i+1) _ h with e|⟨j,e,h1,h2⟩
  ·rw[e]
   split
   ·rename_i c
    exact .inr ⟨0,by simp,by simp,by simpa [au] using c.2.1⟩
   ·exact .inl rfl
  ·exact .inr ⟨j+1,by rw[e];omega,by simpa using h1,by simpa [au] using h2⟩
theorem P3{l:List Pl}{u:Pl}(hu:u.n.kind=25){j:Nat}(h:bW l u=j):(au l j).n.kind=2:=by
 unfold bW at h
 rw[if_pos hu] at h
 rcases Hu (x:=u.n.text) l 0 (-1) (by omega) with e|⟨j',e,h1,h2⟩
 ·omega
 ·have:j=j':=by omega
  rw[this]
  exact h2
theorem Hv(n:Nd)(ro:Option (List AV))(hro:∀ok,AV.gF ok ro)(hz:n.size≤1000000)(H:Y):D Tryz.prog 54 [dZ n ro] H (.ret (Eh (fp n))) H:=by
 have lz:=fun H=>AP n ro (by omega) H
 have dY:=fun H=>Hq n ro hro hz H
 rw[aQ] at lz dY ⊢
 refine aG (Nat.le_refl _) (ah0 (aA ?_))
 simp only[adB,ux]
 have wk:∀(a b:Int),eB H (.ret (.agg [.sc (.int .i64 a),.sc (.int .i64 b)])) (some ⟨2,[.agg [.sc (.int .i64 a),.sc (.int .i64 b)]],true,93⟩::some ⟨4,[.agg [.sc (.int .u8 n.kind),.sc (.string n.text),.sc (.int .i64 n.num),.am 4 (bh n.kids) ro]],true,25⟩::H) (.ret (.agg [.sc (.int .i64 a),.sc (.int .i64 b)])) H:=fun a b=>dD (.cons (.cons .refl)) (.same ⟨trivial,trivial,trivial⟩)
 refine Z fun L hL=>?_
 refine aw ?_
 refine hL _ _ ?_
 clear hL
 refine Z fun L hL=>?_
 by_cases hk:n.kind=1
 case neg =>
  have hc:fp n=(4,0):=by unfold fp;rw[if_neg (fun h=>hk h.1)]
  rw[hc]
  simp -implicitDefEqProofs (maxSteps:=99999999) (disch:=first|omega|(simp only[vl]<;>omega)) only[vu,vg,hk,va,vg,vs,vw,vk,simprocAttr]
  exact wk 4 0
 rw[hk] at lz dY wk ⊢
 refine aw ?_
 refine ae (lz _) ?_
 cases hR:bH n 40 with
 |false =>
  have hc:fp n=(4,0):=by unfold fp;rw[if_neg (fun h=>by rw[hR] at h;simp at h)]
  rw[hc]
  refine aw ?_
  exact wk 4 0
 |true =>
 have hc:fp n=jE (bI n []):=by unfold fp;rw[if_pos ⟨hk,hR⟩]
 have hok:=Ms hk hR hz
 have ef:(bI n []).length≤1000000:=by rw[eL];exact hz
 have og:0<(bI n []).length:=by rw[eL];exact n.size_pos
 have RL:∀k,k<(bI n []).length→((au (bI n []) k).n.kind=1∧(au (bI n []) k).p=[])∨((au (bI n []) k).n.kind=2∧(au (bI n []) k).p≠[]∧(au (bI n []) k).n.kids≠[])∨((au (bI n []) k).n.kind≠2∧2≤(au (bI n []) k).p.length):=fun k mN=>by
  refine AQ hk hR ?_
  have:au (bI n []) k=(bI n [])[k]:=by simp[au,List.getD,mN]
  rw[this]
  exact List.getElem_mem _
 generalize bI n []=l at *
 refine aw ?_
 refine hL _ _ ?_
 clear hL
 refine Z fun L hL=>?_
 refine aw ?_
 refine ae (dY _) ?_
 have hlen:(l.map fq).length=l.length:=by simp
 refine aw ?_
 refine hL _ _ ?_
 clear hL
 refine Z fun L hL=>?_
 refine Z fun L hL=>?_
 refine aw ?_
 refine hL _ _ ?_
 clear hL
 have I8:∀k,(au l k).n.kind=2→eD l k=if dm l k=true then some (110,k) else none:=fun k h=>by
  unfold eD
  by_cases c:dm l k=true
  ·rw[if_pos ⟨h,c⟩,if_pos c]
  ·rw[if_neg (fun h2=>c h2.2),if_neg c]
 have hgn:∀k,¬(au l k).n.kind=2→eD l k=none:=fun k h=>by
  unfold eD
  rw[if_neg (fun h2=>h h2.1)]
 generalize gS:(some ⟨2,[AV.agg [.sc (.int .i64 0),.sc (.int .i64 0)]],true,93⟩:Option aP)::some ⟨4,[AV.agg [.sc (.int .u8 1),.sc (.string n.text),.sc (.int .i64 n.num),.am 4 (bh n.kids) ro]],true,25⟩::H=F0
 have jG:∀x,Y.set F0 (H.length+1) x=x::some ⟨4,[AV.agg [.sc (.int .u8 1),.sc (.string n.text),.sc (.int .i64 n.num),.am 4 (bh n.kids) ro]],true,25⟩::H:=fun x=>by rw[←gS];exact yP (by simp)
 have kX:Y.find F0 (H.length+1)=some ⟨2,[AV.agg [.sc (.int .i64 0),.sc (.int .i64 0)]],true,93⟩:=by rw[←gS];exact aJ (by simp)
 clear gS
 refine aZ (fun ts F=>F=F0∧∃k:Nat,(k≤l.length∧∀j,j<k→eD l j=none)∧Fr (none::none::some (.ptr 2 (H.length+1) 0 0)::some (.am 5 (l.map fq) none)::some (.sc (.int .i64 k))::none::bf (bf (bf []))) ts) (fun ts _=>l.length-(aM (ts.getD 4 .top)).toNat) ?_ ?_
 ·exact ⟨rfl,0,⟨Nat.zero_le _,fun j hj=>absurd hj (Nat.not_lt_zero _)⟩,by simp[Fr]⟩
 ·rintro ts F ⟨Ei,k,⟨mN,hp⟩,aX⟩ L2 bM
  rw[Ei]
  obtain ⟨js,rfl⟩:=aX.opened
  clear aX
  by_cases hd:k<l.length
  ·have d1:(k:Int)<l.length:=by omega
   have hg:=mC hd
   have fin:eD l k=none→∀ts',Fr (none::none::some (.ptr 2 (H.length+1) 0 0)::some (.am 5 (l.map fq) none)::some (.sc (.int .i64 ((k+1:Nat):Int)))::none::bf (bf (bf []))) ts'→l.length-(aM (ts'.getD 4 .top)).toNat<l.length-k→L2 ts' F0:=fun hn ts' h1 h2=>bM _ _ ⟨rfl,k+1,⟨by omega,fun j hj=>by
    rcases Nat.lt_succ_iff_lt_or_eq.1 hj with h'|rfl
    ·exact hp j h'
    ·exact hn⟩,h1⟩ (by simpa [aM,mk] using h2)
   by_cases c2:(au l k).n.kind=2
   ·have vn:=fun H=>L1 l none ef (fun k hk=>(hok k hk).1) k hd (by
     rcases RL k hd with ⟨e,_⟩|⟨_,e,_⟩|⟨e,_⟩
     ·omega
     ·exact e
     ·exact absurd c2 e) H
    have RM:=I8 k c2
    refine fB (ei d1 hg hlen c2) ?_
    refine ⟨by omega,ae (vn _) ?_⟩
    cases ht:dm l k with
    |true =>
     rw[ht,if_pos rfl] at RM
     have iE:jE l=(110,k):=by
      unfold jE
      rw[mz l.length 0 k (Nat.zero_le _) (by omega) RM fun j _ hj=>hp j hj]
     refine aI (ak kX jG) ?_
     rw[hc,iE]
     exact wk 110 k
    |false =>
     rw[ht,if_neg (by simp)] at RM
     refine aw ?_
     exact fin RM _ (by simp[Fr]) (by simp[aM,mk];omega)
   ·refine fB (ei d1 hg hlen c2) ?_
    exact ⟨by omega,fin (hgn k c2) _ (by simp[Fr]) (by simp[aM,mk];omega)⟩
  ·have d1:¬(k:Int)<l.length:=by omega
   have hkk:k=l.length:=by omega
   subst hkk
   have hfF:pg (eD l) l.length 0=none:=my l.length 0 fun m _ hm=>hp m (by omega)
   refine fB (ak d1 hlen) ?_
   clear bM
   refine hL _ _ ?_
   clear hL
   refine Z fun L hL=>?_
   refine Z fun L hL=>?_
   refine aw ?_
   refine hL _ _ ?_
   clear hL
   refine aZ (fun ts F=>F=F0∧∃k:Nat,(k≤l.length∧∀j,j<k→cN l j=none)∧Fr (none::none::some (.ptr 2 (H.length+1) 0 0)::some (.am 5 (l.map fq) none)::none::some (.sc (.int .i64 k))::bf (bf (bf []))) ts) (fun ts _=>l.length-(aM (ts.getD 5 .top)).toNat) ?_ ?_
   ·exact ⟨rfl,0,⟨Nat.zero_le _,fun j hj=>absurd hj (Nat.not_lt_zero _)⟩,by simp[Fr]⟩
   rintro ts F ⟨Ei,k,⟨mN,hp⟩,aX⟩ L2 bM
   rw[Ei]
   obtain ⟨js,rfl⟩:=aX.opened
   clear aX
   by_cases hd:k<l.length
   ·have d1:(k:Int)<l.length:=by omega
    have hg:=mC hd
    have fin:cN l k=none→∀ts',Fr (none::none::some (.ptr 2 (H.length+1) 0 0)::some (.am 5 (l.map fq) none)::none::some (.sc (.int .i64 ((k+1:Nat):Int)))::bf (bf (bf []))) ts'→l.length-(aM (ts'.getD 5 .top)).toNat<l.length-k→L2 ts' F0:=fun hn ts' h1 h2=>bM _ _ ⟨rfl,k+1,⟨by omega,fun j hj=>by
     rcases Nat.lt_succ_iff_lt_or_eq.1 hj with h'|rfl
     ·exact hp j h'
     ·exact hn⟩,h1⟩ (by simpa [aM,mk] using h2)
    have bad:∀e,cN l k=some e→jE l=e:=fun e h=>by
     unfold jE
     rw[hfF]
     simp only
     rw[mz l.length 0 k (Nat.zero_le _) (by omega) h fun j _ hj=>hp j hj]
    by_cases cB:fH (au l k)=true
    ·have vn:=fun H=>L1 l none ef (fun k hk=>(hok k hk).1) k hd ((hok k hd).2.1 cB) H
     have hU:gj (au l k)=false:=by
      simp only[fH,Bool.or_eq_true,decide_eq_true_eq] at cB
      rcases cB with e|e<;>simp[gj,e]
     have hst:cN l k=if dm l k=true then some (110,k) else none:=by
      unfold cN
      by_cases c:dm l k=true
      ·rw[if_pos ⟨cB,c⟩,if_pos c]
      ·rw[if_neg (fun h=>c h.2),if_pos hU,if_neg c]
     simp only[fH,Bool.or_eq_true,decide_eq_true_eq] at cB
     rcases cB with c4|c4
     ·refine fB (ei d1 hg hlen c4) ?_
      refine ⟨by omega,ae (vn _) ?_⟩
      cases ht:dm l k with
      |true =>
       rw[ht,if_pos rfl] at hst
       refine aI (ak kX jG) ?_
       rw[hc,bad _ hst]
       exact wk 110 k
      |false =>
       rw[ht,if_neg (by simp)] at hst
       refine aw ?_
       exact fin hst _ (by simp[Fr]) (by simp[aM,mk];omega)
     ·refine fB (ei d1 hg hlen c4) ?_
      refine ⟨by omega,ae (vn _) ?_⟩
      cases ht:dm l k with
      |true =>
       rw[ht,if_pos rfl] at hst
       refine aI (ak kX jG) ?_
       rw[hc,bad _ hst]
       exact wk 110 k
      |false =>
       rw[ht,if_neg (by simp)] at hst
       refine aw ?_
       exact fin hst _ (by simp[Fr]) (by simp[aM,mk];omega)
    ·have qW:cN l k=if gj (au l k)=false then none else if bW l (au l k)<0 then some (111,k) else if (au l k).n.kind=25∧¬(aE (au l (bW l (au l k)).toNat).n.kids 0).kids.length=(au l k).n.kids.length then some (112,k) else none:=by
      unfold cN
      rw[if_neg (fun h=>cB h.1)]
     have cB':fH (au l k)=false:=by simpa using cB
     simp only[fH,Bool.or_eq_false_iff,decide_eq_false_iff_not] at cB'
     obtain ⟨c4,c6⟩:=cB'
     have wz:=fun H=>G9 l none ef hok k hd H
     by_cases cU:gj (au l k)=true
     ·rw[if_neg (by rw[cU];simp)] at qW
      by_cases cs:bW l (au l k)<0
      ·rw[if_pos cs] at qW
       simp only[gj,Bool.or_eq_true,decide_eq_true_eq] at cU
       rcases cU with qG|qG
       all_goals
        refine fB (ei d1 hg hlen qG) ?_
        refine ⟨by omega,ae (wz _) ?_⟩
        refine aI (gq kX jG cs) ?_
        rw[hc,bad _ qW]
        exact wk 111 k
      ·rw[if_neg cs] at qW
       obtain ⟨s,hs⟩:∃s:Nat,bW l (au l k)=s:=⟨(bW l (au l k)).toNat,by omega⟩
       have pQ:s<l.length:=by have:=P0 (u:=au l k) og;omega
       have mF:=mC pQ
       rw[hs] at qW wz cs
       simp only[gj,Bool.or_eq_true,decide_eq_true_eq] at cU
       rcases cU with qG|qF
       ·rw[if_neg (fun h=>by omega)] at qW
        refine fB (ei d1 hg hlen qG) ?_
        refine ⟨by omega,ae (wz _) ?_⟩
        refine aI (gq kX jG cs) ?_
        exact fin qW _ (by simp[Fr]) (by simp[aM,mk];omega)
       ·have NS:=P3 qF hs
        have aif:(au l s).n.kids≠[]:=by
         rcases RL s pQ with ⟨e,_⟩|⟨_,_,e⟩|⟨e,_⟩
         ·omega
         ·exact e
         ·exact absurd NS e
        have cE:0<(au l s).n.kids.length:=List.length_pos_iff.2 aif
        have y4:=dG cE
        have i2:(s:Int)<l.length:=by omega
        rw[show ((s:Nat):Int).toNat=s by omega] at qW
        by_cases ce:(aE (au l s).n.kids 0).kids.length=(au l k).n.kids.length
        ·rw[if_neg (fun h=>h.2 ce)] at qW
         have ce':((aE (au l s).n.kids 0).kids.length:Int)=(au l k).n.kids.length:=by omega
         refine fB (ei d1 hg hlen qF) ?_
         refine ⟨by omega,ae (wz _) ?_⟩
         refine aI (yR kX jG cs mF y4 hg hlen @aH ce' i2 qF) ?_
         exact ⟨by omega,by omega,⟨by omega,by omega⟩,fin qW _ (by simp[Fr]) (by simp[aM,mk];omega)⟩
        ·rw[if_pos ⟨qF,ce⟩] at qW
         have ce':¬((aE (au l s).n.kids 0).kids.length:Int)=(au l k).n.kids.length:=by omega
         refine fB (ei d1 hg hlen qF) ?_
         refine ⟨by omega,ae (wz _) ?_⟩
         refine aI (yR kX jG cs mF y4 hg hlen @aH ce' i2 qF) ?_
         rw[hc,bad _ qW]
         exact ⟨by omega,by omega,⟨by omega,by omega⟩,wk 112 k⟩
     ·have UG:gj (au l k)=false:=by simpa using cU
      rw[if_pos UG] at qW
      simp only[gj,Bool.or_eq_false_iff,decide_eq_false_iff_not] at UG
      obtain ⟨qG,qF⟩:=UG
      refine fB (mM d1 hg hlen c4 c6 qG qF) ?_
      exact ⟨by omega,fin qW _ (by simp[Fr]) (by simp[aM,mk];omega)⟩
   ·have d1:¬(k:Int)<l.length:=by omega
    have hkk:k=l.length:=by omega
    subst hkk
    have iE:jE l=(0,0):=by
     unfold jE
     rw[hfF,my l.length 0 fun m _ hm=>hp m (by omega)]
    refine fB (ak d1 hlen) ?_
    clear bM
    refine hL _ _ ?_
    clear hL
    refine aI (ak kX jG) ?_
    rw[hc,iE]
    exact wk 0 0
def B0(U:List Nat)(ws:WS)(j:Nat):AV:=.agg [.am 1 (aK (bq ws.bs j).path) none,.sc (.string (bq ws.bs j).name),aW 1 (bc (bq ws.bs j).cZ) (U.getD j 0)]
def gy(b:ky):AV:=.agg [.am 1 (aK b.1) none,.sc (.string b.2.1),.am 1 (bc b.2.2) none]
theorem Mt{F:Y}{n:Nat}{src:List Nat}:∀{l:List (List Int)},dt F n src (bc l) (bc l)
 |[]=>.nil
 |p::l=>.cons (.am si) Mt
theorem Mu{wid cf bB n0:Nat}{B U:List Nat}{ws:WS}{F G:Y}(hB:BS wid cf bB B U ws F)(hk:∀id,id<F.length→Y.find G id=Y.find F id)(hlo:∀id,id<n0→∀b,Y.find F id=some b→tv b):∀{l:List Nat},(∀j∈l,j<ws.bs.length)→dt G n0 [] (l.map (B0 U ws)) (l.map fun j=>gy ((bq ws.bs j).path,(bq ws.bs j).name,(bq ws.bs j).cZ))
 |[],_=>.nil
 |j::l,h=>by
  have hu0:bc (bq ws.bs j).cZ≠[]→Y.find F (U.getD j 0)=some ⟨1,bc (bq ws.bs j).cZ,false,30⟩:=fun e=>hB.us j (h j (by simp)) fun e2=>e (by rw[e2];rfl)
  refine .cons (.agg (.cons (.am si) (.cons (.same trivial) (.cons (pZ (ty:=30) (fun e=>?_) (fun e=>?_) Mt) .nil)))) (Mu hB hk hlo fun i hi=>h i (by simp[hi]))
  ·unfold cP
   rw[if_neg fun c=>?_]
   ·simp
   ·have:=(hlo _ c _ (hu0 e)).2.2.2 rfl
    simp at this
  ·rw[hk _ (Y.ax (hu0 e)),hu0 e,bj e]
theorem UH{n:Nd}{ws:WS}(h:k7 n = .ok ws):ws.all.length≤n.kids.length+n.size:=by
 unfold k7 at h
 cases hq:gD n.kids 0 [] ⟨[],[],0⟩ 1 with
 |error e=>rw[hq] at h;cases h
 |ok q =>
  rw[hq] at h
  simp only at h
  cases hr:bR q.1 n [[]] { q.2 with all:=[] } [] with
  |error e=>rw[hr] at h;cases h
  |ok r =>
   rw[hr] at h
   cases h
   have h1:SZ q.2 (0+n.kids.length):=Ml (ws:=⟨[],[],0⟩) ⟨Nat.le_refl _,fun j=>by simp[bq,Bd.none,List.getD]⟩ hq
   have h2:SZ { q.2 with all:=[] } n.kids.length:=⟨Nat.zero_le _,fun j=>Nat.le_trans (h1.2 j) (by omega)⟩
   exact (L9 n _ _ _ r _ h2 hr).1
theorem I9{H F:Y}{x y:AV}(h:∀id b,Y.find H id=some b→Y.find F id=some b)(hz:Gz F H.length [] x y):eB H (.ret x) F (.ret y) H :=
 ku [] (by simp) (by simp) (by simp) (fun id k hid hk=>.inl ⟨hk,h id k hk⟩) (fun i s k hs=>by simp at hs) hz
theorem xG(n:Nd)(hw:n.wt≤500000)(hs:n.size≤500000)(ro:Option (List AV))(hv:∀H,View H (dZ n ro) (eu n))(H:Y)(AR:∀id,id<H.length→∃b,Y.find H id=some b∧tv b):D Tryz.prog 23 [dZ n ro] H (.ret (.am 3 ((bQ n).map gy) none)) H:=by
 have kg:=fun H=>Mr n hw hs (hv H)
 have lM:=fun (hk:n.kind=1)(hR:bH n 40=true) H=>RD n (fun f hf=>by
    obtain ⟨P,B,h⟩:=rY hk hR hf
    rw[h.kids];simp) (fun q hq=>Hr hk hR hq) hk hs (by omega) ro H
 simp only[aQ] at lM kg
 unfold Eh at kg
 refine aG (Nat.le_refl _) (ah5 (aA ?_))
 rw[aQ]
 simp only[adH,ux]
 refine Z fun L hL=>?_
 refine aw ?_
 refine hL _ _ ?_
 clear hL
 refine Z fun L hL=>?_
 refine aw ?_
 refine ae (kg _) ?_
 by_cases hc:(ja n).1=0
 ·refine aI hc ?_
  refine hL _ _ ?_
  clear hL
  refine Z fun L hL=>?_
  refine aw ?_
  refine hL _ _ ?_
  clear hL
  refine Z fun L hL=>?_
  refine aw ?_
  by_cases c:n.kind=1∧bH n 40=true
  case neg =>
   unfold ja at hc
   rw[if_neg c] at hc
   simp at hc
  have yI:=Az c.1 c.2
  refine jr (lM c.1 c.2 _) fun e H' hle jA=>?_
  unfold AN at jA
  obtain ⟨hK,jA⟩:=jA
  cases hl:k7 n with
  |error f =>
   rw[hl] at yI
   unfold ja at hc
   rw[if_pos c,hl] at hc
   exact absurd hc yI.2
  |ok ws =>
   rw[hl] at jA
   obtain ⟨wid,cf,bB,B,U,rfl,hB⟩:=jA
   have ob:bQ n=ws.all.map fun j=>((bq ws.bs j).path,(bq ws.bs j).name,(bq ws.bs j).cZ):=by
    unfold bQ
    rw[if_pos hc,hl]
   simp only[cH.post]
   refine aw ?_
   refine hL _ _ ?_
   clear hL
   refine Z fun L hL=>?_
   refine Z fun L hL=>?_
   refine aI (ak @Dn @Br) ?_
   refine hL _ _ ?_
   clear hL
   refine aZ (fun ts F=>∃(k io:Nat),k≤ws.all.length∧((∀id,id<H'.length→Y.find F id=Y.find H' id)∧H'.length≤F.length∧((ws.all.take k).map (B0 U ws)≠[]→Y.find F io=bS 3 47 ((ws.all.take k).map (B0 U ws))∧H'.length≤io))∧
    Fr (none::none::none::some (aW 3 ((ws.all.take k).map (B0 U ws)) io)::none::fg (ir (some (aW 1 (ws.all.map (bp B)) bB)::some (.sc (.int .i64 ws.all.length))::some (.sc (.int .i64 k))::fg (ir [])))) ts) (fun ts _=>ws.all.length-(aM (ts.getD 19 .top)).toNat) ?_ ?_
   ·exact ⟨0,0,Nat.zero_le _,⟨fun id hid=>ai hid,by simp only[List.length_cons];omega,fun e=>absurd rfl e⟩,by simp[Fr,aW]⟩
   rintro ts F ⟨k,io,hk,⟨h1,h2,h3⟩,aX⟩ L2 bM
   obtain ⟨js,rfl⟩:=aX.opened
   clear aX
   have P4:=hB.same h1
   have l9:=UH hl
   have mN:=Nd.fZ n.kids
   have zX:=n.size_eq
   by_cases hd:k<ws.all.length
   ·have d1:(k:Int)<ws.all.length:=by omega
    have hne:ws.all≠[]:=fun e=>by rw[e] at hd;simp at hd
    obtain ⟨j,hj⟩:∃j,ws.all[k]? = some j:=⟨ws.all[k],by simp[hd]⟩
    have hjm:j∈ws.all:=List.mem_of_getElem? hj
    have hV:aW 1 (ws.all.map (bp B)) bB = .aD 1 bB 0 ws.all.length none:=by rw[ji (by simpa using hne)];simp
    have hal:=P4.al hne
    have hg:(ws.all.map (bp B)).getD k .top = .ptr 4 (B.getD j 0) 0 0:=by simp[List.getD,hj,bp]
    have hbd:=P4.bd j (hB.ao j hjm)
    unfold jl at hbd
    have htk:(ws.all.take (k+1)).map (B0 U ws)=(ws.all.take k).map (B0 U ws)++[B0 U ws j]:=by
     rw[List.take_add_one,hj];simp
    obtain ⟨PF,F',p1,p2,p3,p4,p5,p6⟩:=tq (H:=F) (k:=3) (ty:=47) (xs:=(ws.all.take k).map (B0 U ws)) (ys:=[B0 U ws j]) (id:=io) (fun e=>(h3 e).1) (by simp only[List.length_map,List.length_take,List.length_cons,List.length_nil];omega)
    have ZB:(ws.all.take k).map (B0 U ws)++[B0 U ws j]≠[]:=by simp
    obtain ⟨vC,L5⟩:=p4 ZB
    have e3:B0 U ws j = .agg [.am 1 (aK (bq ws.bs j).path) none,.sc (.string (bq ws.bs j).name),aW 1 (bc (bq ws.bs j).cZ) (U.getD j 0)]:=rfl
    have p1':=p1
    have p2':=p2
    have p3':=p3
    rw[e3] at p1' p2' p3'
    have hwr:IntKind.i64.wrap ((k:Int)+1)=(k:Int)+1:=by simpa using wrap_i64 (by omega) (by omega)
    have hlen:(ws.all.map (bp B)).length=ws.all.length:=by simp
    refine fB (yR hV d1 hal hg hbd p1' p2' p3' hlen hd hwr) ?_
    refine ⟨by omega,bM _ _ ⟨k+1,PF,by omega,⟨fun id hid=>?_,by omega,fun _=>?_⟩,?_⟩ (by simp[aM,mk];omega)⟩
    ·rw[p6 id (by omega) (fun e=>by have:=(h3 e).2;omega),h1 id hid]
    ·rw[htk]
     exact ⟨vC,by omega⟩
    ·rw[htk,hV,e3]
     simp[Fr]
   ·have d1:¬(k:Int)<ws.all.length:=by omega
    have FA:ws.all.take k=ws.all:=List.take_of_length_le (by omega)
    rw[FA] at h3 ⊢
    refine fB d1 ?_
    clear bM
    refine hL _ _ ?_
    clear hL
    refine aw ?_
    rw[ob,List.map_map]
    refine I9 (fun id b hb=>?_) (pZ (ty:=47) (fun e=>?_) (fun e=>(h3 e).1) (Mu hB h1 (fun id c b hb=>?_) fun j hj=>hB.ao j hj))
    ·have hid:=Y.ax hb
     rw[h1 id (by have:=hK.1;simp only[List.length_cons] at this;omega)]
     obtain ⟨b',e1,e2⟩:=AR id hid
     rw[hb] at e1
     cases e1
     exact hK.2 id b (by rw[ai hid];exact hb) (.inl e2)
    ·unfold cP
     rw[if_neg (by have:=(h3 e).2;have:=hK.1;simp only[List.length_cons] at this;omega)]
     simp
    ·obtain ⟨b',e1,e2⟩:=AR id c
     have:=hK.2 id b' (by rw[ai c];exact e1) (.inl e2)
     rw[hb] at this
     cases this
     exact e2
 ·have hb:bQ n=[]:=by unfold bQ;rw[if_neg hc]
  rw[hb]
  refine aI hc ?_
  exact dD (.cons .refl) .nil
theorem Mv{l:List Pl}{k i:Nat}(h:k<l.length):e8 l (l.take (k+1)) i=e8 l (l.take k) i++if gj (au l k)=true∧bW l (au l k)=(i:Int) then [(au l k).p] else []:=by
 rw[List.take_add_one,List.getElem?_eq_getElem h]
 have:au l k=l[k]:=by simp[au,List.getD,h]
 rw[this]
 exact vj l (l.take k) l[k] i
inductive lG(F:Y)(lo:Nat):List AV→List (List Int)→Prop where
 | nil:lG F lo [] []
 | snoc {vs:List AV}{ps:List (List Int)}{v:AV}{p:List Int}:lG F lo vs ps→oH F lo p v→lG F lo (vs++[v]) (ps++[p])
theorem lG.keep{F G:Y}{lo:Nat}{vs:List AV}{ps:List (List Int)}(h:lG F lo vs ps)(k:∀id p,Y.find F id=some ⟨1,aK p,false,3⟩→Y.find G id=some ⟨1,aK p,false,3⟩):lG G lo vs ps:=by
 induction h with
 |nil=>exact .nil
 |snoc h hv ih=>exact .snoc ih (hv.keep fun id h=>k id _ h)
theorem lG.len{F:Y}{lo:Nat}{vs:List AV}{ps:List (List Int)}(h:lG F lo vs ps):vs.length=ps.length:=by
 induction h with
 |nil=>rfl
 |snoc h hv ih=>simp[ih]
theorem lG.gz{F:Y}{lo:Nat}{vs:List AV}{ps:List (List Int)}(h:lG F lo vs ps):dt F lo [] vs (bc ps):=by
 induction h with
 |nil=>exact .nil
 |snoc h hv ih=>rw[qo];exact zz ih (.cons (hv.gz fun _ _=>by simp) .nil)
inductive oI(F:Y)(lo hi:Nat):List AV→List ky→Prop where
 | nil:oI F lo hi [] []
 | snoc {vs:List AV}{bs:List ky}{pv:AV}{us:List AV}{p:List Int}{s:ByteArray}{ps:List (List Int)}{iu:Nat}:oI F lo hi vs bs→oH F lo p pv→lG F lo us ps→(us≠[]→Y.find F iu=bS 1 30 us∧lo≤iu∧iu<hi)→oI F lo hi (vs++[.agg [pv,.sc (.string s),aW 1 us iu]]) (bs++[(p,s,ps)])
theorem oI.keep{F G:Y}{lo hi hi':Nat}{vs:List AV}{bs:List ky}(h:oI F lo hi vs bs)(hh:hi≤hi')(k:∀id b,Y.find F id=some b→b.k=1→b.exact=false→lo≤id→id<hi→Y.find G id=some b)(kp:∀id p,Y.find F id=some ⟨1,aK p,false,3⟩→Y.find G id=some ⟨1,aK p,false,3⟩):oI G lo hi' vs bs:=by
 induction h with
 |nil=>exact .nil
 |snoc h h1 h2 h3 ih =>
  refine .snoc ih (h1.keep fun id h=>kp id _ h) (h2.keep kp) fun e=>?_
  obtain ⟨g1,g2,g3⟩:=h3 e
  rw[bj e] at g1 ⊢
  exact ⟨k _ _ g1 rfl rfl g2 g3,g2,by omega⟩
theorem oI.len{F:Y}{lo hi:Nat}{vs:List AV}{bs:List ky}(h:oI F lo hi vs bs):vs.length=bs.length:=by
 induction h with
 |nil=>rfl
 |snoc h _ _ _ ih=>simp[ih]
theorem oI.gz{F:Y}{lo hi:Nat}{vs:List AV}{bs:List ky}(h:oI F lo hi vs bs):dt F lo [] vs (bs.map gy):=by
 induction h with
 |nil=>exact .nil
 |snoc h h1 h2 h3 ih =>
  rename_i vs bs pv us p s ps iu
  rw[List.map_append]
  refine zz ih (.cons (.agg (.cons (h1.gz fun _ _=>by simp) (.cons (.same trivial) (.cons ?_ .nil)))) .nil)
  have hn:∀e:us≠[],cP lo [] iu=none:=fun e=>by
   unfold cP
   rw[if_neg (by have:=(h3 e).2;omega)]
   simp
  exact pZ (ty:=30) hn (fun e=>(h3 e).1) h2.gz
def vG(l:List Pl)(k:Nat):List ky:=((List.range k).filter fun i=>ga (au l i)).map fun i=>((au l i).p,(au l i).n.text,e8 l l i)
theorem Mw(l:List Pl)(k:Nat):vG l (k+1)=vG l k++if ga (au l k)=true then [((au l k).p,(au l k).n.text,e8 l l k)] else []:=by
 unfold vG
 rw[List.range_succ,List.filter_append,List.map_append]
 congr 1
 by_cases c:ga (au l k)=true
 ·simp[c]
 ·simp[c]
theorem P5(l:List Pl)(k:Nat):(vG l k).length≤k:=by
 unfold vG
 rw[List.length_map]
 exact Nat.le_trans (List.length_filter_le _ _) (by simp)
theorem P6(l:List Pl)(u k:Nat):(e8 l (l.take u) k).length≤l.length:=by
 unfold e8
 rw[List.length_map]
 exact Nat.le_trans (List.length_filter_le _ _) (by simp;omega)
theorem vH(n:Nd)(ro:Option (List AV))(hro:∀ok,AV.gF ok ro)(hz:n.size≤1000000)(H:Y):D Tryz.prog 21 [dZ n ro] H (.ret (.am 3 ((eC n).map gy) none)) H:=by
 have kg:=fun H=>Hv n ro hro hz H
 have dY:=fun H=>Hq n ro hro hz H
 rw[aQ] at kg dY ⊢
 unfold Eh at kg
 refine aG (Nat.le_refl _) (ahZ (aA ?_))
 simp only[adA,ux]
 refine Z fun L hL=>?_
 refine aw ?_
 refine hL _ _ ?_
 clear hL
 refine Z fun L hL=>?_
 refine aw ?_
 refine ae (kg _) ?_
 refine aw ?_
 refine hL _ _ ?_
 clear hL
 refine Z fun L hL=>?_
 by_cases hc0:(fp n).1=0
 case neg =>
  have hb:eC n=[]:=by unfold eC;rw[if_neg hc0]
  rw[hb]
  refine aI hc0 ?_
  exact dD (.cons (.cons .refl)) .nil
 have hkR:n.kind=1∧bH n 40=true:=by
  by_cases c:n.kind=1∧bH n 40=true
  ·exact c
  ·unfold fp at hc0
   rw[if_neg c] at hc0
   simp at hc0
 have hb:eC n=((List.range (bI n []).length).filter fun i=>ga (au (bI n []) i)).map fun i=>((au (bI n []) i).p,(au (bI n []) i).n.text,e8 (bI n []) (bI n []) i):=by unfold eC;rw[if_pos hc0]
 have hok:=Ms hkR.1 hkR.2 hz
 have ef:(bI n []).length≤1000000:=by rw[eL];exact hz
 refine aI hc0 ?_
 refine hL _ _ ?_
 clear hL
 refine Z fun L hL=>?_
 refine aw ?_
 refine hL _ _ ?_
 clear hL
 refine Z fun L hL=>?_
 refine aw ?_
 refine ae (dY _) ?_
 have hlen:((bI n []).map fq).length=(bI n []).length:=by simp
 refine aw ?_
 refine hL _ _ ?_
 clear hL
 refine Z fun L hL=>?_
 refine Z fun L hL=>?_
 refine aw ?_
 refine hL _ _ ?_
 clear hL
 generalize hl:bI n []=l at *
 have hb':eC n=vG l l.length:=hb
 clear hl hb
 have hH1:∀i,i<H.length→Y.find (some ⟨2,[AV.agg [.sc (.int .i64 0),.sc (.int .i64 (fp n).2)]],true,93⟩::some ⟨4,[AV.agg [.sc (.int .u8 n.kind),.sc (.string n.text),.sc (.int .i64 n.num),.am 4 (bh n.kids) ro]],true,25⟩::H) i=Y.find H i:=fun i hi=>by
  rw[ai (by simp;omega),ai hi]
 refine aZ (fun ts F=>∃(k io:Nat)(xs:List AV),(k≤l.length∧oI F H.length F.length xs (vG l k)∧(xs≠[]→Y.find F io=bS 3 47 xs∧H.length≤io))∧((∀i,i<H.length→Y.find F i=Y.find H i)∧H.length≤F.length)∧
  Fr (fg (some (aW 3 xs io)::some (.am 5 (l.map fq) none)::some (.sc (.int .i64 k))::fg (ir (dL (bf (bf [])))))) ts) (fun ts _=>l.length-(aM (ts.getD 6 .top)).toNat) ?_ ?_
 ·exact ⟨0,0,[],⟨Nat.zero_le _,.nil,fun e=>absurd rfl e⟩,⟨hH1,by simp;omega⟩,by simp[Fr,aW]⟩
 rintro ts F ⟨k,io,xs,⟨hk,xD,UI⟩,⟨hold,qi⟩,aX⟩ L2 bM
 obtain ⟨js,rfl⟩:=aX.opened
 clear aX
 by_cases hd:k<l.length
 case neg =>
  have d1:¬(k:Int)<l.length:=by omega
  have hkk:k=l.length:=by omega
  subst hkk
  refine fB (ak d1 hlen) ?_
  clear bM
  refine hL _ _ ?_
  clear hL
  refine aw ?_
  rw[hb']
  refine pq hold (pZ (ty:=47) (fun e=>?_) (fun e=>(UI e).1) xD.gz)
  unfold cP
  rw[if_neg (by have:=(UI e).2;omega)]
  simp
 have d1:(k:Int)<l.length:=by omega
 have hg:=mC hd
 have hbk:=Mw l k
 by_cases cD:ga (au l k)=true
 case neg =>
  rw[if_neg cD,List.append_nil] at hbk
  have cD':ga (au l k)=false:=by simpa using cD
  simp only[ga,Bool.or_eq_false_iff,decide_eq_false_iff_not] at cD'
  obtain ⟨c2,c4,c6⟩:=cD'
  refine fB (yQ d1 hg hlen c2 c4 c6) ?_
  exact ⟨by omega,bM _ _ ⟨k+1,io,xs,⟨by omega,by rw[hbk];exact xD,UI⟩,⟨hold,qi⟩,by simp[Fr]⟩ (by simp[aM,mk];omega)⟩
 rw[if_pos cD] at hbk
 have hvl:=xD.len
 have iq:=P5 l k
 obtain ⟨pv,F1,Md,fe,nS,q1,q2,q3,q4,q5,q6,q7⟩:=I7 (some ⟨3,[.agg [.am 0 [] (some []),.sc (.string ⟨#[]⟩),.am 0 [] (some [])]],true,47⟩::F) H.length (au l k).p (by simp;omega) ((hok k hd).1)
 have hbx:Y.find F1 F.length=some ⟨3,[.agg [.am 0 [] (some []),.sc (.string ⟨#[]⟩),.am 0 [] (some [])]],true,47⟩:=by rw[nS _ (by simp)];exact aJ rfl
 have hiD:(au l k).n.kind=2∨(au l k).n.kind=4∨(au l k).n.kind=6:=by
  simpa only[ga,Bool.or_eq_true,decide_eq_true_eq] using cD
 simp only[List.length_cons] at fe nS
 rcases hiD with c2|c2|c2
 all_goals
  refine fB (yS d1 hg hlen c2 q1 q2 q3 q4 q5 q6 q7 hbx) ?_
 all_goals
  refine ⟨by omega,by omega,by omega,?_⟩
  have i1:∀e:xs≠[],io<F.length:=fun e=>by have:=(UI e).1;rw[bj e] at this;exact Y.ax this
  have gJ:∀i,i<F.length→∀x,Y.find (Y.set F1 F.length x) i=Y.find F i:=fun i hi x=>by
   rw[Y.aj (by omega),nS i (by omega),ai hi]
  refine aZ (fun ts G=>∃(u iu:Nat)(us:List AV),(u≤l.length∧lG G H.length us (e8 l (l.take u) k)∧(us≠[]→Y.find G iu=bS 1 30 us∧F.length<iu)∧Y.find G F.length=some ⟨3,[.agg [pv,.sc (.string (au l k).n.text),aW 1 us iu]],true,47⟩)∧
   (oH G H.length (au l k).p pv∧oI G H.length F.length xs (vG l k)∧(xs≠[]→Y.find G io=bS 3 47 xs)∧(∀i,i<H.length→Y.find G i=Y.find H i)∧F.length<G.length)∧
   Fr (fg (some (aW 3 xs io)::some (.am 5 (l.map fq) none)::some (.sc (.int .i64 k))::none::some (.ptr 3 F.length 0 0)::some (.sc (.int .i64 u))::none::ir (dL (bf (bf []))))) ts) (fun ts _=>l.length-(aM (ts.getD 9 .top)).toNat) ?_ ?_
  ·refine ⟨0,0,[],⟨Nat.zero_le _,.nil,fun e=>absurd rfl e,Y.aC (by omega)⟩,⟨Md.keep fun id h=>?_,xD.keep (Nat.le_refl _) (fun id b h _ _ _ hlt=>by rw[gJ id hlt];exact h) (fun id p h=>by rw[gJ id (Y.ax h)];exact h),fun e=>by rw[gJ io (i1 e)];exact (UI e).1,fun i hi=>by rw[gJ i (by omega)];exact hold i hi,by rw[Y.af];omega⟩,by simp[Fr,aW]⟩
   rw[Y.aj fun e=>?_]
   ·exact h
   ·rw[e,hbx] at h;cases h
  rintro ts G ⟨u,iu,us,⟨hu,yN,Ja,mD⟩,⟨hpG,hbG,RN,P7,Ej⟩,aX⟩ L3 sn
  obtain ⟨js,rfl⟩:=aX.opened
  clear aX
  by_cases Uc:u<l.length
  case neg =>
   have d2:¬(u:Int)<l.length:=by omega
   have huu:u=l.length:=by omega
   subst huu
   rw[List.take_length] at yN
   have uu:xs.length≤1000000:=by omega
   obtain ⟨PF,G',p1,p2,p3,p4,p5,p6⟩:=tq (H:=G) (k:=3) (ty:=47) (xs:=xs) (ys:=[.agg [pv,.sc (.string (au l k).n.text),aW 1 us iu]]) (id:=io) RN (by simp;omega)
   have ZB:xs++[AV.agg [pv,.sc (.string (au l k).n.text),aW 1 us iu]]≠[]:=by simp
   obtain ⟨vC,L5⟩:=p4 ZB
   refine fB (yQ d2 hlen mD p1 p2 p3) ?_
   have Ax:∀id b,Y.find G id=some b→b.k≠3→Y.find G' id=some b:=fun id b h h3=>by
    rw[p6 id (Y.ax h) fun e e2=>?_]
    ·exact h
    ·rw[e2,RN e,bj e] at h
     cases h
     exact h3 rfl
   refine bM _ _ ⟨k+1,PF,xs++[.agg [pv,.sc (.string (au l k).n.text),aW 1 us iu]],⟨by omega,?_,fun _=>⟨vC,by omega⟩⟩,⟨fun i hi=>?_,by omega⟩,by simp[Fr]⟩ (by simp[aM,mk];omega)
   ·rw[hbk]
    refine .snoc (hbG.keep (by omega) (fun id b h h1 _ _ _=>Ax id b h (by omega)) fun id p h=>Ax id _ h (by simp)) (hpG.keep fun id h=>Ax id _ h (by simp)) (yN.keep fun id p h=>Ax id _ h (by simp)) fun e=>?_
    obtain ⟨e1,e2⟩:=Ja e
    rw[bj e] at e1 ⊢
    have:=Y.ax e1
    exact ⟨Ax _ _ e1 (by simp),by omega,by omega⟩
   ·rw[p6 i (by omega) fun e=>by have:=(UI e).2;omega]
    exact P7 i hi
  have d2:(u:Int)<l.length:=by omega
  have IQ:=mC Uc
  have hut:=Mv (l:=l) (i:=k) Uc
  have tZ:=yN.len
  have ajl:=P6 l u k
  have wz:=fun H=>G9 l none ef hok u Uc H
  have ZC:¬(gj (au l u)=true∧bW l (au l u)=(k:Int))→∀ts',Fr (fg (some (aW 3 xs io)::some (.am 5 (l.map fq) none)::some (.sc (.int .i64 k))::none::some (.ptr 3 F.length 0 0)::some (.sc (.int .i64 ((u+1:Nat):Int)))::none::ir (dL (bf (bf []))))) ts'→l.length-(aM (ts'.getD 9 .top)).toNat<l.length-u→L3 ts' G:=fun hn ts' h1 h2=>by
   rw[if_neg hn,List.append_nil] at hut
   exact sn _ _ ⟨u+1,iu,us,⟨by omega,by rw[hut];exact yN,Ja,mD⟩,⟨hpG,hbG,RN,P7,Ej⟩,h1⟩ (by simpa [aM,mk] using h2)
  by_cases cU:gj (au l u)=true
  case neg =>
   have UG:gj (au l u)=false:=by simpa using cU
   simp only[gj,Bool.or_eq_false_iff,decide_eq_false_iff_not] at UG
   obtain ⟨qG,qF⟩:=UG
   refine fB (kY d2 IQ hlen qG qF) ?_
   exact ⟨by omega,by omega,ZC (fun h=>cU h.1) _ (by simp[Fr]) (by simp[aM,mk];omega)⟩
  have cU2:=cU
  simp only[gj,Bool.or_eq_true,decide_eq_true_eq] at cU2
  by_cases cs:bW l (au l u)=(k:Int)
  case neg =>
   rcases cU2 with qG|qG
   all_goals
    refine fB (ei d2 IQ hlen qG) ?_
    first
     | refine ⟨by omega,ae (wz _) ?_⟩
     | refine ⟨by omega,by omega,ae (wz _) ?_⟩
    refine aI cs ?_
    exact ZC (fun h=>cs h.2) _ (by simp[Fr]) (by simp[aM,mk];omega)
  rw[cs] at wz
  rw[if_pos ⟨cU,cs⟩] at hut
  obtain ⟨pu,G1,hpu,gl1,P8,r1,r2,r3,r4,r5,r6,r7⟩:=I7 G H.length (au l u).p (by omega) ((hok u Uc).1)
  obtain ⟨iu',G2,s1,s2,s3,s4,s5,s6⟩:=tq (H:=G1) (k:=1) (ty:=30) (xs:=us) (ys:=[pu]) (id:=iu) (fun e=>by have e1:=(Ja e).1;rw[P8 iu (by rw[bj e] at e1;exact Y.ax e1)];exact e1) (by simp;omega)
  obtain ⟨s4a,s4b⟩:=s4 (by simp)
  have PX:Y.find G2 F.length=some ⟨3,[.agg [pv,.sc (.string (au l k).n.text),aW 1 us iu]],true,47⟩:=by
   rw[s6 _ (by omega) fun e=>by have:=(Ja e).2;omega,P8 _ Ej]
   exact mD
  have aig:∀e:us≠[],iu<G.length:=fun e=>by have e1:=(Ja e).1;rw[bj e] at e1;exact Y.ax e1
  have Ax:∀(x:Option aP) id b,Y.find G id=some b→(us≠[]→id≠iu)→id≠F.length→Y.find (Y.set G2 F.length x) id=some b:=fun x id b h h3 h4=>by
   have:=Y.ax h
   rw[Y.aj h4,s6 id (by omega) h3,P8 id this]
   exact h
  have hty:∀id b,Y.find G id=some b→(b.k≠1∨b.ty≠30)→us≠[]→id≠iu:=fun id b h h3 e e2=>by
   have e1:=(Ja e).1
   rw[e2,e1,bj e] at h
   cases h
   simp at h3
  have hnb:∀id b,Y.find G id=some b→(b.k≠3∨b.exact=false)→id≠F.length:=fun id b h h3 e2=>by
   rw[e2,mD] at h
   cases h
   simp at h3
  have aih:∀ts',Fr (fg (some (aW 3 xs io)::some (.am 5 (l.map fq) none)::some (.sc (.int .i64 k))::none::some (.ptr 3 F.length 0 0)::some (.sc (.int .i64 ((u+1:Nat):Int)))::none::ir (dL (bf (bf []))))) ts'→l.length-(aM (ts'.getD 9 .top)).toNat<l.length-u→L3 ts' (Y.set G2 F.length (some ⟨3,[.agg [pv,.sc (.string (au l k).n.text),aW 1 (us++[pu]) iu']],true,47⟩)):=fun ts' h1 h2=>by
   refine sn _ _ ⟨u+1,iu',us++[pu],⟨by omega,?_,fun _=>⟨?_,by omega⟩,Y.aC (by omega)⟩,⟨hpG.keep fun id h=>Ax _ id _ h (hty id _ h (by simp)) (hnb id _ h (by simp)),hbG.keep (Nat.le_refl _) (fun id b h b1 b2 b3 b4=>Ax _ id _ h (fun e=>by have:=(Ja e).2;omega) (by omega)) (fun id p h=>Ax _ id _ h (hty id _ h (by simp)) (hnb id _ h (by simp))),fun e=>?_,fun i hi=>?_,by rw[Y.af];omega⟩,h1⟩ (by simpa [aM,mk] using h2)
   ·rw[hut]
    refine .snoc (yN.keep fun id p h=>Ax _ id _ h (hty id _ h (by simp)) (hnb id _ h (by simp))) (hpu.keep fun id h=>?_)
    have h0:=Y.ax h
    have hne:id≠F.length:=fun e=>by
     rw[e,P8 _ Ej,mD] at h
     cases h
    rw[Y.aj hne,s6 id h0 fun e e2=>?_]
    ·exact h
    ·have e1:=(Ja e).1
     rw[e2,P8 _ (aig e),e1,bj e] at h
     simp at h
   ·rw[Y.aj (by omega)]
    exact s4a
   ·have e1:=RN e
    rw[bj e] at e1 ⊢
    exact Ax _ _ _ e1 (hty _ _ e1 (by simp)) (hnb _ _ e1 (by simp))
   ·have:=(P7 i hi)
    rw[Y.aj (by omega),s6 i (by omega) fun e=>by have:=(Ja e).2;omega,P8 i (by omega)]
    exact this
  rcases cU2 with qG|qG
  all_goals
   refine fB (ei d2 IQ hlen qG) ?_
   first
    | refine ⟨by omega,ae (wz _) ?_⟩
    | refine ⟨by omega,by omega,ae (wz _) ?_⟩
   refine aI (XE d2 IQ hlen mD r1 r2 r3 r4 r5 r6 r7 s1 s2 s3 PX) ?_
   exact ⟨by omega,by rw[P8 _ Ej];exact mD,aih _ (by simp[Fr]) (by simp[aM,mk];omega)⟩
def adN:IC:=(.seq (.ops [iH 2 (.box 4 25 (.t 0)),iH 3 (.box 4 25 (.t 1)),iP 4 (.mv kF)]) (.seq (.ops [iP 5 (.mv (.k (.fn (.func 30) [] [])))]) (.seq (.di [iH 6 (yA 4 2),iH 7 (.call 33 [(.t 6)]),iM 8 7,gH 9 8 true (yA 4 3),gH 10 8 true (.call 33 [(.t 9)]),iP 11 (.pick (.t 8) (.t 10) kF),iM 12 11,gH 13 12 true (yA 4 2),gH 14 12 true (yA 4 3),gH 15 12 true (yC 34 13 14),iP 16 (.pick (.t 12) (.t 15) kF),iM 17 16,gH 18 17 true (yA 4 2),gH 19 17 true (.call 23 [(.t 18)]),gH 20 17 true (yA 4 3),gH 21 17 true (.call 23 [(.t 20)]),gM 22 17 true 5,gH 23 17 true (.call 35 [(.t 19),(.t 21),(.t 22)]),iP 24 (.pick (.t 17) (.t 23) kF),iM 4 24] [[],[0],[1,0],[2,1,0],[3,2,1,0],[2,1,0,4,3],[5,2,1,0,4,3],[6,5,2,1,0,4,3],[6,5,2,1,0,4,3],[7,6,5,2,1,0,4,3,8],[6,5,2,1,0,4,3,9,7,8],[10,6,5,2,1,0,4,3,9,7,8],[11,10,6,5,2,1,0,4,3,9,7,8],[12,11,10,6,5,2,1,0,4,3,9,7,8],[11,10,6,5,2,1,0,4,3,9,7,8],[14,11,10,6,5,2,1,0,4,3,9,7,8,13,12],[11,10,6,5,2,1,0,4,3,9,7,8],[13,12,11,10,6,5,2,1,0,4,3,9,7,8,15,14,16],[11,10,6,5,2,1,0,4,3,9,7,8,17,13,12,15,14,16],[18,11,10,6,5,2,1,0,4,3,9,7,8,17,13,12,15,14,16]]) .ret)))
theorem aii:Dk Tryz.prog 10 adN [(.t 4)] 25:=aV Tryz.func10
def adO:IC:=(.seq (.ops [iH 2 (.box 3 47 (.t 0)),iH 3 (.box 3 47 (.t 1)),iP 4 (.mv kF)]) (.seq (.ops [iP 5 (.an 0 (.t 2)),iH 6 (yD 1 5),iP 7 (.an 0 (.t 3)),iH 8 (yD 1 7),iH 9 (yC 31 6 8),iM 10 9,gP 11 10 true (.an 2 (.t 2)),gH 12 10 true (yD 1 11),gP 13 10 true (.an 2 (.t 3)),gH 14 10 true (yD 1 13),gH 15 10 true (.call 32 [(.t 12),(.t 14),(.k (.fn (.func 31) [] []))]),iP 16 (.pick (.t 10) (.t 15) kF),iM 4 16]) .ret))
theorem aij:Dk Tryz.prog 30 adO [(.t 4)] 17:=aV Tryz.func30
def adP:IC:=(.seq (.ops [iH 3 (.box 4 25 (.t 0)),iH 5 (.box 1 30 (.t 2)),⟨(some 6),none,(.h (.alloc (.agg [(.sc (.int .u8 0)),(.sc (.string ⟨#[]⟩)),(.sc (.int .i64 0)),bG]) 25))⟩,iP 7 (xI 0)]) (.seq (.block 0 (.seq (.ops [iP 13 (.an 0 (.t 3)),iH 14 (yD 1 13),iP 15 (.aN .neq (.t 14) (.k (.sc (.int .u8 1)))),iM 16 15,gH 17 16 false (yA 4 3),gH 18 16 false (.call 40 [(.t 17)]),gP 19 16 false (xN 18),iP 20 (.pick (.t 16) kT (.t 19)),iM 12 20]) (.cond (.t 12) (.seq (.ops [⟨(some 21),none,(.p (.build [(.sc (.int .u8 0)),(.sc (.string ⟨#[]⟩)),(.sc (.int .i64 0)),bG] []))⟩,iS 4 6 21,iP 7 (xI 4)]) .ret) (.seq (.ops [iH 23 (yA 4 3),iH 24 (.call 33 [(.t 23)]),iP 25 (xN 24),iM 22 25]) (.cond (.t 22) (.seq (.ops [⟨(some 26),none,(.p (.build [(.sc (.int .u8 0)),(.sc (.string ⟨#[]⟩)),(.sc (.int .i64 0)),bG] []))⟩,iS 4 6 26,iP 7 (xI 122)]) .ret) .skip))))) (.seq (.ops [iH 27 (yA 4 3),iH 28 (.call 23 [(.t 27)]),iM 8 28]) (.seq (.ops [iM 29 8,iP 30 (.oP (.func 42) [] [(.t 5)]),iH 31 (yC 41 29 30),iM 9 31]) (.seq (.block 1 (.seq (.ops [iM 33 9,iP 34 (.aN .lss (.t 33) (kI 0)),iM 32 34]) (.cond (.t 32) (.seq (.ops [⟨(some 35),none,(.p (.build [(.sc (.int .u8 0)),(.sc (.string ⟨#[]⟩)),(.sc (.int .i64 0)),bG] []))⟩,iS 4 6 35,iP 7 (xI 6)]) .ret) (.seq (.ops [iM 37 1,iH 38 (.call 43 [(.t 37)]),iP 39 (xN 38),iM 36 39]) (.cond (.t 36) (.seq (.ops [⟨(some 40),none,(.p (.build [(.sc (.int .u8 0)),(.sc (.string ⟨#[]⟩)),(.sc (.int .i64 0)),bG] []))⟩,iS 4 6 40,iP 7 (xI 2)]) .ret) .skip))))) (.seq (.ops [iM 41 1,⟨(some 42),none,(.p (.build [bG,(.sc (.string ⟨#[]⟩))] [(1,1,(.t 41))]))⟩,iH 43 (.box 2 66 (.t 42)),iM 10 43]) (.seq (.di [iM 44 10,iP 45 (.bV (.t 44)),iP 46 (.an 0 (.t 45)),iH 47 (yD 1 5),iH 48 (.ep 1 30 bG 1 [(0,(.t 47))]),iH 49 (yC 44 46 48)] [[],[0],[1,0],[],[3],[2,1,0,4,3]]) (.seq (.di [iM 50 10,iP 51 (.bV (.t 50)),iP 52 (.an 0 (.t 51)),iM 53 8,iM 54 9,iP 55 (xA 3 53 54),iP 56 (.an 2 (.t 55)),iH 57 (yD 1 56),iH 58 (yC 44 52 57)] [[],[0],[1,0],[],[],[3,4],[5,3,4],[6,5,3,4],[2,1,0,7,6,5,3,4]]) (.seq (.ops [iM 59 10,iH 60 (yA 4 3),iH 61 (yC 45 59 60),⟨(some 11),none,(.h (.alloc (.agg [(.sc (.int .u8 0)),(.sc (.string ⟨#[]⟩)),(.sc (.int .i64 0)),bG]) 25))⟩,iS 4 11 61]) (.seq (.seq (.ops [iH 62 (yA 4 3),iH 63 (yA 4 11),iH 64 (yC 10 62 63),iP 65 (xN 64)]) (.cond (.t 65) (.seq (.ops [⟨(some 66),none,(.p (.build [(.sc (.int .u8 0)),(.sc (.string ⟨#[]⟩)),(.sc (.int .i64 0)),bG] []))⟩,iS 4 6 66,iP 7 (xI 120)]) .ret) .skip)) (.seq (.ops [iH 67 (yA 4 11),iS 4 6 67,iP 7 (xI 0)]) .ret)))))))))))
theorem aik:Dk Tryz.prog 14 adP [(.c 6 4 true),(.t 7)] 68:=aV Tryz.func14
def adQ:IC:=(.seq (.ops [iH 2 (.box 3 47 (.t 0)),iP 3 (.mv kF)]) (.seq (.ops [iP 4 (.an 0 (.t 2)),iH 5 (yD 1 4),iH 6 (yD 1 1),iH 7 (yC 31 5 6),iM 3 7]) .ret))
theorem ail:Dk Tryz.prog 42 adQ [(.t 3)] 8:=aV Tryz.func42
def adR:IC:=(.seq (.ops [iH 1 (.box 4 25 (.t 0)),iP 2 (.mv kF)]) (.seq (.ops [iP 3 (.an 0 (.t 1)),iH 4 (yD 1 3),iP 5 (.aN .eql (.t 4) (.k (.sc (.int .u8 1)))),iM 6 5,gH 7 6 true (yA 4 1),gH 8 6 true (.call 57 [(.t 7)]),gP 9 6 true (.field 0 1 false (.t 8)),gP 10 6 true (.aN .eql (.t 9) (kI 0)),iP 11 (.pick (.t 6) (.t 10) kF),iM 2 11]) .ret))
theorem aim:Dk Tryz.prog 33 adR [(.t 2)] 12:=aV Tryz.func33
def adS:IC:=(.seq (.ops [iH 2 (.box 4 25 (.t 0)),iH 3 (.box 4 25 (.t 1)),iP 4 (.mv kF)]) (.seq (.ops [iP 5 (.an 0 (.t 2)),iH 6 (yD 1 5),iP 7 (.an 0 (.t 3)),iH 8 (yD 1 7),iP 9 (xB .eql 6 8),iM 10 9,gP 11 10 true (.an 2 (.t 2)),gH 12 10 true (yD 1 11),gP 13 10 true (.an 2 (.t 3)),gH 14 10 true (yD 1 13),gP 15 10 true (xB .eql 12 14),iP 16 (.pick (.t 10) (.t 15) kF),iM 17 16,gP 18 17 true (.an 0 (.t 2)),gH 19 17 true (yD 1 18),gH 20 17 true (.call 64 [(.t 19)]),gM 21 17 true 20,gP 22 21 false (.an 1 (.t 2)),gH 23 21 false (yD 1 22),gP 24 21 false (.an 1 (.t 3)),gH 25 21 false (yD 1 24),gP 26 21 false (xB .eql 23 25),gP 27 17 true (.pick (.t 21) kT (.t 26)),iP 28 (.pick (.t 17) (.t 27) kF),iM 29 28,gP 30 29 true (.an 3 (.t 2)),gH 31 29 true (yD 1 30),gP 32 29 true (.an 3 (.t 3)),gH 33 29 true (yD 1 32),gH 34 29 true (.call 65 [(.t 31),(.t 33),(.k (.fn (.func 34) [] []))]),iP 35 (.pick (.t 29) (.t 34) kF),iM 4 35]) .ret))
theorem ain:Dk Tryz.prog 34 adS [(.t 4)] 36:=aV Tryz.func34
def adT:IC:=(.seq (.ops [iP 2 (.mv kF)]) (.seq (.ops [iH 3 (.ep 1 22 (.sc (.int .u8 0)) 5 [(0,(.k (.sc (.int .u8 2)))),(1,(.k (.sc (.int .u8 4)))),(2,(.k (.sc (.int .u8 6)))),(3,(.k (.sc (.int .u8 22)))),(4,(.k (.sc (.int .u8 25))))]),iM 4 0,iH 5 (yC 121 3 4),iM 2 5]) .ret))
theorem aio:Dk Tryz.prog 64 adT [(.t 2)] 6:=aV Tryz.func64
def adU:IC:=(.seq (.ops [iP 6 (.mv kF)]) (.seq (.ops [iM 7 0,iM 8 1,iM 9 2,iH 10 (.call 63 [(.t 7),(.t 8),(.t 9)]),iM 6 10]) .ret))
theorem aip:Dk Tryz.prog 32 adU [(.t 6)] 11:=aV Tryz.func32
def adV:IC:=(.seq (.ops [iP 6 (.mv kF)]) (.seq (.ops [iM 7 0,iM 8 1,iM 9 2,iH 10 (.call 66 [(.t 7),(.t 8),(.t 9)]),iM 6 10]) .ret))
theorem aiq:Dk Tryz.prog 35 adV [(.t 6)] 11:=aV Tryz.func35
def adW:IC:=(.seq (.ops [iP 6 (.mv kF)]) (.seq (.ops [iM 7 0,iM 8 1,iM 9 2,iH 10 (.call 122 [(.t 7),(.t 8),(.t 9)]),iM 6 10]) .ret))
theorem air:Dk Tryz.prog 65 adW [(.t 6)] 11:=aV Tryz.func65
def adX:IC:=(.seq (.ops [iP 4 (xI 0)]) (.seq (.seq (.ops [iM 6 0,iP 7 (xL 6),iP 8 (xI 0)]) (.block 0 (.loop (.seq (.ops [iP 9 (xB .lss 8 7)]) (.seq (.cond (.t 9) .skip (.exit 0)) (.seq (.block 1 (.seq (.ops [iM 10 8,iM 5 10]) (.seq (.ops [iM 11 1,iM 12 0,iM 13 5,iP 14 (xA 3 12 13),iH 15 (yA 3 14),iH 16 (.cq (.t 11) [(.t 15)])]) (.cond (.t 16) (.seq (.ops [iM 17 5,iM 4 17]) .ret) .skip)))) (.ops [iP 18 (.aN .add (.t 8) (kI 1)),iM 8 18]))))))) (.seq (.ops [iP 4 (xI (-1))]) .ret)))
theorem ais:Dk Tryz.prog 41 adX [(.t 4)] 19:=aV Tryz.func41
def adY:IC:=(.seq (.ops [iP 6 (.mv kF)]) (.seq (.seq (.ops [iM 10 0,iP 11 (xL 10),iM 12 1,iP 13 (xL 12),iP 14 (xB .neq 11 13)]) (.cond (.t 14) (.seq (.ops [iP 6 (.mv kF)]) .ret) .skip)) (.seq (.seq (.ops [iM 15 0,iP 16 (xL 15),iP 17 (xI 0)]) (.block 0 (.loop (.seq (.ops [iP 18 (xB .lss 17 16)]) (.seq (.cond (.t 18) .skip (.exit 0)) (.seq (.block 1 (.seq (.ops [iM 19 17,iP 20 (xA 1 15 17),iH 21 (yD 1 20),iM 7 19,iM 8 21]) (.seq (.ops [iM 22 1,iM 23 7,iP 24 (xA 1 22 23),iH 25 (yD 1 24),iM 9 25]) (.seq (.ops [iM 26 2,iM 27 8,iM 28 9,iH 29 (.cq (.t 26) [(.t 27),(.t 28)]),iP 30 (xN 29)]) (.cond (.t 30) (.seq (.ops [iP 6 (.mv kF)]) .ret) .skip))))) (.ops [iP 31 (.aN .add (.t 17) (kI 1)),iM 17 31]))))))) (.seq (.ops [iP 6 (.mv kT)]) .ret))))
theorem ait:Dk Tryz.prog 63 adY [(.t 6)] 32:=aV Tryz.func63
def adZ:IC:=(.seq (.ops [iP 6 (.mv kF)]) (.seq (.seq (.ops [iM 10 0,iP 11 (xL 10),iM 12 1,iP 13 (xL 12),iP 14 (xB .neq 11 13)]) (.cond (.t 14) (.seq (.ops [iP 6 (.mv kF)]) .ret) .skip)) (.seq (.seq (.ops [iM 15 0,iP 16 (xL 15),iP 17 (xI 0)]) (.block 0 (.loop (.seq (.ops [iP 18 (xB .lss 17 16)]) (.seq (.cond (.t 18) .skip (.exit 0)) (.seq (.block 1 (.seq (.ops [iM 19 17,iP 20 (xA 3 15 17),iH 21 (yA 3 20),⟨(some 8),none,(.h (.alloc (.agg [bG,(.sc (.string ⟨#[]⟩)),bG]) 47))⟩,iM 7 19,iS 3 8 21]) (.seq (.ops [iM 22 1,iM 23 7,iP 24 (xA 3 22 23),iH 25 (yA 3 24),⟨(some 9),none,(.h (.alloc (.agg [bG,(.sc (.string ⟨#[]⟩)),bG]) 47))⟩,iS 3 9 25]) (.seq (.ops [iM 26 2,iH 27 (yA 3 8),iH 28 (yA 3 9),iH 29 (.cq (.t 26) [(.t 27),(.t 28)]),iP 30 (xN 29)]) (.cond (.t 30) (.seq (.ops [iP 6 (.mv kF)]) .ret) .skip))))) (.ops [iP 31 (.aN .add (.t 17) (kI 1)),iM 17 31]))))))) (.seq (.ops [iP 6 (.mv kT)]) .ret))))
theorem aiu:Dk Tryz.prog 66 adZ [(.t 6)] 32:=aV Tryz.func66
def ZD:IC:=(.seq (.ops [iP 4 (.mv kF)]) (.seq (.ops [iM 5 0,iM 6 1,iH 7 (yC 181 5 6),iP 8 (.aN .geq (.t 7) (kI 0)),iM 4 8]) .ret))
theorem agd:Dk Tryz.prog 128 ZD [(.t 4)] 9:=aV Tryz.func128
def ZE:IC:=(.seq (.ops [iP 4 (xI 0)]) (.seq (.seq (.ops [iM 6 0,iP 7 (xL 6),iP 8 (xI 0)]) (.block 0 (.loop (.seq (.ops [iP 9 (xB .lss 8 7)]) (.seq (.cond (.t 9) .skip (.exit 0)) (.seq (.block 1 (.seq (.ops [iM 10 8,iM 5 10]) (.seq (.ops [iM 11 1,iM 12 0,iM 13 5,iP 14 (xA 1 12 13),iH 15 (yD 1 14),iH 16 (.cq (.t 11) [(.t 15)])]) (.cond (.t 16) (.seq (.ops [iM 17 5,iM 4 17]) .ret) .skip)))) (.ops [iP 18 (.aN .add (.t 8) (kI 1)),iM 8 18]))))))) (.seq (.ops [iP 4 (xI (-1))]) .ret)))
theorem age:Dk Tryz.prog 181 ZE [(.t 4)] 19:=aV Tryz.func181
def ad0:IC:=(.ops [iM 4 0,iM 5 0,iP 6 (.bV (.t 5)),iP 7 (.an 0 (.t 6)),iH 8 (yD 1 7),iM 9 1,iH 10 (.ez 1 30 (.t 8) (.t 9)),iP 11 (.bV (.t 4)),iP 12 (.an 0 (.t 11)),iS 1 12 10])
theorem aiv:Dk Tryz.prog 44 ad0 [] 13:=aV Tryz.func44
def ad1:IC:=(.seq (.ops [iH 3 (.box 1 30 (.t 1)),iP 4 (.mv kF)]) (.seq (.ops [iM 5 0,iP 6 (.bV (.t 5)),iP 7 (.an 0 (.t 6)),iH 8 (yD 1 7),iP 9 (.oP (.func 129) [] [(.t 3)]),iH 10 (yC 128 8 9),iM 4 10]) .ret))
theorem aiw:Dk Tryz.prog 76 ad1 [(.t 4)] 11:=aV Tryz.func76
def ZF:IC:=(.seq (.ops [iP 3 (.mv kF)]) (.seq (.ops [iM 4 0,iH 5 (yD 1 1),iH 6 (yC 31 4 5),iM 3 6]) .ret))
theorem agf:Dk Tryz.prog 129 ZF [(.t 3)] 7:=aV Tryz.func129
def ad2:IC:=(.seq (.ops [iH 2 (.box 1 62 (.t 0)),iH 3 (.box 4 25 (.t 1)),⟨(some 4),none,(.h (.alloc (.agg [(.sc (.int .u8 0)),(.sc (.string ⟨#[]⟩)),(.sc (.int .i64 0)),bG]) 25))⟩]) (.seq (.ops [iH 5 (.alloc bG 30)]) (.seq (.ops [iH 6 (.alloc (.sc .nilFunc) 28)]) (.seq (.ops [iP 7 (.oP (.func 75) [] [(.t 2),(.t 5),(.t 6)]),iS 1 6 7]) (.seq (.ops [iH 8 (yD 1 6),iH 9 (yA 4 3),iH 10 (.cq (.t 8) [(.t 9)]),iS 4 4 10]) .ret)))))
theorem aix:Dk Tryz.prog 45 ad2 [(.c 4 4 true)] 11:=aV Tryz.func45
def jm:IC:=(.seq (.ops [iH 4 (.box 4 25 (.t 0)),⟨(some 5),none,(.h (.alloc (.agg [(.sc (.int .u8 0)),(.sc (.string ⟨#[]⟩)),(.sc (.int .i64 0)),bG]) 25))⟩]) (.seq (.seq (.di [iH 9 (yD 1 1),iP 10 (.bV (.t 9)),iP 11 (.an 0 (.t 10)),iH 12 (yD 1 2),iH 13 (yC 76 11 12)] [[],[0],[1,0],[],[2,1,0,3]]) (.cond (.t 13) (.ops [iH 14 (yD 1 1),iP 15 (.bV (.t 14)),iP 16 (.an 1 (.t 15)),iH 17 (yD 1 16),iP 18 (.an 1 (.t 4)),iS 1 18 17]) .skip)) (.seq (.ops [iP 19 (.an 3 (.t 4)),iH 20 (yD 1 19),iM 6 20]) (.seq (.ops [iP 21 (.an 3 (.t 4)),⟨none,none,(.h (.store 1 (.t 21) (.k bG)))⟩]) (.seq (.seq (.ops [iM 22 6,iP 23 (xL 22),iP 24 (xI 0)]) (.block 0 (.loop (.seq (.ops [iP 25 (xB .lss 24 23)]) (.seq (.cond (.t 25) .skip (.exit 0)) (.seq (.block 1 (.seq (.ops [iM 26 24,iP 27 (xA 4 22 24),iH 28 (yA 4 27),⟨(some 8),none,(.h (.alloc (.agg [(.sc (.int .u8 0)),(.sc (.string ⟨#[]⟩)),(.sc (.int .i64 0)),bG]) 25))⟩,iM 7 26,iS 4 8 28]) (.seq (.ops [iH 29 (yD 1 2),iM 30 7,iH 31 (.ep 1 3 (.sc (.int .i64 0)) 1 [(0,(.t 30))]),iH 32 (.ez 1 3 (.t 29) (.t 31)),iS 1 2 32]) (.seq (.di [iP 33 (.an 3 (.t 4)),iH 34 (yD 1 33),iH 35 (yD 1 3),iH 36 (yA 4 8),iH 37 (.cq (.t 35) [(.t 36)]),⟨(some 38),none,(.h (.ep 4 25 (.agg [(.sc (.int .u8 0)),(.sc (.string ⟨#[]⟩)),(.sc (.int .i64 0)),bG]) 1 [(0,(.t 37))]))⟩,iH 39 (.ez 4 25 (.t 34) (.t 38)),iP 40 (.an 3 (.t 4)),iS 1 40 39] [[],[0],[],[],[2,3],[4,2,3],[1,0,5,4,2,3],[0,1,2,3,4,5,6],[7,0,1,2,3,4,5,6]]) (.ops [iH 41 (yD 1 2),iH 42 (yD 1 2),iP 43 (xL 42),iP 44 (.aN .sub (.t 43) (kI 1)),iP 45 (.qB 1 (.t 41) none (some (.t 44)) none),iS 1 2 45]))))) (.ops [iP 46 (.aN .add (.t 24) (kI 1)),iM 24 46]))))))) (.seq (.ops [iH 47 (yA 4 4),iS 4 5 47]) .ret))))))
theorem UJ(k:Int)(H:Y):D Tryz.prog 64 [.sc (.int .u8 k)] H (.ret (.sc (.bool (eM k)))) H:=by
 refine aG (Nat.le_refl _) (aio (aA ?_))
 simp only[adT,ux]
 have hc:=yZ [2,4,6,22,25] (some []) k (by decide)
 rw[show Dv [2,4,6,22,25]=[.sc (.int .u8 2),.sc (.int .u8 4),.sc (.int .u8 6),.sc (.int .u8 22),.sc (.int .u8 25)] from rfl] at hc
 refine aw ?_
 refine ae (hc _) ?_
 refine aw ?_
 exact aq .refl (Dy k)
theorem Mx(l:List Nd)(hz:Nd.ay l≤1000000)(ih:∀a∈l,∀(b:Nd)(H:Y),D Tryz.prog 34 [dZ a none,dZ b none] H (.ret (.sc (.bool (jX a b)))) H)(m:List Nd)(ro l5:Option (List AV))(H:Y):D Tryz.prog 122 [.am 4 (bh l) ro,.am 4 (bh m) l5,.fn (.func 34) [] []] H (.ret (.sc (.bool (jY l m)))) H:=by
 have hl:=Nd.fZ l
 have cl:cr Tryz.prog 34=true:=by kernel_rfl
 refine aG (Nat.le_refl _) (afF (aA ?_))
 simp only[X6,ux]
 refine Z fun L hL=>?_
 refine aw ?_
 refine hL _ _ ?_
 clear hL
 refine Z fun L hL=>?_
 by_cases c1:l.length=m.length
 rotate_left
 ·have c2:¬(l.length:Int)=m.length:=by omega
  refine aI (ak @aH c2) ?_
  exact aq .refl (zb c1).symm
 have c2:(l.length:Int)=m.length:=by omega
 refine aI (ak @aH c2) ?_
 refine hL _ _ ?_
 clear hL
 refine Z fun L hL=>?_
 refine aI @aH ?_
 refine aZ (fun ts F=>∃k:Nat,(k≤l.length∧∀j,j<k→jX (aE l j) (aE m j)=true)∧Over H F∧Fr (some (.am 4 (bh l) ro)::some (.am 4 (bh m) l5)::some (.fn (.func 34) [] [])::none::none::none::some (.sc (.bool false))::ir (some (.am 4 (bh l) ro)::some (.sc (.int .i64 l.length))::some (.sc (.int .i64 k))::none::none::fg (ir []))) ts) (fun ts _=>l.length-(aM (ts.getD 17 .top)).toNat) ?_ ?_
 ·exact ⟨0,⟨Nat.zero_le _,fun j h=>absurd h (Nat.not_lt_zero _)⟩,.refl,by simp[Fr]⟩
 rintro ts F ⟨k,⟨hk,hp⟩,hF,aX⟩ L2 bM
 obtain ⟨js,rfl⟩:=aX.opened
 clear aX
 by_cases hd:k<l.length
 ·have d1:(k:Int)<l.length:=by omega
  have d2:(k:Int)<m.length:=by omega
  have hg:=dG hd
  have sr:=dG (l:=m) (k:=k) (by omega)
  have hi:=fun H=>ih _ (eJ hd) (aE m k) H
  rw[aQ,aQ] at hi
  refine df (kY d1 d2 hg sr @aH) ?_
  refine ⟨by omega,by omega,cl,ae (hi _) ?_⟩
  cases e1:jX (aE l k) (aE m k)
  ·refine aw ?_
   exact aq (.cons (.cons hF)) (LC c1 hd e1).symm
  refine aw ?_
  refine bM _ _ ⟨k+1,⟨by omega,fun j hj=>?_⟩,.cons (.cons hF),by simp[Fr]⟩ (by simp[aM,mk];omega)
  rcases Nat.lt_succ_iff_lt_or_eq.1 hj with h'|rfl
  ·exact hp j h'
  ·exact e1
 ·have d1:¬(k:Int)<l.length:=by omega
  refine df d1 ?_
  refine hL _ _ ?_
  clear hL
  refine fh ?_
  exact aq hF (LD c1 fun j hj=>hp j (by omega)).symm
theorem ach(a:Nd):∀(hz:a.size≤1000000)(b:Nd)(ro l5:Option (List AV))(H:Y),D Tryz.prog 34 [dZ a ro,dZ b l5] H (.ret (.sc (.bool (jX a b)))) H:=by
 induction a using Nd.ind with
 |_ a ih =>
  intro hz b ro l5 H
  have hs:=Nd.size_eq a
  have hk:=fun H=>Mx a.kids (by omega) (fun x hx b H=>ih x hx (by have:=Nd.pf hx;omega) b none none H) b.kids ro l5 H
  have he:∀H,D Tryz.prog 65 [.am 4 (bh a.kids) ro,.am 4 (bh b.kids) l5,.fn (.func 34) [] []] H (.ret (.sc (.bool (jY a.kids b.kids)))) H:=fun H=>by
   refine aG (Nat.le_refl _) (air (aA ?_))
   simp only[adW,ux]
   refine aw ?_
   refine ae (hk _) ?_
   refine aw ?_
   exact aq .refl rfl
  have hq:=GR a b
  rw[aQ,aQ]
  refine aG (Nat.le_refl _) (ain (aA ?_))
  simp only[adS,ux]
  refine Z fun L hL=>?_
  refine aw ?_
  refine hL _ _ ?_
  clear hL
  refine Z fun L hL=>?_
  by_cases c1:a.kind=b.kind
  rotate_left
  ·refine aI c1 ?_
   refine hL _ _ ?_
   clear hL
   refine aw ?_
   exact aq (.cons (.cons .refl)) (by rw[hq];simp[c1])
  have CT:=decide_eq_true c1
  by_cases c3:a.num=b.num
  rotate_left
  ·refine aI (ak CT c3) ?_
   refine hL _ _ ?_
   clear hL
   refine aw ?_
   exact aq (.cons (.cons .refl)) (by rw[hq];simp[c3])
  have PL:=decide_eq_true c3
  refine aI (ak CT PL) ?_
  refine ae (UJ _ _) ?_
  cases cn:eM a.kind
  ·by_cases c2:a.text=b.text
   rotate_left
   ·refine aI (ak cn c2) ?_
    refine hL _ _ ?_
    clear hL
    refine aw ?_
    exact aq (.cons (.cons .refl)) (by rw[hq];simp[cn,c2])
   ·have PZ:=decide_eq_true c2
    refine aI (ak cn PZ) ?_
    refine ae (he _) ?_
    refine aw ?_
    refine hL _ _ ?_
    clear hL
    refine aw ?_
    exact aq (.cons (.cons .refl)) (by rw[hq];simp[cn,c1,c2,c3])
  ·refine aI cn ?_
   refine ae (he _) ?_
   refine aw ?_
   refine hL _ _ ?_
   clear hL
   refine aw ?_
   exact aq (.cons (.cons .refl)) (by rw[hq,cn];simp[c1,c3])
mutual
theorem P9(H:Y):∀t:Nd,View H (eu t) (eu t)
 |⟨k,s,n,l⟩=>by
  simp only[eu]
  exact .agg (.cons .sc (.cons .sc (.cons .sc (.cons (.am (xH H l)) .nil))))
theorem xH(H:Y):∀l:List Nd,cJ H (bh l) (bh l)
 |[]=>.nil
 |t::r=>by
  simp only[bh]
  exact .cons (P9 H t) (xH H r)
end
theorem iC(t:Nd)(ro:Option (List AV))(H:Y):View H (dZ t ro) (eu t):=by
 rw[ew,aQ]
 exact .agg (.cons .sc (.cons .sc (.cons .sc (.cons (.am (xH H t.kids)) .nil))))
theorem xJ(n:Nd)(hw:n.wt≤500000)(hs:n.size≤500000)(ro:Option (List AV))(H:Y):D Tryz.prog 33 [dZ n ro] H (.ret (.sc (.bool (iA n)))) H:=by
 have kg:=fun H=>Mr n hw hs (iC n ro H)
 rw[aQ] at kg ⊢
 unfold Eh at kg
 refine aG (Nat.le_refl _) (aim (aA ?_))
 simp only[adR,ux]
 refine Z fun L hL=>?_
 refine aw ?_
 refine hL _ _ ?_
 clear hL
 refine Z fun L hL=>?_
 by_cases c1:n.kind=1
 rotate_left
 ·refine aI c1 ?_
  refine hL _ _ ?_
  clear hL
  refine aw ?_
  exact aq (.cons .refl) (by simp[iA,c1])
 rw[c1] at kg
 refine aI c1 ?_
 refine ae (kg _) ?_
 refine aw ?_
 refine hL _ _ ?_
 clear hL
 refine aw ?_
 exact aq (.cons .refl) (by simp[iA,c1])
def dS(l:List (List Int))(k:Nat):List Int:=l.getD k []
theorem dg(l:List (List Int)):(bc l).length=l.length:=by simp[bc]
theorem nC{l:List (List Int)}{k:Nat}(h:k<l.length):(bc l).getD k .top = .am 1 (aK (dS l k)) none:=by simp[bc,dS,List.getD,h]
theorem vI{l:List (List Int)}{k:Nat}(h:k<l.length):dS l k=l[k]:=by simp[dS,List.getD,h]
theorem Hw{a b:List (List Int)}(h:a.length=b.length)(e:∀j,j<a.length→dS a j=dS b j):a=b:=by
 refine List.ext_getElem h fun i h1 h2=>?_
 have:=e i h1
 rwa [vI h1,vI h2] at this
theorem Qa(l m:List (List Int))(ro l5:Option (List AV))(hz:l.length≤1000000)(hp:∀k,k<l.length→(dS l k).length≤1000000)(H:Y):D Tryz.prog 63 [.am 1 (bc l) ro,.am 1 (bc m) l5,.fn (.func 31) [] []] H (.ret (.sc (.bool (decide (l=m))))) H:=by
 have cl:cr Tryz.prog 31=true:=by kernel_rfl
 refine aG (Nat.le_refl _) (ait (aA ?_))
 simp only[adY,ux]
 refine Z fun L hL=>?_
 refine aw ?_
 refine hL _ _ ?_
 clear hL
 refine Z fun L hL=>?_
 by_cases c1:l.length=m.length
 rotate_left
 ·have c2:¬(l.length:Int)=m.length:=by omega
  refine aI (ak @dg c2) ?_
  exact aq .refl (by simp;intro e;exact c1 (by rw[e]))
 have c2:(l.length:Int)=m.length:=by omega
 refine aI (ak @dg c2) ?_
 refine hL _ _ ?_
 clear hL
 refine Z fun L hL=>?_
 refine aI @dg ?_
 refine aZ (fun ts F=>∃k:Nat,(k≤l.length∧∀j,j<k→dS l j=dS m j)∧F=H∧Fr (some (.am 1 (bc l) ro)::some (.am 1 (bc m) l5)::some (.fn (.func 31) [] [])::none::none::none::some (.sc (.bool false))::ir (some (.am 1 (bc l) ro)::some (.sc (.int .i64 l.length))::some (.sc (.int .i64 k))::none::none::fg (ir []))) ts) (fun ts _=>l.length-(aM (ts.getD 17 .top)).toNat) ?_ ?_
 ·exact ⟨0,⟨Nat.zero_le _,fun j h=>absurd h (Nat.not_lt_zero _)⟩,rfl,by simp[Fr]⟩
 rintro ts F ⟨k,⟨hk,j7⟩,rfl,aX⟩ L2 bM
 obtain ⟨js,rfl⟩:=aX.opened
 clear aX
 by_cases hd:k<l.length
 ·have d1:(k:Int)<l.length:=by omega
  have d2:(k:Int)<m.length:=by omega
  have hg:=nC hd
  have sr:=nC (l:=m) (k:=k) (by omega)
  have hi:=fun H=>wi (dS l k) (dS m k) none none H (by have:=hp k hd;omega)
  refine df (kY d1 d2 hg sr @dg) ?_
  refine ⟨by omega,by omega,cl,ae (hi _) ?_⟩
  by_cases e1:dS l k=dS m k
  ·refine aI e1 ?_
   refine bM _ _ ⟨k+1,⟨by omega,fun j hj=>?_⟩,rfl,by simp[Fr]⟩ (by simp[aM,mk];omega)
   rcases Nat.lt_succ_iff_lt_or_eq.1 hj with h'|rfl
   ·exact j7 j h'
   ·exact e1
  ·refine aI e1 ?_
   exact aq .refl (by simp;intro e;exact e1 (by rw[e]))
 ·have d1:¬(k:Int)<l.length:=by omega
  refine df d1 ?_
  refine hL _ _ ?_
  clear hL
  refine fh ?_
  have H8:l=m:=Hw c1 fun j hj=>j7 j (by omega)
  exact aq .refl (by simp[H8])
theorem ZG(l m:List (List Int))(ro l5:Option (List AV))(hz:l.length≤1000000)(hp:∀k,k<l.length→(dS l k).length≤1000000)(H:Y):D Tryz.prog 32 [.am 1 (bc l) ro,.am 1 (bc m) l5,.fn (.func 31) [] []] H (.ret (.sc (.bool (decide (l=m))))) H:=by
 refine aG (Nat.le_refl _) (aip (aA ?_))
 simp only[adU,ux]
 refine aw ?_
 refine ae (Qa l m ro l5 hz hp _) ?_
 refine aw ?_
 exact aq .refl rfl
def Jb(b:ky):Prop:=b.1.length≤1000000∧b.2.2.length≤1000000∧∀k,k<b.2.2.length→(dS b.2.2 k).length≤1000000
theorem ZH(x y:ky)(hx:Jb x)(H:Y):D Tryz.prog 30 [gy x,gy y] H (.ret (.sc (.bool (kE x y)))) H:=by
 have h1:=fun H=>wi x.1 y.1 none none H (by have:=hx.1;omega)
 have h2:=fun H=>ZG x.2.2 y.2.2 none none hx.2.1 hx.2.2 H
 unfold gy
 refine aG (Nat.le_refl _) (aij (aA ?_))
 simp only[adO,ux]
 refine Z fun L hL=>?_
 refine aw ?_
 refine hL _ _ ?_
 clear hL
 refine Z fun L hL=>?_
 refine aw ?_
 refine ae (h1 _) ?_
 by_cases e1:x.1=y.1
 ·refine aI e1 ?_
  refine ae (h2 _) ?_
  refine aw ?_
  refine hL _ _ ?_
  clear hL
  refine aw ?_
  exact aq (.cons (.cons .refl)) (by simp[kE,e1])
 ·refine aI e1 ?_
  refine hL _ _ ?_
  clear hL
  refine aw ?_
  exact aq (.cons (.cons .refl)) (by simp[kE,e1])
def ky.none:ky:=([],⟨#[]⟩,[])
def cS(l:List ky)(k:Nat):ky:=l.getD k ky.none
theorem lY{l:List ky}{k:Nat}(h:k<l.length):(l.map gy).getD k .top = .agg [.am 1 (aK (cS l k).1) none,.sc (.string (cS l k).2.1),.am 1 (bc (cS l k).2.2) none]:=by simp[cS,List.getD,h,gy]
theorem oc:∀{a b:List ky},a.length=b.length→(jb a b=true↔∀j,j<a.length→kE (cS a j) (cS b j)=true)
 |[],[],_=>by simp[jb]
 |[],_::_,h=>by simp at h
 |_::_,[],h=>by simp at h
 |x::r,y::s,h=>by
  simp only[jb,Bool.and_eq_true]
  rw[oc (by simpa using h)]
  constructor
  ·rintro ⟨h1,h2⟩ j hj
   cases j with
   |zero=>simpa [cS] using h1
   |succ j=>simpa [cS] using h2 j (by simpa using hj)
  ·intro h
   exact ⟨by simpa [cS] using h 0 (by simp),fun j hj=>by simpa [cS] using h (j+1) (by simpa using hj)⟩
theorem AU:∀{a b:List ky},¬a.length=b.length→jb a b=false
 |[],[],h=>absurd rfl h
 |[],_::_,_=>by simp[jb]
 |_::_,[],_=>by simp[jb]
 |a::r,b::q,h=>by
  simp only[jb,Bool.and_eq_false_iff]
  exact .inr (AU (by simpa using h))
theorem Qb(l m:List ky)(ro l5:Option (List AV))(hz:l.length≤1000000)(hp:∀k,k<l.length→Jb (cS l k))(H:Y):D Tryz.prog 66 [.am 3 (l.map gy) ro,.am 3 (m.map gy) l5,.fn (.func 30) [] []] H (.ret (.sc (.bool (jb l m)))) H:=by
 have cl:cr Tryz.prog 30=true:=by kernel_rfl
 have ef:∀l:List ky,(l.map gy).length=l.length:=fun l=>by simp
 refine aG (Nat.le_refl _) (aiu (aA ?_))
 simp only[adZ,ux]
 refine Z fun L hL=>?_
 refine aw ?_
 refine hL _ _ ?_
 clear hL
 refine Z fun L hL=>?_
 by_cases c1:l.length=m.length
 rotate_left
 ·have c2:¬(l.length:Int)=m.length:=by omega
  refine aI (ak ef c2) ?_
  exact aq .refl (AU c1).symm
 have c2:(l.length:Int)=m.length:=by omega
 refine aI (ak ef c2) ?_
 refine hL _ _ ?_
 clear hL
 refine Z fun L hL=>?_
 refine aI ef ?_
 refine aZ (fun ts F=>∃k:Nat,(k≤l.length∧∀j,j<k→kE (cS l j) (cS m j)=true)∧Over H F∧Fr (some (.am 3 (l.map gy) ro)::some (.am 3 (m.map gy) l5)::some (.fn (.func 30) [] [])::none::none::none::some (.sc (.bool false))::ir (some (.am 3 (l.map gy) ro)::some (.sc (.int .i64 l.length))::some (.sc (.int .i64 k))::none::none::fg (ir []))) ts) (fun ts _=>l.length-(aM (ts.getD 17 .top)).toNat) ?_ ?_
 ·exact ⟨0,⟨Nat.zero_le _,fun j h=>absurd h (Nat.not_lt_zero _)⟩,.refl,by simp[Fr]⟩
 rintro ts F ⟨k,⟨hk,j7⟩,hF,aX⟩ L2 bM
 obtain ⟨js,rfl⟩:=aX.opened
 clear aX
 by_cases hd:k<l.length
 ·have d1:(k:Int)<l.length:=by omega
  have d2:(k:Int)<m.length:=by omega
  have hg:=lY hd
  have sr:=lY (l:=m) (k:=k) (by omega)
  have hi:=fun H=>ZH (cS l k) (cS m k) (hp k hd) H
  unfold gy at hi
  refine df (kY d1 d2 hg sr ef) ?_
  refine ⟨by omega,by omega,cl,ae (hi _) ?_⟩
  cases e1:kE (cS l k) (cS m k)
  ·refine aw ?_
   exact aq (.cons (.cons hF)) (by
    cases h2:jb l m
    ·rfl
    ·rw[(oc c1).1 h2 k hd] at e1;cases e1)
  refine aw ?_
  refine bM _ _ ⟨k+1,⟨by omega,fun j hj=>?_⟩,.cons (.cons hF),by simp[Fr]⟩ (by simp[aM,mk];omega)
  rcases Nat.lt_succ_iff_lt_or_eq.1 hj with h'|rfl
  ·exact j7 j h'
  ·exact e1
 ·have d1:¬(k:Int)<l.length:=by omega
  refine df d1 ?_
  refine hL _ _ ?_
  clear hL
  refine fh ?_
  exact aq hF ((oc c1).2 fun j hj=>j7 j (by omega)).symm
theorem UK(t:Nd):∀(p:List Int)(b:Pl),b∈bI t p→b.p.length<p.length+t.size:=by
 induction t using Nd.ind with
 |_ t ih =>
  intro p b hb
  rw[cR] at hb
  rcases List.mem_cons.1 hb with rfl|hb
  ·have:=t.size_pos;simp only;omega
  ·obtain ⟨j,u,⟨_,h2⟩,h3⟩:=eS _ _ _ _ hb
   have hu:=List.mem_of_getElem? h2
   have:=ih u hu _ b h3
   have:=Nd.pf hu
   simp at *
   omega
theorem su(n:Nd):(bQ n).length≤n.size:=by
 rw[ju]
 unfold eC
 split
 ·rw[List.length_map]
  refine Nat.le_trans (List.length_filter_le _ _) ?_
  rw[List.length_range,eL]
  exact Nat.le_refl _
 ·simp
theorem zB(n:Nd)(hs:n.size≤1000000):∀k,k<(bQ n).length→Jb (cS (bQ n) k):=by
 rw[ju]
 intro k hk
 have hm:cS (eC n) k∈eC n:=by
  have:cS (eC n) k=(eC n)[k]:=by simp[cS,List.getD,hk]
  rw[this]
  exact List.getElem_mem _
 generalize cS (eC n) k=b at hm ⊢
 unfold eC at hm
 split at hm
 ·obtain ⟨i,hi,rfl⟩:=List.mem_map.1 hm
  have hi2:=List.mem_range.1 (List.mem_filter.1 hi).1
  have dY:∀u∈bI n [],u.p.length≤1000000:=fun u hu=>by
   have:=UK n [] u hu
   simp at this
   omega
  refine ⟨?_,?_,fun j hj=>?_⟩
  ·have:au (bI n []) i=(bI n [])[i]:=by simp[au,List.getD,hi2]
   rw[this]
   exact dY _ (List.getElem_mem _)
  ·unfold e8
   rw[List.length_map]
   refine Nat.le_trans (List.length_filter_le _ _) ?_
   rw[eL]
   exact hs
  ·rw[vI hj]
   have:=List.getElem_mem hj
   simp only at this
   obtain ⟨u,hu,e⟩:=List.mem_map.1 this
   rw[←e]
   exact dY u (List.mem_filter.1 hu).1
 ·simp at hm
theorem UL(H:Y)(a b:AV)(h:∀id,id<H.length→∃x,Y.find H id=some x∧tv x):∀id,id<(some (⟨4,[a],true,25⟩:aP)::some ⟨4,[b],true,25⟩::H).length→∃x,Y.find (some (⟨4,[a],true,25⟩:aP)::some ⟨4,[b],true,25⟩::H) id=some x∧tv x:=by
 intro id hid
 simp only[List.length_cons] at hid
 by_cases c:id=H.length+1
 ·exact ⟨_,aJ (by simpa using c),by simp,by simp,by simp,by simp⟩
 by_cases c2:id=H.length
 ·exact ⟨_,by rw[ai (by simp;omega),aJ c2],by simp,by simp,by simp,by simp⟩
 ·obtain ⟨x,h1,h2⟩:=h id (by omega)
  exact ⟨x,by rw[ai (by simp;omega),ai (by omega),h1],h2⟩
theorem ZI(a b:Nd)(hwa:a.wt≤500000)(BO:a.size≤500000)(hwb:b.wt≤500000)(HZ:b.size≤500000)(ra rb:Option (List AV))(H:Y)(AR:∀id,id<H.length→∃x,Y.find H id=some x∧tv x):D Tryz.prog 10 [dZ a ra,dZ b rb] H (.ret (.sc (.bool (gb a b)))) H:=by
 have xK:=fun H=>xJ a hwa BO ra H
 have hpb:=fun H=>xJ b hwb HZ rb H
 have lM:=fun H=>ach a (by omega) b ra rb H
 have hba:=fun H h=>xG a hwa BO ra (iC a ra) H h
 have Kg:=fun H h=>xG b hwb HZ rb (iC b rb) H h
 have hee:∀H,D Tryz.prog 35 [.am 3 ((bQ a).map gy) none,.am 3 ((bQ b).map gy) none,.fn (.func 30) [] []] H (.ret (.sc (.bool (jb (bQ a) (bQ b))))) H:=fun H=>by
  have hk:=fun H=>Qb (bQ a) (bQ b) none none (by have:=su a;omega) (zB a (by omega)) H
  refine aG (Nat.le_refl _) (aiq (aA ?_))
  simp only[adV,ux]
  refine aw ?_
  refine ae (hk _) ?_
  refine aw ?_
  exact aq .refl rfl
 have wv:=UL H (dZ b rb) (dZ a ra) AR
 have ad3:=hba _ wv
 have ad4:=Kg _ wv
 rw[aQ,aQ] at ad3 ad4
 clear hba Kg
 rw[aQ] at xK hpb
 rw[aQ,aQ] at lM
 rw[aQ,aQ]
 refine aG (Nat.le_refl _) (aii (aA ?_))
 simp only[adN,ux]
 refine Z fun L hL=>?_
 refine aw ?_
 refine hL _ _ ?_
 clear hL
 refine Z fun L hL=>?_
 refine aw ?_
 refine hL _ _ ?_
 clear hL
 refine Z fun L hL=>?_
 cases c1:iA a
 ·rw[c1] at xK
  refine aw ?_
  refine aL (xK _) ?_
  refine aw ?_
  refine hL _ _ ?_
  clear hL
  refine aw ?_
  exact aq (.cons (.cons .refl)) (by simp[gb,c1])
 rw[c1] at xK
 cases c2:iA b
 ·rw[c2] at hpb
  refine aw ?_
  refine aL (xK _) ?_
  refine aw ?_
  refine aL (hpb _) ?_
  refine aw ?_
  refine hL _ _ ?_
  clear hL
  refine aw ?_
  exact aq (.cons (.cons .refl)) (by simp[gb,c2])
 rw[c2] at hpb
 cases c3:jX a b
 ·rw[c3] at lM
  refine aw ?_
  refine aL (xK _) ?_
  refine aw ?_
  refine aL (hpb _) ?_
  refine aw ?_
  refine aL (lM _) ?_
  refine aw ?_
  refine hL _ _ ?_
  clear hL
  refine aw ?_
  exact aq (.cons (.cons .refl)) (by simp[gb,c3])
 rw[c3] at lM
 refine aw ?_
 refine aL (xK _) ?_
 refine aw ?_
 refine aL (hpb _) ?_
 refine aw ?_
 refine aL (lM _) ?_
 refine aw ?_
 refine aL ad3 ?_
 refine aw ?_
 refine aL ad4 ?_
 refine aw ?_
 refine aL (hee _) ?_
 refine aw ?_
 refine hL _ _ ?_
 clear hL
 refine aw ?_
 exact aq (.cons (.cons .refl)) (by simp[gb,c1,c2,c3])
theorem Ek(a b:Nd)(hwa:a.wt≤500000)(BO:a.size≤500000)(hwb:b.wt≤500000)(HZ:b.size≤500000){x y:AV}{H:Y}(hx:View H x (eu a))(hy:View H y (eu b)):D Tryz.prog 10 [x,y] H (.ret (.sc (.bool (gb a b)))) H:=by
 have h:=ZI a b hwa BO hwb HZ none none [] fun id h=>by simp at h
 rw[kx,kx] at h
 exact s9 (.cons hx (.cons hy .nil)) .sc h
def ad5:IC:=(.seq (.ops [iH 2 (.box 4 25 (.t 0)),iH 3 (.box 4 25 (.t 1)),iP 4 (.mv kF)]) (.seq (.seq (.ops [iH 8 (yA 4 2),iH 9 (.call 36 [(.t 8)]),iP 10 (xN 9),iM 11 10,gH 12 11 false (yA 4 3),gH 13 11 false (.call 36 [(.t 12)]),gP 14 11 false (xN 13),iP 15 (.pick (.t 11) kT (.t 14)),iM 16 15,gH 17 16 false (yA 4 2),gH 18 16 false (yA 4 3),gH 19 16 false (yC 37 17 18),gP 20 16 false (xN 19),iP 21 (.pick (.t 16) kT (.t 20))]) (.cond (.t 21) (.seq (.ops [iP 4 (.mv kF)]) .ret) .skip)) (.seq (.di [iH 22 (yA 4 2),iH 23 (.call 21 [(.t 22)]),iH 24 (yA 4 3),iH 25 (.call 21 [(.t 24)]),iM 5 23,iM 6 25] [[],[0],[],[2,1,0],[1,0,3,2],[3,2,1,0,4]]) (.seq (.seq (.ops [iM 26 5,iP 27 (xL 26),iM 28 6,iP 29 (xL 28),iP 30 (xB .neq 27 29)]) (.cond (.t 30) (.seq (.ops [iP 4 (.mv kF)]) .ret) .skip)) (.seq (.seq (.ops [iP 7 (xI 0)]) (.block 0 (.loop (.seq (.seq (.ops [iM 31 7,iM 32 5,iP 33 (xL 32),iP 34 (xB .lss 31 33)]) (.cond (.t 34) .skip (.exit 0))) (.seq (.block 1 (.seq (.di [iM 37 5,iM 38 7,iP 39 (xA 3 37 38),iP 40 (.an 0 (.t 39)),iH 41 (yD 1 40),iM 42 6,iM 43 7,iP 44 (xA 3 42 43),iP 45 (.an 0 (.t 44)),iH 46 (yD 1 45),iH 47 (yC 26 41 46),iP 48 (xN 47),iM 49 48,gM 50 49 false 5,gM 51 49 false 7,gP 52 49 false (xA 3 50 51),gP 53 49 false (.an 2 (.t 52)),gH 54 49 false (yD 1 53),gM 55 49 false 6,gM 56 49 false 7,gP 57 49 false (xA 3 55 56),gP 58 49 false (.an 2 (.t 57)),gH 59 49 false (yD 1 58),gH 60 49 false (yC 27 54 59),gP 61 49 false (xN 60),iP 62 (.pick (.t 49) kT (.t 61))] [[],[],[0,1],[2,0,1],[3,2,0,1],[],[],[5,6],[7,5,6],[8,7,5,6],[4,3,2,0,1,9,8,7,5,6],[10,4,3,2,0,1,9,8,7,5,6],[11,10,4,3,2,0,1,9,8,7,5,6],[12,11,10,4,3,2,0,1,9,8,7,5,6],[12,11,10,4,3,2,0,1,9,8,7,5,6],[13,12,11,10,4,3,2,0,1,9,8,7,5,6,14],[15,13,12,11,10,4,3,2,0,1,9,8,7,5,6,14],[16,15,13,12,11,10,4,3,2,0,1,9,8,7,5,6,14],[12,11,10,4,3,2,0,1,9,8,7,5,6],[12,11,10,4,3,2,0,1,9,8,7,5,6],[18,12,11,10,4,3,2,0,1,9,8,7,5,6,19],[20,18,12,11,10,4,3,2,0,1,9,8,7,5,6,19],[21,20,18,12,11,10,4,3,2,0,1,9,8,7,5,6,19],[17,16,15,13,12,11,10,4,3,2,0,1,9,8,7,5,6,14,22,21,20,18,19],[23,17,16,15,13,12,11,10,4,3,2,0,1,9,8,7,5,6,14,22,21,20,18,19],[12,11,10,4,3,2,0,1,9,8,7,5,6,24,23,17,16,15,13,14,22,21,20,18,19]]) (.cond (.t 62) (.seq (.ops [iP 4 (.mv kF)]) .ret) .skip))) (.ops [iM 35 7,iP 36 (.aN .add (.t 35) (kI 1)),iM 7 36])))))) (.seq (.ops [iP 4 (.mv kT)]) .ret))))))
theorem aiy:Dk Tryz.prog 11 ad5 [(.t 4)] 63:=aV Tryz.func11
def ad6:IC:=(.seq (.ops [iH 3 (.box 4 25 (.t 0)),⟨(some 6),none,(.h (.alloc (.agg [(.sc (.int .u8 0)),(.sc (.string ⟨#[]⟩)),(.sc (.int .i64 0)),bG]) 25))⟩,iP 7 (xI 0)]) (.seq (.seq (.ops [iP 13 (.an 0 (.t 3)),iH 14 (yD 1 13),iP 15 (.aN .neq (.t 14) (.k (.sc (.int .u8 1)))),iM 16 15,gH 17 16 false (yA 4 3),gH 18 16 false (.call 46 [(.t 17)]),gP 19 16 false (xN 18),iP 20 (.pick (.t 16) kT (.t 19))]) (.cond (.t 20) (.seq (.ops [⟨(some 21),none,(.p (.build [(.sc (.int .u8 0)),(.sc (.string ⟨#[]⟩)),(.sc (.int .i64 0)),bG] []))⟩,iS 4 6 21,iP 7 (xI 4)]) .ret) .skip)) (.seq (.seq (.ops [iH 22 (yA 4 3),iH 23 (.call 36 [(.t 22)]),iP 24 (xN 23)]) (.cond (.t 24) (.seq (.ops [⟨(some 25),none,(.p (.build [(.sc (.int .u8 0)),(.sc (.string ⟨#[]⟩)),(.sc (.int .i64 0)),bG] []))⟩,iS 4 6 25,iP 7 (xI 122)]) .ret) .skip)) (.seq (.ops [iH 26 (yA 4 3),iH 27 (.call 21 [(.t 26)]),iM 8 27]) (.seq (.ops [iP 9 (xI (-1))]) (.seq (.seq (.ops [iP 10 (xI 0)]) (.block 0 (.loop (.seq (.seq (.ops [iM 28 10,iM 29 8,iP 30 (xL 29),iP 31 (xB .lss 28 30)]) (.cond (.t 31) .skip (.exit 0))) (.seq (.block 1 (.seq (.ops [iM 34 8,iM 35 10,iP 36 (xA 3 34 35),iP 37 (.an 0 (.t 36)),iH 38 (yD 1 37),iM 39 2,iH 40 (yC 26 38 39)]) (.cond (.t 40) (.ops [iM 41 10,iM 9 41]) .skip))) (.ops [iM 32 10,iP 33 (.aN .add (.t 32) (kI 1)),iM 10 33])))))) (.seq (.seq (.ops [iM 42 9,iP 43 (.aN .lss (.t 42) (kI 0))]) (.cond (.t 43) (.seq (.ops [⟨(some 44),none,(.p (.build [(.sc (.int .u8 0)),(.sc (.string ⟨#[]⟩)),(.sc (.int .i64 0)),bG] []))⟩,iS 4 6 44,iP 7 (xI 6)]) .ret) .skip)) (.seq (.seq (.ops [iM 45 1,iH 46 (.call 47 [(.t 45)]),iP 47 (xN 46)]) (.cond (.t 47) (.seq (.ops [⟨(some 48),none,(.p (.build [(.sc (.int .u8 0)),(.sc (.string ⟨#[]⟩)),(.sc (.int .i64 0)),bG] []))⟩,iS 4 6 48,iP 7 (xI 2)]) .ret) .skip)) (.seq (.ops [iH 49 (yA 4 3),iH 50 (.call 28 [(.t 49)]),iM 51 1,iM 52 2,iH 53 (.call 48 [(.t 50),(.t 51),(.t 52)]),⟨(some 11),none,(.h (.alloc (.agg [(.sc (.int .u8 0)),(.sc (.string ⟨#[]⟩)),(.sc (.int .i64 0)),bG]) 25))⟩,iS 4 11 53]) (.seq (.seq (.ops [iP 12 (xI 0)]) (.block 2 (.loop (.seq (.seq (.ops [iM 54 12,iM 55 8,iM 56 9,iP 57 (xA 3 55 56),iP 58 (.an 2 (.t 57)),iH 59 (yD 1 58),iP 60 (xL 59),iP 61 (xB .lss 54 60)]) (.cond (.t 61) .skip (.exit 2))) (.seq (.block 3 (.di [iH 64 (yA 4 11),iM 65 1,iM 66 8,iM 67 9,iP 68 (xA 3 66 67),iP 69 (.an 2 (.t 68)),iH 70 (yD 1 69),iM 71 12,iP 72 (xA 1 70 71),iH 73 (yD 1 72),iH 74 (.call 48 [(.t 64),(.t 65),(.t 73)]),iS 4 11 74] [[],[],[],[],[2,3],[4,2,3],[5,4,2,3],[],[6,5,4,2,3,7],[8,6,5,4,2,3,7],[0,1,9,8,6,5,4,2,3,7],[10,0,1,9,8,6,5,4,2,3,7]])) (.ops [iM 62 12,iP 63 (.aN .add (.t 62) (kI 1)),iM 12 63])))))) (.seq (.seq (.ops [iH 75 (yA 4 3),iH 76 (yA 4 11),iH 77 (yC 11 75 76),iP 78 (xN 77)]) (.cond (.t 78) (.seq (.ops [⟨(some 79),none,(.p (.build [(.sc (.int .u8 0)),(.sc (.string ⟨#[]⟩)),(.sc (.int .i64 0)),bG] []))⟩,iS 4 6 79,iP 7 (xI 120)]) .ret) .skip)) (.seq (.ops [iH 80 (yA 4 11),iS 4 6 80,iP 7 (xI 0)]) .ret))))))))))))
theorem aiz:Dk Tryz.prog 15 ad6 [(.c 6 4 true),(.t 7)] 81:=aV Tryz.func15
def ad7:IC:=(.seq (.ops [iH 2 (.box 4 25 (.t 0)),iH 3 (.box 4 25 (.t 1)),iP 4 (.mv kF)]) (.seq (.seq (.ops [iP 6 (.an 0 (.t 2)),iH 7 (yD 1 6),iP 8 (.an 0 (.t 3)),iH 9 (yD 1 8),iP 10 (xB .neq 7 9),iM 11 10,gP 12 11 false (.an 2 (.t 2)),gH 13 11 false (yD 1 12),gP 14 11 false (.an 2 (.t 3)),gH 15 11 false (yD 1 14),gP 16 11 false (xB .neq 13 15),iP 17 (.pick (.t 11) kT (.t 16)),iM 18 17,gP 19 18 false (.an 1 (.t 2)),gH 20 18 false (yD 1 19),gP 21 18 false (.an 1 (.t 3)),gH 22 18 false (yD 1 21),gP 23 18 false (xB .neq 20 22),gM 24 18 false 23,gP 25 24 true (.an 0 (.t 2)),gH 26 24 true (yD 1 25),gH 27 24 true (.call 67 [(.t 26)]),gP 28 24 true (xN 27),gP 29 18 false (.pick (.t 24) (.t 28) kF),iP 30 (.pick (.t 18) kT (.t 29)),iM 31 30,gP 32 31 false (.an 3 (.t 2)),gH 33 31 false (yD 1 32),gP 34 31 false (xL 33),gP 35 31 false (.an 3 (.t 3)),gH 36 31 false (yD 1 35),gP 37 31 false (xL 36),gP 38 31 false (xB .neq 34 37),iP 39 (.pick (.t 31) kT (.t 38))]) (.cond (.t 39) (.seq (.ops [iP 4 (.mv kF)]) .ret) .skip)) (.seq (.seq (.ops [iP 5 (xI 0)]) (.block 0 (.loop (.seq (.seq (.ops [iM 40 5,iP 41 (.an 3 (.t 2)),iH 42 (yD 1 41),iP 43 (xL 42),iP 44 (xB .lss 40 43)]) (.cond (.t 44) .skip (.exit 0))) (.seq (.block 1 (.seq (.di [iP 47 (.an 3 (.t 2)),iH 48 (yD 1 47),iM 49 5,iP 50 (xA 4 48 49),iH 51 (yA 4 50),iP 52 (.an 3 (.t 3)),iH 53 (yD 1 52),iM 54 5,iP 55 (xA 4 53 54),iH 56 (yA 4 55),iH 57 (yC 37 51 56),iP 58 (xN 57)] [[],[0],[],[1,0,2],[3,1,0,2],[],[5],[],[6,5,7],[8,6,5,7],[4,3,1,0,2,9,8,6,5,7],[10,4,3,1,0,2,9,8,6,5,7]]) (.cond (.t 58) (.seq (.ops [iP 4 (.mv kF)]) .ret) .skip))) (.ops [iM 45 5,iP 46 (.aN .add (.t 45) (kI 1)),iM 5 46])))))) (.seq (.ops [iP 4 (.mv kT)]) .ret))))
theorem aiA:Dk Tryz.prog 37 ad7 [(.t 4)] 59:=aV Tryz.func37
def ad8:IC:=(.seq (.ops [iP 2 (.mv kF)]) (.seq (.ops [iM 3 0,iP 4 (.aN .eql (.t 3) (.k (.sc (.int .u8 2)))),iM 5 4,gM 6 5 false 0,gP 7 5 false (.aN .eql (.t 6) (.k (.sc (.int .u8 4)))),iP 8 (.pick (.t 5) kT (.t 7)),iM 9 8,gM 10 9 false 0,gP 11 9 false (.aN .eql (.t 10) (.k (.sc (.int .u8 6)))),iP 12 (.pick (.t 9) kT (.t 11)),iM 13 12,gM 14 13 false 0,gP 15 13 false (.aN .eql (.t 14) (.k (.sc (.int .u8 22)))),iP 16 (.pick (.t 13) kT (.t 15)),iM 17 16,gM 18 17 false 0,gP 19 17 false (.aN .eql (.t 18) (.k (.sc (.int .u8 25)))),iP 20 (.pick (.t 17) kT (.t 19)),iM 2 20]) .ret))
theorem aiB:Dk Tryz.prog 67 ad8 [(.t 2)] 21:=aV Tryz.func67
def ad9:IC:=(.seq (.ops [iH 1 (.box 4 25 (.t 0)),iP 2 (.mv kF)]) (.seq (.ops [iP 3 (.an 0 (.t 1)),iH 4 (yD 1 3),iP 5 (.aN .eql (.t 4) (.k (.sc (.int .u8 1)))),iM 6 5,gH 7 6 true (yA 4 1),gH 8 6 true (.call 46 [(.t 7)]),iP 9 (.pick (.t 6) (.t 8) kF),iM 10 9,gH 11 10 true (yA 4 1),gH 12 10 true (.call 54 [(.t 11)]),gP 13 10 true (.field 0 1 false (.t 12)),gP 14 10 true (.aN .eql (.t 13) (kI 0)),iP 15 (.pick (.t 10) (.t 14) kF),iM 2 15]) .ret))
theorem aiC:Dk Tryz.prog 36 ad9 [(.t 2)] 16:=aV Tryz.func36
def ZJ:IC:=(.seq (.ops [iH 3 (.box 4 25 (.t 0)),⟨(some 6),none,(.h (.alloc (.agg [(.sc (.int .u8 0)),(.sc (.string ⟨#[]⟩)),(.sc (.int .i64 0)),bG]) 25))⟩]) (.seq (.ops [iH 8 (yA 4 3),⟨(some 7),none,(.h (.alloc (.agg [(.sc (.int .u8 0)),(.sc (.string ⟨#[]⟩)),(.sc (.int .i64 0)),bG]) 25))⟩,iS 4 7 8]) (.seq (.seq (.ops [iM 9 2,iP 10 (xL 9),iP 11 (.aN .eql (.t 10) (kI 0))]) (.cond (.t 11) (.seq (.ops [iM 12 1,iP 13 (.an 1 (.t 7)),iS 1 13 12]) (.seq (.ops [iH 14 (yA 4 7),iS 4 6 14]) .ret)) .skip)) (.seq (.ops [⟨(some 15),none,(.h (.ep 4 25 (.agg [(.sc (.int .u8 0)),(.sc (.string ⟨#[]⟩)),(.sc (.int .i64 0)),bG]) 0 []))⟩,iP 16 (.an 3 (.t 3)),iH 17 (yD 1 16),iH 18 (.ez 4 25 (.t 15) (.t 17)),iP 19 (.an 3 (.t 7)),iS 1 19 18]) (.seq (.di [iP 20 (.an 3 (.t 7)),iH 21 (yD 1 20),iM 22 2,iP 23 (.gm 1 (.t 22) (kI 0)),iH 24 (yD 1 23),iP 25 (.an 3 (.t 3)),iH 26 (yD 1 25),iM 27 2,iP 28 (.gm 1 (.t 27) (kI 0)),iH 29 (yD 1 28),iP 30 (xA 4 26 29),iH 31 (yA 4 30),iM 32 1,iM 33 2,iP 34 (.qB 1 (.t 33) (some (kI 1)) none none),iH 35 (.call 48 [(.t 31),(.t 32),(.t 34)]),iP 36 (xA 4 21 24),iS 4 36 35] [[],[0],[],[2],[3,2],[],[5],[],[7],[8,7],[6,5,9,8,7],[10,6,5,9,8,7],[],[],[13],[11,10,6,5,9,8,7,12,14,13],[1,0,4,3,2,5,6,7,8,9,10,11,12,13,14,15],[16,1,0,4,3,2,5,6,7,8,9,10,11,12,13,14,15]]) (.seq (.ops [iH 37 (yA 4 7),iS 4 6 37]) .ret))))))
theorem aea:Dk Tryz.prog 48 ZJ [(.c 6 4 true)] 38:=aV Tryz.func48
def aeb:IC:=(.seq (.ops [iP 4 (.mv kF)]) (.seq (.seq (.ops [iM 6 0,iP 7 (xL 6),iM 8 1,iP 9 (xL 8),iP 10 (xB .neq 7 9)]) (.cond (.t 10) (.seq (.ops [iP 4 (.mv kF)]) .ret) .skip)) (.seq (.seq (.ops [iP 5 (xI 0)]) (.block 0 (.loop (.seq (.seq (.ops [iM 11 5,iM 12 0,iP 13 (xL 12),iP 14 (xB .lss 11 13)]) (.cond (.t 14) .skip (.exit 0))) (.seq (.block 1 (.seq (.di [iM 17 0,iM 18 5,iP 19 (xA 1 17 18),iH 20 (yD 1 19),iM 21 1,iM 22 5,iP 23 (xA 1 21 22),iH 24 (yD 1 23),iH 25 (yC 26 20 24),iP 26 (xN 25)] [[],[],[0,1],[2,0,1],[],[],[4,5],[6,4,5],[3,2,0,1,7,6,4,5],[8,3,2,0,1,7,6,4,5]]) (.cond (.t 26) (.seq (.ops [iP 4 (.mv kF)]) .ret) .skip))) (.ops [iM 15 5,iP 16 (.aN .add (.t 15) (kI 1)),iM 5 16])))))) (.seq (.ops [iP 4 (.mv kT)]) .ret))))
theorem aiD:Dk Tryz.prog 27 aeb [(.t 4)] 27:=aV Tryz.func27
theorem Jc(l m:List (List Int))(ro l5:Option (List AV))(hz:l.length≤1000000)(hp:∀k,k<l.length→(dS l k).length≤1000000)(H:Y):D Tryz.prog 27 [.am 1 (bc l) ro,.am 1 (bc m) l5] H (.ret (.sc (.bool (decide (l=m))))) H:=by
 refine aG (Nat.le_refl _) (aiD (aA ?_))
 simp only[aeb,ux]
 refine Z fun L hL=>?_
 refine aw ?_
 refine hL _ _ ?_
 clear hL
 refine Z fun L hL=>?_
 by_cases c1:l.length=m.length
 rotate_left
 ·have c2:¬(l.length:Int)=m.length:=by omega
  refine aI (ak @dg c2) ?_
  exact aq .refl (by simp;intro e;exact c1 (by rw[e]))
 have c2:(l.length:Int)=m.length:=by omega
 refine aI (ak @dg c2) ?_
 refine hL _ _ ?_
 clear hL
 refine Z fun L hL=>?_
 refine Z fun L hL=>?_
 refine aI @dg ?_
 refine hL _ _ ?_
 clear hL
 refine aZ (fun ts F=>∃k:Nat,(k≤l.length∧∀j,j<k→dS l j=dS m j)∧F=H∧Fr (some (.am 1 (bc l) ro)::some (.am 1 (bc m) l5)::none::none::some (.sc (.bool false))::some (.sc (.int .i64 k))::none::fg (dL [])) ts) (fun ts _=>l.length-(aM (ts.getD 5 .top)).toNat) ?_ ?_
 ·exact ⟨0,⟨Nat.zero_le _,fun j h=>absurd h (Nat.not_lt_zero _)⟩,rfl,by simp[Fr]⟩
 rintro ts F ⟨k,⟨hk,j7⟩,rfl,aX⟩ L2 bM
 obtain ⟨js,rfl⟩:=aX.opened
 clear aX
 by_cases hd:k<l.length
 ·have d1:(k:Int)<l.length:=by omega
  have d2:(k:Int)<m.length:=by omega
  have hg:=nC hd
  have sr:=nC (l:=m) (k:=k) (by omega)
  have hi:=fun H=>oa (dS l k) (dS m k) none none H (by have:=hp k hd;omega)
  simp -implicitDefEqProofs (maxSteps:=99999999) (disch:=first|omega|(simp only[vl]<;>omega)) only[mk,vg,d1,d2,hg,sr,dg,va,vg,vs,vw,vk,simprocAttr]
  refine ⟨by omega,by omega,aL (hi _) ?_⟩
  by_cases e1:dS l k=dS m k
  ·refine aI e1 ?_
   refine bM _ _ ⟨k+1,⟨by omega,fun j hj=>?_⟩,rfl,by simp[Fr]⟩ (by simp[aM,mk];omega)
   rcases Nat.lt_succ_iff_lt_or_eq.1 hj with h'|rfl
   ·exact j7 j h'
   ·exact e1
  ·refine aI e1 ?_
   exact aq .refl (by simp;intro e;exact e1 (by rw[e]))
 ·have d1:¬(k:Int)<l.length:=by omega
  refine df (ak d1 @dg) ?_
  clear bM
  refine hL _ _ ?_
  clear hL
  refine aw ?_
  have H8:l=m:=Hw c1 fun j hj=>j7 j (by omega)
  exact aq .refl (by simp[H8])
theorem UM(k:Int)(H:Y):D Tryz.prog 67 [.sc (.int .u8 k)] H (.ret (.sc (.bool (eM k)))) H:=by
 refine aG (Nat.le_refl _) (aiB (aA ?_))
 simp only[ad8,ux]
 by_cases c2:k=2
 ·subst c2
  refine aw ?_
  exact aq .refl rfl
 by_cases c4:k=4
 ·subst c4
  refine aw ?_
  exact aq .refl rfl
 by_cases c6:k=6
 ·subst c6
  refine aw ?_
  exact aq .refl rfl
 by_cases qG:k=22
 ·subst qG
  refine aw ?_
  exact aq .refl rfl
 by_cases qF:k=25
 ·subst qF
  refine aw ?_
  exact aq .refl rfl
 ·refine aI (kY c2 c4 c6 qG qF) ?_
  exact aq .refl (by simp[eM,c2,c4,c6,qG,qF])
theorem ZK(a:Nd):∀(hz:a.size≤1000000)(b:Nd)(ro l5:Option (List AV))(H:Y),D Tryz.prog 37 [dZ a ro,dZ b l5] H (.ret (.sc (.bool (jX a b)))) H:=by
 induction a using Nd.ind with
 |_ a ih =>
  intro hz b ro l5 H
  have hs:=Nd.size_eq a
  have hl:=Nd.fZ a.kids
  have hq:=GR a b
  rw[aQ,aQ]
  refine aG (Nat.le_refl _) (aiA (aA ?_))
  simp only[ad7,ux]
  refine Z fun L hL=>?_
  refine aw ?_
  refine hL _ _ ?_
  clear hL
  refine Z fun L hL=>?_
  by_cases c1:a.kind=b.kind
  rotate_left
  ·refine aI c1 ?_
   exact aq (.cons (.cons .refl)) (by rw[hq];simp[c1])
  by_cases c3:a.num=b.num
  rotate_left
  ·refine aI (ak c1 c3) ?_
   exact aq (.cons (.cons .refl)) (by rw[hq];simp[c3])
  have rest:∀(hnt:(eM a.kind|| decide (a.text=b.text))=true),jX a b=jY a.kids b.kids:=fun hnt=>by rw[hq,hnt];simp[c1,c3]
  have fin:∀(ts:List AV)(F0:Y)(a1 a2 a3 b1 b2 b3:AV),a.kids.length=b.kids.length→jX a b=jY a.kids b.kids→Fr (none::none::some (.ptr 4 H.length 0 0)::some (.ptr 4 (H.length+1) 0 0)::some (.sc (.bool false))::none::none::fg (dL (bf []))) ts→Y.find F0 H.length=some ⟨4,[.agg [a1,a2,a3,.am 4 (bh a.kids) ro]],true,25⟩→Y.find F0 (H.length+1)=some ⟨4,[.agg [b1,b2,b3,.am 4 (bh b.kids) l5]],true,25⟩→Over H F0→L ts F0:=by
   intro ts F0 a1 a2 a3 b1 b2 b3 c5 lM aX hA hB hO
   obtain ⟨js,rfl⟩:=aX.opened
   clear aX
   refine hL _ _ ?_
   clear hL
   refine Z fun L hL=>?_
   refine Z fun L hL=>?_
   refine zG0 ?_
   refine hL _ _ ?_
   clear hL
   refine aZ (fun ts F=>∃k:Nat,(k≤a.kids.length∧∀j,j<k→jX (aE a.kids j) (aE b.kids j)=true)∧F=F0∧Fr (none::none::some (.ptr 4 H.length 0 0)::some (.ptr 4 (H.length+1) 0 0)::some (.sc (.bool false))::some (.sc (.int .i64 k))::none::fg (dL (bf []))) ts) (fun ts _=>a.kids.length-(aM (ts.getD 5 .top)).toNat) ?_ ?_
   ·exact ⟨0,⟨Nat.zero_le _,fun j h=>absurd h (Nat.not_lt_zero _)⟩,rfl,by simp[Fr]⟩
   rintro ts F ⟨k,⟨hk,j7⟩,Ei,aX⟩ L2 bM
   rw[Ei]
   obtain ⟨js,rfl⟩:=aX.opened
   clear aX
   by_cases hd:k<a.kids.length
   ·have d1:(k:Int)<a.kids.length:=by omega
    have d2:(k:Int)<b.kids.length:=by omega
    have hg:=dG hd
    have sr:=dG (l:=b.kids) (k:=k) (by omega)
    have hi:=fun H=>ih _ (eJ hd) (by have:=Nd.de (eJ hd);omega) (aE b.kids k) none none H
    rw[aQ,aQ] at hi
    refine fB (mM d1 d2 hg sr hA hB @aH) ?_
    refine ⟨by omega,by omega,aL (hi _) ?_⟩
    cases e1:jX (aE a.kids k) (aE b.kids k)
    ·refine aw ?_
     exact aq hO (by rw[lM];exact (LC c5 hd e1).symm)
    refine aw ?_
    refine bM _ _ ⟨k+1,⟨by omega,fun j hj=>?_⟩,rfl,by simp[Fr]⟩ (by simp[aM,mk];omega)
    rcases Nat.lt_succ_iff_lt_or_eq.1 hj with h'|rfl
    ·exact j7 j h'
    ·exact e1
   ·have d1:¬(k:Int)<a.kids.length:=by omega
    refine fB (ei d1 hA hB @aH) ?_
    clear bM
    refine hL _ _ ?_
    clear hL
    refine aw ?_
    exact aq hO (by rw[lM];exact (LD c5 fun j hj=>j7 j (by omega)).symm)
  by_cases c2:a.text=b.text
  ·have lM:=rest (by simp[c2])
   by_cases c5:a.kids.length=b.kids.length
   rotate_left
   ·have c6:¬(a.kids.length:Int)=b.kids.length:=by omega
    refine aI (kY c1 c2 c3 c6 @aH) ?_
    exact aq (.cons (.cons .refl)) (by rw[lM];exact (zb c5).symm)
   have c6:(a.kids.length:Int)=b.kids.length:=by omega
   refine aI (kY c1 c2 c3 c6 @aH) ?_
   exact fin _ _ _ _ _ _ _ _ c5 lM (by simp[Fr]) (by rw[ai (by simp),aJ rfl]) (aJ (by simp)) (.cons (.cons .refl))
  ·have hnk:=fun H=>UM b.kind H
   cases cn:eM b.kind
   ·rw[cn] at hnk
    refine aI (gq c1 c2 c3) ?_
    refine ae (hnk _) ?_
    refine aw ?_
    exact aq (.cons (.cons .refl)) (by rw[hq,c1,cn];simp[c2])
   ·rw[cn] at hnk
    have lM:=rest (by rw[c1,cn];simp)
    by_cases c5:a.kids.length=b.kids.length
    rotate_left
    ·have c6:¬(a.kids.length:Int)=b.kids.length:=by omega
     refine aI (kY c1 c2 c3 c6 @aH) ?_
     refine ae (hnk _) ?_
     refine aI (ak c6 @aH) ?_
     exact aq (.cons (.cons .refl)) (by rw[lM];exact (zb c5).symm)
    have c6:(a.kids.length:Int)=b.kids.length:=by omega
    refine aI (kY c1 c2 c3 c6 @aH) ?_
    refine ae (hnk _) ?_
    refine aI (ak c6 @aH) ?_
    exact fin _ _ _ _ _ _ _ _ c5 lM (by simp[Fr]) (by rw[ai (by simp),aJ rfl]) (aJ (by simp)) (.cons (.cons .refl))
theorem vJ(n:Nd)(hs:n.size≤1000000)(ro:Option (List AV))(hro:∀ok,AV.gF ok ro)(H:Y):D Tryz.prog 36 [dZ n ro] H (.ret (.sc (.bool (iA n)))) H:=by
 have kg:=fun H=>Hv n ro hro hs H
 have lz:=fun H=>AP n ro (by omega) H
 rw[aQ] at kg lz ⊢
 unfold Eh at kg
 have j7:iA n=(decide (n.kind=1) && (bH n 40 && decide ((fp n).1=0))):=by
  unfold iA
  rw[vp]
  by_cases c:n.kind=1∧bH n 40=true
  ·simp[c]
  ·have:fp n=(4,0):=by unfold fp;rw[if_neg c]
   rw[this]
   by_cases c1:n.kind=1
   ·have:bH n 40=false:=by
     cases h:bH n 40
     ·rfl
     ·exact absurd ⟨c1,h⟩ c
    simp[this]
   ·simp[c1]
 rw[j7]
 refine aG (Nat.le_refl _) (aiC (aA ?_))
 simp only[ad9,ux]
 refine Z fun L hL=>?_
 refine aw ?_
 refine hL _ _ ?_
 clear hL
 refine Z fun L hL=>?_
 by_cases c1:n.kind=1
 rotate_left
 ·refine aI c1 ?_
  refine hL _ _ ?_
  clear hL
  refine aw ?_
  exact aq (.cons .refl) (by simp[c1])
 rw[c1] at kg lz
 cases c2:bH n 40
 ·refine aI c1 ?_
  refine ae (lz _) ?_
  rw[c2]
  refine aw ?_
  refine hL _ _ ?_
  clear hL
  refine aw ?_
  exact aq (.cons .refl) (by simp[c2])
 refine aI c1 ?_
 refine ae (lz _) ?_
 rw[c2]
 refine aw ?_
 refine ae (kg _) ?_
 refine aw ?_
 refine hL _ _ ?_
 clear hL
 refine aw ?_
 exact aq (.cons .refl) (by simp[c1,c2])
theorem UN(a b:Nd)(BO:a.size≤1000000)(HZ:b.size≤1000000)(ra rb:Option (List AV))(hra:∀ok,AV.gF ok ra)(Qc:∀ok,AV.gF ok rb)(H:Y):D Tryz.prog 11 [dZ a ra,dZ b rb] H (.ret (.sc (.bool (gb a b)))) H:=by
 have xK:=fun H=>vJ a BO ra hra H
 have hpb:=fun H=>vJ b HZ rb Qc H
 have lM:=fun H=>ZK a BO b ra rb H
 have hba:=fun H=>vH a ra hra BO H
 have Kg:=fun H=>vH b rb Qc HZ H
 rw[←ju] at hba Kg
 have hoa:=zB a BO
 have yI:=su a
 have hlb:=su b
 have ef:∀l:List ky,(l.map gy).length=l.length:=fun l=>by simp
 rw[aQ] at xK hpb hba Kg
 rw[aQ,aQ] at lM
 rw[aQ,aQ]
 refine aG (Nat.le_refl _) (aiy (aA ?_))
 simp only[ad5,ux]
 refine Z fun L hL=>?_
 refine aw ?_
 refine hL _ _ ?_
 clear hL
 refine Z fun L hL=>?_
 cases c1:iA a
 ·rw[c1] at xK
  refine aw ?_
  refine ae (xK _) ?_
  refine aw ?_
  exact aq (.cons (.cons .refl)) (by simp[gb,c1])
 rw[c1] at xK
 cases c2:iA b
 ·rw[c2] at hpb
  refine aw ?_
  refine ae (xK _) ?_
  refine aw ?_
  refine ae (hpb _) ?_
  refine aw ?_
  exact aq (.cons (.cons .refl)) (by simp[gb,c2])
 rw[c2] at hpb
 cases c3:jX a b
 ·rw[c3] at lM
  refine aw ?_
  refine ae (xK _) ?_
  refine aw ?_
  refine ae (hpb _) ?_
  refine aw ?_
  refine ae (lM _) ?_
  refine aw ?_
  exact aq (.cons (.cons .refl)) (by simp[gb,c3])
 rw[c3] at lM
 have hal:gb a b=jb (bQ a) (bQ b):=by simp[gb,c1,c2,c3]
 refine aw ?_
 refine ae (xK _) ?_
 refine aw ?_
 refine ae (hpb _) ?_
 refine aw ?_
 refine ae (lM _) ?_
 refine aw ?_
 refine hL _ _ ?_
 clear hL
 refine Z fun L hL=>?_
 refine aw ?_
 refine aL (hba _) ?_
 refine aw ?_
 refine aL (Kg _) ?_
 refine aw ?_
 refine hL _ _ ?_
 clear hL
 refine Z fun L hL=>?_
 generalize bQ a=l at *
 generalize bQ b=m at *
 by_cases c5:l.length=m.length
 rotate_left
 ·have c6:¬(l.length:Int)=m.length:=by omega
  refine aI (ak ef c6) ?_
  exact aq (.cons (.cons .refl)) (by rw[hal];exact (AU c5).symm)
 have c6:(l.length:Int)=m.length:=by omega
 refine aI (ak ef c6) ?_
 refine hL _ _ ?_
 clear hL
 refine Z fun L hL=>?_
 refine Z fun L hL=>?_
 refine aI ef ?_
 refine hL _ _ ?_
 clear hL
 refine aZ (fun ts F=>∃k:Nat,(k≤l.length∧∀j,j<k→kE (cS l j) (cS m j)=true)∧Over H F∧Fr (fg (some (.sc (.bool false))::some (.am 3 (l.map gy) none)::some (.am 3 (m.map gy) none)::some (.sc (.int .i64 k))::none::none::none::fg (dL (bf [])))) ts) (fun ts _=>l.length-(aM (ts.getD 7 .top)).toNat) ?_ ?_
 ·exact ⟨0,⟨Nat.zero_le _,fun j h=>absurd h (Nat.not_lt_zero _)⟩,.cons (.cons .refl),by simp[Fr]⟩
 rintro ts F ⟨k,⟨hk,j7⟩,hO,aX⟩ L2 bM
 obtain ⟨js,rfl⟩:=aX.opened
 clear aX
 by_cases hd:k<l.length
 ·have d1:(k:Int)<l.length:=by omega
  have d2:(k:Int)<m.length:=by omega
  have hg:=lY hd
  have sr:=lY (l:=m) (k:=k) (by omega)
  have hok:=hoa k hd
  have hi:=fun H=>oa (cS l k).1 (cS m k).1 none none H (by have:=hok.1;omega)
  have hj:=fun H=>Jc (cS l k).2.2 (cS m k).2.2 none none hok.2.1 hok.2.2 H
  have VT:kE (cS l k) (cS m k)=false→jb l m=false:=fun e=>by
   cases h2:jb l m
   ·rfl
   ·rw[(oc c5).1 h2 k hd] at e;cases e
  by_cases e1:(cS l k).1=(cS m k).1
  ·rw[decide_eq_true e1] at hi
   by_cases e2:(cS l k).2.2=(cS m k).2.2
   ·rw[decide_eq_true e2] at hj
    have e3:kE (cS l k) (cS m k)=true:=by simp[kE,e1,e2]
    refine fB (kY d1 d2 hg sr ef) ?_
    refine ⟨by omega,by omega,aL (hi _) ?_⟩
    refine fB (kY d1 d2 hg sr ef) ?_
    refine ⟨by omega,by omega,aL (hj _) ?_⟩
    refine aw ?_
    refine bM _ _ ⟨k+1,⟨by omega,fun j hj=>?_⟩,hO,by simp[Fr]⟩ (by simp[aM,mk];omega)
    rcases Nat.lt_succ_iff_lt_or_eq.1 hj with h'|rfl
    ·exact j7 j h'
    ·exact e3
   ·rw[decide_eq_false e2] at hj
    refine fB (kY d1 d2 hg sr ef) ?_
    refine ⟨by omega,by omega,aL (hi _) ?_⟩
    refine fB (kY d1 d2 hg sr ef) ?_
    refine ⟨by omega,by omega,aL (hj _) ?_⟩
    refine aw ?_
    exact aq hO (by rw[hal];exact (VT (by simp[kE,e2])).symm)
  ·rw[decide_eq_false e1] at hi
   refine fB (kY d1 d2 hg sr ef) ?_
   refine ⟨by omega,by omega,aL (hi _) ?_⟩
   refine aw ?_
   exact aq hO (by rw[hal];exact (VT (by simp[kE,e1])).symm)
 ·have d1:¬(k:Int)<l.length:=by omega
  refine fB (ak d1 ef) ?_
  clear bM
  refine hL _ _ ?_
  clear hL
  refine aw ?_
  exact aq hO (by rw[hal];exact ((oc c5).2 fun j hj=>j7 j (by omega)).symm)
def El:Nd→Nat→Nat→Nat→List Int→Option (Nat×Nat)
 |_,id,j,_,[]=>some (id,j)
 |t,id,j,a,k::r=>if 0≤k∧k<t.kids.length then El (aE t.kids k.toNat) a k.toNat (a+1+Nd.ay (t.kids.take k.toNat)) r else none
theorem jc.at_{F:Y}:∀{l:List Nd}{a k:Nat},jc F l a→k<l.length→dP F (aE l k) (a+Nd.ay (l.take k))
 |[],_,_,_,h=>by simp at h
 |t::r,a,0,hl,_=>by simpa [aE,Nd.ay] using hl.first
 |t::r,a,k+1,hl,h=>by
  have:=hl.rest.at_ (k:=k) (by simpa using h)
  simp only[List.take_succ_cons,Nd.ay]
  rw[show a+(t.size+Nd.ay (r.take k))=a+t.size+Nd.ay (r.take k) by omega]
  simpa [aE] using this
def Qd:Nd→Nd→List Int→Nd
 |_,ve,[]=>ve
 |t,ve,k::r=>⟨t.kind,t.text,t.num,t.kids.set k.toNat (Qd (aE t.kids k.toNat) ve r)⟩
theorem zC{l:List Nd}{k:Nat}(h:k<l.length):Nd.ay (l.take k)+(aE l k).size≤Nd.ay l:=by
 have h1:=iJ h
 have h2:=pE l (k+1)
 omega
theorem My{l:List Nd}{m q:Nat}(h:m<q)(hm:m<l.length):Nd.ay (l.take m)+(aE l m).size≤Nd.ay (l.take q):=by
 have h1:=iJ hm
 have h2:=pE (l.take q) (m+1)
 rw[List.take_take,Nat.min_eq_left (by omega)] at h2
 omega
theorem ZL{t:Nd}{id j a i m:Nat}{q:Int}{r:List Int}(h:El t id j a (q::r)=some (i,m)):a≤i∧i<a+t.size:=by
 induction r generalizing t id j a q with
 |nil =>
  simp only[El] at h
  split at h
  ·simp only[Option.some.injEq,Prod.mk.injEq] at h
   have:=t.size_pos
   omega
  ·cases h
 |cons q2 r ih =>
  rw[El] at h
  split at h
  ·rename_i hk
   have h1:=ih h
   have h2:=zC (l:=t.kids) (k:=q.toNat) (by omega)
   have h3:=Nd.size_eq t
   omega
  ·cases h
theorem Mz{l:List Nd}{m:Nat}(h:m<l.length):(bh l)[m]? = some (eu (aE l m)):=by
 rw[qa,eH h]
 simp[h]
structure aiE(G:Y)(n0:Nat)(R:AV→AV→Prop):Prop where
 same:∀{t:Nd}{a:Nat},n0≤a→dP G t a→R (fF t a) (eu t)
 node:∀{k n:Int}{s:ByteArray}{xs xs':List AV}{ys:List AV}{a:Nat},n0≤a→xs.length=xs'.length→(xs'≠[]→Y.find G a=some ⟨4,xs',false,25⟩)→xs'.length=ys.length→(∀(m:Nat)(x y:AV),xs'[m]? = some x→ys[m]? = some y→R x y)→R (.agg [.sc (.int .u8 k),.sc (.string s),.sc (.int .i64 n),aW 4 xs a]) (.agg [.sc (.int .u8 k),.sc (.string s),.sc (.int .i64 n),.am 4 ys none])
theorem MA{l:List Nd}{k m:Nat}{x:Nd}(hk:k<l.length):aE (l.set k x) m=if m=k then x else aE l m:=by
 unfold aE
 rw[List.getD_eq_getElem?_getD,List.getElem?_set,List.getD_eq_getElem?_getD]
 by_cases e:k=m
 ·subst e
  simp[hk]
 ·rw[if_neg e,if_neg (fun h=>e h.symm)]
theorem aiF{F G:Y}{n0:Nat}{R:AV→AV→Prop}(hR:aiE G n0 R){ve:Nd}{b:Nat}(aiG:R (fF ve b) (eu ve))(r:List Int):∀{t:Nd}{id j a i m:Nat}{q:Int}{es:List AV},n0≤a→dP F t a→El t id j a (q::r)=some (i,m)→Y.find F i=some ⟨4,es,false,25⟩→Y.find G i=some ⟨4,es.set m (fF ve b),false,25⟩→(∀x,a≤x→x<a+t.size→x≠i→Y.find G x=Y.find F x)→R (fF t a) (eu (Qd t ve (q::r))):=by
 induction r with
 |nil =>
  intro t id j a i m q es hn hl hp hf hg ho
  simp only[El] at hp
  split at hp
  case isFalse=>cases hp
  rename_i hq
  simp only[Option.some.injEq,Prod.mk.injEq] at hp
  obtain ⟨rfl,rfl⟩:=hp
  have Qe:q.toNat<t.kids.length:=by omega
  have hne:eT t.kids (a+1)≠[]:=fun e=>by have:=gV t.kids (a+1);rw[e] at this;simp at this;omega
  have mc:es=eT t.kids (a+1):=by
   have:=hl.head
   rw[hf,bj hne] at this
   simpa using this
  subst mc
  rw[ey,ew]
  show R (.agg [.sc (.int .u8 t.kind),.sc (.string t.text),.sc (.int .i64 t.num),aW 4 (eT t.kids (a+1)) a]) (.agg [.sc (.int .u8 t.kind),.sc (.string t.text),.sc (.int .i64 t.num),.am 4 (bh (t.kids.set q.toNat ve)) none])
  refine hR.node hn (xs':=(eT t.kids (a+1)).set q.toNat (fF ve b)) (by simp) (fun _=>hg) (by rw[List.length_set,gV,aH,List.length_set]) (fun m x y hx hy=>?_)
  have o7:m<t.kids.length:=by
   have:=(List.getElem?_eq_some_iff.1 hx).1
   rwa [List.length_set,gV] at this
  rw[Mz (by rw[List.length_set];exact o7),MA Qe] at hy
  cases hy
  rw[List.getElem?_set] at hx
  by_cases e:q.toNat=m
  ·rw[if_pos e,if_pos (by rw[gV];omega)] at hx
   cases hx
   rw[if_pos e.symm]
   exact aiG
  ·rw[if_neg e,LU _ _ _ o7] at hx
   cases hx
   rw[if_neg (fun h=>e h.symm)]
   have hsz:=zC o7
   have zX:=Nd.size_eq t
   exact hR.same (by omega) ((hl.kids.at_ o7).of fun x h1 h2=>ho x (by omega) (by omega) (by omega))
 |cons q2 r ih =>
  intro t id j a i m q es hn hl hp hf hg ho
  rw[El] at hp
  split at hp
  case isFalse=>cases hp
  rename_i hq
  have Qe:q.toNat<t.kids.length:=by omega
  have hin:=ZL hp
  have hne:eT t.kids (a+1)≠[]:=fun e=>by have:=gV t.kids (a+1);rw[e] at this;simp at this;omega
  have hsz:=zC Qe
  have zX:=Nd.size_eq t
  have hG:Y.find G a=some ⟨4,eT t.kids (a+1),false,25⟩:=by
   rw[ho a (by omega) (by omega) (by omega),hl.head,bj hne]
  have h1:=ih (by omega) (hl.kids.at_ Qe) hp hf hg (fun x h1 h2 h3=>ho x (by omega) (by omega) h3)
  rw[ey,ew]
  show R (.agg [.sc (.int .u8 t.kind),.sc (.string t.text),.sc (.int .i64 t.num),aW 4 (eT t.kids (a+1)) a]) (.agg [.sc (.int .u8 t.kind),.sc (.string t.text),.sc (.int .i64 t.num),.am 4 (bh (t.kids.set q.toNat (Qd (aE t.kids q.toNat) ve (q2::r)))) none])
  refine hR.node hn (xs':=eT t.kids (a+1)) rfl (fun _=>hG) (by rw[gV,aH,List.length_set]) (fun m x y hx hy=>?_)
  have o7:m<t.kids.length:=by
   have:=(List.getElem?_eq_some_iff.1 hx).1
   rwa [gV] at this
  rw[Mz (by rw[List.length_set];exact o7),MA Qe] at hy
  cases hy
  rw[LU _ _ _ o7] at hx
  cases hx
  by_cases e:q.toNat=m
  ·subst e
   rw[if_pos rfl]
   exact h1
  ·rw[if_neg (fun h=>e h.symm)]
   have uw:=zC o7
   refine hR.same (by omega) ((hl.kids.at_ o7).of fun x h1 h2=>ho x (by omega) (by omega) ?_)
   rcases Nat.lt_or_gt_of_ne e with g|g
   ·have:=My g (by omega:q.toNat<t.kids.length)
    omega
   ·have:=My g o7
    omega
def wQ(t:Nd)(i:Nat):AV:=.agg [.sc (.int .u8 t.kind),.sc (.string t.text),.sc (.int .i64 t.num),aW 4 (bh t.kids) i]
theorem zD(t:Nd)(i:Nat):wQ t i = .agg [.sc (.int .u8 t.kind),.sc (.string t.text),.sc (.int .i64 t.num),aW 4 (bh t.kids) i]:=rfl
def Em(l:List Nd):Prop:=∀(ro:Option (List AV))(H:Y),Nd.ay l≤1000000→D Tryz.prog 61 [.am 4 (bh l) ro] H (.ret (aW 4 (bh l) H.length)) (bS 4 25 (bh l)::H)
theorem zE(t:Nd)(h:Em t.kids)(hz:t.size≤1000000)(ro:Option (List AV))(H:Y):D Tryz.prog 28 [dZ t ro] H (.ret (wQ t H.length)) (bS 4 25 (bh t.kids)::H):=by
 have zX:=Nd.size_eq t
 have hk:=fun H=>h ro H (by omega)
 rw[aQ]
 refine aG (by simp) (ahP (aA ?_))
 simp only[adq,ux]
 refine Z fun L hL=>?_
 refine aw ?_
 refine hL _ _ ?_
 clear hL
 refine Z fun L hL=>?_
 refine aw ?_
 refine ae (hk _) ?_
 simp only[List.length_cons,Nat.add_assoc,Nat.reduceAdd]
 obtain ⟨kv,HW⟩:∃kv,aW 4 (bh t.kids) (H.length+2)=kv:=⟨_,rfl⟩
 have k1:kv.bT=false∧kv.isAgg=false∧kv.az=1∧kv.cells=[kv]:=by
  rw[←HW]
  exact ⟨nq,u0,s8,nT⟩
 obtain ⟨q1,q2,q3,q4⟩:=k1
 rw[HW]
 refine aI (ei q1 q2 q3 q4) ?_
 refine hL _ _ ?_
 clear hL
 refine Z fun L hL=>?_
 refine aI (ei q1 q2 q3 q4) ?_
 refine hL _ _ ?_
 clear hL
 refine aI (ei q1 q2 q3 q4) ?_
 rw[←HW]
 refine nx (H:=H) [bS 4 25 (bh t.kids)] [H.length+2] rfl (by simp) (by simp) (fun i hi=>by rw[ai (by simp;omega),ai (by simp;omega),ai hi]) (fun i k s hb hs=>?_) ?_
 ·cases i with
  |zero =>
   simp only[List.getElem?_cons_zero,Option.some.injEq] at hb hs
   subst hs
   obtain ⟨hn,rfl⟩:=pY hb
   exact ⟨_,by rw[aJ (by simp),hb],rfl,rfl,fun h=>h,zq _⟩
  |succ i=>simp at hs
 ·exact .agg (.cons (.same trivial) (.cons (.same trivial) (.cons (.same trivial) (.cons (Dp fun _=>xg (by omega)) .nil))))
def qp(l:List Nd)(io:Nat→Nat)(k:Nat):List AV:=(List.range k).map fun j=>wQ (aE l j) (io j)
theorem tz{l:List Nd}{io:Nat→Nat}{k:Nat}:(qp l io k).length=k:=by simp[qp]
theorem En{l:List Nd}{io:Nat→Nat}{k i:Nat}:qp l (fun j=>if j=k then i else io j) (k+1)=qp l io k++[wQ (aE l k) i]:=by
 unfold qp
 rw[List.range_succ,List.map_append]
 congr 1
 ·refine List.map_congr_left fun j hj=>?_
  have:=List.mem_range.1 hj
  simp only
  rw[if_neg (by omega)]
 ·simp
theorem Eo(l:List Nd)(ih:∀t∈l,Em t.kids):Em l:=by
 intro ro H hz
 have hlen:=Nd.fZ l
 refine aG (by simp) (ahQ (aA ?_))
 simp only[adr,ux]
 have xM:=aH l
 refine Z fun L hL=>?_
 refine fh ?_
 refine hL _ _ ?_
 clear hL
 refine Z fun L hL=>?_
 refine fh ?_
 refine hL _ _ ?_
 clear hL
 refine Z fun L hL=>?_
 refine fh ?_
 refine aZ (fun ts G=>∃(k lD:Nat)(io:Nat→Nat),(k≤l.length∧H.length≤G.length∧(∀i,i<H.length→Y.find G i=Y.find H i)∧(qp l io k≠[]→Y.find G lD=bS 4 25 (qp l io k)∧H.length≤lD∧lD<G.length)∧∀j,j<k→H.length≤io j∧io j<G.length∧(qp l io k≠[]→io j≠lD)∧Y.find G (io j)=bS 4 25 (bh (aE l j).kids))∧Fr (some (.am 4 (bh l) ro)::none::none::some (aW 4 (qp l io k) lD)::some (.sc (.int .i64 k))::none::dL []) ts) (fun ts _=>l.length-(aM (ts.getD 4 .top)).toNat) ?_ ?_
 ·exact ⟨0,0,fun _=>0,⟨Nat.zero_le _,Nat.le_refl _,fun _ _=>rfl,fun h=>(h rfl).elim,fun j hj=>by omega⟩,by simp[Fr,qp,aW]⟩
 rintro ts G ⟨k,lD,io,⟨hk,q1,q2,q3,q4⟩,aX⟩ L2 bM
 obtain ⟨js,rfl⟩:=aX.opened
 clear aX
 by_cases hd:k<l.length
 ·have k1:(k:Int)<l.length:=by omega
  have hg:=dG hd
  have dW:=eJ hd
  have hsz:=Nd.de dW
  have tW:=zE (aE l k) (ih _ dW) (by omega) none G
  rw[aQ] at tW
  obtain ⟨x,hx⟩:∃x,wQ (aE l k) G.length=x:=⟨_,rfl⟩
  have hx0:=zD (aE l k) G.length
  rw[hx] at tW hx0
  have c1:x.bT=false:=by rw[hx0];rfl
  have c2:x.isAgg=true:=by rw[hx0];rfl
  have c3:x.az=4:=by rw[hx0];rfl
  have c4:AV.agg (x.cells.take 4)=x:=by rw[hx0];rfl
  have c5:AV.agg x.cells=x:=by rw[hx0];rfl
  have c6:4≤x.cells.length:=by rw[hx0];exact Nat.le_refl _
  refine df (gq xM hg k1) ?_
  refine ⟨by omega,ae tW ?_⟩
  have ajm:(AV.agg [.sc (.int .u8 0),.sc (.string ⟨#[]⟩),.sc (.int .i64 0),.am 0 [] (some [])]).lq 0 x=x:=by rw[hx0];rfl
  obtain ⟨aec,F',p1,p2,p3,p4,p5,p6⟩:=tq (H:=some ⟨4,[x],true,25⟩::bS 4 25 (bh (aE l k).kids)::G) (k:=4) (ty:=25) (xs:=qp l io k) (ys:=[x]) (id:=lD) (fun e=>by
   obtain ⟨g1,g2,g3⟩:=q3 e
   rw[ai (by simp;omega),ai g3,g1]) (by rw[tz];simp;omega)
  refine eQ (Dq c1 c2 c3 c4 c5 p1 p2 p3) ?_
  obtain ⟨vC,L5⟩:=p4 (by simp)
  simp only[List.length_cons] at L5 p5 p6
  rw[←hx] at vC ⊢
  refine ⟨by rw[hx];exact c6,bM _ _ ⟨k+1,aec,fun j=>if j=k then G.length else io j,⟨by omega,by omega,fun i hi=>?_,fun _=>?_,fun j hj=>?_⟩,by rw[En];simp[Fr]⟩ (by simp[aM,mk];omega)⟩
  ·rw[p6 i (by omega) (fun e=>by have:=(q3 e).2.1;omega),ai (by simp;omega),ai (by omega),q2 i hi]
  ·rw[En]
   have acL:aec<F'.length:=by
    have h9:=vC
    rw[bj (by simp)] at h9
    exact Y.ax h9
   exact ⟨vC,by omega,acL⟩
  ·simp only
   split
   ·rename_i e
    subst e
    refine ⟨by omega,by omega,fun _=>by omega,?_⟩
    rw[p6 _ (by omega) (fun e=>by have:=(q3 e).2.2;omega),ai (by simp),aJ rfl]
   ·rename_i e
    obtain ⟨s1,s2,s3,s4⟩:=q4 j (by omega)
    refine ⟨s1,by omega,fun _=>by omega,?_⟩
    rw[p6 _ (by omega) s3,ai (by simp;omega),ai s2,s4]
 ·have k1:¬(k:Int)<l.length:=by omega
  refine df (ak xM k1) ?_
  refine hL _ _ ?_
  clear hL
  refine eQ (ei @nq @s8 @u0 @nT) ?_
  have mN:k=l.length:=by omega
  subst mN
  by_cases e:l=[]
  ·subst e
   have hO:aW 4 (qp [] io ([]:List Nd).length) lD = .am 0 [] (some []):=rfl
   have hO2:aW 4 (bh []) H.length = .am 0 [] (some []):=rfl
   rw[hO,hO2]
   exact nx (H:=H) [bS 4 25 (bh [])] [H.length] rfl (by simp) (by simp) q2 (fun i k s hb hs=>by
    cases i with
    |zero=>simp[bS,bh] at hb
    | succ i=>simp at hs) .Xv
  ·have hel:qp l io l.length≠[]:=fun h=>e (by
    have:=congrArg List.length h
    rw[tz] at this
    exact List.length_eq_zero_iff.1 (by simpa using this))
   obtain ⟨r1,r2,r3⟩:=q3 hel
   have hgz:dt G H.length [lD] (qp l io l.length) (bh l):=by
    have key:∀L:List Nat,(∀j∈L,j<l.length)→dt G H.length [lD] (L.map fun j=>wQ (aE l j) (io j)) (L.map fun j=>eu (aE l j)):=by
     intro L
     induction L with
     |nil=>intro _;exact .nil
     |cons j r ih =>
      intro h
      obtain ⟨s1,s2,s3,s4⟩:=q4 j (h j (by simp))
      refine .cons ?_ (ih fun i hi=>h i (by simp[hi]))
      show Gz G H.length [lD] (wQ (aE l j) (io j)) (eu (aE l j))
      rw[zD,ew]
      have hno:cP H.length [lD] (io j)=none:=by
       unfold cP
       rw[if_neg (by omega)]
       have:=s3 hel
       simp[List.idxOf?_cons,Ne.symm this]
      exact .agg (.cons (.same trivial) (.cons (.same trivial) (.cons (.same trivial) (.cons (pZ (fun _=>hno) (fun _=>s4) (zq _)) .nil))))
    have e2:bh l=(List.range l.length).map fun j=>eu (aE l j):=by
     apply List.ext_getElem
     ·simp[aH]
     ·intro i h1 h2
      have hi:i<l.length:=by rw[aH] at h1;exact h1
      simp[qa,eH hi]
    rw[e2]
    exact key _ fun j hj=>List.mem_range.1 hj
   have hnl:bh l≠[]:=fun h=>e (by
    have:=congrArg List.length h
    rw[aH] at this
    exact List.length_eq_zero_iff.1 (by simpa using this))
   rw[G5 (show (qp l io l.length).length=(bh l).length by rw[tz,aH])]
   refine nx (H:=H) [bS 4 25 (bh l)] [lD] rfl (by simp) (by simpa using r2) q2 (fun i k s hb hs=>?_) (Dp fun _=>xg r2)
   cases i with
   |zero =>
    simp only[List.getElem?_cons_zero,Option.some.injEq] at hb hs
    subst hs
    obtain ⟨hn,rfl⟩:=pY hb
    rw[bj hel] at r1
    exact ⟨_,r1,rfl,rfl,fun h=>h,hgz⟩
   |succ i=>simp at hs
theorem MB(l:List Nd):Em l:=by
 have key:∀n:Nat,∀l:List Nd,Nd.ay l≤n→Em l:=by
  intro n
  induction n with
  |zero =>
   intro l h
   refine Eo l fun t ht=>?_
   have:=Nd.de ht
   have:=t.size_pos
   omega
  |succ n ih =>
   intro l h
   refine Eo l fun t ht=>ih _ ?_
   have:=Nd.de ht
   have:=Nd.size_eq t
   omega
 exact key _ l (Nat.le_refl _)
theorem MC(t:Nd)(hz:t.size≤1000000)(ro:Option (List AV))(H:Y):D Tryz.prog 28 [dZ t ro] H (.ret (wQ t H.length)) (bS 4 25 (bh t.kids)::H):=zE t (MB _) hz ro H
theorem ZM{l m:List Nd}(h:l.length=m.length)(hp:∀j,j<l.length→nr (aE l j) (aE m j)=true):oz l m=true:=by
 rw[xl]
 refine List.ext_getElem h fun j h1 h2=>?_
 have:=(xk _ _).1 (hp j h1)
 rwa [eH h1,eH h2] at this
theorem ZN{l m:List Nd}(h:¬l.length=m.length):oz l m=false:=by
 rw[←Bool.not_eq_true,xl]
 exact fun e=>h (by rw[e])
theorem ZO{l m:List Nd}{k:Nat}(hk:k<l.length)(h:nr (aE l k) (aE m k)=false):oz l m=false:=by
 rw[←Bool.not_eq_true,xl]
 rintro rfl
 rw[qR] at h
 cases h
theorem FC(l:List Nd)(hz:Nd.ay l≤1000000)(ih:∀a∈l,∀(b:Nd)(H:Y),D Tryz.prog 16 [dZ a none,dZ b none] H (.ret (.sc (.bool (nr a b)))) H)(m:List Nd)(ro l5:Option (List AV))(H:Y):D Tryz.prog 49 [.am 4 (bh l) ro,.am 4 (bh m) l5] H (.ret (.sc (.bool (oz l m)))) H:=by
 have hl:=Nd.fZ l
 refine aG (Nat.le_refl _) (ahO (aA ?_))
 simp only[adp,ux]
 refine Z fun L hL=>?_
 refine aw ?_
 refine hL _ _ ?_
 clear hL
 refine Z fun L hL=>?_
 by_cases c1:l.length=m.length
 rotate_left
 ·have c2:¬(l.length:Int)=m.length:=by omega
  refine aI (ak @aH c2) ?_
  exact aq .refl (ZN c1).symm
 have c2:(l.length:Int)=m.length:=by omega
 refine aI (ak @aH c2) ?_
 refine hL _ _ ?_
 clear hL
 refine Z fun L hL=>?_
 refine aw ?_
 refine aZ (fun ts F=>∃k:Nat,(k≤l.length∧∀j,j<k→nr (aE l j) (aE m j)=true)∧F=H∧Fr (some (.am 4 (bh l) ro)::some (.am 4 (bh m) l5)::none::none::some (.sc (.bool false))::some (.sc (.int .i64 k))::none::fg (dL [])) ts) (fun ts _=>l.length-(aM (ts.getD 5 .top)).toNat) ?_ ?_
 ·exact ⟨0,⟨Nat.zero_le _,fun j h=>absurd h (Nat.not_lt_zero _)⟩,rfl,by simp[Fr]⟩
 rintro ts F ⟨k,⟨hk,hp⟩,rfl,aX⟩ L2 bM
 obtain ⟨js,rfl⟩:=aX.opened
 clear aX
 by_cases hd:k<l.length
 ·have d1:(k:Int)<l.length:=by omega
  have d2:(k:Int)<m.length:=by omega
  have hg:=dG hd
  have sr:=dG (l:=m) (k:=k) (by omega)
  have hi:=fun H=>ih _ (eJ hd) (aE m k) H
  rw[aQ,aQ] at hi
  refine df (kY d1 d2 hg sr @aH) ?_
  refine ⟨by omega,by omega,aL (hi _) ?_⟩
  cases e1:nr (aE l k) (aE m k)
  ·refine aw ?_
   exact aq .refl (ZO hd e1).symm
  refine aw ?_
  refine bM _ _ ⟨k+1,⟨by omega,fun j hj=>?_⟩,rfl,by simp[Fr]⟩ (by simp[aM,mk];omega)
  rcases Nat.lt_succ_iff_lt_or_eq.1 hj with h'|rfl
  ·exact hp j h'
  ·exact e1
 ·have d1:¬(k:Int)<l.length:=by omega
  refine df (ak d1 @aH) ?_
  refine hL _ _ ?_
  clear hL
  refine fh ?_
  exact aq .refl (ZM c1 fun j hj=>hp j (by omega)).symm
theorem qX(a:Nd):∀(hz:a.size≤1000000)(b:Nd)(ro l5:Option (List AV))(H:Y),D Tryz.prog 16 [dZ a ro,dZ b l5] H (.ret (.sc (.bool (nr a b)))) H:=by
 induction a using Nd.ind with
 |_ a ih =>
  intro hz b ro l5 H
  have hs:=Nd.size_eq a
  have hk:=fun H=>FC a.kids (by omega) (fun x hx b H=>ih x hx (by have:=Nd.pf hx;omega) b none none H) b.kids ro l5 H
  have hq:=TS a b
  rw[aQ,aQ]
  refine aG (Nat.le_refl _) (ahN (aA ?_))
  simp only[ado,ux]
  refine Z fun L hL=>?_
  refine aw ?_
  refine hL _ _ ?_
  clear hL
  refine Z fun L hL=>?_
  by_cases c1:a.kind=b.kind
  rotate_left
  ·refine aI c1 ?_
   refine hL _ _ ?_
   clear hL
   refine aw ?_
   exact aq (.cons (.cons .refl)) (by rw[hq];simp[c1])
  have CT:=decide_eq_true c1
  by_cases c2:a.text=b.text
  rotate_left
  ·refine aI (ak CT c2) ?_
   refine hL _ _ ?_
   clear hL
   refine aw ?_
   exact aq (.cons (.cons .refl)) (by rw[hq];simp[c2])
  have PZ:=decide_eq_true c2
  by_cases c3:a.num=b.num
  rotate_left
  ·refine aI (gq CT PZ c3) ?_
   refine hL _ _ ?_
   clear hL
   refine aw ?_
   exact aq (.cons (.cons .refl)) (by rw[hq];simp[c3])
  have PL:=decide_eq_true c3
  refine aI (gq CT PZ PL) ?_
  refine ae (hk _) ?_
  refine aw ?_
  refine hL _ _ ?_
  clear hL
  refine aw ?_
  exact aq (.cons (.cons .refl)) (by rw[hq];simp[c1,c2,c3])
theorem MF(k i:Int):IntKind.i64.wrap (gr k i)=gr k i:=by
 have hb:∀n:Int,IntKind.i64.wrap n=n.bmod 18446744073709551616:=fun n=>by
  simp only[IntKind.wrap,show IntKind.i64.bits=64 from rfl,show IntKind.i64.signed=true from rfl,Bool.true_and,decide_eq_true_eq,Int.bmod]
  split<;>split<;>omega
 unfold gr
 rw[hb (IntKind.i64.wrap (1000003*IntKind.i64.wrap (k+7))+i),hb]
 exact Int.bmod_bmod
def qq(k i:Int):AV:=.agg [.sc (.int .u8 0),.sc (.string ⟨#[]⟩),.sc (.int .i64 (gr k i)),.am 0 [] (some [])]
theorem wm(k i:Int):qq k i = .agg [.sc (.int .u8 0),.sc (.string ⟨#[]⟩),.sc (.int .i64 (gr k i)),.am 0 [] (some [])]:=rfl
def jd(j:Nat):List AV:=(List.range j).map fun i:Nat=>qq 1 (i:Int)
theorem vK{j:Nat}:(jd j).length=j:=by simp[jd]
theorem Jd{j:Nat}:jd (j+1)=jd j++[qq 1 j]:=by simp[jd,List.range_succ]
theorem UO{F:Y}{n0:Nat}{src:List Nat}(k i:Int):Gz F n0 src (qq k i) (qq k i):=.agg (.cons (.same trivial) (.cons (.same trivial) (.cons (.same trivial) (.cons .Xv .nil))))
theorem Ep{F:Y}{n0:Nat}{src:List Nat}(j:Nat):dt F n0 src (jd j) (jd j):=dt.map fun i _=>UO _ _
abbrev Er(n a:Nat):AV:=.aD 4 a 0 n (some (n+12))
def oT(t:Nd)(a:Nat):AV:=.agg [.sc (.int .u8 t.kind),.sc (.string t.text),.sc (.int .i64 t.num),Er t.kids.length a]
theorem j8(t:Nd)(a:Nat):oT t a = .agg [.sc (.int .u8 t.kind),.sc (.string t.text),.sc (.int .i64 t.num),.aD 4 a 0 t.kids.length (some (t.kids.length+12))]:=rfl
def tT:List Nd→Nat→List AV
 |[],_=>[]
 |t::r,a=>oT t a::tT r (a+t.size)
theorem kH(l:List Nd):∀a,(tT l a).length=l.length:=by
 induction l with
 |nil=>intro a;rfl
 |cons x r ih=>intro a;simp[tT,ih]
def jF(l:List Nd)(a:Nat):List AV:=tT l (a+1)++jd 12
theorem tA{l:List Nd}{a:Nat}:(jF l a).length=l.length+12:=by rw[jF,List.length_append,kH,vK]
abbrev mG(xs:List AV):Option aP:=some ⟨4,xs,true,25⟩
mutual
def qt:Nd→Nat→Y
 |⟨_,_,_,l⟩,a=>lc l (a+1)++[mG (jF l a)]
def lc:List Nd→Nat→Y
 |[],_=>[]
 |t::r,a=>lc r (a+t.size)++qt t a
end
theorem Es(t:Nd)(a:Nat):qt t a=lc t.kids (a+1)++[mG (jF t.kids a)]:=by cases t;simp[qt,Nd.kids]
theorem tB(t:Nd):∀a,(qt t a).length=t.size:=by
 induction t using Nd.ind with
 |_ t ih =>
  intro a
  have key:∀(l:List Nd),(∀k∈l,∀a,(qt k a).length=k.size)→∀a,(lc l a).length=Nd.ay l:=by
   intro l
   induction l with
   |nil=>intro _ a;rfl
   |cons x r fC =>
    intro h a
    simp only[lc,List.length_append,Nd.ay,fC fun k hk=>h k (by simp[hk]),h x (by simp)]
    omega
  rw[Es,List.length_append,key _ ih,Nd.size_eq]
  simp
  omega
theorem FD(l:List Nd):∀a,(lc l a).length=Nd.ay l:=by
 induction l with
 |nil=>intro a;rfl
 |cons x r ih =>
  intro a
  simp only[lc,List.length_append,Nd.ay,ih,tB]
  omega
mutual
def mT:Nd→Nat→List (List AV)
 |⟨_,_,_,l⟩,a=>jF l a::gv l (a+1)
def gv:List Nd→Nat→List (List AV)
 |[],_=>[]
 |t::r,a=>mT t a++gv r (a+t.size)
end
theorem qu(t:Nd)(a:Nat):mT t a=jF t.kids a::gv t.kids (a+1):=by cases t;simp[mT,Nd.kids]
theorem gf(t:Nd):∀a,(mT t a).length=t.size:=by
 induction t using Nd.ind with
 |_ t ih =>
  intro a
  have key:∀(l:List Nd),(∀k∈l,∀a,(mT k a).length=k.size)→∀a,(gv l a).length=Nd.ay l:=by
   intro l
   induction l with
   |nil=>intro _ a;rfl
   |cons x r fC =>
    intro h a
    simp only[gv,List.length_append,Nd.ay,fC fun k hk=>h k (by simp[hk]),h x (by simp)]
  rw[qu,List.length_cons,key _ ih,Nd.size_eq]
  omega
theorem FE(l:List Nd):∀a,(gv l a).length=Nd.ay l:=by
 induction l with
 |nil=>intro a;rfl
 |cons x r ih=>intro a;simp only[gv,List.length_append,Nd.ay,ih,gf]
theorem xO:∀(p q:List (Option aP))(H:Y),lays (p++q) H=lays q (lays p H)
 |[],_,_=>rfl
 |x::r,q,H=>by simp only[List.cons_append,lays,xO r q]
def wB(l:List (List AV)):List (Option aP):=l.map mG
theorem xP(t:Nd):∀(a:Nat)(H:Y),qt t a++H=lays (wB (mT t a)) H:=by
 induction t using Nd.ind with
 |_ t ih =>
  intro a H
  have key:∀(l:List Nd),(∀k∈l,∀(a:Nat)(H:Y),qt k a++H=lays (wB (mT k a)) H)→∀(a:Nat)(H:Y),lc l a++H=lays (wB (gv l a)) H:=by
   intro l
   induction l with
   |nil=>intro _ a H;rfl
   |cons x r fC =>
    intro h a H
    simp only[lc,gv,wB,List.map_append,xO,List.append_assoc]
    have h1:=h x (by simp) a H
    have h2:=fC (fun k hk=>h k (by simp[hk])) (a+x.size) (lays (wB (mT x a)) H)
    rw[h1,h2]
    rfl
  rw[Es,qu,List.append_assoc]
  have:=key t.kids ih (a+1) (mG (jF t.kids a)::H)
  rw[List.singleton_append,this]
  rfl
theorem BD(l:List Nd):∀(a:Nat)(H:Y),lc l a++H=lays (wB (gv l a)) H:=by
 induction l with
 |nil=>intro a H;rfl
 |cons x r ih =>
  intro a H
  simp only[lc,gv,wB,List.map_append,xO,List.append_assoc]
  rw[xP,ih]
  rfl
theorem Et{F:Y}{n0 s0 c0 m:Nat}{src:List Nat}(hN:∀j,j<m→cP n0 src (s0+j)=some (c0+j))(t:Nd)(j:Nat)(h:j+t.size≤m):Gz F n0 src (oT t (s0+j)) (oT t (c0+j)):=by
 have:=t.size_pos
 exact .agg (.cons (.same trivial) (.cons (.same trivial) (.cons (.same trivial) (.cons (.Gt (hN j (by omega)) (.inl rfl)) .nil))))
theorem ZP{F:Y}{n0 s0 c0 m:Nat}{src:List Nat}(hN:∀j,j<m→cP n0 src (s0+j)=some (c0+j))(l:List Nd):∀j,j+Nd.ay l≤m→dt F n0 src (tT l (s0+j)) (tT l (c0+j)):=by
 induction l with
 |nil=>intro j _;exact .nil
 |cons x r ih =>
  intro j hj
  simp only[Nd.ay] at hj
  simp only[tT]
  have:=ih (j+x.size) (by omega)
  rw[←Nat.add_assoc,←Nat.add_assoc] at this
  exact .cons (Et hN x j (by omega)) this
theorem ZQ{F:Y}{n0 s0 c0 m:Nat}{src:List Nat}(hN:∀j,j<m→cP n0 src (s0+j)=some (c0+j))(l:List Nd)(j:Nat)(h:j+1+Nd.ay l≤m):dt F n0 src (jF l (s0+j)) (jF l (c0+j)):=by
 have:=ZP (F:=F) hN l (j+1) h
 rw[←Nat.add_assoc,←Nat.add_assoc] at this
 exact dt.append this (Ep 12)
theorem UQ{F:Y}{n0 s0 c0 m:Nat}{src:List Nat}(l:List Nd)(ih:∀t∈l,∀j,j+t.size≤m→∀(i:Nat)(ys:List AV),(mT t (c0+j))[i]? = some ys→∃xs,(mT t (s0+j))[i]? = some xs∧dt F n0 src xs ys):∀j,j+Nd.ay l≤m→∀(i:Nat)(ys:List AV),(gv l (c0+j))[i]? = some ys→∃xs,(gv l (s0+j))[i]? = some xs∧dt F n0 src xs ys:=by
 induction l with
 |nil=>intro j _ i ys h;simp[gv] at h
 |cons x r fC =>
  intro j hj i ys h
  simp only[Nd.ay] at hj
  simp only[gv] at h ⊢
  have hx:(mT x (c0+j)).length=(mT x (s0+j)).length:=by rw[gf,gf]
  by_cases c:i<(mT x (c0+j)).length
  ·rw[List.getElem?_append_left c] at h
   rw[List.getElem?_append_left (by omega)]
   exact ih x (by simp) j (by omega) i ys h
  ·rw[List.getElem?_append_right (by omega)] at h
   rw[List.getElem?_append_right (by omega),←hx]
   have:=fC (fun t ht=>ih t (by simp[ht])) (j+x.size) (by omega) (i-(mT x (c0+j)).length) ys
   rw[←Nat.add_assoc,←Nat.add_assoc] at this
   exact this h
theorem MG{F:Y}{n0 s0 c0 m:Nat}{src:List Nat}(hN:∀j,j<m→cP n0 src (s0+j)=some (c0+j))(t:Nd):∀j,j+t.size≤m→∀(i:Nat)(ys:List AV),(mT t (c0+j))[i]? = some ys→∃xs,(mT t (s0+j))[i]? = some xs∧dt F n0 src xs ys:=by
 induction t using Nd.ind with
 |_ t ih =>
  intro j hj i ys h
  rw[Nd.size_eq] at hj
  rw[qu] at h ⊢
  cases i with
  |zero =>
   simp only[List.getElem?_cons_zero,Option.some.injEq] at h
   refine ⟨_,List.getElem?_cons_zero,?_⟩
   rw[←h]
   exact ZQ hN t.kids j (by omega)
  |succ i =>
   rw[List.getElem?_cons_succ] at h
   rw[List.getElem?_cons_succ]
   have:=UQ (F:=F) t.kids ih (j+1) (by omega) i ys
   rw[←Nat.add_assoc,←Nat.add_assoc] at this
   exact this h
def iL(F:Y)(t:Nd)(a:Nat):Prop:=∀(i:Nat)(xs:List AV),(mT t a)[i]? = some xs→Y.find F (a+i)=mG xs
def wR(F:Y)(l:List Nd)(a:Nat):Prop:=∀(i:Nat)(xs:List AV),(gv l a)[i]? = some xs→Y.find F (a+i)=mG xs
structure Eu(F:Y)(l:List Nd)(a:Nat):Prop where
 row:Y.find F a=mG (jF l a)
 kids:wR F l (a+1)
theorem iL.row{F:Y}{t:Nd}{a:Nat}(h:iL F t a):Eu F t.kids a where
 row:=h 0 _ (by rw[qu];rfl)
 kids:=fun i xs hx=>by
  rw[show a+1+i=a+(i+1) by omega]
  exact h (i+1) xs (by rw[qu,List.getElem?_cons_succ];exact hx)
theorem wR.first{F:Y}{t:Nd}{r:List Nd}{a:Nat}(h:wR F (t::r) a):iL F t a:=fun i xs hx=>by
 refine h i xs ?_
 simp only[gv]
 rw[List.getElem?_append_left (List.getElem?_eq_some_iff.1 hx).1]
 exact hx
theorem wR.rest{F:Y}{t:Nd}{r:List Nd}{a:Nat}(h:wR F (t::r) a):wR F r (a+t.size):=fun i xs hx=>by
 rw[show a+t.size+i=a+(t.size+i) by omega]
 refine h (t.size+i) xs ?_
 simp only[gv]
 rw[List.getElem?_append_right (by rw[gf];omega),gf,Nat.add_sub_cancel_left]
 exact hx
theorem wR.at_{F:Y}:∀{l:List Nd}{a k:Nat},wR F l a→k<l.length→iL F (aE l k) (a+Nd.ay (l.take k))
 |[],_,_,_,hk=>by simp at hk
 |x::r,a,0,h,_=>by simpa [aE,Nd.ay] using h.first
 |x::r,a,k+1,h,hk=>by
  have:=wR.at_ (k:=k) h.rest (by simpa using hk)
  simp only[List.take_succ_cons,Nd.ay]
  rw[show a+(x.size+Nd.ay (r.take k))=a+x.size+Nd.ay (r.take k) by omega]
  exact this
theorem Ev:∀{l:List Nd}{k a:Nat},k<l.length→(tT l a).getD k .top=oT (aE l k) (a+Nd.ay (l.take k))
 |[],_,_,h=>by simp at h
 |x::r,0,a,_=>by simp[tT,aE,Nd.ay]
 |x::r,k+1,a,h=>by
  have:=Ev (l:=r) (k:=k) (a:=a+x.size) (by simpa using h)
  simp only[tT,List.getD_cons_succ,List.take_succ_cons,Nd.ay]
  rw[this,show a+(x.size+Nd.ay (r.take k))=a+x.size+Nd.ay (r.take k) by omega]
  rfl
theorem AW{l:List Nd}{k a:Nat}(h:k<l.length):(jF l a).getD k .top=oT (aE l k) (a+1+Nd.ay (l.take k)):=by
 rw[←Ev h,jF,List.getD_eq_getElem?_getD,List.getElem?_append_left (by rw[kH];exact h),List.getD_eq_getElem?_getD]
theorem Ew{l:List Nd}{t a:Nat}(h:t<12):(jF l a).getD (l.length+t) .top=qq 1 t:=by
 rw[jF,List.getD_eq_getElem?_getD,List.getElem?_append_right (by rw[kH];omega),kH]
 simp[jd,h]
theorem Ex{F:Y}(t:Nd):∀{a:Nat},iL F t a→View F (oT t a) (eu t):=by
 induction t using Nd.ind with
 |_ t ih =>
  intro a h
  have key:∀(l:List Nd),(∀k∈l,∀{a:Nat},iL F k a→View F (oT k a) (eu k))→∀a,wR F l a→cJ F (tT l a) (bh l):=by
   intro l
   induction l with
   |nil=>intro _ a _;exact .nil
   |cons x r fC =>
    intro hx a hl
    exact .cons (hx x (by simp) hl.first) (fC (fun k hk=>hx k (by simp[hk])) _ hl.rest)
  rw[j8,ew]
  refine .agg (.cons .sc (.cons .sc (.cons .sc (.cons (.aD h.row.row rfl (by rw[tA];omega) ?_) .nil))))
  rw[List.drop_zero,jF,List.take_append_of_le_length (by rw[kH];exact Nat.le_refl _),List.take_of_length_le (by rw[kH];exact Nat.le_refl _)]
  exact key _ ih _ h.row.kids
theorem iL.of{F G:Y}{t:Nd}{a:Nat}(h:iL F t a)(hs:∀i,a≤i→i<a+t.size→Y.find G i=Y.find F i):iL G t a:=fun i xs hx=>by
 have hi:=(List.getElem?_eq_some_iff.1 hx).1
 rw[gf] at hi
 rw[hs _ (by omega) (by omega)]
 exact h i xs hx
theorem Ey{l:List Nd}{H:Y}:Eu (lc l (H.length+1)++(mG (jF l H.length)::H)) l H.length where
 row:=by rw[Y.bF (by simp),aJ rfl]
 kids:=fun i xs hx=>by
  rw[BD]
  have:=r9 (H:=mG (jF l H.length)::H) (bs:=wB (gv l (H.length+1))) (i:=i) (b:=mG xs) (by simp[wB,hx])
  simpa using this
theorem qY(k i:Int)(H:Y):D Tryz.prog 62 [.sc (.int .i64 k),.sc (.int .i64 i)] H (.ret (qq k i)) H:=by
 refine aG (Nat.le_refl _) (ahM (aA ?_))
 simp -implicitDefEqProofs (maxSteps:=99999999) (disch:=first|omega|(simp only[vl]<;>omega)) only[adn,va,vg,vs,vw,vk,simprocAttr]
 refine ae (IZ _ _ _) ?_
 refine eQ @MF ?_
 exact dD (.cons .refl) (.same (by simp[qq,AV.ids,AV.cV,AV.gF]))
def kR:List Nd→Nat→List AV
 |[],_=>[]
 |t::r,b=>oT t b::kR r (b+t.size+1)
theorem zF(l:List Nd):∀b,(kR l b).length=l.length:=by
 induction l with
 |nil=>intro b;rfl
 |cons x r ih=>intro b;simp[kR,ih]
theorem Je(p q:List Nd):∀b,kR (p++q) b=kR p b++kR q (b+Nd.ay p+p.length):=by
 induction p with
 |nil=>intro b;simp[kR,Nd.ay]
 |cons x r ih =>
  intro b
  simp only[List.cons_append,kR,ih,Nd.ay,List.length_cons]
  rw[show b+(x.size+Nd.ay r)+(r.length+1)=b+x.size+1+Nd.ay r+r.length by omega]
def sw(F:Y):List Nd→Nat→Prop
 |[],_=>True
 |t::r,b=>iL F t b∧sw F r (b+t.size+1)
theorem sw.append{F:Y}:∀{p q:List Nd}{b:Nat},sw F p b→sw F q (b+Nd.ay p+p.length)→sw F (p++q) b
 |[],q,b,_,h=>by simpa [Nd.ay] using h
 |x::r,q,b,h,k=>by
  refine ⟨h.1,sw.append h.2 ?_⟩
  simp only[Nd.ay,List.length_cons] at k
  rw[show b+x.size+1+Nd.ay r+r.length=b+(x.size+Nd.ay r)+(r.length+1) by omega]
  exact k
theorem sw.of{F G:Y}:∀{l:List Nd}{b:Nat},sw F l b→(∀i,b≤i→i<b+Nd.ay l+l.length→Y.find G i=Y.find F i)→sw G l b
 |[],_,_,_=>trivial
 |t::r,b,h,hs=>by
  simp only[Nd.ay,List.length_cons] at hs
  exact ⟨h.1.of fun i h1 h2=>hs i h1 (by omega),h.2.of fun i h1 h2=>hs i (by omega) (by omega)⟩
def qv:List Nd→Nat→List Nat
 |[],_=>[]
 |t::r,b=>(List.range t.size).map (b+·)++qv r (b+t.size+1)
theorem Jf(l:List Nd):∀b,(qv l b).length=Nd.ay l:=by
 induction l with
 |nil=>intro b;rfl
 |cons x r ih=>intro b;simp[qv,ih,Nd.ay]
theorem Ez(l:List Nd):∀b,∀s∈qv l b,b≤s:=by
 induction l with
 |nil=>intro b s h;simp[qv] at h
 |cons x r ih =>
  intro b s h
  simp only[qv,List.mem_append,List.mem_map] at h
  rcases h with ⟨i,_,rfl⟩|h
  ·omega
  ·have:=ih _ s h;omega
theorem MH(l:List Nd):∀b,(qv l b).Nodup:=by
 induction l with
 |nil=>intro b;simp[qv]
 |cons x r ih =>
  intro b
  simp only[qv]
  refine List.nodup_append.2 ⟨D3 fun i j h=>by omega,ih _,fun s h1 s' h2 e=>?_⟩
  obtain ⟨i,hi,rfl⟩:=List.mem_map.1 h1
  have:=Ez r _ s' h2
  have:=List.mem_range.1 hi
  omega
def MI(n0:Nat)(src:List Nat):List Nd→Nat→Nat→Prop
 |[],_,_=>True
 |t::r,b,c=>(∀j,j<t.size→cP n0 src (b+j)=some (c+j))∧MI n0 src r (b+t.size+1) (c+t.size)
theorem MJ{n0:Nat}{src:List Nat}:∀(l:List Nd)(b p:Nat),(∀i s,(qv l b)[i]? = some s→cP n0 src s=some (p+i))→MI n0 src l b p
 |[],_,_,_=>trivial
 |t::r,b,p,h=>by
  refine ⟨fun j hj=>h j (b+j) ?_,MJ r _ _ fun i s hs=>?_⟩
  ·simp only[qv]
   rw[List.getElem?_append_left (by simpa using hj)]
   simp[hj]
  ·rw[show p+t.size+i=p+(t.size+i) by omega]
   refine h _ _ ?_
   simp only[qv]
   rw[List.getElem?_append_right (by simp)]
   simpa using hs
theorem MK{F:Y}{n0:Nat}{src:List Nat}:∀{l:List Nd}{b c:Nat},MI n0 src l b c→dt F n0 src (kR l b) (tT l c)
 |[],_,_,_=>.nil
 |t::r,b,c,h=>.cons (Et (m:=t.size) h.1 t 0 (by omega)) (MK h.2)
theorem ML{F:Y}{n0:Nat}{src:List Nat}:∀{l:List Nd}{b c:Nat},MI n0 src l b c→sw F l b→∀(i:Nat)(ys:List AV),(gv l c)[i]? = some ys→∃s,(qv l b)[i]? = some s∧∃xs,Y.find F s=mG xs∧dt F n0 src xs ys
 |[],_,_,_,_,i,ys,h=>by simp[gv] at h
 |t::r,b,c,hw,hr,i,ys,h=>by
  simp only[gv] at h
  simp only[qv]
  have hx:=gf t c
  by_cases hi:i<t.size
  ·rw[List.getElem?_append_left (by omega)] at h
   rw[List.getElem?_append_left (by simpa using hi)]
   obtain ⟨xs,h1,h2⟩:=MG (F:=F) (m:=t.size) hw.1 t 0 (by omega) i ys h
   exact ⟨b+i,by simp[hi],xs,hr.1 i xs h1,h2⟩
  ·rw[List.getElem?_append_right (by omega),hx] at h
   rw[List.getElem?_append_right (by simpa using hi)]
   simp only[List.length_map,List.length_range]
   exact ML hw.2 hr.2 (i-t.size) ys h
abbrev nD:AV:=.agg [.sc (.int .u8 0),.sc (.string ⟨#[]⟩),.sc (.int .i64 0),.am 0 [] (some [])]
def EA(l:List Nd):Prop:=∀(ro:Option (List AV))(H:Y),Nd.ay l≤1000000→D Tryz.prog 29 [.am 4 (bh l) ro] H (.ret (Er l.length H.length)) (lc l (H.length+1)++(mG (jF l H.length)::H))
theorem zG(t:Nd)(h:EA t.kids)(hz:t.size≤1000000)(ro:Option (List AV))(H:Y):D Tryz.prog 9 [dZ t ro] H (.ret (oT t H.length)) (qt t H.length++H):=by
 have zX:=Nd.size_eq t
 have hk:=fun H=>h ro H (by omega)
 rw[aQ]
 refine aG (by simp) (dk9 (aA ?_))
 simp only[ic9,ux]
 refine Z fun L hL=>?_
 refine aw ?_
 refine hL _ _ ?_
 clear hL
 refine Z fun L hL=>?_
 refine aw ?_
 refine ae (hk _) ?_
 generalize hG:lc t.kids _++_=G
 have hR:=Ey (l:=t.kids) (H:=some ⟨4,[nD],true,25⟩::some ⟨4,[.agg [.sc (.int .u8 t.kind),.sc (.string t.text),.sc (.int .i64 t.num),.am 4 (bh t.kids) ro]],true,25⟩::H)
 rw[hG] at hR
 simp only[List.length_cons,Nat.add_assoc,Nat.reduceAdd] at hR ⊢
 have Ej:G.length=H.length+2+t.size:=by
  rw[←hG,List.length_append,FD]
  simp
  omega
 have f1:Y.find G H.length=some ⟨4,[.agg [.sc (.int .u8 t.kind),.sc (.string t.text),.sc (.int .i64 t.num),.am 4 (bh t.kids) ro]],true,25⟩:=by
  rw[←hG,Y.bF (by simp;omega),ai (by simp;omega),ai (by simp),aJ rfl]
 have f2:Y.find G (H.length+1)=some ⟨4,[nD],true,25⟩:=by
  rw[←hG,Y.bF (by simp),ai (by simp),aJ (by simp)]
 have f3:∀i,i<H.length→Y.find G i=Y.find H i:=fun i hi=>by
  rw[←hG,Y.bF (by simp;omega),ai (by simp;omega),ai (by simp;omega),ai hi]
 clear hG
 refine aI (ak f1 f2) ?_
 refine hL _ _ ?_
 clear hL
 refine Z fun L hL=>?_
 refine aI (ak f1 f2) ?_
 refine hL _ _ ?_
 clear hL
 refine aI (ak f1 f2) ?_
 have hO:iL G t (H.length+2):=fun i xs hx=>by
  rw[qu] at hx
  cases i with
  |zero =>
   simp only[List.getElem?_cons_zero,Option.some.injEq] at hx
   rw[←hx,Nat.add_zero]
   exact hR.row
  |succ i =>
   rw[List.getElem?_cons_succ] at hx
   rw[show H.length+2+(i+1)=H.length+2+1+i by omega]
   exact hR.kids i xs hx
 have pQ:((List.range t.size).map (H.length+2+·)).length=t.size:=by simp
 have hsn:((List.range t.size).map (H.length+2+·)).Nodup:=D3 (fun i j h=>by omega)
 have hsi:∀i,i<t.size→((List.range t.size).map (H.length+2+·))[i]? = some (H.length+2+i):=fun i hi=>by simp[hi]
 have hN:∀j,j<t.size→cP H.length ((List.range t.size).map (H.length+2+·)) (H.length+2+j)=some (H.length+j):=fun j hj=>nA hsn (hsi j hj) (by omega)
 rw[xP]
 refine nx _ ((List.range t.size).map (H.length+2+·)) (by rw[pQ];simp[wB,gf]) hsn (fun s hs=>?_) (fun i hi=>?_) (fun i k s hb hs=>?_) ?_
 ·obtain ⟨i,_,rfl⟩:=List.mem_map.1 hs
  omega
 ·rw[Y.aj (by omega),Y.aj (by omega),f3 i hi]
 ·have hi:i<t.size:=by
   have:=(List.getElem?_eq_some_iff.1 hs).1
   rwa [pQ] at this
  rw[hsi i hi] at hs
  cases hs
  simp only[wB,List.getElem?_map,Option.map_eq_some_iff,Option.some.injEq] at hb
  obtain ⟨ys,hy,rfl⟩:=hb
  obtain ⟨xs,hx,hg⟩:=MG (F:=Y.set (Y.set G H.length (some ⟨4,[.agg [.sc (.int .u8 t.kind),.sc (.string t.text),.sc (.int .i64 t.num),.aD 4 (H.length+2) 0 t.kids.length (some (t.kids.length+12))]],true,25⟩)) (H.length+1) (some ⟨4,[.agg [.sc (.int .u8 t.kind),.sc (.string t.text),.sc (.int .i64 t.num),.aD 4 (H.length+2) 0 t.kids.length (some (t.kids.length+12))]],true,25⟩)) (s0:=H.length+2) (c0:=H.length) hN t 0 (by omega) i ys hy
  refine ⟨⟨4,xs,true,25⟩,?_,rfl,rfl,fun h=>h,hg⟩
  rw[Y.aj (by omega),Y.aj (by omega)]
  exact hO i xs hx
 ·exact Et (s0:=H.length+2) (c0:=H.length) hN t 0 (by omega)
theorem EB(l:List Nd)(ih:∀t∈l,EA t.kids):EA l:=by
 intro ro H hz
 have hlen:=Nd.fZ l
 refine aG (by simp;omega) (ahJ (aA ?_))
 simp only[adk,ux]
 obtain ⟨m,hm⟩:∃m,m=l.length+12:=⟨_,rfl⟩
 have D9:((l.length:Int)+12).toNat=m:=by omega
 have xM:=aH l
 refine Z fun L hL=>?_
 refine fh ?_
 refine hL _ _ ?_
 clear hL
 refine Z fun L hL=>?_
 refine eQ (ak xM D9) ?_
 refine ⟨by omega,?_⟩
 refine hL _ _ ?_
 clear hL
 refine Z fun L hL=>?_
 refine fh ?_
 refine aZ (fun ts G=>∃k:Nat,(k≤l.length∧G.length=H.length+1+Nd.ay (l.take k)+k∧Y.find G H.length=some ⟨4,kR (l.take k) (H.length+1)++List.replicate (m-k) nD,true,25⟩∧sw G (l.take k) (H.length+1)∧∀i,i<H.length→Y.find G i=Y.find H i)∧Fr (some (.am 4 (bh l) ro)::none::none::some (.aD 4 H.length 0 k (some m))::some (.sc (.int .i64 k))::none::none::bf []) ts) (fun ts _=>l.length-(aM (ts.getD 4 .top)).toNat) ?_ ?_
 ·refine ⟨0,⟨Nat.zero_le _,by simp[Nd.ay],?_,trivial,fun i hi=>?_⟩,by simp[Fr]⟩
  ·refine fh ?_
   simp[kR]
  ·exact fh trivial
 ·rintro ts G ⟨k,⟨hk,q1,q2,q3,q4⟩,aX⟩ L2 bM
  obtain ⟨js,rfl⟩:=aX.opened
  clear aX
  by_cases hd:k<l.length
  ·have k0:(0:Int)≤(k:Int):=by omega
   have k1:(k:Int)<l.length:=by omega
   have hg:=dG hd
   have dW:=eJ hd
   have hsz:=Nd.de dW
   have l9:=zG (aE l k) (ih _ dW) (by omega) none G
   rw[aQ] at l9
   refine df (ei xM hg k0 k1) ?_
   refine ae l9 ?_
   obtain ⟨G2,ZR⟩:∃G2,qt (aE l k) G.length++G=G2:=⟨_,rfl⟩
   rw[ZR]
   have g0:G2.length=G.length+(aE l k).size:=by rw[←ZR,List.length_append,tB];omega
   have g1:∀i,i<G.length→Y.find G2 i=Y.find G i:=fun i hi=>by rw[←ZR,Y.bF hi]
   have g2:Y.find G2 H.length=some ⟨4,kR (l.take k) (H.length+1)++List.replicate (m-k) nD,true,25⟩:=by rw[g1 _ (by omega),q2]
   have g3:iL G2 (aE l k) G.length:=fun i xs hx=>by
    rw[←ZR,xP]
    exact r9 (by simp[wB,hx])
   clear ZR l9
   have dY:=zF (l.take k) (H.length+1)
   rw[List.length_take,Nat.min_eq_left hk] at dY
   have htk:(kR (l.take k) (H.length+1)++List.replicate (m-k) nD).take k=kR (l.take k) (H.length+1):=by rw[List.take_append_of_le_length (by omega),List.take_of_length_le (by omega)]
   have hdk:(kR (l.take k) (H.length+1)++List.replicate (m-k) nD).drop (k+1)=List.replicate (m-(k+1)) nD:=by
    rw[List.drop_append,List.drop_of_length_le (by omega),dY,List.nil_append,List.drop_replicate]
    congr 1
    omega
   have ef:(kR (l.take k) (H.length+1)++List.replicate (m-k) nD).length=m:=by rw[List.length_append,dY,List.length_replicate];omega
   have hroom:k+1≤m:=by omega
   have hkm:k≤m:=by omega
   have vL:k+1≤100000000:=by omega
   refine eQ (Dq g2 htk hdk ef hroom hkm vL @j8) ?_
   have hst:=iJ hd
   have hne:∀i,i<G.length→i≠H.length→∀(b x:Option aP),Y.find (b::Y.set G2 H.length x) i=Y.find G i:=fun i h1 h2 b x=>by
    rw[ai (by rw[Y.af];omega),Y.aj h2,g1 i h1]
   have sP:(l.take k).length=k:=by rw[List.length_take];omega
   refine bM _ _ ⟨k+1,⟨by omega,by simp[Y.af];omega,?_,?_,fun i hi=>?_⟩,by simp[Fr]⟩ (by simp[aM,mk];omega)
   ·rw[ai (by rw[Y.af];omega),Y.aC (by omega),List.take_succ_eq_append_getElem hd,Je,←eH hd,sP,←q1]
    simp only[kR,List.append_assoc,List.singleton_append,oT]
   ·rw[List.take_succ_eq_append_getElem hd,←eH hd]
    refine sw.append (q3.of fun i h1 h2=>?_) ⟨?_,trivial⟩
    ·rw[sP] at h2
     exact hne i (by omega) (by omega) _ _
    ·rw[sP,←q1]
     refine g3.of fun i h1 h2=>?_
     rw[ai (by rw[Y.af];omega),Y.aj (by omega)]
   ·rw[hne i (by omega) (by omega)]
    exact q4 i hi
  ·have mN:k=l.length:=by omega
   subst mN
   have k1:¬((l.length:Nat):Int)<l.length:=by omega
   refine df (ak xM k1) ?_
   refine hL _ _ ?_
   clear hL bM
   refine Z fun L hL=>?_
   refine fh ?_
   have htk:l.take l.length=l:=List.take_length
   rw[htk] at q1 q2 q3
   have dY:=zF l (H.length+1)
   have ed:m-l.length=12:=by omega
   rw[ed] at q2
   refine aZ (fun ts F=>∃j:Nat,(j≤12∧F.length=G.length∧Y.find F H.length=some ⟨4,kR l (H.length+1)++(jd j++List.replicate (12-j) nD),true,25⟩∧∀i,i<G.length→i≠H.length→Y.find F i=Y.find G i)∧Fr (some (.am 4 (bh l) ro)::none::none::some (.aD 4 H.length 0 (l.length+j) (some m))::none::none::some (.sc (.int .i64 j))::bf []) ts) (fun ts _=>12-(aM (ts.getD 6 .top)).toNat) ⟨0,⟨by omega,rfl,by simpa [jd] using q2,fun _ _ _=>rfl⟩,by simp[Fr]⟩ ?_
   rintro ts F ⟨j,⟨hj,p1,p2,p3⟩,aX⟩ L2 bM
   obtain ⟨js,rfl⟩:=aX.opened
   clear aX
   refine yU ?_
   refine dz (fun h=>?_) (fun h=>?_)
   ·have h1:j<12:=by omega
    refine fh ?_
    refine ae (qY _ _ _) ?_
    have o7:=vK (j:=j)
    have htk:(kR l (H.length+1)++(jd j++List.replicate (12-j) nD)).take (l.length+j)=kR l (H.length+1)++jd j:=by
     rw[←List.append_assoc,List.take_append_of_le_length (by simp[dY,o7]),List.take_of_length_le (by simp[dY,o7])]
    have hdk:(kR l (H.length+1)++(jd j++List.replicate (12-j) nD)).drop (l.length+(j+1))=List.replicate (12-(j+1)) nD:=by
     rw[←List.append_assoc,List.drop_append,List.drop_of_length_le (by simp[dY,o7]),List.length_append,dY,o7,List.nil_append,List.drop_replicate]
     congr 1
     omega
    have ef:(kR l (H.length+1)++(jd j++List.replicate (12-j) nD)).length=m:=by rw[List.length_append,List.length_append,dY,o7,List.length_replicate];omega
    have hroom:l.length+(j+1)≤m:=by omega
    have hkm:l.length+j≤m:=by omega
    have vL:l.length+(j+1)≤100000000:=by omega
    refine eQ (Dq p2 htk hdk ef hroom hkm vL @wm) ?_
    refine bM _ _ ⟨j+1,⟨by omega,by rw[Y.af];exact p1,?_,fun i h2 h3=>?_⟩,by simp[Fr]⟩ (by simp[aM,mk];omega)
    ·rw[Y.aC (by omega),Jd]
     simp only[List.append_assoc,List.singleton_append,List.cons_append,List.nil_append]
     rw[show 12-(j+1)=11-j by omega]
     rfl
    ·rw[Y.aj h3]
     exact p3 i h2 h3
   ·have aiH:j=12:=by omega
    subst aiH
    refine hL _ _ ?_
    clear hL bM
    have hkm:l.length≤m:=by omega
    have h0m:0<m:=by omega
    refine eQ (ei xM hkm h0m @Nat.sub_zero) ?_
    refine ⟨⟨by omega,rfl,by omega⟩,?_⟩
    simp only[Nat.sub_self,List.replicate_zero,List.append_nil] at p2
    obtain ⟨src,hsrc⟩:∃src,src=H.length::qv l (H.length+1):=⟨_,rfl⟩
    have aiI:src.length=1+Nd.ay l:=by rw[hsrc,List.length_cons,Jf];omega
    have snd:src.Nodup:=by
     rw[hsrc]
     refine List.nodup_cons.2 ⟨fun h=>?_,MH _ _⟩
     have:=Ez _ _ _ h
     omega
    have sge:∀s∈src,H.length≤s:=fun s hs=>by
     rw[hsrc] at hs
     rcases List.mem_cons.1 hs with rfl|hs
     ·exact Nat.le_refl _
     ·have:=Ez _ _ _ hs;omega
    have s0:cP H.length src H.length=some H.length:=nA (i:=0) snd (by rw[hsrc];rfl) (Nat.le_refl _)
    have aed:MI H.length src l (H.length+1) (H.length+1):=MJ l _ _ fun i s hs=>by
     rw[show H.length+1+i=H.length+(i+1) by omega]
     have hs':src[i+1]? = some s:=by rw[hsrc,List.getElem?_cons_succ];exact hs
     exact nA snd hs' (sge s (List.mem_of_getElem? hs'))
    have aiJ:sw F l (H.length+1):=q3.of fun i h1 h2=>p3 i (by omega) (by omega)
    have yg:lc l (H.length+1)++(mG (jF l H.length)::H)=lays (wB (jF l H.length::gv l (H.length+1))) H:=by
     rw[BD]
     rfl
    rw[yg]
    have eV:Er l.length H.length = .aD 4 H.length 0 l.length (some m):=by rw[hm]
    rw[eV]
    refine nx _ src (by rw[aiI];simp[wB,FE];omega) snd sge (fun i hi=>(p3 i (by omega) (by omega)).trans (q4 i hi)) (fun i kb s hb hs=>?_) (.Gt s0 (.inl rfl))
    cases i with
    |zero =>
     rw[hsrc] at hs
     simp only[List.getElem?_cons_zero,Option.some.injEq] at hs
     simp only[wB,List.map_cons,List.getElem?_cons_zero,Option.some.injEq] at hb
     subst hs hb
     exact ⟨_,p2,rfl,rfl,fun h=>h,dt.append (MK aed) (Ep 12)⟩
    |succ i =>
     rw[hsrc,List.getElem?_cons_succ] at hs
     simp only[wB,List.map_cons,List.getElem?_cons_succ,List.getElem?_map,Option.map_eq_some_iff,Option.some.injEq] at hb
     obtain ⟨ys,hy,rfl⟩:=hb
     obtain ⟨s',z1,xs,z2,z3⟩:=ML (F:=F) aed aiJ i ys hy
     rw[hs] at z1
     cases z1
     exact ⟨⟨4,xs,true,25⟩,z2,rfl,rfl,fun h=>h,z3⟩
theorem MM(l:List Nd):EA l:=by
 have key:∀n:Nat,∀l:List Nd,Nd.ay l≤n→EA l:=by
  intro n
  induction n with
  |zero =>
   intro l h
   refine EB l fun t ht=>?_
   have:=Nd.de ht
   have:=t.size_pos
   omega
  |succ n ih =>
   intro l h
   refine EB l fun t ht=>ih _ ?_
   have:=Nd.de ht
   have:=Nd.size_eq t
   omega
 exact key _ l (Nat.le_refl _)
theorem MN(t:Nd)(hz:t.size≤1000000)(ro:Option (List AV))(H:Y):D Tryz.prog 9 [dZ t ro] H (.ret (oT t H.length)) (qt t H.length++H):=zG t (MM _) hz ro H
theorem BF(k i:Int)(H:Y):D Tryz.prog 16 [qq k i,qq k i] H (.ret (.sc (.bool true))) H:=by
 have h:=qX ⟨0,⟨#[]⟩,gr k i,[]⟩ (by simp[Nd.size,Nd.ay]) ⟨0,⟨#[]⟩,gr k i,[]⟩ none none H
 rw[qR] at h
 have hl:Le (qq k i) (dZ ⟨0,⟨#[]⟩,gr k i,[]⟩ none):=.agg (.cons .refl (.cons .refl (.cons .refl (.cons .nil .nil))))
 exact acT (.cons hl (.cons hl .nil)) h
theorem iL.over{H G:Y}{t:Nd}{a:Nat}(h:iL H t a)(ho:Over H G):iL G t a:=fun i xs hx=>by
 have h1:=h i xs hx
 rw[Over.find ho (Y.ax h1)]
 exact h1
theorem Eu.over{H G:Y}{l:List Nd}{a:Nat}(h:Eu H l a)(ho:Over H G):Eu G l a where
 row:=by rw[Over.find ho (Y.ax h.row)];exact h.row
 kids:=fun i xs hx=>by
  have h1:=h.kids i xs hx
  rw[Over.find ho (Y.ax h1)]
  exact h1
def EC(l:List Nd):Prop:=∀(rl:Option (List AV))(a:Nat)(H:Y),Nd.ay l≤1000000→Eu H l a→D Tryz.prog 38 [Er l.length a,.am 4 (bh l) rl] H (.ret (.sc (.bool true))) H
theorem ZS{H:Y}(t:Nd):View H (eu t) (eu t):=by
 induction t using Nd.ind with
 |_ t ih =>
  have key:∀l:List Nd,(∀k∈l,View H (eu k) (eu k))→cJ H (bh l) (bh l):=by
   intro l
   induction l with
   |nil=>intro _;exact .nil
   |cons x r fC=>intro h;exact .cons (h x (by simp)) (fC fun k hk=>h k (by simp[hk]))
  rw[ew]
  exact .agg (.cons .sc (.cons .sc (.cons .sc (.cons (.am (key _ ih)) .nil))))
theorem MO{H:Y}{t:Nd}{a:Nat}(hz:t.size≤1000000)(h:iL H t a):D Tryz.prog 16 [oT t a,dZ t none] H (.ret (.sc (.bool true))) H:=by
 have hs:=qX t hz t none none []
 rw[qR,kx] at hs
 rw[kx]
 exact s9 (.cons (Ex t h) (.cons (ZS t) .nil)) .sc hs
theorem zH(t:Nd)(h:EC t.kids)(hz:t.size≤1000000)(a:Nat)(H:Y)(hl:iL H t a):D Tryz.prog 12 [oT t a,dZ t none] H (.ret (.sc (.bool true))) H:=by
 have zX:=Nd.size_eq t
 have uw:=fun (G:Y) hg=>MO (H:=G) (a:=a) hz hg
 have hkk:=fun G hg=>h none a G (by omega) hg
 rw[aQ,j8] at *
 refine aG (Nat.le_refl _) (ahL (aA ?_))
 simp only[adm,ux]
 refine Z fun L hL=>?_
 refine aw ?_
 refine hL _ _ ?_
 clear hL
 refine Z fun L hL=>?_
 refine aw ?_
 refine ae (uw _ (hl.over (.cons (.cons .refl)))) ?_
 refine aw ?_
 refine ae (hkk _ (hl.row.over (.cons (.cons .refl)))) ?_
 refine aw ?_
 refine hL _ _ ?_
 clear hL
 refine aw ?_
 exact bL (.cons (.cons .refl))
theorem ED(l:List Nd)(ih:∀t∈l,EC t.kids):EC l:=by
 intro rl a H hz hr
 have hlen:=Nd.fZ l
 have hrow:=hr.row
 refine aG (Nat.le_refl _) (ahK (aA ?_))
 simp only[adl,ux]
 obtain ⟨m,hm⟩:∃m,m=l.length+12:=⟨_,rfl⟩
 have D9:((l.length:Int)+12).toNat=m:=by omega
 have c0:0<m:=by omega
 have xM:=aH l
 have yI:(jF l a).length=m:=by rw[tA,hm]
 rw[show Er l.length a = .aD 4 a 0 l.length (some m) from by rw[hm]]
 refine Z fun L hL=>?_
 refine fh ?_
 refine hL _ _ ?_
 clear hL
 refine Z fun L hL=>?_
 simp -implicitDefEqProofs (maxSteps:=99999999) (disch:=first|omega|(simp only[vl]<;>omega)) only[xM,ne_eq,va,vg,vs,vw,vk,simprocAttr]
 refine hL _ _ ?_
 clear hL
 refine Z fun L hL=>?_
 refine eQ (ei xM D9 c0 @Nat.sub_zero) ?_
 refine ⟨⟨by omega,rfl,by omega,by omega⟩,?_⟩
 refine hL _ _ ?_
 clear hL
 refine Z fun L hL=>?_
 refine fh ?_
 refine aZ (fun ts G=>∃j:Nat,(j≤m∧G=H)∧Fr (some (.aD 4 a 0 l.length (some m))::some (.am 4 (bh l) rl)::none::none::some (.sc (.bool false))::some (.aD 4 a 0 m (some m))::some (.sc (.int .i64 j))::none::none::none::dL (bf [])) ts) (fun ts _=>m-(aM (ts.getD 6 .top)).toNat) ⟨0,⟨by omega,rfl⟩,by simp[Fr]⟩ ?_
 rintro ts H ⟨j,⟨hj,rfl⟩,aX⟩ L2 bM
 obtain ⟨js,rfl⟩:=aX.opened
 clear aX
 refine yU ?_
 refine dz (fun h=>?_) (fun h=>?_)
 ·have h1:j<m:=by omega
  have j0:(0:Int)≤(j:Int):=by omega
  have j1:(j:Int)<m:=by omega
  by_cases c1:j<l.length
  ·have c2:(j:Int)<l.length:=by omega
   have c3:¬((j:Int)≥l.length):=by omega
   have xu:=AW (a:=a) c1
   have sr:=dG c1
   have dW:=eJ c1
   have hsz:=Nd.de dW
   have hk:=zH (aE l j) (ih _ dW) (by omega) _ H (hr.kids.at_ c1)
   obtain ⟨q,hq⟩:∃q,a+1+Nd.ay (l.take j)=q:=⟨_,rfl⟩
   rw[hq,j8] at xu hk
   rw[aQ] at hk
   simp -implicitDefEqProofs (maxSteps:=99999999) (disch:=first|omega|(simp only[vl]<;>omega)) only[hrow,xM,yI,h1,j0,j1,c1,c2,c3,xu,sr,va,vg,vs,vw,vk,simprocAttr]
   refine aL hk ?_
   simp -implicitDefEqProofs (maxSteps:=99999999) (disch:=first|omega|(simp only[vl]<;>omega)) only[hrow,xM,yI,h1,j0,j1,c1,c2,c3,xu,sr,va,vg,vs,vw,vk,simprocAttr]
   exact bM _ _ ⟨j+1,⟨by omega,rfl⟩,by simp[Fr]⟩ (by simp[aM,mk];omega)
  ·obtain ⟨t,rfl⟩:∃t,j=l.length+t:=⟨j-l.length,by omega⟩
   have c2:¬(((l.length+t:Nat):Int)<l.length):=by omega
   have c3:((l.length+t:Nat):Int)≥l.length:=by omega
   have xu:=Ew (l:=l) (a:=a) (t:=t) (by omega)
   have hmk:=qY
   have uw:=BF
   simp only[wm] at xu hmk uw
   have e2:((l.length+t:Nat):Int)-l.length=t:=by omega
   simp -implicitDefEqProofs (maxSteps:=99999999) (disch:=first|omega|(simp only[vl]<;>omega)) only[hrow,xM,yI,h1,j0,j1,c1,c2,c3,xu,e2,va,vg,vs,vw,vk,simprocAttr]
   refine aL (hmk _ _ _) ?_
   simp -implicitDefEqProofs (maxSteps:=99999999) (disch:=first|omega|(simp only[vl]<;>omega)) only[hrow,xM,yI,h1,j0,j1,c1,c2,c3,xu,e2,va,vg,vs,vw,vk,simprocAttr]
   refine aL (uw _ _ _) ?_
   simp -implicitDefEqProofs (maxSteps:=99999999) (disch:=first|omega|(simp only[vl]<;>omega)) only[hrow,xM,yI,h1,j0,j1,c1,c2,c3,xu,e2,va,vg,vs,vw,vk,simprocAttr]
   exact bM _ _ ⟨l.length+t+1,⟨by omega,rfl⟩,by simp[Fr]⟩ (by simp[aM,mk];omega)
 ·refine hL _ _ ?_
  clear hL
  refine fh ?_
  exact eB.refl _ _ _
theorem MP(l:List Nd):EC l:=by
 have key:∀n:Nat,∀l:List Nd,Nd.ay l≤n→EC l:=by
  intro n
  induction n with
  |zero =>
   intro l h
   refine ED l fun t ht=>?_
   have:=Nd.de ht
   have:=t.size_pos
   omega
  |succ n ih =>
   intro l h
   refine ED l fun t ht=>ih _ ?_
   have:=Nd.de ht
   have:=Nd.size_eq t
   omega
 exact key _ l (Nat.le_refl _)
mutual
inductive OW(F:Y):Nd→AV→List Nat→Prop
 | mk {k:Int}{s:ByteArray}{n:Int}{l:List Nd}{xs:List AV}{i:Nat}{is:List Nat}:(xs≠[]→Y.find F i=bS 4 25 xs)→mQ F l xs is→OW F ⟨k,s,n,l⟩ (.agg [.sc (.int .u8 k),.sc (.string s),.sc (.int .i64 n),aW 4 xs i]) (i::is)
inductive mQ(F:Y):List Nd→List AV→List Nat→Prop
 | nil:mQ F [] [] []
 | cons {t:Nd}{l:List Nd}{x:AV}{xs:List AV}{a b:List Nat}:OW F t x a→mQ F l xs b→mQ F (t::l) (x::xs) (a++b)
end
theorem mQ.append{F:Y}:∀{l m:List Nd}{xs ys:List AV}{a b:List Nat},mQ F l xs a→mQ F m ys b→mQ F (l++m) (xs++ys) (a++b)
 |[],_,_,_,_,_,.nil,h=>h
 |_::_,_,_,_,_,_,.cons h1 h2,h=>by
  rw[List.append_assoc]
  exact .cons h1 (mQ.append h2 h)
theorem mQ.len{F:Y}:∀{l:List Nd}{xs:List AV}{a:List Nat},mQ F l xs a→xs.length=l.length
 |[],_,_,.nil=>rfl
 |_::_,_,_,.cons _ h=>by simp[mQ.len h]
theorem OW.Qf{F:Y}(t:Nd):∀{x:AV}{is:List Nat},OW F t x is→is.length=t.size:=by
 induction t using Nd.ind with
 |_ t ih =>
  intro x is h
  have key:∀(l:List Nd),(∀k∈l,∀{x:AV}{is:List Nat},OW F k x is→is.length=k.size)→∀{xs:List AV}{is:List Nat},mQ F l xs is→is.length=Nd.ay l:=by
   intro l
   induction l with
   |nil=>intro _ xs is h;cases h;rfl
   |cons y r fC =>
    intro hk xs is h
    cases h with
    |cons h1 h2 =>
     rw[List.length_append,hk y (by simp) h1,fC (fun k hk'=>hk k (by simp[hk'])) h2]
     rfl
  cases h with
  |mk h1 h2 =>
   rw[List.length_cons,key _ ih h2]
   simp only[Nd.size,Nd.kids]
   omega
theorem Qg{F:Y}(t:Nd):∀{a:Nat},dP F t a→OW F t (fF t a) (List.range' a t.size):=by
 induction t using Nd.ind with
 |_ t ih =>
  intro a h
  have key:∀(l:List Nd),(∀k∈l,∀{a:Nat},dP F k a→OW F k (fF k a) (List.range' a k.size))→∀a,jc F l a→mQ F l (eT l a) (List.range' a (Nd.ay l)):=by
   intro l
   induction l with
   |nil=>intro _ a _;exact .nil
   |cons x r fC =>
    intro hx a hl
    simp only[eT,Nd.ay]
    rw[←List.range'_append_1]
    exact .cons (hx x (by simp) hl.first) (fC (fun k hk=>hx k (by simp[hk])) _ hl.rest)
  have h1:=h.head
  have h2:=key _ ih _ h.kids
  cases t with
  |mk k s n l =>
   simp only[fF,Nd.size,Nd.kids] at *
   rw[Nat.add_comm 1,List.range'_succ]
   exact .mk (fun _=>h1) h2
theorem ZT{F K:Y}{n0:Nat}{src:List Nat}(t:Nd):∀{x:AV}{is:List Nat}{c:Nat},OW F t x is→(∀(k i:Nat),is[k]? = some i→cP n0 src i=some (c+k))→
  Gz K n0 src x (fF t c)∧∀(k:Nat)(ys:List AV),(AF t c)[k]? = some ys→∃(i:Nat)(xs:List AV),is[k]? = some i∧(xs≠[]→Y.find F i=bS 4 25 xs)∧dt K n0 src xs ys:=by
 induction t using Nd.ind with
 |_ t ih =>
  intro x is c h hN
  have key:∀(l:List Nd),(∀k∈l,∀{x:AV}{is:List Nat}{c:Nat},OW F k x is→(∀(k i:Nat),is[k]? = some i→cP n0 src i=some (c+k))→
    Gz K n0 src x (fF k c)∧∀(j:Nat)(ys:List AV),(AF k c)[j]? = some ys→∃(i:Nat)(xs:List AV),is[j]? = some i∧(xs≠[]→Y.find F i=bS 4 25 xs)∧dt K n0 src xs ys)→
    ∀{xs:List AV}{is:List Nat}{c:Nat},mQ F l xs is→(∀(k i:Nat),is[k]? = some i→cP n0 src i=some (c+k))→
    dt K n0 src xs (eT l c)∧∀(j:Nat)(ys:List AV),(lU l c)[j]? = some ys→∃(i:Nat)(xs:List AV),is[j]? = some i∧(xs≠[]→Y.find F i=bS 4 25 xs)∧dt K n0 src xs ys:=by
   intro l
   induction l with
   |nil=>intro _ xs is c h _;cases h;exact ⟨.nil,fun j ys h=>by simp[lU] at h⟩
   |cons y r fC =>
    intro hk xs is c h hN
    cases h with
    |@cons _ _ x xs a b h1 h2 =>
     have hal:=OW.Qf _ h1
     have k1:=hk y (by simp) h1 (c:=c) (fun k i hi=>hN k i (by rw[List.getElem?_append_left (List.getElem?_eq_some_iff.1 hi).1];exact hi))
     have k2:=fC (fun k hk'=>hk k (by simp[hk'])) h2 (c:=c+y.size) (fun k i hi=>by
      rw[show c+y.size+k=c+(a.length+k) by omega]
      exact hN _ i (by rw[List.getElem?_append_right (by omega),Nat.add_sub_cancel_left];exact hi))
     refine ⟨.cons k1.1 k2.1,fun j ys hj=>?_⟩
     simp only[lU] at hj
     by_cases hlt:j<y.size
     ·rw[List.getElem?_append_left (by rw[gW];exact hlt)] at hj
      obtain ⟨i,zs,e1,e2⟩:=k1.2 j ys hj
      exact ⟨i,zs,by rw[List.getElem?_append_left (by omega)];exact e1,e2⟩
     ·rw[List.getElem?_append_right (by rw[gW];omega),gW] at hj
      obtain ⟨i,zs,e1,e2⟩:=k2.2 _ ys hj
      exact ⟨i,zs,by rw[List.getElem?_append_right (by omega),hal];exact e1,e2⟩
  cases h with
  |@mk k s n l xs i is h1 h2 =>
   have h3:=key l ih h2 (c:=c+1) (fun k j hj=>by
    rw[show c+1+k=c+(k+1) by omega]
    exact hN (k+1) j (by rw[List.getElem?_cons_succ];exact hj))
   refine ⟨?_,fun j ys hj=>?_⟩
   ·simp only[fF]
    refine .agg (.cons (.same trivial) (.cons (.same trivial) (.cons (.same trivial) (.cons ?_ .nil))))
    rw[G5 (show (eT l (c+1)).length=xs.length by rw[gV,h2.len])]
    exact Dp fun _=>hN 0 i rfl
   ·simp only[AF] at hj
    cases j with
    |zero =>
     simp only[List.getElem?_cons_zero,Option.some.injEq] at hj
     exact ⟨i,xs,rfl,h1,hj▸h3.1⟩
    |succ j =>
     rw[List.getElem?_cons_succ] at hj
     obtain ⟨i',zs,e1,e2⟩:=h3.2 j ys hj
     exact ⟨i',zs,by rw[List.getElem?_cons_succ];exact e1,e2⟩
theorem MQ{H F:Y}{t:Nd}{x:AV}{is:List Nat}{v:Value}(h:OW F t x is)(hn:is.Nodup)(hge:∀i∈is,H.length≤i)(ho:∀i,i<H.length→Y.find F i=Y.find H i) :
  eB H (.ret (.aO [x,.sc v])) F (.ret (.aO [fF t H.length,.sc v])) (gd t H.length++H):=by
 have hN:∀(k i:Nat),is[k]? = some i→cP H.length is i=some (H.length+k):=fun k i hi=>nA hn hi (hge i (List.mem_of_getElem? hi))
 obtain ⟨g1,g2⟩:=ZT (K:=F) t h hN
 rw[G4]
 refine nx _ is (by rw[OW.Qf _ h];simp[LV,gW]) hn hge ho (fun i k s hb hs=>?_) (.aO (.cons g1 (.cons (.same trivial) .nil)))
 simp only[LV,List.getElem?_map,Option.map_eq_some_iff] at hb
 obtain ⟨ys,hy,hk⟩:=hb
 obtain ⟨hne,rfl⟩:=pY hk
 obtain ⟨i',xs,e1,e2,e3⟩:=g2 i ys hy
 rw[hs] at e1
 cases e1
 have Fb:xs≠[]:=fun e=>hne (by have:=e3.len;rw[e] at this;exact List.length_eq_zero_iff.1 (by simpa using this))
 have e4:=e2 Fb
 rw[bj Fb] at e4
 exact ⟨_,e4,rfl,rfl,fun h=>h,e3⟩
theorem Jg(p q:List Nd):∀a,lU (p++q) a=lU p a++lU q (a+Nd.ay p):=by
 induction p with
 |nil=>intro a;simp[lU,Nd.ay]
 |cons x r ih =>
  intro a
  simp only[List.cons_append,lU,ih,Nd.ay,List.append_assoc]
  rw[show a+(x.size+Nd.ay r)=a+x.size+Nd.ay r by omega]
theorem tC(l:List Nd):∀a,(lU l a).length=Nd.ay l:=by
 induction l with
 |nil=>intro a;rfl
 |cons x r ih=>intro a;simp only[lU,List.length_append,gW,ih,Nd.ay]
theorem jc.split{F:Y}{p q:List Nd}{a:Nat}(h:jc F (p++q) a):jc F p a∧jc F q (a+Nd.ay p):=by
 unfold jc at *
 rw[Jg] at h
 refine ⟨fun i xs hx=>h i xs ?_,fun i xs hx=>?_⟩
 ·rw[List.getElem?_append_left (List.getElem?_eq_some_iff.1 hx).1]
  exact hx
 ·rw[Nat.add_assoc]
  refine h _ xs ?_
  rw[List.getElem?_append_right (by rw[tC];omega),tC,Nat.add_sub_cancel_left]
  exact hx
theorem jc.of{F G:Y}{l:List Nd}{a:Nat}(h:jc F l a)(hs:∀i,a≤i→i<a+Nd.ay l→Y.find G i=Y.find F i):jc G l a:=fun i xs hx=>by
 have hi:=(List.getElem?_eq_some_iff.1 hx).1
 rw[tC] at hi
 rw[hs _ (by omega) (by omega)]
 exact h i xs hx
theorem px{a n y:Nat}(h:y∈List.range' a n):a≤y∧y<a+n:=by
 obtain ⟨i,hi,rfl⟩:=List.mem_range'.1 h
 omega
theorem Jh(n:Nat)(t:Nd):∀a,(fF t a).up n=fF t (n+a)∧Y.up n (gd t a)=gd t (n+a)∧(fF t a).op=true∧∀b∈gd t a,∀k,b=some k→AV.qj k.es=true:=by
 induction t using Nd.ind with
 |_ t ih =>
  intro a
  have key:∀l:List Nd,(∀k∈l,∀a,(fF k a).up n=fF k (n+a)∧Y.up n (gd k a)=gd k (n+a)∧(fF k a).op=true∧∀b∈gd k a,∀c,b=some c→AV.qj c.es=true)→
    ∀a,AV.mO n (eT l a)=eT l (n+a)∧Y.up n (sg l a)=sg l (n+a)∧AV.qj (eT l a)=true∧∀b∈sg l a,∀c,b=some c→AV.qj c.es=true:=by
   intro l
   induction l with
   |nil=>intro _ a;exact ⟨rfl,rfl,rfl,fun b h=>by simp[sg] at h⟩
   |cons x r fC =>
    intro hk a
    obtain ⟨h1,h2,h3,h4⟩:=hk x (by simp) a
    obtain ⟨g1,g2,g3,g4⟩:=fC (fun k h=>hk k (by simp[h])) (a+x.size)
    rw[show n+(a+x.size)=n+a+x.size by omega] at g1 g2
    refine ⟨by simp only[eT,AV.mO,h1,g1],?_,by simp only[eT,AV.qj,h3,g3,Bool.and_self],?_⟩
    ·simp only[sg]
     rw[←h2,←g2]
     unfold Y.up
     rw[List.map_append]
    ·intro b hb c hc
     simp only[sg,List.mem_append] at hb
     exact hb.elim (fun h=>g4 b h c hc) fun h=>h4 b h c hc
  obtain ⟨k1,k2,k3,k4⟩:=key t.kids ih (a+1)
  rw[show n+(a+1)=n+a+1 by omega] at k1 k2
  have hup:∀(xs:List AV)(i:Nat),(aW 4 xs i).up n=aW 4 (AV.mO n xs) (n+i):=by
   intro xs i
   cases xs with
   |nil=>rfl
   |cons x r =>
    rw[ji (by simp),ji (by simp[AV.mO])]
    simp[AV.up,AV.jZ]
  have NG:∀(xs:List AV),(bS 4 25 xs).map (aP.up n)=bS 4 25 (AV.mO n xs):=by
   intro xs
   cases xs with
   |nil=>rfl
   |cons x r=>rw[bj (by simp),bj (by simp[AV.mO])];rfl
  have hop:∀(xs:List AV)(i:Nat),(aW 4 xs i).op=true:=by
   intro xs i
   cases xs with
   |nil=>rfl
   |cons x r=>rw[ji (by simp)];rfl
  refine ⟨?_,?_,?_,?_⟩
  ·rw[ey,ey]
   simp only[AV.up,AV.mO,hup,k1]
  ·rw[zo,zo]
   unfold Y.up at k2 ⊢
   rw[List.map_append,k2,List.map_cons,List.map_nil,NG,k1]
  ·rw[ey]
   simp only[AV.op,AV.qj,hop,Bool.and_self]
  ·intro b hb c hc
   rw[zo,List.mem_append] at hb
   rcases hb with h|h
   ·exact k4 b h c hc
   ·rw[List.mem_singleton.1 h] at hc
    obtain ⟨h1,rfl⟩:=pY hc
    exact k3
theorem ZU{G:Y}(h:∀b∈G,∀k,b=some k→AV.qj k.es=true):Y.op G:=by
 intro id b hb
 induction G with
 |nil=>simp[Y.find] at hb
 |cons x r ih =>
  simp only[Y.find] at hb
  split at hb
  ·exact h x (by simp) b hb
  ·exact ih (fun b hb=>h b (by simp[hb])) hb
theorem aci{F:Y}{n0:Nat}{src:List Nat}(t:Nd)(r:Option (List AV)):Gz F n0 src (dZ t r) (eu t):=by
 rw[ew]
 exact .agg (.cons (.same trivial) (.cons (.same trivial) (.cons (.same trivial) (.cons (.am (zq _)) .nil))))
theorem MR{F:Y}{n0 i:Nat}(t:Nd)(hi:n0≤i)(hf:Y.find F i=bS 4 25 (bh t.kids)):Gz F n0 [] (wQ t i) (eu t):=by
 rw[zD,ew]
 exact .agg (.cons (.same trivial) (.cons (.same trivial) (.cons (.same trivial) (.cons (pZ (fun _=>by unfold cP;rw[if_neg (by omega)];rfl) (fun _=>hf) (zq _)) .nil))))
theorem ZV{l:List Nd}{m:Nat}(u:Nd):(bh l).set m (eu u)=bh (l.set m u):=by
 rw[qa,qa,List.map_set]
theorem ZW{H:Y}{k k2:Nat}{ys:List AV}(h:ys≠[]):lB H k ys (.am k2 [] (some [])) = .aD k H.length 0 ys.length none:=by
 cases ys with
 |nil=>exact absurd rfl h
 |cons y r=>simp[Gv]
theorem ZX{H:Y}{k k2 ty:Nat}{ys:List AV}(h:ys≠[]):jx H k ty ys (.am k2 [] (some []))=some ⟨k,ys,false,ty⟩::H:=by
 cases ys with
 |nil=>exact absurd rfl h
 |cons y r=>simp[Gw]
theorem RO(x:ByteArray)(p:List Int):∀(t:Nd)(H:Y),t.size≤1000000→p.length≤1000000→(lV t p).isSome=true→D Tryz.prog 48 [dZ t none,.sc (.string x),.am 1 (aK p) none] H (.ret (eu (D5 x p t))) H:=by
 induction p with
 |nil =>
  intro t H hz hp hs
  rw[aQ,G7]
  refine aG (Nat.le_refl _) (aea (aA ?_))
  simp only[ZJ,ux]
  refine Z fun L hL=>?_
  refine aw ?_
  refine hL _ _ ?_
  clear hL
  refine Z fun L hL=>?_
  refine aw ?_
  refine hL _ _ ?_
  clear hL
  refine Z fun L hL=>?_
  refine aw ?_
  rw[show eu (D5 x [] t) = .agg [.sc (.int .u8 t.kind),.sc (.string x),.sc (.int .i64 t.num),.am 4 (bh t.kids) none] from ew _]
  exact ny (fun i hi=>by rw[ai (by simp;omega),ai (by simp;omega),ai hi]) (.agg (.cons (.same trivial) (.cons (.same trivial) (.cons (.same trivial) (.cons (.am (zq _)) .nil)))))
 |cons q r ih =>
  intro t H hz hp hs
  have hq:0≤q∧q<t.kids.length:=by
   simp only[lV] at hs
   split at hs
   ·assumption
   ·cases hs
  simp only[lV] at hs
  rw[if_pos hq] at hs
  obtain ⟨m,rfl⟩:∃m:Nat,q=m:=⟨q.toNat,by omega⟩
  rw[Int.toNat_natCast] at hs
  have hm:m<t.kids.length:=by omega
  have mN:=Nd.pf (eJ hm)
  have hi:=fun H=>ih (aE t.kids m) H (by omega) (by simp at hp;omega) hs
  rw[aQ] at hi
  rw[aQ,xC]
  have dY:=aB r
  have tZ:=aH t.kids
  have hkn:=Nd.fZ t.kids
  have hts:=Nd.size_eq t
  have hge:=dG hm
  have hnl:bh t.kids≠[]:=fun h=>by rw[h] at tZ;simp at tZ;omega
  have hpt:List.take (aK r).length (aK r)=aK r:=List.take_length
  have ea:∀K:Y,lB K 4 (bh t.kids) (.am 4 [] (some [])) = .aD 4 K.length 0 t.kids.length none:=fun K=>by rw[ZW hnl,tZ]
  have eh:∀K:Y,jx K 4 25 (bh t.kids) (.am 4 [] (some []))=some ⟨4,bh t.kids,false,25⟩::K:=fun K=>ZX hnl
  have q1:(m:Int)<t.kids.length:=by omega
  have z1:¬(((aK r).length+1:Nat):Int)=0:=by omega
  refine aG (Nat.le_refl _) (aea (aA ?_))
  simp only[ZJ,ux]
  refine Z fun L hL=>?_
  refine aw ?_
  refine hL _ _ ?_
  clear hL
  refine Z fun L hL=>?_
  refine aw ?_
  refine hL _ _ ?_
  clear hL
  refine Z fun L hL=>?_
  refine aI z1 ?_
  refine hL _ _ ?_
  clear hL
  refine Z fun L hL=>?_
  refine aI (gq tZ ea eh) ?_
  refine ⟨by omega,?_⟩
  refine hL _ _ ?_
  clear hL
  refine Z fun L hL=>?_
  refine aI (ei q1 tZ hge hpt) ?_
  obtain ⟨w,hw⟩:∃w,D5 x r (aE t.kids m)=w:=⟨_,rfl⟩
  rw[hw,ew] at hi
  have gJ:=ZV (l:=t.kids) (m:=m) w
  rw[ew] at gJ
  have hwe:D5 x ((m:Int)::r) t=⟨t.kind,t.text,t.num,t.kids.set m w⟩:=by simp only[D5,Int.toNat_natCast,hw]
  refine ⟨by omega,by omega,by omega,Nat.le_refl _,aL (hi _) ?_⟩
  refine aI (yQ q1 tZ hge hpt hm gJ) ?_
  refine ⟨by omega,?_⟩
  refine hL _ _ ?_
  clear hL
  refine aI (yQ q1 tZ hge hpt hm gJ) ?_
  have pQ:bh (t.kids.set m w)≠[]:=fun h=>by
   have:=aH (t.kids.set m w)
   rw[h,List.length_set] at this
   simp at this
   omega
  have e:AV.agg [.sc (.int .u8 t.kind),.sc (.string t.text),.sc (.int .i64 t.num),.aD 4 (H.length+3) 0 t.kids.length none]=wQ (D5 x ((m:Int)::r) t) (H.length+3):=by
   rw[hwe,zD]
   show _=AV.agg [.sc (.int .u8 t.kind),.sc (.string t.text),.sc (.int .i64 t.num),aW 4 (bh (t.kids.set m w)) (H.length+3)]
   rw[ji pQ,aH,List.length_set]
  rw[e]
  refine ny (fun i hi=>?_) (MR _ (by omega) ?_)
  ·rw[ai (by simp;omega),ai (by simp;omega),ai (by simp;omega),ai hi]
  ·rw[aJ (by simp),hwe]
   show _=bS 4 25 (bh (t.kids.set m w))
   rw[bj pQ]
def wS(p:List Int):List (List Int)→Nat→Int
 |[],_=>-1
 |q::r,i=>if q=p then i else wS p r (i+1)
theorem MS{p:List Int}:∀{l:List (List Int)}{i k:Nat},k<l.length→(∀j,j<k→¬dS l j=p)→dS l k=p→wS p l i=(i+k:Nat)
 |[],_,_,h,_,_=>by simp at h
 |q::r,i,0,_,_,h=>by simp[dS] at h;simp[wS,h]
 |q::r,i,k+1,h,hn,he=>by
  have h0:¬q=p:=by simpa [dS] using hn 0 (by omega)
  rw[wS,if_neg h0,MS (i:=i+1) (k:=k) (by simpa using h) (fun j hj=>by simpa [dS] using hn (j+1) (by omega)) (by simpa [dS] using he)]
  omega
theorem EE{p:List Int}:∀{l:List (List Int)}{i:Nat},(∀j,j<l.length→¬dS l j=p)→wS p l i=-1
 |[],_,_=>rfl
 |q::r,i,hn=>by
  have h0:¬q=p:=by simpa [dS] using hn 0 (by simp)
  rw[wS,if_neg h0,EE fun j hj=>by simpa [dS] using hn (j+1) (by simpa using hj)]
theorem BG{p:List Int}:∀{l:List (List Int)}{i:Nat},bX l p=decide (wS p l i≥0)
 |[],i=>by simp[bX,wS]
 |q::r,i=>by
  rw[wS]
  by_cases c:q=p
  ·rw[if_pos c]
   simp[bX,c]
  ·rw[if_neg c,←BG (l:=r)]
   simp[bX,c]
theorem acj(l:List (List Int))(p:List Int)(ro:Option (List AV))(hz:l.length≤1000000)(hp:∀k,k<l.length→(dS l k).length≤1000000)(gh:Nat)(H:Y)(hb:Y.find H gh=some ⟨1,[.am 1 (aK p) none],true,30⟩) :
  D Tryz.prog 181 [.am 1 (bc l) ro,.fn (.func 129) [] [.ptr 1 gh 0 0]] H (.ret (.sc (.int .i64 (wS p l 0)))) H:=by
 have cl:cr Tryz.prog 129=true:=by kernel_rfl
 have hone:∀(q:List Int)(hq:q.length≤1000000),D Tryz.prog 129 [.am 1 (aK q) none,.ptr 1 gh 0 0] H (.ret (.sc (.bool (decide (q=p))))) H:=fun q hq=>by
  have hlt:=Y.ax hb
  have h1:=fun H=>wi q p none none H (by omega)
  refine aG (Nat.le_refl _) (agf (aA ?_))
  simp only[ZF,ux]
  refine aI hb ?_
  refine ae (h1 _) ?_
  refine aw ?_
  exact aq .refl rfl
 refine aG (Nat.le_refl _) (age (aA ?_))
 simp only[ZE,ux]
 refine Z fun L hL=>?_
 refine aw ?_
 refine hL _ _ ?_
 clear hL
 refine Z fun L hL=>?_
 refine Z fun L hL=>?_
 refine aI @dg ?_
 refine hL _ _ ?_
 clear hL
 refine aZ (fun ts F=>∃k:Nat,(k≤l.length∧∀j,j<k→¬dS l j=p)∧F=H∧Fr (some (.am 1 (bc l) ro)::some (.fn (.func 129) [] [.ptr 1 gh 0 0])::none::none::some (.sc (.int .i64 0))::none::none::some (.sc (.int .i64 l.length))::some (.sc (.int .i64 k))::none::none::ir []) ts) (fun ts _=>l.length-(aM (ts.getD 8 .top)).toNat) ?_ ?_
 ·exact ⟨0,⟨Nat.zero_le _,fun j h=>absurd h (Nat.not_lt_zero _)⟩,rfl,by simp[Fr]⟩
 rintro ts F ⟨k,⟨hk,j7⟩,Ei,aX⟩ L2 bM
 rw[Ei]
 obtain ⟨js,rfl⟩:=aX.opened
 clear aX
 by_cases hd:k<l.length
 ·have d1:(k:Int)<l.length:=by omega
  have hg:=nC hd
  by_cases e1:dS l k=p
  ·have hi:=hone (dS l k) (hp k hd)
   rw[decide_eq_true e1] at hi
   have Fj:=MS (i:=0) hd j7 e1
   rw[Nat.zero_add] at Fj
   refine df (gq d1 hg @dg) ?_
   refine ⟨by omega,cl,ae hi ?_⟩
   refine aw ?_
   rw[Fj]
   exact bL .refl
  ·have hi:=hone (dS l k) (hp k hd)
   rw[decide_eq_false e1] at hi
   refine df (gq d1 hg @dg) ?_
   refine ⟨by omega,cl,ae hi ?_⟩
   refine aw ?_
   refine bM _ _ ⟨k+1,⟨by omega,fun j hj=>?_⟩,rfl,by simp[Fr]⟩ (by simp[aM,mk];omega)
   rcases Nat.lt_succ_iff_lt_or_eq.1 hj with h'|rfl
   ·exact j7 j h'
   ·exact e1
 ·have d1:¬(k:Int)<l.length:=by omega
  have Fj:=EE (i:=0) fun j hj=>j7 j (by omega)
  refine df d1 ?_
  clear bM
  refine hL _ _ ?_
  clear hL
  refine aw ?_
  rw[Fj]
  exact bL .refl
theorem agh(l:List (List Int))(x:ByteArray)(p:List Int)(hz:l.length≤1000000)(hp:∀k,k<l.length→(dS l k).length≤1000000) :
  D Tryz.prog 76 [.lp (.agg [.am 1 (bc l) none,.sc (.string x)]) 0,.am 1 (aK p) none] [] (.ret (.sc (.bool (bX l p)))) []:=by
 have h1:∀(gh:Nat)(H:Y),Y.find H gh=some ⟨1,[.am 1 (aK p) none],true,30⟩→D Tryz.prog 128 [.am 1 (bc l) none,.fn (.func 129) [] [.ptr 1 gh 0 0]] H (.ret (.sc (.bool (bX l p)))) H:=fun gh H hb=>by
  refine aG (Nat.le_refl _) (agd (aA ?_))
  simp only[ZD,ux]
  refine aw ?_
  refine ae (acj l p none hz hp gh _ hb) ?_
  refine aw ?_
  rw[BG (i:=0)]
  exact aq .refl rfl
 refine aG (Nat.le_refl _) (aiw (aA ?_))
 simp only[ad1,ux]
 refine Z fun L hL=>?_
 refine aw ?_
 refine hL _ _ ?_
 clear hL
 refine Z fun L hL=>?_
 refine aw ?_
 refine ae (h1 _ _ (aJ rfl)) ?_
 refine aw ?_
 refine hL _ _ ?_
 clear hL
 refine aw ?_
 exact aq (.cons .refl) rfl
def CP(P:Program)(bx:List Nat)(c:Code)(ic:IC):Prop:=dU P bx c=some ic∧∀id:Nat,bx.contains (id+1000)=false
def SE(P:Program)(bx:List Nat)(ic:IC)(K:Post)(ts:List AV)(H:Y):Prop :=
 ∀c,CP P bx c ic→∀(φ:aU)(w:World)(a:Act),Rel φ H w→FR φ (Own φ H) w ts a→c.wp P (CK K φ H w a.defers) a w
section
variable {P:Program}{bx:List Nat}
theorem SE.mH{ic:IC}{K:Post}{ts:List AV}{H:Y}(h:ES P ic K ts H):SE P bx ic K ts H:=fun c hc φ w a hR hF=>uL c ic hc.1 K φ H w ts a hR hF (Kt h)
theorem AY{id:Nat}{ops:Array Oper}{draw:Bool}{ic:IC}(h:CP P bx (.region id ops draw) ic):(∃l,ic = .ops l)∨∃l A,ic = .di l A:=by
 obtain ⟨h,hv⟩:=h
 simp only[dU] at h
 split at h
 ·cases h
 split at h
 ·split at h
  ·rw[hv id] at h
   cases h
   exact .inr ⟨_,_,rfl⟩
  ·unfold Il at h
   simp only at h
   split at h
   ·cases h
   split at h
   ·cases h
    exact .inr ⟨_,_,rfl⟩
   ·cases h
 ·cases h
  exact .inl ⟨_,rfl⟩
theorem UR{c:Code}{x y:IC}(h:CP P bx c (.seq x y)):∃c1 c2,c = .seq c1 c2∧CP P bx c1 x∧CP P bx c2 y:=by
 obtain ⟨h,hv⟩:=h
 cases c with
 |seq a b =>
  simp only[dU] at h
  split at h
  ·rename_i h1 h2
   cases h
   exact ⟨a,b,rfl,⟨h1,hv⟩,h2,hv⟩
  ·cases h
 |region id ops draw =>
  rcases AY ⟨h,hv⟩ with ⟨l,e⟩|⟨l,A,e⟩<;>cases e
 |cond c a b =>
  simp only[dU] at h
  split at h<;>cases h
 |_=>simp[dU,Im] at h
theorem MT{c:Code}{id:Nat}{x:IC}(h:CP P bx c (.block id x)):∃c1,c = .block id c1∧CP P bx c1 x:=by
 obtain ⟨h,hv⟩:=h
 cases c with
 |block i a =>
  simp only[dU,Option.map_eq_some_iff] at h
  obtain ⟨y,h1,h2⟩:=h
  cases h2
  exact ⟨a,rfl,h1,hv⟩
 |region id ops draw =>
  rcases AY ⟨h,hv⟩ with ⟨l,e⟩|⟨l,A,e⟩<;>cases e
 |cond c a b =>
  simp only[dU] at h
  split at h<;>cases h
 |seq a b =>
  simp only[dU] at h
  split at h<;>cases h
 |_=>simp[dU,Im] at h
theorem Qh{c:Code}{x:IC}(h:CP P bx c (.loop x)):∃c1,c = .loop c1∧CP P bx c1 x:=by
 obtain ⟨h,hv⟩:=h
 cases c with
 |loop a =>
  simp only[dU,Option.map_eq_some_iff] at h
  obtain ⟨y,h1,h2⟩:=h
  cases h2
  exact ⟨a,rfl,h1,hv⟩
 |region id ops draw =>
  rcases AY ⟨h,hv⟩ with ⟨l,e⟩|⟨l,A,e⟩<;>cases e
 |cond c a b =>
  simp only[dU] at h
  split at h<;>cases h
 |seq a b =>
  simp only[dU] at h
  split at h<;>cases h
 |_=>simp[dU,Im] at h
theorem SE.seq{x y:IC}{K:Post}{ts:List AV}{H:Y}(h:SE P bx x (kW (SE P bx y K) K) ts H):SE P bx (.seq x y) K ts H:=by
 intro c hc φ w a hR hF
 obtain ⟨c1,c2,rfl,h1,h2⟩:=UR hc
 refine wp_seq (wp_mono (h c1 h1 φ w a hR hF) ?_)
 rintro e a' w' ⟨x',ts',H',φ',k1,k2,k3,k4,k5,k6⟩
 cases x' with
 |normal =>
  cases e<;>try exact k1.elim
  show c2.wp P _ a' w'
  have:=k2 c2 h2 φ' w' a' k4 k3
  rw[k6] at this
  exact wp_mono this fun e a2 w2 hc=>hc.step k5
 |exit i =>
  cases e<;>try exact k1.elim
  exact ⟨_,ts',H',φ',k1,k2,k3,k4,k5,k6⟩
 |ret =>
  cases e<;>try exact k1.elim
  exact ⟨.ret,ts',H',φ',k1,k2,k3,k4,k5,k6⟩
 |bP v =>
  cases e<;>try exact k1.elim
  exact ⟨_,ts',H',φ',k1,k2,k3,k4,k5,k6⟩
theorem SE.block{id:Nat}{x:IC}{K:Post}{ts:List AV}{H:Y}(h:SE P bx x (mo id K) ts H):SE P bx (.block id x) K ts H:=by
 intro c hc φ w a hR hF
 obtain ⟨c1,rfl,h1⟩:=MT hc
 refine wp_block (wp_mono (h c1 h1 φ w a hR hF) ?_)
 rintro e a' w' ⟨x',ts',H',φ',k1,k2,k3,k4,k5,k6⟩
 cases x' with
 |normal =>
  cases e<;>try exact k1.elim
  exact ⟨.normal,ts',H',φ',k1,k2,k3,k4,k5,k6⟩
 |exit i =>
  cases e<;>try exact k1.elim
  rename_i j
  have:i=j:=k1
  subst this
  simp only[mo] at k2
  simp only[Exit.inBlock]
  split
  ·rename_i e2
   rw[if_pos e2] at k2
   exact ⟨.normal,ts',H',φ',trivial,k2,k3,k4,k5,k6⟩
  ·rename_i e2
   rw[if_neg e2] at k2
   exact ⟨.exit i,ts',H',φ',rfl,k2,k3,k4,k5,k6⟩
 |ret =>
  cases e<;>try exact k1.elim
  exact ⟨.ret,ts',H',φ',k1,k2,k3,k4,k5,k6⟩
 |bP v =>
  cases e<;>try exact k1.elim
  exact ⟨.bP v,ts',H',φ',k1,k2,k3,k4,k5,k6⟩
theorem SE.loop{x:IC}{K:Post}{ts:List AV}{H:Y}(I:List AV→Y→Prop)(μ:List AV→Y→Nat)(h2:I ts H)(h3:∀ts H,I ts H→SE P bx x (kW (fun ts' H'=>I ts' H'∧μ ts' H'<μ ts H) K) ts H):SE P bx (.loop x) K ts H:=by
 intro c0 hc φ w a hR hF
 obtain ⟨c,rfl,h1⟩:=Qh hc
 intro b k cs
 have key:∀n hY H1 bK w1 a1,μ hY H1=n→I hY H1→FR bK (Own bK H1) w1 hY a1→Rel bK H1 w1→Step φ H w bK H1 w1→a1.defers=a.defers→
   ∃e a' w',CK K φ H w a.defers e a' w'∧Arrives P (lone (b.at a1 (.code c::.inLoop c::k)) cs w1) b k cs e a' w':=by
  intro n
  induction n using Nat.strongRecOn with
  |_ n ihn =>
   intro hY H1 bK w1 a1 hn hI kX zW nR Io
   obtain ⟨e,a2,w2,⟨x',ts',H',φ',k1,k2,k3,k4,k5,k6⟩,mg⟩:=h3 hY H1 hI c h1 bK w1 a1 zW kX b (.inLoop c::k) cs
   cases x' with
   |normal =>
    cases e<;>try exact k1.elim
    obtain ⟨g1,g2⟩:=k2
    obtain ⟨e3,a3,w3,Ip,N6⟩:=ihn (μ ts' H') (hn▸g2) ts' H' φ' w2 a2 rfl g1 k3 k4 (nR.trans k5) (by rw[k6,Io])
    exact ⟨e3,a3,w3,Ip,.of_steps (Steps.trans mg (.one step_inLoop)) N6⟩
   |exit i =>
    cases e<;>try exact k1.elim
    exact ⟨_,a2,w2,⟨.exit i,ts',H',φ',k1,k2,k3,k4,nR.trans k5,by rw[k6,Io]⟩,.pass (x:=.inLoop c) rfl (fun _ _=>.inl (by simp)) mg⟩
   |ret =>
    cases e<;>try exact k1.elim
    exact ⟨_,a2,w2,⟨.ret,ts',H',φ',k1,k2,k3,k4,nR.trans k5,by rw[k6,Io]⟩,.pass (x:=.inLoop c) rfl (fun _ _=>.inl (by simp)) mg⟩
   |bP v =>
    cases e<;>try exact k1.elim
    exact ⟨_,a2,w2,⟨.bP v,ts',H',φ',k1,k2,k3,k4,nR.trans k5,by rw[k6,Io]⟩,.pass (x:=.inLoop c) rfl (fun _ _=>.inl (by simp)) mg⟩
 obtain ⟨e,a',w',hq,mg⟩:=key _ ts H φ w a rfl h2 hF hR (Step.refl _ _ _) rfl
 exact ⟨e,a',w',hq,.of_steps (.one step_loop) mg⟩
theorem SE.opened{ic:IC}{K:Post}{ts:List AV}{H:Y}(i:Nat){k id off n:Nat}(hi:ts[i]? = some (.aD k id off n none))(h:∀c,n≤c→c≤maxLen→SE P bx ic K (ts.set i (.aD k id off n (some c))) H):SE P bx ic K ts H:=by
 intro c0 hc φ w a hR hF
 have qD:i<ts.length:=(List.getElem?_eq_some_iff.1 hi).1
 have hv:=hF.2 i
 have hg:ts.getD i .top = .aD k id off n none:=by simp[List.getD,hi]
 rw[hg] at hv
 obtain ⟨b,c',cur,e,fr,v1,v2,v3,v4,v5,v6,v7⟩:=iU hv
 refine h c' v3 v4 c0 hc φ w a hR ⟨by rw[List.length_set];exact hF.1,fun j=>?_⟩
 by_cases hj:i=j
 ·subst hj
  have:(ts.set i (.aD k id off n (some c'))).getD i .top = .aD k id off n (some c'):=by simp[List.getD,qD]
  rw[this,v2]
  exact ⟨rfl,b,c',cur,e,fr,v1,rfl,v3,v4,fun m hm=>by cases hm;rfl,v6,v7⟩
 ·have:(ts.set i (.aD k id off n (some c'))).getD j .top=ts.getD j .top:=by simp[List.getD,List.getElem?_set_ne hj]
  rw[this]
  exact hF.2 j
theorem SE.mono{ic:IC}{K K':Post}{ts:List AV}{H:Y}(h:SE P bx ic K ts H)(hk:∀x ts H,K x ts H→K' x ts H):SE P bx ic K' ts H:=fun c hc φ w a hR hF =>
 wp_mono (h c hc φ w a hR hF) fun e a' w' ⟨x',ts',H',φ',k1,k2,k3⟩=>⟨x',ts',H',φ',k1,hk _ _ _ k2,k3⟩
theorem SE.gen{ic:IC}{K:Post}{ts:List AV}{H:Y}(h:∀L:Post,(∀x ts H,K x ts H→L x ts H)→SE P bx ic L ts H):SE P bx ic K ts H:=h K fun _ _ _ h=>h
theorem SE.agi{x:IC}{K:Post}{ts:List AV}{H:Y}(I:List AV→Y→Prop)(μ:List AV→Y→Nat)(h0:I ts H)(h:∀ts H,I ts H→∀L:List AV→Y→Prop,(∀ts' H',I ts' H'→μ ts' H'<μ ts H→L ts' H')→SE P bx x (kW L K) ts H):SE P bx (.loop x) K ts H :=
 SE.loop I μ h0 fun ts H hI=>h ts H hI _ fun ts' H' h1 h2=>⟨h1,h2⟩
def rG(H:Y):Y:=H.map fun _=>none
theorem wT(H:Y):(rG H).length=H.length:=by simp[rG]
theorem vM(H:Y)(i:Nat):Y.find (rG H) i=none:=by
 induction H with
 |nil=>rfl
 |cons b r ih =>
  simp only[rG,List.map_cons,Y.find]
  split
  ·rfl
  ·exact ih
inductive nK(H:Y):List AV→List AV→Prop where
 | nil:nK H [] []
 | view {x y:AV}{r s:List AV}:View H x y→nK H r s→nK H (x::r) (y::s)
 | top {x:AV}{r s:List AV}:nK H r s→nK H (x::r) (.top::s)
theorem nK.len{H:Y}:∀{xs ys:List AV},nK H xs ys→ys.length=xs.length
 |_,_,.nil=>rfl
 |_,_,.view _ h=>by simp[h.len]
 |_,_,.top h=>by simp[h.len]
theorem nK.get{H:Y}:∀{xs ys:List AV},nK H xs ys→∀i,View H (xs.getD i .top) (ys.getD i .top)∨ys.getD i .top = .top
 |_,_,.nil,i=>.inr (by simp)
 |_,_,.view h r,0=>.inl (by simpa using h)
 |_,_,.view h r,i+1=>by simpa using r.get i
 |_,_,.top r,0=>.inr (by simp)
 |_,_,.top r,i+1=>by simpa using r.get i
theorem SE.freeze{ic:IC}{K:Post}{ts ts':List AV}{H:Y}(hv:nK H ts ts')(h:SE P bx ic K ts' (rG H)):SE P bx ic K ts H:=by
 intro c0 hc φ w a hR hF
 have hno:∀b,¬Own φ (rG H) b:=fun b ⟨id,blk,h1,h2⟩=>by rw[vM] at h2;cases h2
 have Pv:Later (fun _=>True) φ φ (Own φ H) (Own φ (rG H)) w w:=⟨fun _ _ _ h=>h,Nat.le_refl _,fun b _ _=>hno b,fun _ _ _=>rfl,fun _ _=>rfl⟩
 have ZY:Later (fun _=>True) gR φ O0 (Own φ (rG H)) w w:=⟨fun id b _ h=>by simp[gR] at h,Nat.le_refl _,fun b _ _=>hno b,fun _ _ _=>rfl,fun _ _=>rfl⟩
 have hS:Step φ H w φ (rG H) w:={ Pv with os:=rfl,tape:=rfl,output:=rfl,len:=by rw[wT];exact Nat.le_refl _,old:=fun _ _=>rfl }
 have CN:Rel φ (rG H) w:={ jB:=hR.jB.less (fun b ho=>(hno b ho).elim),dom:=fun id b h=>by rw[wT];exact hR.dom id b h,inj:=fun i j b _ _ h1 _=>by rw[vM] at h1;simp at h1,blk:=fun id b k _ h=>by rw[vM] at h;cases h }
 refine wp_mono (h c0 hc φ w a CN ⟨by rw[hv.len];exact hF.1,fun i=>?_⟩) fun e a' w' hh=>hh.step hS
 have hi:=hF.2 i
 rcases hv.get i with hw|hw
 ·exact ⟨hw.kU hi.1,lg ZY _ _ _ (AV.lP _) (fun _ _ h=>h) (hw.R hR hi.2)⟩
 ·rw[hw]
  exact ⟨trivial,trivial⟩
theorem UT{f:FuncId}{fn:Func}{c:Code}{ic:IC}{rs:List RV}(hf:P.funcs[f]? = some fn)(hb:fn.body=some c)(hc:dU P bx c=some ic)(hr:ow P fn.results.toList=some rs){args:List AV}{H:Y}{Kr:cH→Y→Prop}
  (h0:SE P bx ic (sY rs Kr) (args++List.replicate (fn.ntmps-args.length) (.aO [])) H)(hv:∀id:Nat,bx.contains (id+1000)=false:=by intro id;rfl):DK P f args H Kr:=by
 have h:=h0.mono mq
 intro φ w vs hR ha
 have hF:=Ak (n:=fn.ntmps) ha
 refine calls_of_wp hf hb (wp_mono (h c ⟨hc,hv⟩ φ w _ hR hF) ?_)
 rintro e a' w' ⟨x',ts',H',φ',k1,k2,k3,k4,k5,k6⟩
 have Kk:(uM rs ts' H' fun l=>Kr (.ret (oneOf l)) H')→a'.defers=[]∧∃v,(results fn a'.tmps).run P w' = .ok v w'∧∃e H2 dJ,Bf dJ (Own dJ H2) w' e (.returned v)∧Kr e H2∧Rel dJ H2 w'∧Step φ H w dJ H2 w':=by
  intro hl
  obtain ⟨y,v,g1,g2,g3⟩:=o9 k4 k3 hr (K:=fun x=>Kr (.ret x) H') hl
  exact ⟨k6,v,g3,.ret y,H',φ',g2,g1,k4,k5⟩
 cases x' with
 |normal =>
  cases e<;>try exact k1.elim
  exact Kk k2
 |ret =>
  cases e<;>try exact k1.elim
  exact Kk k2
 |exit i=>exact k2.elim
 |bP v =>
  cases e<;>try exact k1.elim
  exact ⟨k6,.bP v,H',φ',k1,k2,k4,k5⟩
end
def jn(H:Y)(id n:Nat):Y:=match Y.find H id with
 |some b=>if b.k=0 then H else Y.set H id (some ⟨b.k,b.es.take n,false,b.ty⟩)
 |none=>H
theorem py{H:Y}{id n:Nat}:(jn H id n).length=H.length:=by
 unfold jn
 split
 ·split
  ·rfl
  ·rw[Y.af]
 ·rfl
theorem sx{H:Y}{id n i:Nat}(h:i≠id):Y.find (jn H id n) i=Y.find H i:=by
 unfold jn
 split
 ·split
  ·rfl
  ·rw[Y.aj h]
 ·rfl
theorem tD{H:Y}{id n:Nat}{b:aP}(h:Y.find H id=some b)(hk:b.k≠0):Y.find (jn H id n) id=some ⟨b.k,b.es.take n,false,b.ty⟩:=by
 unfold jn
 rw[h]
 simp only
 rw[if_neg hk,Y.aC (Y.ax h)]
theorem tE{H:Y}{id n i:Nat}:(Y.find (jn H id n) i).isSome=(Y.find H i).isSome:=by
 by_cases c:i=id
 ·subst c
  cases h:Y.find H i with
  |none =>
   have:jn H i n=H:=by unfold jn;rw[h]
   rw[this,h]
  |some b =>
   by_cases hk:b.k=0
   ·have:jn H i n=H:=by unfold jn;rw[h];simp[hk]
    rw[this,h]
   ·rw[tD h hk]
    rfl
 ·rw[sx c]
theorem EF{φ:aU}{H:Y}{id n b:Nat}:Own φ (jn H id n) b↔Own φ H b:=by
 constructor
 ·rintro ⟨i,k,h1,h2⟩
  have:=tE (H:=H) (id:=id) (n:=n) (i:=i)
  rw[h2] at this
  obtain ⟨k',h3⟩:=Option.isSome_iff_exists.1 this.symm
  exact ⟨i,k',h1,h3⟩
 ·rintro ⟨i,k,h1,h2⟩
  have:=tE (H:=H) (id:=id) (n:=n) (i:=i)
  rw[h2] at this
  obtain ⟨k',h3⟩:=Option.isSome_iff_exists.1 this
  exact ⟨i,k',h1,h3⟩
theorem vN{φ:aU}{H:Y}{id n:Nat}:Own φ (jn H id n)=Own φ H:=funext fun b=>propext EF
theorem Hx{φ:aU}{O:Nat→Prop}{w:World}{b k:Nat}:∀{xs:List AV}{n off:Nat},Rl φ O w b k xs off→Rl φ O w b k (xs.take n) off
 |[],n,off,h=>by rw[List.take_nil];trivial
 |x::r,0,off,h=>trivial
 |x::r,n+1,off,h=>⟨h.1,h.2.1,h.2.2.1,Hx h.2.2.2⟩
theorem Rel.cut{φ:aU}{H:Y}{w:World}(h:Rel φ H w)(id n:Nat):Rel φ (jn H id n) w:=by
 refine ⟨h.jB.less fun b ho=>EF.1 ho,fun i b hb=>by rw[py];exact h.dom i b hb,fun i j b h1 h2 h3 h4=>h.inj i j b h1 h2 (by rwa [tE] at h3) (by rwa [tE] at h4),fun i b k hb hk=>?_⟩
 rw[vN]
 by_cases c:i=id
 ·subst c
  cases hf:Y.find H i with
  |none =>
   have:jn H i n=H:=by unfold jn;rw[hf]
   rw[this,hf] at hk
   cases hk
  |some k0 =>
   by_cases cE:k0.k=0
   ·have:jn H i n=H:=by unfold jn;rw[hf];simp[cE]
    rw[this] at hk
    exact h.blk i b k hb hk
   ·rw[tD hf cE] at hk
    cases hk
    obtain ⟨cur,cap,a1,a2,a3,a4,a5,a6⟩:=(h.blk i b k0 hb hf).cells (by omega)
    refine .inl ⟨by simp only;omega,cur,cap,a1,a2,?_,fun e=>by simp at e,a5,Hx a6⟩
    simp only[List.length_take]
    omega
 ·rw[sx c] at hk
  exact h.blk i b k hb hk
theorem Hy{φ:aU}{H:Y}{w:World}{id n:Nat}:Step φ H w φ (jn H id n) w :=
 { toLater:=⟨fun _ _ _ h=>h,Nat.le_refl _,fun b _ ho fN=>ho (EF.1 fN),fun _ _ _=>rfl,fun _ _=>rfl⟩,os:=rfl,tape:=rfl,output:=rfl,len:=by rw[py];exact Nat.le_refl _,old:=fun _ _=>rfl }
theorem SE.cut{P:Program}{bx:List Nat}{ic:IC}{K:Post}{ts:List AV}{H:Y}(id n:Nat)(h:SE P bx ic K ts (jn H id n)):SE P bx ic K ts H:=by
 intro c0 hc φ w a hR hF
 have z6:FR φ (Own φ (jn H id n)) w ts a:=by rw[vN];exact hF
 exact wp_mono (h c0 hc φ w a (hR.cut id n) z6) fun e a' w' hh=>hh.step Hy
theorem eB.cut{H H1 H2:Y}{e1 e:cH}(id n:Nat)(h:eB H e1 (jn H1 id n) e H2):eB H e1 H1 e H2:=by
 intro φ w bK w1 en hR he zW hS
 exact h φ w bK w1 en hR (by rw[vN];exact he) (zW.cut id n) (hS.trans Hy)
theorem sy{φ:aU}{H:Y}{i:Nat}{b b':aP}(h:Y.find H i=some b):Own φ (Y.set H i (some b'))=Own φ H:=by
 have hl:=Y.ax h
 refine funext fun a=>propext ⟨?_,?_⟩
 ·rintro ⟨j,k,h1,h2⟩
  by_cases c:j=i
  ·subst c
   exact ⟨j,b,h1,h⟩
  ·rw[Y.aj c] at h2
   exact ⟨j,k,h1,h2⟩
 ·rintro ⟨j,k,h1,h2⟩
  by_cases c:j=i
  ·subst c
   exact ⟨j,b',h1,Y.aC hl⟩
  ·exact ⟨j,k,h1,by rw[Y.aj c];exact h2⟩
theorem Rel.RP{φ:aU}{H:Y}{w:World}(hR:Rel φ H w){i:Nat}{b b':aP}(h:Y.find H i=some b)(hb:∀a,φ i=some a→jI φ (Own φ H) w b a→jI φ (Own φ H) w b' a):Rel φ (Y.set H i (some b')) w:=by
 have hl:=Y.ax h
 have ZZ:∀j,(Y.find (Y.set H i (some b')) j).isSome=(Y.find H j).isSome:=fun j=>by
  by_cases c:j=i
  ·subst c;rw[Y.aC hl,h];rfl
  ·rw[Y.aj c]
 refine ⟨hR.jB.less fun a ho=>by rwa [sy h] at ho,fun j a hj=>by rw[Y.af];exact hR.dom j a hj,fun j k a h1 h2 h3 h4=>hR.inj j k a h1 h2 (by rwa [ZZ] at h3) (by rwa [ZZ] at h4),fun j a k hj hk=>?_⟩
 rw[sy h]
 by_cases c:j=i
 ·subst c
  rw[Y.aC hl] at hk
  cases hk
  exact hb a hj (hR.blk j a b hj h)
 ·rw[Y.aj c] at hk
  exact hR.blk j a k hj hk
theorem EG{φ:aU}{H:Y}{w:World}{i:Nat}{b b':aP}(h:Y.find H i=some b):Step φ H w φ (Y.set H i (some b')) w :=
 { toLater:=⟨fun _ _ _ h=>h,Nat.le_refl _,fun b _ ho fN=>ho (by rwa [sy h] at fN),fun _ _ _=>rfl,fun _ _=>rfl⟩,os:=rfl,tape:=rfl,output:=rfl,len:=by rw[Y.af];exact Nat.le_refl _,old:=fun _ _=>rfl }
theorem SE.RP{P:Program}{bx:List Nat}{ic:IC}{K:Post}{ts:List AV}{H:Y}{i:Nat}{b b':aP}(h:Y.find H i=some b)(hb:∀(φ:aU)(w:World) a,φ i=some a→jI φ (Own φ H) w b a→jI φ (Own φ H) w b' a)(hs:SE P bx ic K ts (Y.set H i (some b'))):SE P bx ic K ts H:=by
 intro c0 hc φ w a hR hF
 have z6:FR φ (Own φ (Y.set H i (some b'))) w ts a:=by rw[sy h];exact hF
 exact wp_mono (hs c0 hc φ w a (hR.RP h fun a ha=>hb φ w a ha) z6) fun e a' w' hh=>hh.step (EG h)
theorem SE.agj{P:Program}{bx:List Nat}{ic:IC}{K:Post}{ts:List AV}{H:Y}{i k:Nat}{es es':List AV}{ex:Bool}{ty:TypeId}(h:Y.find H i=some ⟨k,es,ex,ty⟩)(hk:0<k)(hl:pd es es')(hs:SE P bx ic K ts (Y.set H i (some ⟨k,es',ex,ty⟩))):SE P bx ic K ts H:=by
 refine SE.RP h (fun φ w a _ hb=>?_) hs
 obtain ⟨cur,cap,a1,a2,a3,a4,a5,a6⟩:=hb.cells hk
 exact .inl ⟨hk,cur,cap,a1,a2,by rw[hl.len];exact a3,fun e=>by rw[hl.len];exact a4 e,a5,hl.Rl a6⟩
theorem SE.agk{P:Program}{bx:List Nat}{ic:IC}{K:Post}{ts:List AV}{H:Y}{i k id off n:Nat}{ex:Bool}{ty:TypeId}(h:Y.find H i=some ⟨1,[.aD k id off n none],ex,ty⟩)(hn:n≤maxLen)
  (hs:∀c,n≤c→c≤maxLen→SE P bx ic K ts (Y.set H i (some ⟨1,[.aD k id off n (some c)],ex,ty⟩))):SE P bx ic K ts H:=by
 intro c0 hc φ w a hR hF
 have key:∃c,n≤c∧c≤maxLen∧∀b,φ i=some b→jI φ (Own φ H) w ⟨1,[.aD k id off n none],ex,ty⟩ b→jI φ (Own φ H) w ⟨1,[.aD k id off n (some c)],ex,ty⟩ b:=by
  cases N2:φ i with
  |none=>exact ⟨n,Nat.le_refl _,hn,fun b hb=>by cases hb⟩
  |some b =>
   obtain ⟨cur,cap,a1,a2,a3,a4,a5,a6⟩:=(hR.blk i b _ N2 h).cells (by simp)
   obtain ⟨x1,x2,⟨b2,c',uB,e,fr,v1,v2,v3,v4,v5,v6,v7⟩,x4⟩:=a6
   refine ⟨c',v3,v4,fun b' hb' _=>?_⟩
   cases hb'
   exact .inl ⟨by simp,cur,cap,a1,a2,a3,a4,a5,x1,x2,⟨b2,c',uB,e,fr,v1,v2,v3,v4,fun m hm=>by cases hm;rfl,v6,v7⟩,x4⟩
 obtain ⟨c,h1,h2,h3⟩:=key
 have z6:FR φ (Own φ (Y.set H i (some ⟨1,[.aD k id off n (some c)],ex,ty⟩))) w ts a:=by rw[sy h];exact hF
 exact wp_mono (hs c h1 h2 c0 hc φ w a (hR.RP h h3) z6) fun e a' w' hh=>hh.step (EG h)
mutual
theorem OW.keep{F G:Y}(k:∀i xs,xs≠[]→Y.find F i=bS 4 25 xs→Y.find G i=bS 4 25 xs):∀{t:Nd}{x:AV}{is:List Nat},OW F t x is→OW G t x is
 |_,_,_,.mk h1 h2=>.mk (fun e=>k _ _ e (h1 e)) (mQ.keep k h2)
theorem mQ.keep{F G:Y}(k:∀i xs,xs≠[]→Y.find F i=bS 4 25 xs→Y.find G i=bS 4 25 xs):∀{l:List Nd}{xs:List AV}{is:List Nat},mQ F l xs is→mQ G l xs is
 |_,_,_,.nil=>.nil
 |_,_,_,.cons h1 h2=>.cons (OW.keep k h1) (mQ.keep k h2)
end
mutual
theorem OW.EH{F G:Y}:∀{t:Nd}{x:AV}{is:List Nat},OW F t x is→(∀i∈is,∀xs,xs≠[]→Y.find F i=bS 4 25 xs→Y.find G i=bS 4 25 xs)→OW G t x is
 |_,_,_,.mk h1 h2,k=>.mk (fun e=>k _ List.mem_cons_self _ e (h1 e)) (mQ.EH h2 fun i hi=>k i (List.mem_cons_of_mem _ hi))
theorem mQ.EH{F G:Y}:∀{l:List Nd}{xs:List AV}{is:List Nat},mQ F l xs is→(∀i∈is,∀xs,xs≠[]→Y.find F i=bS 4 25 xs→Y.find G i=bS 4 25 xs)→mQ G l xs is
 |_,_,_,.nil,_=>.nil
 |_,_,_,.cons h1 h2,k=>.cons (OW.EH h1 fun i hi=>k i (List.mem_append_left _ hi)) (mQ.EH h2 fun i hi=>k i (List.mem_append_right _ hi))
end
theorem xQ{H F G:Y}{T:Nd}{x:AV}{pre is:List Nat}(hG:G.length=H.length+pre.length)(hO:OW F T x is)(hn:(pre++is).Nodup)(hge:∀i∈pre++is,H.length≤i)
  (h1:∀id k,id<H.length→Y.find G id=some k→(Y.find H id=some k∧Y.find F id=some k)∨∃k1,Y.find F id=some k1∧Gu F H.length (pre++is) k1 k)
  (h2:∀i s k,pre[i]? = some s→Y.find G (H.length+i)=some k→∃k1,Y.find F s=some k1∧Gu F H.length (pre++is) k1 k) :
  eB H (.ret x) F (.ret (fF T G.length)) (gd T G.length++G):=by
 have hN:∀(k i:Nat),is[k]? = some i→cP H.length (pre++is) i=some (G.length+k):=fun k i hi=>by
  have h3:(pre++is)[pre.length+k]? = some i:=by rw[List.getElem?_append_right (by omega),Nat.add_sub_cancel_left];exact hi
  rw[nA hn h3 (hge i (List.mem_of_getElem? h3))]
  congr 1
  omega
 obtain ⟨g1,g2⟩:=ZT (K:=F) T hO hN
 have qD:=OW.Qf _ hO
 refine ku (pre++is) (by rw[List.length_append,iK,hG,List.length_append,qD];omega) hn hge (fun id k hid hk=>?_) (fun i s k hs hk=>?_) g1
 ·rw[Y.bF (by omega)] at hk
  exact h1 id k hid hk
 ·by_cases c:i<pre.length
  ·rw[Y.bF (by omega)] at hk
   rw[List.getElem?_append_left c] at hs
   exact h2 i s k hs hk
  ·rw[List.getElem?_append_right (by omega)] at hs
   have rP:=(List.getElem?_eq_some_iff.1 hs).1
   have iE:i-pre.length<(AF T G.length).length:=by rw[gW];omega
   have hL:=j5 (t:=T) (H:=G) (i-pre.length) _ (List.getElem?_eq_getElem iE)
   rw[show G.length+(i-pre.length)=H.length+i by omega,hk] at hL
   obtain ⟨hne,rfl⟩:=pY hL.symm
   obtain ⟨i',xs,e1,e2,e3⟩:=g2 _ _ (List.getElem?_eq_getElem iE)
   rw[hs] at e1
   cases e1
   have Fb:xs≠[]:=fun e=>hne (by have:=e3.len;rw[e] at this;exact List.length_eq_zero_iff.1 (by simpa using this))
   have e4:=e2 Fb
   rw[bj Fb] at e4
   exact ⟨_,e4,rfl,rfl,fun h=>h,e3⟩
def nE(v:AV):aP:=⟨1,[v],true,30⟩
def pz:AV→Option Nat
 |.aD _ id _ _ _=>some id
 |_=>none
def oJ:Option Nat→Y→Y
 |none,H=>H
 |some i,H=>Y.set H i none
theorem cT{o:Option Nat}{H:Y}:(oJ o H).length=H.length:=by
 cases o with
 |none=>rfl
 |some i=>exact Y.af ..
theorem AZ{o:Option Nat}{H:Y}{i:Nat}(h:∀a,o=some a→i≠a):Y.find (oJ o H) i=Y.find H i:=by
 cases o with
 |none=>rfl
 |some a=>exact Y.aj (h a rfl)
theorem MU{o:Option Nat}{H:Y}{i:Nat}{b:aP}(h:Y.find (oJ o H) i=some b):Y.find H i=some b∧∀a,o=some a→i≠a:=by
 cases o with
 |none=>exact ⟨h,fun a e=>by cases e⟩
 |some a =>
  have hne:i≠a:=fun e=>by
   subst e
   by_cases c:i<H.length
   ·rw[oJ,Y.aC c] at h;cases h
   ·rw[Y.xZ (by rw[oJ,Y.af];omega)] at h;cases h
  exact ⟨by rwa [oJ,Y.aj hne] at h,fun b e=>by cases e;exact hne⟩
def xR(F:Y)(p:List Int)(v:AV):Prop:=(p=[]∧v = .am 0 [] (some []))∨∃bB c es,v = .aD 1 bB 0 p.length c∧Y.find F bB=some ⟨1,es,false,3⟩∧es.take p.length=aK p
def EI(F:Y)(p:List Int)(v:AV):Prop:=(p=[]∧v = .am 0 [] (some []))∨∃bB,v = .aD 1 bB 0 p.length none∧Y.find F bB=some ⟨1,aK p,false,3⟩
theorem xR.keep{F G:Y}{p:List Int}{v:AV}(h:xR F p v)(k:∀a,pz v=some a→Y.find G a=Y.find F a):xR G p v:=by
 rcases h with h|⟨bB,c,es,rfl,h2,h3⟩
 ·exact .inl h
 ·exact .inr ⟨bB,c,es,rfl,by rw[k bB rfl];exact h2,h3⟩
theorem EI.keep{F G:Y}{p:List Int}{v:AV}(h:EI F p v)(k:∀a,pz v=some a→Y.find G a=Y.find F a):EI G p v:=by
 rcases h with h|⟨bB,rfl,h2⟩
 ·exact .inl h
 ·exact .inr ⟨bB,rfl,by rw[k bB rfl];exact h2⟩
theorem xR.at{F:Y}{p:List Int}{v:AV}(h:xR F p v):∀a,pz v=some a→∃es,Y.find F a=some ⟨1,es,false,3⟩:=by
 rcases h with ⟨_,rfl⟩|⟨bB,c,es,rfl,h2,_⟩
 ·intro a e;cases e
 ·intro a e;cases e;exact ⟨es,h2⟩
theorem EI.at{F:Y}{p:List Int}{v:AV}(h:EI F p v):∀a,pz v=some a→Y.find F a=some ⟨1,aK p,false,3⟩:=by
 rcases h with ⟨_,rfl⟩|⟨bB,rfl,h2⟩
 ·intro a e;cases e
 ·intro a e;cases e;exact h2
theorem EI.v{F:Y}{p:List Int}{v:AV}(h:EI F p v):xR F p v:=by
 rcases h with h|⟨bB,e,h2⟩
 ·exact .inl h
 ·exact .inr ⟨bB,none,_,e,h2,by rw[List.take_of_length_le (by simp[aB])]⟩
theorem xR.view{F:Y}{p:List Int}{v:AV}(h:xR F p v):View F v (.am 1 (aK p) none):=by
 rcases h with ⟨rfl,rfl⟩|⟨bB,c,es,rfl,h2,h3⟩
 ·exact .nil
 ·have hl:p.length≤es.length:=by
   have:=congrArg List.length h3
   rw[List.length_take,aB] at this
   omega
  refine .aD h2 rfl (by simpa using hl) ?_
  rw[List.drop_zero,h3]
  exact cJ.Tk
theorem xR.flat{F:Y}{p:List Int}{v:AV}(h:xR F p v):v.isAgg=false∧v.bT=false∧v.az=1∧v.cells=[v]:=by
 rcases h with ⟨rfl,rfl⟩|⟨bB,c,es,rfl,h2,h3⟩<;>exact ⟨rfl,rfl,rfl,rfl⟩
theorem xR.lq{F:Y}{p:List Int}{v:AV}(h:xR F p v):∀y,v.lq 0 y=y:=by
 rcases h with ⟨rfl,rfl⟩|⟨bB,c,es,rfl,h2,h3⟩<;>exact fun y=>rfl
theorem SE.agl{P:Program}{bx:List Nat}{ic:IC}{K:Post}{ts:List AV}{F:Y}{p:List Int}{v:AV}{ab:Nat}(ha:Y.find F ab=some (nE v))(h:xR F p v)
  (hs:∀F' v',EI F' p v'→Y.find F' ab=some (nE v')→F'.length=F.length→pz v'=pz v→(∀i b,Y.find F i=some b→i≠ab→¬(b.k=1∧b.exact=false∧b.ty=3)→Y.find F' i=some b)→(∀i,i≠ab→(∀a,pz v=some a→i≠a)→Y.find F' i=Y.find F i)→(pz v=none→F'=F∧v'=v)→SE P bx ic K ts F'):SE P bx ic K ts F:=by
 have hal:=Y.ax ha
 rcases h with ⟨rfl,rfl⟩|⟨bB,c,es,rfl,h2,h3⟩
 ·exact hs F _ (.inl ⟨rfl,rfl⟩) ha rfl rfl (fun i b h _ _=>h) (fun _ _ _=>rfl) fun _=>⟨rfl,rfl⟩
 ·have hne:ab≠bB:=fun e=>by rw[e,h2] at ha;simp[nE] at ha
  have Mf:Y.find (jn F bB p.length) ab=some ⟨1,[.aD 1 bB 0 p.length c],true,30⟩:=by rw[sx hne];exact ha
  refine SE.cut bB p.length (SE.agj Mf (by simp) (es':=[.aD 1 bB 0 p.length none]) (.cons .aD .nil) (hs _ (.aD 1 bB 0 p.length none) (.inr ⟨bB,rfl,?_⟩) ?_ ?_ rfl (fun i b hb hi hn=>?_) (fun i hi Z0=>?_) fun e=>by cases e))
  ·rw[Y.aj hne.symm,tD h2 (by simp),h3]
  ·exact Y.aC (by rw[py];exact hal)
  ·rw[Y.af,py]
  ·rw[Y.aj hi,sx fun e=>?_]
   ·exact hb
   ·rw[e,h2] at hb;cases hb;simp at hn
  ·rw[Y.aj hi,sx (Z0 bB rfl)]
theorem EI.ez{F G:Y}{p:List Int}{v:AV}(h:EI F p v)(k:Int)(hp:p.length≤1000000)(hG:∀a,pz v=some a→Y.find G a=Y.find F a):gN G 1 3 [.sc (.int .i64 k)] v∧lB G 1 [.sc (.int .i64 k)] v = .aD 1 G.length 0 (p.length+1) none∧jx G 1 3 [.sc (.int .i64 k)] v=some ⟨1,aK (p++[k]),false,3⟩::oJ (pz v) G:=by
 rcases h with ⟨rfl,rfl⟩|⟨bB,rfl,h2⟩
 ·refine ⟨?_,?_,?_⟩
  ·simp[gN]
  ·simp[lB]
  ·simp[jx,aK,oJ,pz]
 ·have h3:=hG bB rfl
  rw[h2] at h3
  refine ⟨?_,?_,?_⟩
  ·simp only[gN,h3]
   simp[aB];omega
  ·simp only[lB]
   simp
  ·simp only[jx,h3]
   simp[aK,oJ,pz]
structure TP(cb ab tb oL ee:Nat)(ps:List (List Int))(x:ByteArray)(H:Y):Prop where
 c:Y.find H cb=some ⟨1,[.ptr 2 oL 0 0],true,62⟩
 s:Y.find H oL=some ⟨2,[.agg [aW 1 (bc ps) ee,.sc (.string x)]],true,66⟩
 l:bc ps≠[]→Y.find H ee=bS 1 30 (bc ps)
 t:Y.find H tb=some ⟨1,[.fn (.func 75) [] [.ptr 1 cb 0 0,.ptr 1 ab 0 0,.ptr 1 tb 0 0]],true,28⟩
end Go.Proofs.YtnoplgongieehaaGreatDoor
