import Derived.Test.YtnoplgongieehaaGreatDoorM3
import Derived.Test.YtnoplgongieehaaGreatDoorProg
import Derived.KernelRfl
import Derived.RangeFuncRecord
import Derived.OrdersIn
namespace Go.Proofs.YtnoplgongieehaaGreatDoor
open Go.RowKit
set_option maxHeartbeats 0
set_option maxRecDepth 1000000
set_option linter.unusedVariables false
set_option linter.unusedSimpArgs false
theorem kD{q w:List Int}:jk q w=true↔w <+: q:=by
 unfold jk
 simp only[Bool.and_eq_true,decide_eq_true_eq]
 constructor
 ·rintro ⟨_,h⟩
  rw[←h]
  exact List.take_prefix _ _
 ·rintro ⟨s,rfl⟩
  exact ⟨by simp,by simp⟩
theorem nY{p s s':List Int}{j k:Int}(h:p++[j]++s=p++[k]++s'):j=k∧s=s':=by
 simp only[List.append_assoc,List.append_cancel_left_eq,List.singleton_append,List.cons.injEq] at h
 exact h
theorem GP{p w s':List Int}{j k:Int}(h:p++[j]++w <+: p++[k]++s'):j=k:=by
 obtain ⟨z,hz⟩:=h
 rw[List.append_assoc (p++[j])] at hz
 exact (nY hz).1
theorem pD{b:Pl}{p q s s':List Int}{j k:Int}(hb:b.p=p++[j]++s)(hq:q=p++[k]++s')(hne:j≠k)(hs:s≠[])(h4:b.n.kind=4→2≤s.length):cM b q=false:=by
 cases hr:cM b q with
 |false=>rfl
 |true =>
  exfalso
  have hl:0<s.length:=List.length_pos_iff.2 hs
  unfold cM at hr
  split at hr
  ·rename_i hk
   have h2:=h4 hk
   rw[kD,hb,hq] at hr
   have e:(p++[j]++s).take ((p++[j]++s).length-2)=p++[j]++s.take (s.length-2):=by
    rw[List.take_append,List.take_of_length_le (by simp;omega)]
    congr 2
    simp
    omega
   rw[e,List.append_assoc (p++[j])] at hr
   exact hne (GP hr)
  ·simp only[Bool.and_eq_true] at hr
   have h2:=hr.2.1
   rw[kD,hb,hq] at h2
   have e:(p++[j]++s).take ((p++[j]++s).length-1)=p++[j]++s.take (s.length-1):=by
    rw[List.take_append,List.take_of_length_le (by simp;omega)]
    congr 2
    simp
    omega
   rw[e] at h2
   exact hne (GP h2)
theorem xw{b:Pl}{p q s':List Int}{j k:Int}(hb:b.p=p++[j])(hq:q=p++[k]++s')(h4:¬b.n.kind=4):cM b q=decide (j<k):=by
 unfold cM
 rw[if_neg h4,hb,hq]
 have e1:(p++[j]).length-1=p.length:=by simp
 rw[e1]
 have e2:(p++[j]).take p.length=p:=by simp
 rw[e2]
 have e3:jk (p++[k]++s') p=true:=kD.2 ⟨[k]++s',by simp⟩
 rw[e3]
 have e4:(p++[k]++s').getD p.length 0=k:=by simp[List.getD]
 have e5:(p++[j]).getD p.length 0=j:=by simp[List.getD]
 rw[e4,e5]
 simp
theorem Lt{b:Pl}{f s:List Int}{j:Int}(hb:b.p=f++[j])(h4:¬b.n.kind=4):cM b (b.p++s)=false:=by
 rw[xw (p:=f) (j:=j) (k:=j) (s':=s) hb (by rw[hb]) h4]
 simp
theorem Pu{b:Pl}{f q s:List Int}{i:Int}(hb:b.p=f++[0]++[i])(hq:q=f++[1]++s)(h4:b.n.kind=4):cM b q=true:=by
 unfold cM
 rw[if_pos h4,kD,hb,hq]
 have e:(f++[0]++[i]).take ((f++[0]++[i]).length-2)=f:=by simp
 rw[e]
 exact ⟨s,rfl⟩
theorem eS:∀(l:List Nd)(p:List Int)(i:Nat)(b:Pl),b∈bZ l p i→∃(j:Nat)(t:Nd),(i≤j∧l[j-i]? = some t)∧b∈bI t (p++[(j:Int)])
 |[],_,_,b,h=>by simp[bZ] at h
 |t::r,p,i,b,h=>by
  simp only[bZ,List.mem_append] at h
  rcases h with h|h
  ·exact ⟨i,t,⟨Nat.le_refl _,by simp⟩,h⟩
  ·obtain ⟨j,u,⟨h1,h2⟩,h3⟩:=eS r p (i+1) b h
   refine ⟨j,u,⟨by omega,?_⟩,h3⟩
   rw[show j-i=(j-(i+1))+1 by omega,List.getElem?_cons_succ]
   exact h2
theorem nZ(t:Nd):∀(p:List Int)(b:Pl),b∈bI t p→(b=⟨t,p⟩∨∃j s,b.p=p++[j]++s):=by
 induction t using Nd.ind with
 |_ t ih =>
  intro p b hb
  rw[cR] at hb
  rcases List.mem_cons.1 hb with rfl|hb
  ·exact .inl rfl
  ·obtain ⟨j,u,⟨h1,h2⟩,h3⟩:=eS _ _ _ _ hb
   rcases ih u (List.mem_of_getElem? h2) _ b h3 with rfl|⟨j',s,h⟩
   ·exact .inr ⟨j,[],by simp⟩
   ·exact .inr ⟨j,[j']++s,by rw[h];simp⟩
theorem eL(t:Nd):∀p,(bI t p).length=t.size:=by
 induction t using Nd.ind with
 |_ t ih =>
  intro p
  rw[cR,Nd.size_eq]
  have key:∀(l:List Nd),(∀k∈l,∀p,(bI k p).length=k.size)→∀p i,(bZ l p i).length=Nd.ay l:=by
   intro l
   induction l with
   |nil=>intro _ p i;rfl
   |cons x r fC =>
    intro h p i
    simp only[bZ,List.length_append,Nd.ay,h x (by simp),fC (fun k hk=>h k (by simp[hk]))]
  simp only[List.length_cons,key _ ih]
  omega
theorem lU(l:List Nd)(p:List Int)(i:Nat):(bZ l p i).length=Nd.ay l:=by
 induction l generalizing i with
 |nil=>rfl
 |cons x r ih=>simp only[bZ,List.length_append,Nd.ay,eL,ih]
theorem fE{x:ByteArray}{q:List Int}:∀(a b:List Pl)(i:Nat)(f:Int),jW x q (a++b) i f=jW x q b (i+a.length) (jW x q a i f)
 |[],b,i,f=>by simp[jW]
 |c::a,b,i,f=>by
  simp only[List.cons_append,jW,List.length_cons]
  rw[fE a b]
  congr 1
  omega
theorem Cj{x:ByteArray}{q:List Int}:∀(a:List Pl)(i:Nat)(f:Int),(∀b∈a,fH b=true→cM b q=false)→jW x q a i f=f
 |[],_,_,_=>rfl
 |b::a,i,f,h=>by
  have:¬(b.n.text=x∧fH b=true∧cM b q=true):=fun ⟨_,h1,h2⟩=>by
   rw[h b (by simp) h1] at h2
   cases h2
  simp only[jW,if_neg this]
  exact Cj a (i+1) f fun c hc=>h c (by simp[hc])
inductive qd:Nd→Prop where
 | mk {t:Nd}(h1:t.kind=5∨6≤t.kind)(h2:t.kind≠5→∀k∈t.kids,¬k.kind=6)(h3:t.kind=22→t.kids=[])(h5:t.kind=6→∀p i,∀b∈bZ t.kids p i,ga b=false)(h4:∀k∈t.kids,qd k):qd t
theorem qd.kind{t:Nd}(h:qd t):t.kind=5∨6≤t.kind:=by cases h;assumption
theorem qd.afZ{t:Nd}(h:qd t):t.kind≠5→∀k∈t.kids,¬k.kind=6:=by cases h;assumption
theorem qd.name{t:Nd}(h:qd t):t.kind=22→t.kids=[]:=by cases h;assumption
theorem qd.var{t:Nd}(h:qd t):t.kind=6→∀p i,∀b∈bZ t.kids p i,ga b=false:=by cases h;assumption
theorem qd.vi{t:Nd}(h:qd t):∀k∈t.kids,qd k:=by cases h;assumption
theorem y6(t:Nd):qd t→∀(p:List Int)(b:Pl),b∈bI t p→qd b.n:=by
 induction t using Nd.ind with
 |_ t ih =>
  intro hg p b hb
  rw[cR] at hb
  rcases List.mem_cons.1 hb with rfl|hb
  ·exact hg
  ·obtain ⟨j,u,⟨h1,h2⟩,h3⟩:=eS _ _ _ _ hb
   have hu:=List.mem_of_getElem? h2
   exact ih u hu (hg.vi u hu) _ b h3
theorem T8{t:Nd}(hg:qd t){p q s':List Int}{j k:Int}(hq:q=p++[k]++s')(hne:j≠k)(x:ByteArray)(i:Nat)(f:Int):jW x q (bI t (p++[j])) i f=if t.kind=6∧t.text=x∧j<k then (i:Int) else f:=by
 rw[cR]
 simp only[jW]
 rw[Cj]
 ·have h4:¬t.kind=4:=by have:=hg.kind;omega
  have hr:=xw (b:=⟨t,p++[j]⟩) (p:=p) rfl hq h4
  rw[hr]
  have e:fH ⟨t,p++[j]⟩=decide (t.kind=6):=by simp[fH,h4]
  rw[e]
  by_cases c1:t.kind=6<;>by_cases c2:t.text=x<;>by_cases c3:j<k<;>simp[c1,c2,c3]
 ·intro b hb _
  obtain ⟨j',u,⟨_,h2⟩,h3⟩:=eS _ _ _ _ hb
  have IV:=hg.vi u (List.mem_of_getElem? h2)
  have hgb:=y6 u IV _ b h3
  have h4:¬b.n.kind=4:=by have:=hgb.kind;omega
  rcases nZ u _ b h3 with rfl|⟨j2,s,h⟩
  ·exact pD (p:=p) (j:=j) (s:=[(j':Int)]) rfl hq hne (by simp) fun h=>absurd h h4
  ·exact pD (p:=p) (j:=j) (s:=[(j':Int)]++([j2]++s)) (by rw[h];simp) hq hne (by simp) fun h=>absurd h h4
theorem Pv{t:Nd}(hg:qd t){p q s':List Int}{j k:Int}(hq:q=p++[k]++s')(hlt:k<j):∀b∈bI t (p++[j]),fH b=true→cM b q=false:=by
 intro b hb _
 have hgb:=y6 t hg _ b hb
 have h4:¬b.n.kind=4:=by have:=hgb.kind;omega
 rcases nZ t _ b hb with rfl|⟨j2,s,h⟩
 ·rw[xw (p:=p) rfl hq h4]
  simp
  omega
 ·exact pD (p:=p) (j:=j) (s:=[j2]++s) (by rw[h];simp) hq (by omega) (by simp) fun h=>absurd h h4
def enc(ix:List Nat):Option Nat→Int
 |none=>-1
 |some j=>((ix.getD j 0:Nat):Int)
def vj(l:List Pl)(i:Nat):Int:=if (au l i).n.kind=2 then ((aE (au l i).n.kids 0).kids.length:Nat) else 0
def y7(l pre:List Pl)(ix:List Nat):List Bd:=ix.map fun i=>⟨(au l i).p,(au l i).n.text,e8 l pre i,vj l i⟩
def dI:List Pl→Nat→List Nat
 |[],_=>[]
 |b::r,i=>(if ga b=true then [i] else [])++dI r (i+1)
theorem jX:∀(a b:List Pl)(i:Nat),dI (a++b) i=dI a i++dI b (i+a.length)
 |[],b,i=>by simp[dI]
 |c::a,b,i=>by
  simp only[List.cons_append,dI,List.length_cons,jX a b,List.append_assoc]
  rw[show i+1+a.length=i+(a.length+1) by omega]
theorem Lu:∀(a:List Pl)(i:Nat),(∀b∈a,ga b=false)→dI a i=[]
 |[],_,_=>rfl
 |b::a,i,h=>by simp[dI,h b (by simp),Lu a (i+1) fun c hc=>h c (by simp[hc])]
structure oC(l pre:List Pl)(ix A:List Nat)(ws:WS):Prop where
 at_:ws.at_=pre.length
 bs:ws.bs=y7 l pre ix
 all:ws.all.map (fun j=>ix.getD j 0)=A
 lt:∀j∈ws.all,j<ix.length
 nd:ix.Nodup
 old:∀i∈ix,(au l i).n.kind=2∨i<pre.length
 cZ:∀u∈pre,gj u=true→∃i∈ix,bW l u=(i:Int)
def nv(l:List Pl)(a n:Nat):Prop:=∀i,a≤i→i<a+n→cN l i=none
def kE(l:List Pl)(a n:Nat)(e:jU):Prop:=∃i,(a≤i∧i<a+n)∧cN l i=some e∧∀i',a≤i'→i'<i→cN l i'=none
theorem nv.ez{l:List Pl}{a n m:Nat}(h:nv l a n)(k:nv l (a+n) m):nv l a (n+m):=fun i h1 h2=>by
 by_cases c:i<a+n
 ·exact h i h1 c
 ·exact k i (by omega) (by omega)
theorem kE.left{l:List Pl}{a n m:Nat}{e:jU}(h:kE l a n e):kE l a (n+m) e:=by
 obtain ⟨i,⟨h1,h2⟩,h3,h4⟩:=h
 exact ⟨i,⟨h1,by omega⟩,h3,h4⟩
theorem kE.right{l:List Pl}{a n m:Nat}{e:jU}(k:nv l a n)(h:kE l (a+n) m e):kE l a (n+m) e:=by
 obtain ⟨i,⟨h1,h2⟩,h3,h4⟩:=h
 refine ⟨i,⟨by omega,by omega⟩,h3,fun i' g1 g2=>?_⟩
 by_cases c:i'<a+n
 ·exact k i' g1 c
 ·exact h4 i' (by omega) g2
theorem nv.one{l:List Pl}{a:Nat}(h:cN l a=none):nv l a 1:=fun i h1 h2=>by
 have:i=a:=by omega
 rw[this];exact h
theorem kE.one{l:List Pl}{a:Nat}{e:jU}(h:cN l a=some e):kE l a 1 e:=⟨a,⟨Nat.le_refl _,by omega⟩,h,fun i' h1 h2=>by omega⟩
theorem nv.nil{l:List Pl}{a:Nat}:nv l a 0:=fun i h1 h2=>by omega
theorem rY{pre r:List Pl}{u:Pl}:au (pre++u::r) pre.length=u:=by simp[au,List.getD]
theorem y8{ix more:List Nat}{o:Option Nat}(h:∀j,o=some j→j<ix.length):enc (ix++more) o=enc ix o:=by
 cases o with
 |none=>rfl
 |some j =>
  have:=h j rfl
  simp[enc,List.getD,List.getElem?_append_left this]
theorem wh{ix more:List Nat}{j:Nat}(h:j<ix.length):(ix++more).getD j 0=ix.getD j 0:=by simp[List.getD,List.getElem?_append_left h]
theorem vm(l pre:List Pl)(u:Pl)(i:Nat):e8 l (pre++[u]) i=e8 l pre i++if gj u=true∧bW l u=(i:Int) then [u.p] else []:=by
 unfold e8
 rw[List.filter_append,List.map_append]
 congr 1
 by_cases h1:gj u=true<;>by_cases h2:bW l u=(i:Int)<;>simp[h1,h2]
theorem oC.skip{l pre:List Pl}{ix A:List Nat}{ws:WS}(h:oC l pre ix A ws){u:Pl}(hu:gj u=false):oC l (pre++[u]) ix A { ws with at_:=ws.at_+1 } where
 at_:=by simp[h.at_]
 bs:=by
  rw[h.bs]
  unfold y7
  congr 1
  funext i
  rw[vm]
  simp[hu]
 all:=h.all
 lt:=h.lt
 nd:=h.nd
 old:=fun i hi=>by
  rcases h.old i hi with h1|h1
  ·exact .inl h1
  ·exact .inr (by simp;omega)
 cZ:=fun v hv hi=>by
  rcases List.mem_append.1 hv with h1|h1
  ·exact h.cZ v h1 hi
  ·rw[List.mem_singleton] at h1
   subst h1
   rw[hu] at hi
   cases hi
theorem DH{l pre:List Pl}{ix:List Nat}{j:Nat}(h:j<ix.length):bq (y7 l pre ix) j=⟨(au l (ix.getD j 0)).p,(au l (ix.getD j 0)).n.text,e8 l pre (ix.getD j 0),vj l (ix.getD j 0)⟩:=by
 simp[bq,y7,List.getD,h]
theorem ab5{ix:List Nat}(h:ix.Nodup){j m:Nat}(hj:j<ix.length)(hm:m<ix.length)(e:ix[j]=ix[m]):j=m:=by
 rcases Nat.lt_trichotomy j m with h1|h1|h1
 ·exact absurd e (List.pairwise_iff_getElem.1 h j m hj hm h1)
 ·exact h1
 ·exact absurd e.symm (List.pairwise_iff_getElem.1 h m j hm hj h1)
theorem oC.use{l pre:List Pl}{ix A:List Nat}{ws:WS}(h:oC l pre ix A ws){u:Pl}(hu:gj u=true){j:Nat}(hj:j<ix.length)(hs:bW l u=((ix.getD j 0:Nat):Int)) :
  oC l (pre++[u]) ix A { ws with at_:=ws.at_+1,bs:=ws.bs.set j { bq ws.bs j with cZ:=(bq ws.bs j).cZ++[u.p] } } where
 at_:=by simp[h.at_]
 bs:=by
  simp only
  rw[h.bs,DH hj]
  apply List.ext_getElem
  ·simp[y7]
  intro m h1 h2
  have hm:m<ix.length:=by simpa [y7] using h2
  rw[List.getElem_set]
  simp only[y7,List.getElem_map,vm,hu,hs,true_and]
  have wB:ix.getD j 0=ix[j]:=by simp[List.getD,hj]
  split
  ·rename_i e
   subst e
   simp only[wB,if_true]
  ·rename_i e
   have hne:¬(ix[j]:Int)=(ix[m]:Nat):=fun h'=>by
    have h3:ix[j]=ix[m]:=by omega
    exact e (ab5 h.nd hj hm h3)
   simp only[wB,hne,if_false,List.append_nil]
 all:=h.all
 lt:=h.lt
 nd:=h.nd
 old:=fun i hi=>by
  rcases h.old i hi with h1|h1
  ·exact .inl h1
  ·exact .inr (by simp;omega)
 cZ:=fun v hv hi=>by
  rcases List.mem_append.1 hv with h1|h1
  ·exact h.cZ v h1 hi
  ·rw[List.mem_singleton] at h1
   subst h1
   exact ⟨ix.getD j 0,by simp[List.getD,hj],hs⟩
theorem oC.bind{l pre:List Pl}{ix A:List Nat}{ws:WS}(h:oC l pre ix A ws){m:Nat}(hm:m<pre.length)(hk:¬(au l m).n.kind=2)(hni:m∉ix) :
  oC l pre (ix++[m]) (A++[m]) { ws with bs:=ws.bs++[⟨(au l m).p,(au l m).n.text,[],0⟩],all:=ws.all++[ws.bs.length] } where
 at_:=h.at_
 bs:=by
  have hu:e8 l pre m=[]:=by
   unfold e8
   rw[List.map_eq_nil_iff,List.filter_eq_nil_iff]
   intro u hu hc
   simp only[Bool.and_eq_true,decide_eq_true_eq] at hc
   obtain ⟨i,hi,hs⟩:=h.cZ u hu hc.1
   rw[hc.2] at hs
   have:m=i:=by omega
   exact hni (this▸hi)
  have hy:vj l m=0:=by unfold vj;rw[if_neg hk]
  simp only[h.bs,y7,List.map_append,List.map_cons,List.map_nil,hu,hy]
 all:=by
  have hl:ws.bs.length=ix.length:=by rw[h.bs];simp[y7]
  simp only[List.map_append,List.map_cons,List.map_nil,hl]
  congr 1
  ·rw[←h.all]
   apply List.map_congr_left
   intro j hj
   exact wh (h.lt j hj)
  ·simp[List.getD]
 lt:=fun j hj=>by
  have hl:ws.bs.length=ix.length:=by rw[h.bs];simp[y7]
  rcases List.mem_append.1 hj with h1|h1
  ·have:=h.lt j h1
   simp;omega
  ·rw[List.mem_singleton] at h1
   simp;omega
 nd:=by
  rw[List.nodup_append]
  refine ⟨h.nd,by simp,fun a ha b hb e=>?_⟩
  rw[List.mem_singleton] at hb
  subst hb e
  exact hni ha
 old:=fun i hi=>by
  rcases List.mem_append.1 hi with h1|h1
  ·exact h.old i h1
  ·rw[List.mem_singleton] at h1
   subst h1
   exact .inr hm
 cZ:=fun u hu hi=>by
  obtain ⟨i,h1,h2⟩:=h.cZ u hu hi
  exact ⟨i,List.mem_append_left _ h1,h2⟩
structure Bu(l:List Pl)(ix:List Nat)(fu:bn):Prop where
 fa:∀x,iA x l 0 (-1)=enc ix (cL x fu)
 fl:∀x j,cL x fu=some j→j<ix.length∧(au l (ix.getD j 0)).n.kind=2
theorem Bu.more{l:List Pl}{ix:List Nat}{fu:bn}(h:Bu l ix fu)(more:List Nat):Bu l (ix++more) fu where
 fa:=fun x=>by rw[h.fa,y8 fun j hj=>(h.fl x j hj).1]
 fl:=fun x j hj=>by
  obtain ⟨h1,h2⟩:=h.fl x j hj
  exact ⟨by simp;omega,by rw[wh h1];exact h2⟩
structure Ctx(l pre post:List Pl)(t:Nd)(p:List Int)(ix:List Nat)(env:List bn):Prop where
 eq:l=pre++(bI t p++post)
 pne:∃f j,p=f++[j]
 ne:env≠[]
 ag:∀x s,jW x (p++s) pre 0 (-1)=enc ix (cF env x)
 lt:∀x j,cF env x=some j→j<ix.length
 po:∀b∈post,fH b=true→∀s,cM b (p++s)=false
 fr:∀b∈pre,∀s,s≠[]→b.p≠p++s
 hv:t.kind=6→∀x,(cL x (env.headD [])).isSome=pre.any fun b=>decide (b.n.kind=6) && (decide (b.n.text=x) && (decide (b.p.length=p.length) && jk b.p (p.take (p.length-1))))
def IW(l pre:List Pl)(t:Nd)(p:List Int)(ix A:List Nat)(env:List bn):Except jU (List bn×WS)→Prop
 |.error e=>kE l pre.length t.size e
 |.ok r=>nv l pre.length t.size∧∃more,oC l (pre++bI t p) (ix++more) (A++dI (bI t p) pre.length) r.2∧(∀i∈more,pre.length≤i)∧
   (if t.kind=6 then ∃j,j<(ix++more).length∧(ix++more).getD j 0=pre.length∧r.1=fD t.text j (env.headD [])::env.tail else r.1=env)
def Pw(t:Nd):Prop:=∀(l pre post:List Pl)(p:List Int)(ix A:List Nat)(env:List bn)(ws:WS)(fu:bn),Bu l ix fu→Ctx l pre post t p ix env→oC l pre ix A ws→IW l pre t p ix A env (bR fu t env ws p)
structure YB(l pre post:List Pl)(r:List Nd)(p:List Int)(i:Nat)(ix:List Nat)(env:List bn):Prop where
 eq:l=pre++(bZ r p i++post)
 ne:env≠[]
 ag:∀x (k:Nat) s,i≤k→jW x (p++[(k:Int)]++s) pre 0 (-1)=enc ix (cF env x)
 lt:∀x j,cF env x=some j→j<ix.length
 po:∀b∈post,fH b=true→∀(k:Nat) s,i≤k→cM b (p++[(k:Int)]++s)=false
 fr:∀b∈pre,∀(k:Nat) s,i≤k→b.p≠p++[(k:Int)]++s
 hv:(∃u∈r,u.kind=6)→∀x,(cL x (env.headD [])).isSome=pre.any fun b=>decide (b.n.kind=6) && (decide (b.n.text=x) && (decide (b.p.length=p.length+1) && jk b.p p))
def DJ(l pre:List Pl)(r:List Nd)(p:List Int)(i:Nat)(ix A:List Nat)(env:List bn):Except jU (List bn×WS)→Prop
 |.error e=>kE l pre.length (Nd.ay r) e
 |.ok q=>nv l pre.length (Nd.ay r)∧∃more,oC l (pre++bZ r p i) (ix++more) (A++dI (bZ r p i) pre.length) q.2∧(∀i∈more,pre.length≤i)∧
   q.1.tail=env.tail∧((∀u∈r,¬u.kind=6)→q.1=env)
theorem vn{f:bn}{r:List bn}{x:ByteArray}:cF (f::r) x=match cL x f with
 |some i=>some i
 |none=>cF r x:=rfl
theorem T9{env:List bn}(h:env≠[]):env=env.headD []::env.tail:=by
 cases env with
 |nil=>exact absurd rfl h
 |cons a r=>rfl
theorem Lv{env:List bn}(h:env≠[]){x:ByteArray}:cF env x=match cL x (env.headD []) with
 |some i=>some i
 |none=>cF env.tail x:=by
 cases env with
 |nil=>exact absurd rfl h
 |cons a r=>rfl
theorem Ua(r:List Nd)(hg:∀u∈r,qd u)(hc:∀u∈r,Pw u):∀(l pre post:List Pl)(p:List Int)(i:Nat)(ix A:List Nat)(env:List bn)(ws:WS)(fu:bn),Bu l ix fu→YB l pre post r p i ix env→oC l pre ix A ws→DJ l pre r p i ix A env (bJ fu r env ws p i):=by
 induction r with
 |nil =>
  intro l pre post p i ix A env ws fu hF hK hW
  refine ⟨nv.nil,[],?_,by simp,rfl,fun _=>rfl⟩
  simpa [bZ,dI] using hW
 |cons t r ih =>
  intro l pre post p i ix A env ws fu hF hK hW
  have hgt:=hg t (by simp)
  have KQ:∀u∈r,qd u:=fun u hu=>hg u (by simp[hu])
  have hC:Ctx l pre (bZ r p (i+1)++post) t (p++[(i:Int)]) ix env:=by
   refine ⟨by rw[hK.eq];simp[bZ],⟨p,_,rfl⟩,hK.ne,fun x s=>hK.ag x i s (Nat.le_refl _),hK.lt,?_,fun b hb s _=>hK.fr b hb i s (Nat.le_refl _),?_⟩
   ·intro b hb hB s
    rcases List.mem_append.1 hb with h|h
    ·obtain ⟨j,u,⟨h1,h2⟩,h3⟩:=eS _ _ _ _ h
     exact Pv (KQ u (List.mem_of_getElem? h2)) rfl (by omega) b h3 hB
    ·exact hK.po b h hB i s (Nat.le_refl _)
   ·intro h6 x
    rw[hK.hv ⟨t,by simp,h6⟩ x]
    simp
  have hN:=hc t (by simp) l pre _ _ ix A env ws fu hF hC hW
  simp only[bJ]
  cases hn:bR fu t env ws (p++[(i:Int)]) with
  |error e =>
   rw[hn] at hN
   exact kE.left hN
  |ok q =>
   rw[hn] at hN
   obtain ⟨ho,more,IX,hm,DL⟩:=hN
   simp only
   have dY:(pre++bI t (p++[(i:Int)])).length=pre.length+t.size:=by rw[List.length_append,eL]
   have ahH:∀x,enc (ix++more) (cF env x)=enc ix (cF env x):=fun x=>y8 fun j hj=>hK.lt x j hj
   have hef:=T9 hK.ne
   have hE:(∀x,cF q.1 x=if t.kind=6∧t.text=x then cF q.1 x else cF env x)∧q.1≠[]∧q.1.tail=env.tail∧(¬t.kind=6→q.1=env)∧(t.kind=6→∃j,j<(ix++more).length∧(ix++more).getD j 0=pre.length∧cF q.1 t.text=some j∧∀x,cL x (q.1.headD [])=if x=t.text then some j else cL x (env.headD [])):=by
    by_cases h6:t.kind=6
    ·rw[if_pos h6] at DL
     obtain ⟨j,hj,hj2,he⟩:=DL
     have hf:∀x,cF q.1 x=if x=t.text then some j else cF env x:=fun x=>by
      rw[he,vn,ju]
      by_cases hx:x=t.text
      ·simp[hx]
      ·rw[if_neg hx,if_neg hx]
       exact (Lv hK.ne).symm
     refine ⟨fun x=>?_,by rw[he];simp,by rw[he];rfl,fun h=>absurd h6 h,fun _=>⟨j,hj,hj2,by rw[hf];simp,fun x=>by rw[he];exact ju⟩⟩
     by_cases hx:t.text=x
     ·simp[h6,hx]
     ·rw[if_neg (fun h=>hx h.2),hf,if_neg (fun h=>hx h.symm)]
    ·rw[if_neg h6] at DL
     exact ⟨fun x=>by simp[h6,DL],by rw[DL];exact hK.ne,by rw[DL],fun _=>DL,fun h=>absurd h h6⟩
   obtain ⟨hE1,hE2,hE3,hE4,hE5⟩:=hE
   have Ub:YB l (pre++bI t (p++[(i:Int)])) post r p (i+1) (ix++more) q.1:=by
    refine ⟨by rw[hK.eq];simp[bZ],hE2,?_,?_,fun b hb hB k s hk=>hK.po b hb hB k s (by omega),?_,?_⟩
    ·intro x k s hk
     rw[fE,hK.ag x k s (by omega),Nat.zero_add,T8 hgt (k:=(k:Int)) (s':=s) rfl (by omega)]
     by_cases h6:t.kind=6∧t.text=x
     ·obtain ⟨j,hj,hj2,hj3,-⟩:=hE5 h6.1
      rw[if_pos ⟨h6.1,h6.2,by omega⟩,←h6.2,hj3]
      simp only[enc,hj2]
     ·rw[if_neg (fun h=>h6 ⟨h.1,h.2.1⟩),hE1 x,if_neg h6,ahH]
    ·intro x j hj
     rw[hE1 x] at hj
     by_cases h6:t.kind=6∧t.text=x
     ·obtain ⟨j',hj',-,hj3,-⟩:=hE5 h6.1
      rw[if_pos h6,←h6.2,hj3] at hj
      cases hj
      exact hj'
     ·rw[if_neg h6] at hj
      have:=hK.lt x j hj
      simp;omega
    ·intro b hb k s hk he
     rcases List.mem_append.1 hb with h|h
     ·exact hK.fr b h k s (by omega) he
     ·rcases nZ t _ b h with rfl|⟨j2,s2,h2⟩
      ·have e1:p++[(i:Int)]++[]=p++[(k:Int)]++s:=by simpa using he
       have:=(nY e1).1
       omega
      ·rw[h2] at he
       have e1:p++[(i:Int)]++([j2]++s2)=p++[(k:Int)]++s:=by rw[←he];simp
       have:=(nY e1).1
       omega
    ·rintro ⟨u,hu,YC⟩ x
     have h0:=hK.hv ⟨u,by simp[hu],YC⟩ x
     rw[List.any_append]
     have hx:(bI t (p++[(i:Int)])).any (fun b=>decide (b.n.kind=6) && (decide (b.n.text=x) && (decide (b.p.length=p.length+1) && jk b.p p)))=(decide (t.kind=6) && decide (t.text=x)):=by
      rw[cR,List.any_cons]
      have hno:(bZ t.kids (p++[(i:Int)]) 0).any (fun b=>decide (b.n.kind=6) && (decide (b.n.text=x) && (decide (b.p.length=p.length+1) && jk b.p p)))=false:=by
       rw[List.any_eq_false]
       intro b hb
       have hlen:¬b.p.length=p.length+1:=by
        obtain ⟨j',u',⟨_,_⟩,h3⟩:=eS _ _ _ _ hb
        rcases nZ u' _ b h3 with rfl|⟨j2,s2,h2⟩
        ·simp
        ·rw[h2];simp
       simp[hlen]
      rw[hno,Bool.or_false]
      have ir:jk (p++[(i:Int)]) p=true:=kD.2 ⟨[(i:Int)],rfl⟩
      simp[ir]
     rw[hx,←h0]
     by_cases h6:t.kind=6
     ·obtain ⟨j,-,-,-,hj4⟩:=hE5 h6
      rw[hj4 x]
      by_cases y9:x=t.text
      ·simp[y9,h6]
      ·have hx3:¬t.text=x:=fun h=>y9 h.symm
       simp[y9,hx3]
     ·rw[hE4 h6]
      simp[h6]
   have hR:=ih KQ (fun u hu=>hc u (by simp[hu])) l _ post p (i+1) (ix++more) _ q.1 q.2 fu (hF.more more) Ub IX
   cases hk:bJ fu r q.1 q.2 p (i+1) with
   |error e =>
    rw[hk] at hR
    unfold DJ at hR
    rw[dY] at hR
    exact kE.right ho hR
   |ok q2 =>
    rw[hk] at hR
    obtain ⟨wv,DM,hW3,hm2,Uc,Ud⟩:=hR
    rw[dY] at wv hW3 hm2
    refine ⟨ho.ez wv,more++DM,?_,?_,Uc.trans hE3,fun hall=>?_⟩
    ·have e1:pre++bZ (t::r) p i=pre++bI t (p++[(i:Int)])++bZ r p (i+1):=by simp[bZ]
     have e2:A++dI (bZ (t::r) p i) pre.length=A++dI (bI t (p++[(i:Int)])) pre.length++dI (bZ r p (i+1)) (pre.length+t.size):=by simp only[bZ];rw[jX,eL];simp
     rw[e1,e2,←List.append_assoc]
     exact hW3
    ·intro z hz
     rcases List.mem_append.1 hz with h|h
     ·exact hm z h
     ·have:=hm2 z h;omega
    ·rw[Ud fun u hu=>hall u (by simp[hu]),hE4 (hall t (by simp))]
theorem Lw{t:Nd}{p:List Int}(hp:∃f j,p=f++[j])(h4:¬t.kind=4)(x:ByteArray)(s:List Int)(i:Nat)(f:Int):jW x (p++s) [⟨t,p⟩] i f=f:=by
 obtain ⟨g,j,hg⟩:=hp
 have h:=Lt (b:=⟨t,p⟩) (s:=s) hg h4
 simp only at h
 simp[jW,h]
theorem DN{l pre post:List Pl}{t:Nd}{p:List Int}{ix:List Nat}{env env':List bn}(hC:Ctx l pre post t p ix env)(h4:¬t.kind=4)(he:∀x,cF env' x=cF env x)(hne:env'≠[])
  (hv:(∃u∈t.kids,u.kind=6)→∀x,(cL x (env'.headD [])).isSome=(pre++[(⟨t,p⟩:Pl)]).any fun b=>decide (b.n.kind=6) && (decide (b.n.text=x) && (decide (b.p.length=p.length+1) && jk b.p p))) :
  YB l (pre++[⟨t,p⟩]) post t.kids p 0 ix env' where
 eq:=by rw[hC.eq,cR];simp
 ne:=hne
 ag:=fun x k s _=>by
  rw[fE]
  have e:p++[(k:Int)]++s=p++([(k:Int)]++s):=by simp
  rw[e,Lw hC.pne h4,hC.ag,he]
 lt:=fun x j hj=>hC.lt x j (by rw[←he];exact hj)
 po:=fun b hb hB k s _=>by
  have e:p++[(k:Int)]++s=p++([(k:Int)]++s):=by simp
  rw[e]
  exact hC.po b hb hB _
 fr:=fun b hb k s _ h=>by
  have e:p++[(k:Int)]++s=p++([(k:Int)]++s):=by simp
  rw[e] at h
  rcases List.mem_append.1 hb with h1|h1
  ·exact hC.fr b h1 _ (by simp) h
  ·rw[List.mem_singleton] at h1
   subst h1
   have:=congrArg List.length h
   simp at this
 hv:=hv
def adi(g:List bn→List bn):Except jU (List bn×WS)→Except jU (List bn×WS)
 |.error e=>.error e
 |.ok q=>.ok (g q.1,q.2)
theorem rD{l pre:List Pl}{t:Nd}{p:List Int}{ix A:List Nat}{env env':List bn}(h6:¬t.kind=6)(hD:ga ⟨t,p⟩=false)(hs:cN l pre.length=none){r:Except jU (List bn×WS)}(hk:DJ l (pre++[⟨t,p⟩]) t.kids p 0 ix A env' r)(g:List bn→List bn)(hg:∀q,r = .ok q→g q.1=env) :
  IW l pre t p ix A env (adi g r):=by
 have hl:(pre++[(⟨t,p⟩:Pl)]).length=pre.length+1:=by simp
 cases r with
 |error e =>
  unfold DJ at hk
  rw[hl] at hk
  show kE l pre.length t.size e
  rw[Nd.size_eq]
  exact kE.right (nv.one hs) hk
 |ok q =>
  obtain ⟨h1,more,h2,h3,h4,h5⟩:=hk
  rw[hl] at h1 h2 h3
  refine ⟨by rw[Nd.size_eq];exact (nv.one hs).ez h1,more,?_,fun i hi=>by have:=h3 i hi;omega,?_⟩
  ·have e1:pre++bI t p=pre++[⟨t,p⟩]++bZ t.kids p 0:=by rw[cR];simp
   have e2:A++dI (bI t p) pre.length=A++dI (bZ t.kids p 0) (pre.length+1):=by rw[cR];simp[dI,hD]
   rw[e1,e2]
   exact h2
  ·rw[if_neg h6]
   exact hg q rfl
theorem Ue(t:Nd):qd t→Pw t:=by
 induction t using Nd.ind with
 |_ t ih =>
  intro hg l pre post p ix A env ws fu hF hC hW
  have hkg:=hg.vi
  have hkc:∀u∈t.kids,Pw u:=fun u hu=>ih u hu (hkg u hu)
  have Uf:=Ua t.kids hkg hkc
  have Ax:=hg.kind
  have h2:¬t.kind=2:=by omega
  have h4:¬t.kind=4:=by omega
  have ej:=hW.at_
  have dY:au l pre.length=⟨t,p⟩:=by rw[hC.eq,cR];exact rY
  obtain ⟨k,s,m,kids⟩:=t
  simp only[Nd.kind,Nd.kids] at Ax h2 h4 Uf hkg hkc
  simp only[bR,if_neg h2,if_neg h4]
  have Lx:∀h5:¬k=5,∀u∈kids,¬u.kind=6:=fun h5=>hg.afZ h5
  by_cases h5:k=5
  ·-- a Block
   rw[if_pos h5]
   have hU:gj ⟨⟨k,s,m,kids⟩,p⟩=false:=by simp[gj,Nd.kind,h5]
   have hD:ga ⟨⟨k,s,m,kids⟩,p⟩=false:=by simp[ga,Nd.kind,h5]
   have hs:cN l pre.length=none:=by
    unfold cN
    rw[dY,if_neg (by simp[fH,Nd.kind,h5]),if_pos hU]
   have hK:=DN (env':=[]::env) hC (by simp[Nd.kind,h5]) (fun x=>by simp[cF,cL]) (by simp) (fun _ x=>by
    simp only[List.headD_cons,cL,Option.isSome_none]
    symm
    rw[List.any_eq_false]
    intro b hb hc
    simp only[Bool.and_eq_true,decide_eq_true_eq,kD] at hc
    obtain ⟨-,-,hc3,z,hz⟩:=hc
    rcases List.mem_append.1 hb with h|h
    ·refine hC.fr b h z (fun e=>?_) hz.symm
     rw[e] at hz
     have:=congrArg List.length hz
     simp at this
     omega
    ·rw[List.mem_singleton] at h
     subst h
     simp at hc3)
   have hn:=rD (by simp[Nd.kind,h5]) hD hs (Uf l _ post p 0 ix A ([]::env) _ fu hF hK (hW.skip hU)) (fun _=>env) (fun _ _=>rfl)
   cases hr:bJ fu kids ([]::env) { ws with at_:=ws.at_+1 } p 0 with
   |error e=>rw[hr] at hn;exact hn
   |ok q=>rw[hr] at hn;exact hn
  rw[if_neg h5]
  by_cases h6:k=6
  ·-- a Var
   rw[if_pos h6]
   have hU:gj ⟨⟨k,s,m,kids⟩,p⟩=false:=by simp[gj,Nd.kind,h6]
   have hB:fH ⟨⟨k,s,m,kids⟩,p⟩=true:=by simp[fH,Nd.kind,h6]
   have hD:ga ⟨⟨k,s,m,kids⟩,p⟩=true:=by simp[ga,Nd.kind,h6]
   have hv:=hC.hv (by simp[Nd.kind,h6]) s
   have vo:dm l pre.length=(cL s (env.headD [])).isSome:=by
    unfold dm
    rw[dY,hv,hC.eq,List.take_left]
    congr 1
    funext b
    have Ay:Nd.kind ⟨k,s,m,kids⟩=6:=h6
    have hts:Nd.text ⟨k,s,m,kids⟩=s:=rfl
    unfold twin
    simp only[Ay,hts]
   cases hh:(cL s (env.headD [])).isSome with
   |true =>
    rw[hh] at vo
    simp only[if_true]
    rw[ej]
    refine kE.left (n:=1) (kE.one ?_)
    unfold cN
    rw[dY]
    simp[hB,vo]
   |false =>
    rw[hh] at vo
    simp only[Bool.false_eq_true,if_false]
    have hs:cN l pre.length=none:=by
     unfold cN
     rw[dY]
     simp[vo,hU]
    have hK:=DN (env':=env) hC (by simp[Nd.kind,h6]) (fun x=>rfl) hC.ne (fun ⟨u,hu,YC⟩=>absurd YC (Lx h5 u hu))
    have hR:=Uf l _ post p 0 ix A env _ fu hF hK (hW.skip hU)
    have hl:(pre++[(⟨⟨k,s,m,kids⟩,p⟩:Pl)]).length=pre.length+1:=by simp
    cases hr:bJ fu kids env { ws with at_:=ws.at_+1 } p 0 with
    |error e =>
     rw[hr] at hR
     unfold DJ at hR
     rw[hl] at hR
     show kE l pre.length (Nd.size ⟨k,s,m,kids⟩) e
     rw[Nd.size_eq]
     exact kE.right (nv.one hs) hR
    |ok q =>
     rw[hr] at hR
     obtain ⟨g1,more,g2,g3,-,g5⟩:=hR
     have hq:=g5 (Lx h5)
     rw[hl] at g1 g2 g3
     have hnd:dI (bZ kids p 0) (pre.length+1)=[]:=Lu _ _ (hg.var (by simp[Nd.kind,h6]) p 0)
     rw[hnd,List.append_nil] at g2
     have e1:pre++bI ⟨k,s,m,kids⟩ p=pre++[⟨⟨k,s,m,kids⟩,p⟩]++bZ kids p 0:=by rw[cR];simp[Nd.kids]
     have hni:pre.length∉ix++more:=fun hm=>by
      rcases List.mem_append.1 hm with h|h
      ·rcases hW.old _ h with h'|h'
       ·rw[dY] at h'
        simp[Nd.kind,h6] at h'
       ·omega
      ·have:=g3 _ h;omega
     have mO:¬(au l pre.length).n.kind=2:=by rw[dY];simp[Nd.kind,h6]
     have hb:=g2.bind (m:=pre.length) (by simp) mO hni
     rw[dY] at hb
     simp only[Nd.text] at hb
     have hmn:cL s (env.headD [])=none:=by
      cases hx:cL s (env.headD []) with
      |none=>rfl
      |some v=>rw[hx] at hh;cases hh
     have ir:q.2.bs.length=(ix++more).length:=by rw[g2.bs];simp[y7]
     simp only[dx,hq,hmn]
     refine ⟨by rw[Nd.size_eq];exact (nv.one hs).ez g1,more++[pre.length],?_,?_,?_⟩
     ·rw[e1,←List.append_assoc]
      have e2:A++dI (bI ⟨k,s,m,kids⟩ p) pre.length=A++[pre.length]:=by
       rw[cR]
       simp only[dI,hD,if_true]
       show A++([pre.length]++dI (bZ kids p 0) (pre.length+1))=_
       rw[hnd]
       simp
      rw[e2]
      exact hb
     ·intro i hi
      rcases List.mem_append.1 hi with h|h
      ·have:=g3 i h;omega
      ·rw[List.mem_singleton] at h;omega
     ·rw[if_pos (by simp[Nd.kind,h6])]
      refine ⟨q.2.bs.length,by rw[ir];simp,?_,rfl⟩
      rw[ir,←List.append_assoc]
      simp[List.getD]
  rw[if_neg h6]
  have h6':¬Nd.kind ⟨k,s,m,kids⟩=6:=by simp[Nd.kind,h6]
  have Lz:fH ⟨⟨k,s,m,kids⟩,p⟩=false:=by simp[fH,Nd.kind,h6,h4]
  have hD:ga ⟨⟨k,s,m,kids⟩,p⟩=false:=by simp[ga,Nd.kind,h6,h4,h2]
  have hK:=DN (env':=env) hC (by simpa [Nd.kind] using h4) (fun x=>rfl) hC.ne (fun ⟨u,hu,YC⟩=>absurd YC (Lx h5 u hu))
  have adj:∀(ev:List bn)(hU:gj ⟨⟨k,s,m,kids⟩,p⟩=true)(hst:bW l ⟨⟨k,s,m,kids⟩,p⟩=enc ix (cF ev s))(hlt:∀j,cF ev s=some j→j<ix.length)(BV:k=25→∀j,cF ev s=some j→(au l (ix.getD j 0)).n.kind=2),
    IW l pre ⟨k,s,m,kids⟩ p ix A env (match jV ev { ws with at_:=ws.at_+1 } k s kids.length p ws.at_ with
     |.error e=>.error e
     | .ok w=>bJ fu kids env w p 0):=by
   intro ev hU hst hlt BV
   unfold jV
   cases hf:cF ev s with
   |none =>
    rw[hf] at hst
    simp only
    rw[ej]
    refine kE.left (n:=1) (kE.one ?_)
    unfold cN
    rw[dY]
    simp[Lz,hU,hst,enc]
   |some j =>
    rw[hf] at hst
    have hj:=hlt j hf
    have LA:bW l ⟨⟨k,s,m,kids⟩,p⟩=((ix.getD j 0:Nat):Int):=hst
    have hb:=DH (l:=l) (pre:=pre) hj
    simp only[hW.bs,hb]
    by_cases c:k=25∧¬vj l (ix.getD j 0)=(kids.length:Nat)
    ·rw[if_pos c]
     simp only
     rw[ej]
     refine kE.left (n:=1) (kE.one ?_)
     have hy:=c.2
     unfold vj at hy
     rw[if_pos (BV c.1 j hf)] at hy
     unfold cN
     rw[dY]
     have hn:¬bW l ⟨⟨k,s,m,kids⟩,p⟩<0:=by rw[LA];omega
     rw[if_neg (by simp[Lz]),if_neg (by simp[hU]),if_neg hn,if_pos]
     refine ⟨by simp[Nd.kind,c.1],?_⟩
     rw[LA,Int.toNat_natCast]
     intro h
     exact hy (congrArg _ h)
    ·rw[if_neg c]
     simp only
     have hs:cN l pre.length=none:=by
      unfold cN
      rw[dY]
      have hn:¬bW l ⟨⟨k,s,m,kids⟩,p⟩<0:=by rw[LA];omega
      rw[if_neg (by simp[Lz]),if_neg (by simp[hU]),if_neg hn,if_neg]
      rintro ⟨c1,c2⟩
      have CV:k=25:=c1
      refine c ⟨CV,?_⟩
      unfold vj
      rw[if_pos (BV CV j hf)]
      rw[LA,Int.toNat_natCast] at c2
      intro h
      exact c2 (Int.ofNat.inj h)
     have IX:=hW.use hU hj LA
     rw[hW.bs,hb] at IX
     have hn:=rD h6' hD hs (Uf l _ post p 0 ix A env _ fu hF hK IX) id (fun q hq=>(by
      have:=Uf l _ post p 0 ix A env _ fu hF hK IX
      rw[hq] at this
      exact this.2.choose_spec.2.2.2 (Lx h5)))
     cases hr:bJ fu kids env { ws with at_:=ws.at_+1,bs:=(y7 l pre ix).set j { (⟨(au l (ix.getD j 0)).p,(au l (ix.getD j 0)).n.text,e8 l pre (ix.getD j 0),vj l (ix.getD j 0)⟩:Bd) with cZ:=e8 l pre (ix.getD j 0)++[p] } } p 0 with
     |error e=>rw[hr] at hn;exact hn
     |ok q=>rw[hr] at hn;exact hn
  by_cases BW:k=22
  ·rw[if_pos BW]
   have hkn:kids=[]:=hg.name (by simp[Nd.kind,BW])
   refine adj env (by simp[gj,Nd.kind,BW]) ?_ (hC.lt s) (fun h=>by omega)
   unfold bW
   rw[if_neg (by simp[Nd.kind,BW])]
   simp only[Nd.text]
   have e0:l=pre++([⟨⟨k,s,m,kids⟩,p⟩]++post):=by rw[hC.eq,cR,hkn];simp[bZ,Nd.kids]
   have rR:p++[]=p:=by simp
   rw[e0,fE,fE]
   have h1:=hC.ag s []
   rw[rR] at h1
   have BQ:=Lw (x:=s) (s:=[]) (i:=0+pre.length) (f:=jW s p pre 0 (-1)) hC.pne (t:=⟨k,s,m,kids⟩) (by simpa [Nd.kind] using h4)
   rw[rR] at BQ
   rw[BQ,h1]
   exact Cj _ _ _ fun b hb hB=>by have:=hC.po b hb hB [];rwa [rR] at this
  rw[if_neg BW]
  by_cases BV:k=25
  ·rw[if_pos BV]
   have hfu:cF [fu] s=cL s fu:=by
    simp only[cF]
    cases cL s fu<;>rfl
   refine adj [fu] (by simp[gj,Nd.kind,BV]) ?_ (fun j hj=>(hF.fl s j (by rw[←hfu];exact hj)).1) (fun _ j hj=>(hF.fl s j (by rw[←hfu];exact hj)).2)
   unfold bW
   rw[if_pos (by simp[Nd.kind,BV]),hfu]
   exact hF.fa s
  rw[if_neg BV]
  have hU:gj ⟨⟨k,s,m,kids⟩,p⟩=false:=by simp[gj,Nd.kind,BW,BV]
  have hs:cN l pre.length=none:=by
   unfold cN
   rw[dY]
   simp[Lz,hU]
  have hR:=Uf l _ post p 0 ix A env _ fu hF hK (hW.skip hU)
  have hn:=rD h6' hD hs hR id (fun q hq=>by
   rw[hq] at hR
   exact hR.2.choose_spec.2.2.2 (Lx h5))
  cases hr:bJ fu kids env { ws with at_:=ws.at_+1 } p 0 with
  |error e=>rw[hr] at hn;exact hn
  |ok q=>rw[hr] at hn;exact hn
theorem vp{t:Nd}{m:Nat}(h:bH t m=true):qc t=true∧∀j,j<t.kids.length→eA t.kind (aE t.kids j).kind j=true∧bH (aE t.kids j) (m-1)=true:=by
 rw[nu] at h
 simp only[Bool.and_eq_true] at h
 refine ⟨h.1.1.2,fun j hj=>?_⟩
 have:=(qV t.kind (m-1) t.kids 0).1 h.1.2 j hj
 rwa [Nat.zero_add] at this
theorem nw{t:Nd}{m:Nat}(h:bH t m=true){u:Nd}(hu:u∈t.kids):∃j:Nat,j<t.kids.length∧eA t.kind u.kind j=true∧bH u (m-1)=true:=by
 obtain ⟨j,hj,rfl⟩:=List.getElem_of_mem hu
 have:=(vp h).2 j hj
 rw[eH hj] at this
 exact ⟨j,hj,this⟩
theorem xx{t:Nd}{m:Nat}(h:bH t m=true)(h0:0≤eZ t.kind):(t.kids.length:Int)=eZ t.kind:=by
 have:=(vp h).1
 simp only[qc,Bool.and_eq_true,Bool.or_eq_true,decide_eq_true_eq] at this
 omega
theorem DP{p k a:Int}(hp:20≤p∨p=6)(h:eA p k a=true):eY k=true:=by
 unfold eA at h
 split at h
 ·cases h
 rw[if_neg (by omega),if_neg (by omega),if_neg (by omega),if_neg (by omega),if_neg (by omega),if_neg (by omega),if_neg (by omega)] at h
 exact h
theorem Ug(t:Nd):∀(m:Nat),bH t m=true→eY t.kind=true→∀(p:List Int)(b:Pl),b∈bI t p→ga b=false:=by
 induction t using Nd.ind with
 |_ t ih =>
  intro m h he p b hb
  have hk:20≤t.kind:=by simp[eY] at he;omega
  rw[cR] at hb
  rcases List.mem_cons.1 hb with rfl|hb
  ·simp[ga];omega
  ·obtain ⟨j,u,⟨h1,h2⟩,h3⟩:=eS _ _ _ _ hb
   have hu:=List.mem_of_getElem? h2
   obtain ⟨j',_,hf,hr⟩:=nw h hu
   exact ih u hu _ hr (DP (.inl hk) hf) _ b h3
theorem GQ{p k a:Int}(hp:p=5∨6≤p)(h:eA p k a=true):(k=5∨6≤k)∧(p≠5→¬k=6):=by
 unfold eA at h
 split at h
 ·cases h
 rw[if_neg (by omega),if_neg (by omega),if_neg (by omega)] at h
 by_cases h5:p=5
 ·rw[if_pos h5] at h
  simp[oB] at h
  exact ⟨by omega,fun h'=>absurd h5 h'⟩
 rw[if_neg h5] at h
 by_cases h7:p=7
 ·rw[if_pos h7] at h
  simp[eY] at h
  exact ⟨by omega,fun _=>by omega⟩
 rw[if_neg h7] at h
 by_cases h8:p=8∨p=9
 ·rw[if_pos h8] at h
  simp[eY] at h
  exact ⟨by omega,fun _=>by omega⟩
 rw[if_neg h8] at h
 by_cases h12:p=12
 ·rw[if_pos h12] at h
  simp at h
  exact ⟨by omega,fun _=>by omega⟩
 rw[if_neg h12] at h
 simp[eY] at h
 exact ⟨by omega,fun _=>by omega⟩
theorem Px(t:Nd):∀(m:Nat),bH t m=true→(t.kind=5∨6≤t.kind)→qd t:=by
 induction t using Nd.ind with
 |_ t ih =>
  intro m h hk
  refine .mk hk (fun h5 u hu=>?_) (fun BW=>?_) (fun h6 p i b hb=>?_) fun u hu=>?_
  ·obtain ⟨j,_,hf,_⟩:=nw h hu
   exact (GQ hk hf).2 h5
  ·have:=xx h (by rw[BW];decide)
   rw[BW] at this
   have h0:t.kids.length=0:=by have:eZ 22=0:=rfl;omega
   exact List.length_eq_zero_iff.1 h0
  ·obtain ⟨j,u,⟨h1,h2⟩,h3⟩:=eS _ _ _ _ hb
   have hu:=List.mem_of_getElem? h2
   obtain ⟨j',_,hf,hr⟩:=nw h hu
   exact Ug u _ hr (DP (.inr h6) hf) _ b h3
  ·obtain ⟨j,_,hf,hr⟩:=nw h hu
   exact ih u hu _ hr (GQ hk hf).1
structure Fn(f P B:Nd):Prop where
 kind:f.kind=2
 kids:f.kids=[P,B]
 pk:P.kind=3
 ps:∀q∈P.kids,q.kind=4∧q.kids=[]
 bk:B.kind=5
 bg:qd B
theorem rZ{n:Nd}{m:Nat}(hk:n.kind=1)(h:bH n m=true){f:Nd}(hf:f∈n.kids):∃P B,Fn f P B:=by
 obtain ⟨j,_,h1,h2⟩:=nw h hf
 have k2:f.kind=2:=by
  rw[hk] at h1
  unfold eA at h1
  split at h1
  ·cases h1
  simpa using h1
 have hl:=xx h2 (by rw[k2];decide)
 have h2l:f.kids.length=2:=by
  rw[k2] at hl
  have:eZ 2=2:=rfl
  omega
 obtain ⟨P,B,hPB⟩:∃P B,f.kids=[P,B]:=by
  match hq:f.kids,h2l with
  |[P,B],_=>exact ⟨P,B,rfl⟩
 have fx:=(vp h2).2
 rw[hPB] at fx
 obtain ⟨f0,r0⟩:=fx 0 (by simp)
 obtain ⟨f1,r1⟩:=fx 1 (by simp)
 have e0:aE [P,B] 0=P:=rfl
 have e1:aE [P,B] 1=B:=rfl
 rw[e0] at f0 r0
 rw[e1] at f1 r1
 rw[k2] at f0 f1
 have kP:P.kind=3:=by
  simp[eA,eZ] at f0
  exact f0
 have kB:B.kind=5:=by
  simp[eA,eZ] at f1
  exact f1
 refine ⟨P,B,k2,hPB,kP,fun q hq=>?_,kB,Px B _ r1 (.inl kB)⟩
 obtain ⟨j',_,g1,g2⟩:=nw r0 hq
 have k4:q.kind=4:=by
  rw[kP] at g1
  unfold eA at g1
  split at g1
  ·cases g1
  simpa using g1
 refine ⟨k4,?_⟩
 have:=xx g2 (by rw[k4];decide)
 rw[k4] at this
 have h0:q.kids.length=0:=by have:eZ 4=0:=rfl;omega
 exact List.length_eq_zero_iff.1 h0
theorem Rr{f P B:Nd}(hf:Fn f P B){p:List Int}{b:Pl}(hb:b∈bI f p):b=⟨f,p⟩∨b=⟨P,p++[0]⟩∨(∃i:Nat,∃q∈P.kids,b=⟨q,p++[0]++[(i:Int)]⟩)∨(b∈bI B (p++[1])∧qd b.n):=by
 rw[cR,hf.kids] at hb
 simp only[bZ,List.append_nil,List.mem_cons,List.mem_append] at hb
 rcases hb with h|h|h
 ·exact .inl h
 ·rw[cR] at h
  rcases List.mem_cons.1 h with rfl|h
  ·exact .inr (.inl rfl)
  ·obtain ⟨j,u,⟨h1,h2⟩,h3⟩:=eS _ _ _ _ h
   have hu:=List.mem_of_getElem? h2
   rw[cR,(hf.ps u hu).2] at h3
   simp only[bZ,List.mem_singleton] at h3
   exact .inr (.inr (.inl ⟨j,u,hu,h3⟩))
 ·exact .inr (.inr (.inr ⟨h,y6 B hf.bg _ b h⟩))
theorem YD{f P B:Nd}(hf:Fn f P B){j k:Int}(hne:j≠k){s:List Int}:∀b∈bI f [j],fH b=true→cM b ([k]++s)=false:=by
 intro b hb hB
 rcases Rr hf hb with rfl|rfl|⟨i,q,hq,rfl⟩|⟨h,hg⟩
 ·simp[fH,hf.kind] at hB
 ·simp[fH,hf.pk] at hB
 ·exact pD (p:=[]) (j:=j) (k:=k) (s:=[0,(i:Int)]) (s':=s) rfl rfl hne (by simp) (by simp)
 ·have h4:¬b.n.kind=4:=by have:=hg.kind;omega
  rcases nZ B _ b h with rfl|⟨j2,s2,h2⟩
  ·exact pD (p:=[]) (j:=j) (k:=k) (s:=[1]) (s':=s) rfl rfl hne (by simp) fun h=>absurd h h4
  ·exact pD (p:=[]) (j:=j) (k:=k) (s:=[1]++([j2]++s2)) (s':=s) (by rw[h2];simp) rfl hne (by simp) fun h=>absurd h h4
theorem YE{f P B:Nd}(hf:Fn f P B){p:List Int}{b:Pl}(hb:b∈bI f p):b=⟨f,p⟩∨¬b.n.kind=2:=by
 rcases Rr hf hb with rfl|rfl|⟨i,q,hq,rfl⟩|⟨h,hg⟩
 ·exact .inl rfl
 ·right;rw[hf.pk];omega
 ·right;rw[(hf.ps q hq).1];omega
 ·right;have:=hg.kind;omega
theorem DR{s x:ByteArray}{j:Nat}{head:bn}{tl:List bn}:cF (fD s j head::tl) x=if x=s then some j else cF (head::tl) x:=by
 rw[vn,ju]
 by_cases h:x=s
 ·simp[h]
 ·rw[if_neg h,if_neg h,vn]
theorem Az(t:Nd)(r:List Nd)(p:List Int)(i:Nat):bZ (t::r) p i=bI t (p++[(i:Int)])++bZ r p (i+1):=rfl
theorem LB(r:List Nd)(hr:∀q∈r,q.kind=4∧q.kids=[]):∀(l pre post:List Pl)(f:List Int)(i:Nat)(ix A:List Nat)(head:bn)(tl:List bn)(ws:WS)(fu:bn),
  l=pre++(bZ r (f++[0]) i++post)→(∀x s,jW x (f++[1]++s) pre 0 (-1)=enc ix (cF (head::tl) x))→(∀x j,cF (head::tl) x=some j→j<ix.length)→
  (∀x,(cL x head).isSome=pre.any fun b=>decide (b.n.kind=4) && (decide (b.n.text=x) && (decide (b.p.length=f.length+2) && jk b.p (f++[0]))))→oC l pre ix A ws→
  match bJ fu r (head::tl) ws (f++[0]) i with
  |.error e=>kE l pre.length (Nd.ay r) e
  |.ok q=>nv l pre.length (Nd.ay r)∧∃(more:List Nat)(head':bn),oC l (pre++bZ r (f++[0]) i) (ix++more) (A++dI (bZ r (f++[0]) i) pre.length) q.2∧q.1=head'::tl∧
    (∀x s,jW x (f++[1]++s) (pre++bZ r (f++[0]) i) 0 (-1)=enc (ix++more) (cF (head'::tl) x))∧(∀x j,cF (head'::tl) x=some j→j<(ix++more).length):=by
 induction r with
 |nil =>
  intro l pre post f i ix A head tl ws fu heq hag hlt hhv hW
  simp only[bJ]
  exact ⟨nv.nil,[],head,by simpa [bZ,dI] using hW,rfl,by simpa [bZ] using hag,by simpa using hlt⟩
 |cons q r ih =>
  intro l pre post f i ix A head tl ws fu heq hag hlt hhv hW
  obtain ⟨hq4,hq0⟩:=hr q (by simp)
  obtain ⟨k,s,m,kids⟩:=q
  simp only[Nd.kind,Nd.kids] at hq4 hq0
  subst hq4 hq0
  have hN:bI ⟨4,s,m,[]⟩ (f++[0]++[(i:Int)])=[⟨⟨4,s,m,[]⟩,f++[0]++[(i:Int)]⟩]:=by rw[cR];rfl
  have hU:gj ⟨⟨4,s,m,[]⟩,f++[0]++[(i:Int)]⟩=false:=rfl
  have hB:fH ⟨⟨4,s,m,[]⟩,f++[0]++[(i:Int)]⟩=true:=rfl
  have hD:ga ⟨⟨4,s,m,[]⟩,f++[0]++[(i:Int)]⟩=true:=rfl
  have YF:bZ (⟨4,s,m,[]⟩::r) (f++[0]) i=[⟨⟨4,s,m,[]⟩,f++[0]++[(i:Int)]⟩]++bZ r (f++[0]) (i+1):=by rw[Az,hN]
  have Uh:∀n,dI [(⟨⟨4,s,m,[]⟩,f++[0]++[(i:Int)]⟩:Pl)] n=[n]:=fun n=>by simp only[dI,hD,if_true,List.append_nil]
  have r8:l=(pre++[⟨⟨4,s,m,[]⟩,f++[0]++[(i:Int)]⟩])++(bZ r (f++[0]) (i+1)++post):=by rw[heq,YF];simp only[List.append_assoc]
  have dY:au l pre.length=⟨⟨4,s,m,[]⟩,f++[0]++[(i:Int)]⟩:=by rw[r8,List.append_assoc];exact rY
  have vo:dm l pre.length=(cL s head).isSome:=by
   unfold dm
   rw[dY,hhv s,r8,List.append_assoc,List.take_left]
   congr 1
   funext b
   have h4:Nd.kind ⟨4,s,m,[]⟩=4:=rfl
   have hs:Nd.text ⟨4,s,m,[]⟩=s:=rfl
   have fe:(f++[0]++[(i:Int)]).length=f.length+2:=by simp
   have eK:(f++[0]++[(i:Int)]).take (f.length+2-1)=f++[0]:=by
    have:f.length+2-1=(f++[(0:Int)]).length:=by simp
    rw[this,List.take_left]
   unfold twin
   simp only[h4,hs,fe,eK]
  have ej:=hW.at_
  have hsz:Nd.ay (⟨4,s,m,[]⟩::r)=1+Nd.ay r:=by simp[Nd.ay,Nd.size]
  have hl:(pre++[(⟨⟨4,s,m,[]⟩,f++[0]++[(i:Int)]⟩:Pl)]).length=pre.length+1:=by simp
  have DS:bR fu ⟨4,s,m,[]⟩ (head::tl) ws (f++[0]++[(i:Int)])=dx (head::tl) { ws with at_:=ws.at_+1 } s (f++[0]++[(i:Int)]) ws.at_:=by
   simp only[bR]
   rw[if_neg (by decide),if_pos trivial]
   cases dx (head::tl) { ws with at_:=ws.at_+1 } s (f++[0]++[(i:Int)]) ws.at_<;>rfl
  simp only[bJ,DS]
  rw[hsz]
  cases hg:cL s head with
  |some v =>
   have hb:dx (head::tl) { ws with at_:=ws.at_+1 } s (f++[0]++[(i:Int)]) ws.at_ = .error (110,ws.at_):=by simp[dx,hg]
   rw[hb]
   simp only
   rw[ej]
   refine kE.left (kE.one ?_)
   unfold cN
   rw[dY,if_pos ⟨hB,by rw[vo,hg];rfl⟩]
  |none =>
   have hb:dx (head::tl) { ws with at_:=ws.at_+1 } s (f++[0]++[(i:Int)]) ws.at_ = .ok (fD s ws.bs.length head::tl,{ ws with at_:=ws.at_+1,bs:=ws.bs++[⟨f++[0]++[(i:Int)],s,[],0⟩],all:=ws.all++[ws.bs.length] }):=by simp[dx,hg]
   rw[hb]
   simp only
   have hs:cN l pre.length=none:=by
    unfold cN
    rw[dY,if_neg (by simp[vo,hg]),if_pos hU]
   have hni:pre.length∉ix:=fun hm=>by
    rcases hW.old _ hm with h|h
    ·rw[dY] at h;simp[Nd.kind] at h
    ·omega
   obtain ⟨w2,BX⟩:∃w2,({ ws with at_:=ws.at_+1,bs:=ws.bs++[⟨f++[0]++[(i:Int)],s,[],0⟩],all:=ws.all++[ws.bs.length] }:WS)=w2:=⟨_,rfl⟩
   have IX:oC l (pre++[⟨⟨4,s,m,[]⟩,f++[0]++[(i:Int)]⟩]) (ix++[pre.length]) (A++[pre.length]) w2:=by
    have h:=(hW.skip hU).bind (m:=pre.length) (by simp) (by rw[dY];simp[Nd.kind]) hni
    rw[dY] at h
    rw[←BX]
    exact h
   rw[BX]
   have ir:ws.bs.length=ix.length:=by rw[hW.bs];simp[y7]
   have hR:=ih (fun q hq=>hr q (by simp[hq])) l _ post f (i+1) (ix++[pre.length]) (A++[pre.length]) (fD s ws.bs.length head) tl _ fu r8 ?_ ?_ ?_ IX
   ·rw[hl] at hR
    generalize bJ fu r (fD s ws.bs.length head::tl) w2 (f++[0]) (i+1)=res at hR ⊢
    cases res with
    |error e=>exact kE.right (nv.one hs) hR
    |ok z =>
     obtain ⟨g1,more,head',g2,g3,g4,g5⟩:=hR
     have e1:pre++bZ (⟨4,s,m,[]⟩::r) (f++[0]) i=pre++[⟨⟨4,s,m,[]⟩,f++[0]++[(i:Int)]⟩]++bZ r (f++[0]) (i+1):=by rw[YF];simp only[List.append_assoc]
     have e2:A++dI (bZ (⟨4,s,m,[]⟩::r) (f++[0]) i) pre.length=A++[pre.length]++dI (bZ r (f++[0]) (i+1)) (pre.length+1):=by rw[YF,jX,Uh];simp only[List.append_assoc];rfl
     refine ⟨(nv.one hs).ez g1,pre.length::more,head',?_,g3,?_,?_⟩
     ·rw[e1,e2,show ix++pre.length::more=ix++[pre.length]++more by simp]
      exact g2
     ·intro x s'
      rw[e1,show ix++pre.length::more=ix++[pre.length]++more by simp]
      exact g4 x s'
     ·intro x j hj
      have:=g5 x j hj
      simpa using this
   ·intro x s'
    rw[fE,hag x s',Nat.zero_add,DR]
    simp only[jW]
    have ab6:cM ⟨⟨4,s,m,[]⟩,f++[0]++[(i:Int)]⟩ (f++[1]++s')=true:=Pu rfl rfl rfl
    have hts:Nd.text ⟨4,s,m,[]⟩=s:=rfl
    rw[ab6,hB,hts]
    by_cases hx:x=s
    ·have y9:s=x:=hx.symm
     rw[if_pos hx,if_pos ⟨y9,rfl,rfl⟩]
     simp[enc,ir,List.getD]
    ·have y9:¬s=x:=fun h=>hx h.symm
     rw[if_neg hx,if_neg (fun h=>y9 h.1),y8 (hlt x)]
   ·intro x j hj
    rw[DR] at hj
    split at hj
    ·cases hj
     rw[ir]
     simp
    ·have:=hlt x j hj
     simp;omega
   ·intro x
    rw[ju,List.any_append,List.any_cons,List.any_nil,Bool.or_false,←hhv x]
    have hts:Nd.text ⟨4,s,m,[]⟩=s:=rfl
    have h4:Nd.kind ⟨4,s,m,[]⟩=4:=rfl
    have qM:jk (f++[0]++[(i:Int)]) (f++[0])=true:=kD.2 ⟨[(i:Int)],rfl⟩
    simp only[hts,h4,qM]
    by_cases hx:x=s
    ·simp[hx]
    ·have y9:¬s=x:=fun h=>hx h.symm
     simp[hx,y9]
theorem oC.decl{l pre:List Pl}{ix A:List Nat}{ws:WS}(h:oC l pre ix A ws){u:Pl}(hu:gj u=false){j:Nat}(hj:j<ix.length)(hi:ix.getD j 0=pre.length):oC l (pre++[u]) ix (A++[pre.length]) { ws with at_:=ws.at_+1,all:=ws.all++[j] } where
 at_:=(h.skip hu).at_
 bs:=(h.skip hu).bs
 all:=by
  simp only[List.map_append,List.map_cons,List.map_nil,hi]
  rw[h.all]
 lt:=fun z hz=>by
  rcases List.mem_append.1 hz with h1|h1
  ·exact h.lt z h1
  ·rw[List.mem_singleton] at h1
   rw[h1];exact hj
 nd:=h.nd
 old:=(h.skip hu).old
 cZ:=(h.skip hu).cZ
theorem ab7{f P B:Nd}(hf:Fn f P B)(l pre post:List Pl)(k:Nat)(ix A:List Nat)(ws:WS)(fu:bn)(hF:Bu l ix fu)(heq:l=pre++(bI f [(k:Int)]++post))
  (hag:∀x s,jW x ([(k:Int)]++s) pre 0 (-1)=-1)(jB:∀b∈post,fH b=true→∀s,cM b ([(k:Int)]++s)=false)(aX:∀b∈pre,∀s,b.p≠[(k:Int)]++s)
  (jx:∃j,cL f.text fu=some j∧ix.getD j 0=pre.length)(hW:oC l pre ix A ws) :
  match bR fu f [[]] ws [(k:Int)] with
  |.error e=>kE l pre.length f.size e
  |.ok r=>nv l pre.length f.size∧∃more,oC l (pre++bI f [(k:Int)]) (ix++more) (A++dI (bI f [(k:Int)]) pre.length) r.2∧r.1=[[]]:=by
 obtain ⟨j,hj,hji⟩:=jx
 have rQ:=(hF.fl _ _ hj).1
 have NV:=hf.kind
 have hfs:=hf.kids
 obtain ⟨fk,fs,fm,af0⟩:=f
 obtain ⟨pk,ps,pm,dF⟩:=P
 have hpk:pk=3:=hf.pk
 have hps:∀q∈dF,q.kind=4∧q.kids=[]:=hf.ps
 have ahI:fk=2:=NV
 have ahJ:af0=[⟨pk,ps,pm,dF⟩,B]:=hfs
 subst ahI hpk ahJ
 have hj':cL fs fu=some j:=hj
 have hU:gj ⟨⟨2,fs,fm,[⟨3,ps,pm,dF⟩,B]⟩,[(k:Int)]⟩=false:=rfl
 have hUP:gj ⟨⟨3,ps,pm,dF⟩,[(k:Int)]++[0]⟩=false:=rfl
 have hN:bI ⟨2,fs,fm,[⟨3,ps,pm,dF⟩,B]⟩ [(k:Int)]=[⟨⟨2,fs,fm,[⟨3,ps,pm,dF⟩,B]⟩,[(k:Int)]⟩]++([⟨⟨3,ps,pm,dF⟩,[(k:Int)]++[0]⟩]++(bZ dF ([(k:Int)]++[0]) 0++bI B ([(k:Int)]++[1]))):=by
  rw[cR]
  show _::bZ [⟨3,ps,pm,dF⟩,B] [(k:Int)] 0=_
  simp only[bZ]
  rw[cR]
  simp[Nd.kids]
 have ahK:au l pre.length=⟨⟨2,fs,fm,[⟨3,ps,pm,dF⟩,B]⟩,[(k:Int)]⟩:=by rw[heq,hN];exact rY
 have ahL:au l (pre.length+1)=⟨⟨3,ps,pm,dF⟩,[(k:Int)]++[0]⟩:=by
  have:=rY (pre:=pre++[⟨⟨2,fs,fm,[⟨3,ps,pm,dF⟩,B]⟩,[(k:Int)]⟩]) (u:=⟨⟨3,ps,pm,dF⟩,[(k:Int)]++[0]⟩) (r:=bZ dF ([(k:Int)]++[0]) 0++bI B ([(k:Int)]++[1])++post)
  rw[heq,hN]
  simpa using this
 have hs0:cN l pre.length=none:=by
  unfold cN
  rw[ahK,if_neg (by simp[fH,Nd.kind]),if_pos hU]
 have hs1:cN l (pre.length+1)=none:=by
  unfold cN
  rw[ahL,if_neg (by simp[fH,Nd.kind]),if_pos hUP]
 have wv:nv l pre.length 2:=(nv.one hs0).ez (m:=1) (nv.one hs1)
 have hW1:=(hW.decl hU rQ hji).skip hUP
 obtain ⟨Bv,xy⟩:∃Bv,pre++[(⟨⟨2,fs,fm,[⟨3,ps,pm,dF⟩,B]⟩,[(k:Int)]⟩:Pl)]++[⟨⟨3,ps,pm,dF⟩,[(k:Int)]++[0]⟩]=Bv:=⟨_,rfl⟩
 rw[xy] at hW1
 have eK:Bv.length=pre.length+2:=by rw[←xy];simp
 have DS:bR fu ⟨2,fs,fm,[⟨3,ps,pm,dF⟩,B]⟩ [[]] ws [(k:Int)]=adi (fun _=>[[]]) (bJ fu [⟨3,ps,pm,dF⟩,B] [[],[]] { ws with at_:=ws.at_+1,all:=ws.all++[j] } [(k:Int)] 0):=by
  simp only[bR,if_true,hj',Option.getD_some]
  cases bJ fu [⟨3,ps,pm,dF⟩,B] [[],[]] { ws with at_:=ws.at_+1,all:=ws.all++[j] } [(k:Int)] 0<;>rfl
 have hnP:bR fu ⟨3,ps,pm,dF⟩ [[],[]] { ws with at_:=ws.at_+1,all:=ws.all++[j] } [(k:Int),0]=bJ fu dF [[],[]] { ws with at_:=ws.at_+1+1,all:=ws.all++[j] } [(k:Int),0] 0:=by
  simp[bR]
 have YG:∀b∈Bv,b∈pre∨b=⟨⟨2,fs,fm,[⟨3,ps,pm,dF⟩,B]⟩,[(k:Int)]⟩∨b=⟨⟨3,ps,pm,dF⟩,[(k:Int)]++[0]⟩:=fun b hb=>by
  rw[←xy] at hb
  simpa [or_assoc] using hb
 have LC:=LB dF hps l Bv (bI B ([(k:Int)]++[1])++post) [(k:Int)] 0 ix (A++[pre.length]) [] [[]] _ fu (by rw[heq,hN,←xy];simp) ?_ (fun x j h=>by simp[cF,cL] at h) ?_ hW1
 rotate_left
 ·intro x s
  rw[←xy,fE,fE]
  have:=hag x ([1]++s)
  rw[show [(k:Int)]++[1]++s=[(k:Int)]++([1]++s) by simp,this]
  simp[jW,fH,Nd.kind,cF,cL,enc]
 ·intro x
  symm
  simp only[cL,Option.isSome_none]
  rw[List.any_eq_false]
  intro b hb hc
  simp only[Bool.and_eq_true,decide_eq_true_eq,kD] at hc
  obtain ⟨c1,-,c3,z,hz⟩:=hc
  rcases YG b hb with h|rfl|rfl
  ·exact aX b h ([0]++z) (by rw[←hz];simp)
  ·simp at c3
  ·simp at c3
 rw[DS]
 simp only[bJ]
 rw[show ([(k:Int)]++[((0:Nat):Int)])=[(k:Int),0] from rfl,hnP]
 rw[show ([(k:Int)]++[(0:Int)])=[(k:Int),0] from rfl] at LC
 have hsz:Nd.size ⟨2,fs,fm,[⟨3,ps,pm,dF⟩,B]⟩=2+(Nd.ay dF+B.size):=by simp[Nd.size,Nd.ay];omega
 rw[hsz]
 rw[eK] at LC
 generalize bJ fu dF [[],[]] { ws with at_:=ws.at_+1+1,all:=ws.all++[j] } [(k:Int),0] 0=res at LC ⊢
 cases res with
 |error e=>exact kE.right wv (kE.left LC)
 |ok q =>
  obtain ⟨g1,more,head',g2,g3,g4,g5⟩:=LC
  simp only
  have ahM:(Bv++bZ dF [(k:Int),0] 0).length=pre.length+2+Nd.ay dF:=by rw[List.length_append,lU,eK]
  have hC:Ctx l (Bv++bZ dF [(k:Int),0] 0) post B ([(k:Int)]++[1]) (ix++more) q.1:=by
   refine ⟨by rw[heq,hN,←xy];simp,⟨[(k:Int)],1,rfl⟩,by rw[g3];simp,fun x s=>by rw[g3];exact g4 x s,fun x j h=>g5 x j (by rw[←g3];exact h),?_,?_,fun h=>?_⟩
   ·intro b hb hB s
    have:=jB b hb hB ([1]++s)
    rwa [show [(k:Int)]++[1]++s=[(k:Int)]++([1]++s) by simp]
   ·intro b hb s hs he
    rcases List.mem_append.1 hb with h|h
    ·rcases YG b h with h|rfl|rfl
     ·exact aX b h ([1]++s) (by rw[he];simp)
     ·have:=congrArg List.length he
      simp at this
     ·have e1 : [(k:Int)]++[0]++[]=[(k:Int)]++[1]++s:=by simp at he
      have:=(nY e1).1
      omega
    ·obtain ⟨j',u,⟨_,h2⟩,h3⟩:=eS _ _ _ _ h
     have hu:=hps u (List.mem_of_getElem? h2)
     rw[cR,hu.2] at h3
     simp only[bZ,List.mem_singleton] at h3
     rw[h3] at he
     have e1 : [(k:Int)]++[0]++[(j':Int)]=[(k:Int)]++[1]++s:=by simp at he
     have:=(nY e1).1
     omega
   ·rw[hf.bk] at h
    omega
  have hB:=Ue B hf.bg l _ post ([(k:Int)]++[1]) (ix++more) _ q.1 q.2 fu (hF.more more) hC g2
  rw[show ([(k:Int)]++[((0+1:Nat):Int)])=[(k:Int)]++[1] from rfl]
  unfold IW at hB
  rw[ahM] at hB
  generalize bR fu B q.1 q.2 ([(k:Int)]++[1])=res at hB ⊢
  have ho3:nv l pre.length (2+Nd.ay dF):=wv.ez g1
  cases res with
  |error e =>
   show kE l pre.length (2+(Nd.ay dF+B.size)) e
   rw[←Nat.add_assoc]
   exact kE.right ho3 (by simpa [Nat.add_assoc] using hB)
  |ok z =>
   obtain ⟨b1,DM,b2,b3,-⟩:=hB
   refine ⟨?_,more++DM,?_,rfl⟩
   ·rw[←Nat.add_assoc]
    exact ho3.ez (by simpa [Nat.add_assoc] using b1)
   ·have e1:pre++bI ⟨2,fs,fm,[⟨3,ps,pm,dF⟩,B]⟩ [(k:Int)]=Bv++bZ dF [(k:Int),0] 0++bI B ([(k:Int)]++[1]):=by rw[hN,←xy];simp
    have e2:A++dI (bI ⟨2,fs,fm,[⟨3,ps,pm,dF⟩,B]⟩ [(k:Int)]) pre.length=A++[pre.length]++dI (bZ dF [(k:Int),0] 0) (pre.length+2)++dI (bI B ([(k:Int)]++[1])) (pre.length+2+Nd.ay dF):=by
     rw[hN,jX,jX,jX,lU]
     simp[dI,ga,Nd.kind]
    rw[e1,e2,←List.append_assoc]
    exact b2
theorem n8{x:ByteArray}:∀(a b:List Pl)(i:Nat)(f:Int),iA x (a++b) i f=iA x b (i+a.length) (iA x a i f)
 |[],b,i,f=>by simp[iA]
 |c::a,b,i,f=>by
  simp only[List.cons_append,iA,List.length_cons]
  rw[n8 a b]
  congr 1
  omega
theorem Ru{x:ByteArray}:∀(a:List Pl)(i:Nat)(f:Int),(∀b∈a,¬b.n.kind=2)→iA x a i f=f
 |[],_,_,_=>rfl
 |b::a,i,f,h=>by
  simp only[iA,if_neg (fun hh:b.n.text=x∧b.n.kind=2∧f<0=>h b (by simp) hh.2.1)]
  exact Ru a (i+1) f fun c hc=>h c (by simp[hc])
theorem GR{x:ByteArray}:∀(a:List Pl)(i:Nat)(f:Int),0≤f→iA x a i f=f
 |[],_,_,_=>rfl
 |b::a,i,f,h=>by
  simp only[iA,if_neg (fun hh:b.n.text=x∧b.n.kind=2∧f<0=>absurd hh.2.2 (by omega))]
  exact GR a (i+1) f h
theorem LD{x:ByteArray}:∀(a:List Pl)(i:Nat),(iA x a i (-1)<0↔a.any (fun b=>decide (b.n.kind=2) && decide (b.n.text=x))=false)∧-1≤iA x a i (-1)
 |[],i=>by simp[iA]
 |b::a,i=>by
  by_cases c:b.n.text=x∧b.n.kind=2
  ·have h:iA x (b::a) i (-1)=(i:Int):=by
    simp only[iA,if_pos (⟨c.1,c.2,by omega⟩:b.n.text=x∧b.n.kind=2∧(-1:Int)<0)]
    exact GR a (i+1) _ (by omega)
   rw[h]
   simp[c.1,c.2]
  ·have h:iA x (b::a) i (-1)=iA x a (i+1) (-1):=by
    simp only[iA,if_neg (fun hh:b.n.text=x∧b.n.kind=2∧(-1:Int)<0=>c ⟨hh.1,hh.2.1⟩)]
   rw[h]
   have ih:=LD (x:=x) a (i+1)
   refine ⟨?_,ih.2⟩
   rw[ih.1,List.any_cons]
   have:(decide (b.n.kind=2) && decide (b.n.text=x))=false:=by
    by_cases h1:b.n.kind=2
    ·have h2:¬b.n.text=x:=fun h2=>c ⟨h2,h1⟩
     simp[h2]
    ·simp[h1]
   rw[this,Bool.false_or]
theorem zb{f P B:Nd}(hf:Fn f P B){p:List Int}{i:Nat}{b:Pl}(hb:b∈bZ f.kids p i):¬b.n.kind=2:=by
 rw[hf.kids] at hb
 simp only[bZ,List.append_nil,List.mem_append] at hb
 rcases hb with h|h
 ·rw[cR] at h
  rcases List.mem_cons.1 h with rfl|h
  ·simp only[hf.pk];omega
  ·obtain ⟨j,u,⟨_,h2⟩,h3⟩:=eS _ _ _ _ h
   have hu:=hf.ps u (List.mem_of_getElem? h2)
   rw[cR,hu.2] at h3
   simp only[bZ,List.mem_singleton] at h3
   rw[h3]
   simp only[hu.1];omega
 ·have:=(y6 B hf.bg _ b h).kind
  omega
structure YH(l pre:List Pl)(ix:List Nat)(fu:bn)(ws:WS):Prop where
 at_:ws.at_=0
 bs:ws.bs=ix.map fun i=>⟨(au l i).p,(au l i).n.text,[],vj l i⟩
 nd:ix.Nodup
 old:∀i∈ix,(au l i).n.kind=2∧i<pre.length
 fa:∀x,iA x pre 0 (-1)=enc ix (cL x fu)
 lt:∀x j,cL x fu=some j→j<ix.length
 fi:∀(a c:List Pl)(u:Pl),pre=a++u::c→u.n.kind=2→∃j,cL u.n.text fu=some j∧ix.getD j 0=a.length
 one:∀b∈pre,b.n.kind=2→b.p.length=1
theorem GS(r:List Nd)(hr:∀f∈r,∃P B,Fn f P B):∀(l pre:List Pl)(i:Nat)(ix:List Nat)(fu:bn)(ws:WS),l=pre++bZ r [] i→YH l pre ix fu ws→
  match gE r i fu ws pre.length with
  |.error e=>∃m,(pre.length≤m∧m<l.length)∧eD l m=some e∧∀m',pre.length≤m'→m'<m→eD l m'=none
  |.ok q=>(∀m,pre.length≤m→m<l.length→eD l m=none)∧∃ix',YH l l ix' q.1 q.2:=by
 induction r with
 |nil =>
  intro l pre i ix fu ws heq hH
  have:l=pre:=by rw[heq];simp[bZ]
  subst this
  simp only[gE]
  exact ⟨fun m h1 h2=>by omega,ix,hH⟩
 |cons f r ih =>
  intro l pre i ix fu ws heq hH
  obtain ⟨P,B,hf⟩:=hr f (by simp)
  have hN:=cR f [(i:Int)]
  have YF:bZ (f::r) [] i=[⟨f,[(i:Int)]⟩]++(bZ f.kids [(i:Int)] 0++bZ r [] (i+1)):=by rw[Az,List.nil_append,hN];rfl
  have r8:l=pre++([⟨f,[(i:Int)]⟩]++(bZ f.kids [(i:Int)] 0++bZ r [] (i+1))):=by rw[heq,YF]
  have dY:au l pre.length=⟨f,[(i:Int)]⟩:=by rw[r8];exact rY
  have adk:dm l pre.length=pre.any (fun b=>decide (b.n.kind=2) && decide (b.n.text=f.text)):=by
   unfold dm
   rw[dY,r8,List.take_left]
   rw[Bool.eq_iff_iff,List.any_eq_true,List.any_eq_true]
   constructor
   ·rintro ⟨b,hb,h⟩
    refine ⟨b,hb,?_⟩
    simp only[twin,Bool.and_eq_true,decide_eq_true_eq,hf.kind] at h ⊢
    exact ⟨h.1,h.2.1⟩
   ·rintro ⟨b,hb,h⟩
    refine ⟨b,hb,?_⟩
    simp only[twin,Bool.and_eq_true,decide_eq_true_eq,hf.kind] at h ⊢
    have h1:=hH.one b hb h.1
    exact ⟨h.1,h.2,by simpa using h1,kD.2 (by simp)⟩
  have hsc:=LD (x:=f.text) pre 0
  rw[hH.fa] at hsc
  have sQ:∀m,pre.length<m→m<pre.length+f.size→eD l m=none:=by
   intro m h1 h2
   have hk:¬(au l m).n.kind=2:=by
    have hm:(au l m)∈bZ f.kids [(i:Int)] 0:=by
     have hsz:(bZ f.kids [(i:Int)] 0).length+1=f.size:=by rw[lU,Nd.size_eq];omega
     have hx:l[m]? = (bZ f.kids [(i:Int)] 0)[m-pre.length-1]?:=by
      rw[r8,List.getElem?_append_right (by omega),List.getElem?_append_right (by simp;omega),List.getElem?_append_left (by simp;omega)]
      simp
     unfold au
     rw[List.getD,hx,List.getElem?_eq_getElem (by omega)]
     exact List.getElem_mem _
    exact zb hf hm
   unfold eD
   rw[if_neg (fun h=>hk h.1)]
  simp only[gE,dx,List.headD_cons,List.tail_cons]
  cases hg:cL f.text fu with
  |some v =>
   simp only
   have ht:dm l pre.length=true:=by
    rw[adk]
    cases hc:pre.any (fun b=>decide (b.n.kind=2) && decide (b.n.text=f.text)) with
    |true=>rfl
    |false =>
     have:=hsc.1.2 hc
     rw[hg] at this
     simp only[enc] at this
     omega
   refine ⟨pre.length,⟨Nat.le_refl _,by rw[r8];simp⟩,?_,fun m' h1 h2=>by omega⟩
   unfold eD
   rw[dY,if_pos ⟨hf.kind,ht⟩]
  |none =>
   simp only
   have ht:dm l pre.length=false:=by
    rw[adk]
    refine hsc.1.1 ?_
    rw[hg]
    simp[enc]
   have hs:eD l pre.length=none:=by
    unfold eD
    rw[dY,ht]
    simp
   have ir:ws.bs.length=ix.length:=by rw[hH.bs];simp
   obtain ⟨w2,BX⟩:∃w2,({ ws with bs:=(ws.bs++[(⟨[(i:Int)],f.text,[],0⟩:Bd)]).set ws.bs.length { bq (ws.bs++[(⟨[(i:Int)],f.text,[],0⟩:Bd)]) ws.bs.length with many:=((aE f.kids 0).kids.length:Nat) },all:=ws.all++[ws.bs.length] }:WS)=w2:=⟨_,rfl⟩
   rw[BX]
   have YI:(pre++bI f [(i:Int)]).length=pre.length+f.size:=by rw[List.length_append,eL]
   have ahN:l=(pre++bI f [(i:Int)])++bZ r [] (i+1):=by rw[r8,hN];simp
   have hH2:YH l (pre++bI f [(i:Int)]) (ix++[pre.length]) (fD f.text ws.bs.length fu) w2:=by
    have hni:pre.length∉ix:=fun h=>by have:=(hH.old _ h).2;omega
    refine ⟨by rw[←BX];exact hH.at_,?_,?_,?_,?_,?_,?_,?_⟩
    ·rw[←BX]
     simp only
     have hbd:bq (ws.bs++[(⟨[(i:Int)],f.text,[],0⟩:Bd)]) ws.bs.length=⟨[(i:Int)],f.text,[],0⟩:=by simp[bq,List.getD]
     rw[hbd,List.set_append_right _ _ (Nat.le_refl _),Nat.sub_self,hH.bs,List.map_append]
     congr 1
     have hm:vj l pre.length=((aE f.kids 0).kids.length:Nat):=by
      unfold vj
      rw[dY,if_pos hf.kind]
     simp[dY,hm]
    ·rw[List.nodup_append]
     refine ⟨hH.nd,by simp,fun a ha b hb e=>?_⟩
     rw[List.mem_singleton] at hb
     subst hb e
     exact hni ha
    ·intro m hm
     rcases List.mem_append.1 hm with h|h
     ·obtain ⟨h1,h2⟩:=hH.old m h
      exact ⟨h1,by rw[YI];omega⟩
     ·rw[List.mem_singleton] at h
      subst h
      exact ⟨by rw[dY];exact hf.kind,by rw[YI];have:=f.size_pos;omega⟩
    ·intro x
     rw[hN,show pre++⟨f,[(i:Int)]⟩::bZ f.kids [(i:Int)] 0=pre++([⟨f,[(i:Int)]⟩]++bZ f.kids [(i:Int)] 0) from rfl,n8,n8,Ru (bZ f.kids [(i:Int)] 0) _ _ (fun b hb=>zb hf hb),hH.fa x,ju,Nat.zero_add]
     simp only[iA]
     by_cases hx:x=f.text
     ·have y9:f.text=x:=hx.symm
      rw[if_pos hx,hx,hg,if_pos ⟨rfl,hf.kind,by simp[enc]⟩]
      simp[enc,ir,List.getD]
     ·rw[if_neg hx,if_neg (fun h=>hx h.1.symm),y8 (hH.lt x)]
    ·intro x j hj
     rw[ju] at hj
     split at hj
     ·cases hj
      rw[ir]
      simp
     ·have:=hH.lt x j hj
      simp;omega
    ·intro a c u hu fx
     by_cases hal:a.length<pre.length
     ·-- an earlier one
      have hpre:∃c',pre=a++u::c':=by
       have h1:(pre++bI f [(i:Int)]).take pre.length=pre:=List.take_left
       rw[hu,List.take_append,List.take_of_length_le (by omega)] at h1
       obtain ⟨z,hz⟩:∃z,pre.length-a.length=z+1:=⟨pre.length-a.length-1,by omega⟩
       rw[hz,List.take_succ_cons] at h1
       exact ⟨_,h1.symm⟩
      obtain ⟨c',sV⟩:=hpre
      obtain ⟨j,hj1,hj2⟩:=hH.fi a c' u sV fx
      have hne:¬u.n.text=f.text:=fun e=>by rw[e,hg] at hj1;cases hj1
      refine ⟨j,by rw[ju,if_neg hne];exact hj1,?_⟩
      rw[wh (hH.lt _ j hj1)]
      exact hj2
     ·have ua:(pre++bI f [(i:Int)])[a.length]? = some u:=by rw[hu];simp
      rw[List.getElem?_append_right (by omega),hN] at ua
      by_cases hz:a.length-pre.length=0
      ·rw[hz] at ua
       simp only[List.getElem?_cons_zero,Option.some.injEq] at ua
       subst ua
       have hap:a.length=pre.length:=by omega
       refine ⟨ws.bs.length,by rw[ju];simp,?_⟩
       rw[ir,hap]
       simp[List.getD]
      ·obtain ⟨z,hz2⟩:∃z,a.length-pre.length=z+1:=⟨a.length-pre.length-1,by omega⟩
       rw[hz2,List.getElem?_cons_succ] at ua
       exact absurd fx (zb hf (List.mem_of_getElem? ua))
    ·intro b hb fx
     rcases List.mem_append.1 hb with h|h
     ·exact hH.one b h fx
     ·rw[hN] at h
      rcases List.mem_cons.1 h with rfl|h
      ·rfl
      ·exact absurd fx (zb hf h)
   have hR:=ih (fun g hg=>hr g (by simp[hg])) l _ (i+1) (ix++[pre.length]) _ w2 ahN hH2
   rw[YI] at hR
   have hall:∀m,pre.length≤m→m<pre.length+f.size→eD l m=none:=fun m h1 h2=>by
    by_cases c:m=pre.length
    ·rw[c];exact hs
    ·exact sQ m (by omega) h2
   rw[show ([fD f.text ws.bs.length fu]:List bn).headD []=fD f.text ws.bs.length fu from rfl]
   generalize gE r (i+1) (fD f.text ws.bs.length fu) w2 (pre.length+f.size)=res at hR ⊢
   cases res with
   |error e =>
    obtain ⟨m,⟨m1,m2⟩,m3,m4⟩:=hR
    refine ⟨m,⟨by omega,m2⟩,m3,fun m' h1 h2=>?_⟩
    by_cases c:m'<pre.length+f.size
    ·exact hall m' h1 c
    ·exact m4 m' (by omega) h2
   |ok q =>
    obtain ⟨m1,m2⟩:=hR
    refine ⟨fun m h1 h2=>?_,m2⟩
    by_cases c:m<pre.length+f.size
    ·exact hall m h1 c
    ·exact m1 m (by omega) h2
theorem LF(f:Nd)(r:List Nd)(i:Nat):bZ (f::r) [] i=bI f [(i:Int)]++bZ r [] (i+1):=by rw[Az];rfl
theorem Ui(r:List Nd)(hr:∀f∈r,∃P B,Fn f P B):∀(l pre:List Pl)(i:Nat)(ix A:List Nat)(ws:WS)(fu:bn),Bu l ix fu→l=pre++bZ r [] i→
  (∀x (k:Nat) s,i≤k→jW x ([(k:Int)]++s) pre 0 (-1)=-1)→(∀b∈pre,∀(k:Nat) s,i≤k→b.p≠[(k:Int)]++s)→
  (∀(a c:List Pl)(u:Pl),l=a++u::c→u.n.kind=2→∃j,cL u.n.text fu=some j∧ix.getD j 0=a.length)→oC l pre ix A ws→
  match bJ fu r [[]] ws [] i with
  |.error e=>kE l pre.length (Nd.ay r) e
  |.ok q=>nv l pre.length (Nd.ay r)∧∃more,oC l l (ix++more) (A++dI (bZ r [] i) pre.length) q.2:=by
 induction r with
 |nil =>
  intro l pre i ix A ws fu hF heq hag aX jx hW
  have:l=pre:=by rw[heq];simp[bZ]
  subst this
  simp only[bJ]
  exact ⟨nv.nil,[],by simpa [bZ,dI] using hW⟩
 |cons f r ih =>
  intro l pre i ix A ws fu hF heq hag aX jx hW
  obtain ⟨P,B,hf⟩:=hr f (by simp)
  have r8:l=pre++(bI f [(i:Int)]++bZ r [] (i+1)):=by rw[heq,LF]
  have hown:∃j,cL f.text fu=some j∧ix.getD j 0=pre.length:=by
   refine jx pre (bZ f.kids [(i:Int)] 0++bZ r [] (i+1)) ⟨f,[(i:Int)]⟩ ?_ hf.kind
   rw[r8,cR]
   simp
  have hN:=ab7 hf l pre (bZ r [] (i+1)) i ix A ws fu hF r8 (fun x s=>hag x i s (Nat.le_refl _)) ?_ (fun b hb s=>aX b hb i s (Nat.le_refl _)) hown hW
  rotate_left
  ·intro b hb hB s
   obtain ⟨j,u,⟨h1,h2⟩,h3⟩:=eS _ _ _ _ hb
   obtain ⟨P',B',hu⟩:=hr u (by simp[List.mem_of_getElem? h2])
   exact YD hu (by omega) b h3 hB
  simp only[bJ,List.nil_append]
  have hsz:Nd.ay (f::r)=f.size+Nd.ay r:=by simp[Nd.ay]
  rw[hsz]
  have YI:(pre++bI f [(i:Int)]).length=pre.length+f.size:=by rw[List.length_append,eL]
  generalize bR fu f [[]] ws [(i:Int)]=res at hN ⊢
  cases res with
  |error e=>exact kE.left hN
  |ok q =>
   obtain ⟨ho,more,IX,he⟩:=hN
   simp only[he]
   have hR:=ih (fun g hg=>hr g (by simp[hg])) l (pre++bI f [(i:Int)]) (i+1) (ix++more) _ q.2 fu (hF.more more) (by rw[r8];simp) ?_ ?_ ?_ IX
   rotate_left
   ·intro x k s hk
    rw[fE,hag x k s (by omega)]
    exact Cj _ _ _ fun b hb hB=>YD hf (by omega) b hb hB
   ·intro b hb k s hk Ud
    rcases List.mem_append.1 hb with h|h
    ·exact aX b h k s (by omega) Ud
    ·rcases nZ f _ b h with rfl|⟨j2,s2,h2⟩
     ·have e1:([]:List Int)++[(i:Int)]++[]=[]++[(k:Int)]++s:=by simpa using Ud
      have:=(nY e1).1
      omega
     ·rw[h2] at Ud
      have e1:([]:List Int)++[(i:Int)]++([j2]++s2)=[]++[(k:Int)]++s:=by simpa using Ud
      have:=(nY e1).1
      omega
   ·intro a c u h1 h2
    obtain ⟨j,j1,j2⟩:=jx a c u h1 h2
    exact ⟨j,j1,by rw[wh (hF.fl _ _ j1).1];exact j2⟩
   rw[YI] at hR
   generalize bJ fu r [[]] q.2 [] (i+1)=res at hR ⊢
   cases res with
   |error e=>exact kE.right ho hR
   |ok z =>
    obtain ⟨g1,DM,g2⟩:=hR
    refine ⟨ho.ez g1,more++DM,?_⟩
    have e2:A++dI (bZ (f::r) [] i) pre.length=A++dI (bI f [(i:Int)]) pre.length++dI (bZ r [] (i+1)) (pre.length+f.size):=by rw[LF,jX,eL];simp
    rw[e2,←List.append_assoc]
    exact g2
theorem mz{g:Nat→Option jU}:∀(n i:Nat),(∀m,i≤m→m<i+n→g m=none)→ph g n i=none
 |0,_,_=>rfl
 |n+1,i,h=>by
  simp only[ph,h i (Nat.le_refl _) (by omega)]
  exact mz n (i+1) fun m h1 h2=>h m (by omega) (by omega)
theorem mA{g:Nat→Option jU}{e:jU}:∀(n i m:Nat),i≤m→m<i+n→g m=some e→(∀m',i≤m'→m'<m→g m'=none)→ph g n i=some e
 |0,i,m,h1,h2,_,_=>by omega
 |n+1,i,m,h1,h2,h3,h4=>by
  simp only[ph]
  by_cases c:i=m
  ·rw[c,h3]
  ·rw[h4 i (Nat.le_refl _) (by omega)]
   exact mA n (i+1) m (by omega) (by omega) h3 fun m' g1 g2=>h4 m' (by omega) g2
theorem AA{n:Nd}(hk:n.kind=1)(h:bH n 40=true):match k8 n with
  |.error e=>jF (bI n [])=e∧¬e.1=0
  |.ok ws=>jF (bI n [])=(0,0)∧∃ix,oC (bI n []) (bI n []) ix (dI (bI n []) 0) ws:=by
 have hr:∀f∈n.kids,∃P B,Fn f P B:=fun f hf=>rZ hk h hf
 obtain ⟨l,hl⟩:∃l,bI n []=l:=⟨_,rfl⟩
 have heq:l=[⟨n,[]⟩]++bZ n.kids [] 0:=by rw[←hl,cR];rfl
 have hlen:l.length=1+Nd.ay n.kids:=by rw[heq,List.length_append,lU];rfl
 have hroot:au l 0=⟨n,[]⟩:=by rw[heq];rfl
 have gT:eD l 0=none:=by unfold eD;rw[hroot,if_neg (by simp[hk])]
 have Py:cN l 0=none:=by unfold cN;rw[hroot,if_neg (by simp[fH,hk]),if_pos (by simp[gj,hk])]
 have Fl:YH l [⟨n,[]⟩] [] [] ⟨[],[],0⟩:=by
  refine ⟨rfl,rfl,by simp,by simp,fun x=>by simp[iA,hk,enc,cL],fun x j hj=>by simp[cL] at hj,fun a c u hu h2=>?_,fun b hb h2=>?_⟩
  ·cases a with
   |nil=>simp at hu;rw[←hu.1] at h2;simp[hk] at h2
   |cons z a=>simp at hu
  ·simp at hb;rw[hb] at h2;simp[hk] at h2
 have hA:=GS n.kids hr l [⟨n,[]⟩] 0 [] [] ⟨[],[],0⟩ heq Fl
 rw[show ([(⟨n,[]⟩:Pl)]).length=1 from rfl] at hA
 rw[hl]
 unfold k8
 cases hq:gE n.kids 0 [] ⟨[],[],0⟩ 1 with
 |error e =>
  rw[hq] at hA
  simp only at hA
  obtain ⟨m,⟨m1,m2⟩,m3,m4⟩:=hA
  simp only
  constructor
  ·unfold jF
   rw[mA l.length 0 m (by omega) (by omega) m3 fun m' h1 h2=>by
    by_cases c:m'=0
    ·rw[c];exact gT
    ·exact m4 m' (by omega) h2]
  ·unfold eD at m3
   split at m3
   ·cases m3;simp
   ·cases m3
 |ok q =>
  rw[hq] at hA
  simp only at hA
  obtain ⟨m1,ix,hH⟩:=hA
  simp only
  have hFn:ph (eD l) l.length 0=none:=mz _ _ fun m _ h2=>by
   by_cases c:m=0
   ·rw[c];exact gT
   ·exact m1 m (by omega) (by omega)
  have hF:Bu l ix q.1:=⟨hH.fa,fun x j hj=>by
   have h1:=hH.lt x j hj
   refine ⟨h1,?_⟩
   have:ix.getD j 0∈ix:=by simp[List.getD,h1]
   exact (hH.old _ this).1⟩
  have hW0:oC l [] ix [] { q.2 with all:=[] }:=by
   refine ⟨hH.at_,?_,rfl,by simp,hH.nd,fun i hi=>.inl (hH.old i hi).1,by simp⟩
   simp only
   rw[hH.bs]
   simp[y7,e8]
  have hW1:=hW0.skip (u:=⟨n,[]⟩) (by simp[gj,hk])
  have DS:bR q.1 n [[]] { q.2 with all:=[] } []=bJ q.1 n.kids [[]] { q.2 with all:=[],at_:=q.2.at_+1 } [] 0:=by
   obtain ⟨k,s,m,kids⟩:=n
   have hk':k=1:=hk
   subst hk'
   simp only[bR]
   simp[Nd.kids]
  rw[DS]
  have hR:=Ui n.kids hr l ([]++[⟨n,[]⟩]) 0 ix [] _ q.1 hF heq ?_ ?_ ?_ hW1
  rotate_left
  ·intro x k s _
   simp[jW,fH,hk]
  ·intro b hb k s _ he
   simp at hb
   rw[hb] at he
   simp at he
  ·intro a c u h1 h2
   exact hH.fi a c u h1 h2
  simp only[List.nil_append,List.length_singleton] at hR
  have hdI:dI l 0=dI (bZ n.kids [] 0) 1:=by
   rw[heq,jX]
   simp[dI,ga,hk]
  generalize bJ q.1 n.kids [[]] { q.2 with all:=[],at_:=q.2.at_+1 } [] 0=res at hR ⊢
  cases res with
  |error e =>
   obtain ⟨m,⟨k1,k2⟩,k3,k4⟩:=hR
   simp only
   constructor
   ·unfold jF
    rw[hFn]
    simp only
    rw[mA l.length 0 m (by omega) (by omega) k3 fun m' h1 h2=>by
     by_cases c:m'=0
     ·rw[c];exact Py
     ·exact k4 m' (by omega) h2]
   ·unfold cN at k3
    split at k3
    ·cases k3;simp
    split at k3
    ·cases k3
    split at k3
    ·cases k3;simp
    split at k3
    ·cases k3;simp
    ·cases k3
  |ok z =>
   obtain ⟨g1,more,g2⟩:=hR
   simp only
   refine ⟨?_,ix++more,?_⟩
   ·unfold jF
    rw[hFn]
    simp only
    rw[mz _ _ fun m _ h2=>by
     by_cases c:m=0
     ·rw[c];exact Py
     ·exact g1 m (by omega) (by omega)]
   ·rw[hdI]
    exact g2
theorem vt(n:Nd):jb n=fp n:=by
 unfold jb fp
 by_cases c:n.kind=1∧bH n 40=true
 ·rw[if_pos c,if_pos c]
  have h:=AA c.1 c.2
  cases hq:k8 n with
  |error e =>
   rw[hq] at h
   exact h.1.symm
  |ok ws =>
   rw[hq] at h
   exact h.1.symm
 ·rw[if_neg c,if_neg c]
theorem GU:∀(l:List Pl)(i:Nat),dI l i=((List.range l.length).filter fun j=>ga (au l j)).map (i+·)
 |[],_=>rfl
 |b::l,i=>by
  rw[List.length_cons,List.range_succ_eq_map,List.filter_cons]
  have h0:au (b::l) 0=b:=rfl
  have hs:((fun j=>ga (au (b::l) j))∘Nat.succ)=fun j=>ga (au l j):=by funext j;rfl
  have hm:(List.map Nat.succ ((List.range l.length).filter fun j=>ga (au l j))).map (i+·)=dI l (i+1):=by
   rw[GU l (i+1),List.map_map]
   apply List.map_congr_left
   intro a _
   simp only[Function.comp]
   omega
  rw[h0,List.filter_map,hs]
  simp only[dI]
  cases hb:ga b with
  |true=>simp only[if_true];rw[List.map_cons,hm];rfl
  |false =>
   simp only[Bool.false_eq_true,if_false,List.nil_append]
   rw[hm]
theorem jv(n:Nd):bQ n=eC n:=by
 unfold bQ eC
 rw[vt]
 by_cases z:(fp n).1=0
 ·rw[if_pos z,if_pos z]
  by_cases c:n.kind=1∧bH n 40=true
  ·have h:=AA c.1 c.2
   have hc:fp n=jF (bI n []):=by unfold fp;rw[if_pos c]
   cases hq:k8 n with
   |error e =>
    rw[hq] at h
    simp only at h
    rw[hc,h.1] at z
    exact absurd z h.2
   |ok ws =>
    rw[hq] at h
    obtain ⟨-,ix,hW⟩:=h
    simp only
    generalize bI n []=l at hW ⊢
    have hd:((List.range l.length).filter fun i=>ga (au l i))=ws.all.map (fun j=>ix.getD j 0):=by
     rw[hW.all,GU]
     simp
    rw[hd,List.map_map]
    apply List.map_congr_left
    intro j hj
    rw[hW.bs,DH (hW.lt j hj)]
    rfl
  ·have hc:fp n=(4,0):=by unfold fp;rw[if_neg c]
   rw[hc] at z
   simp at z
 ·rw[if_neg z,if_neg z]
mutual
def jY:Nd→Nd→Bool
 |⟨k,s,n,l⟩,⟨k',s',n',l'⟩=>decide (k=k') && (decide (n=n') && ((eM k|| decide (s=s')) && jZ l l'))
def jZ:List Nd→List Nd→Bool
 |[],[]=>true
 |a::r,b::q=>jY a b && jZ r q
 |_,_=>false
end
theorem GV(a b:Nd):jY a b=(decide (a.kind=b.kind) && (decide (a.num=b.num) && ((eM a.kind|| decide (a.text=b.text)) && jZ a.kids b.kids))):=by cases a;cases b;rfl
theorem ze:∀{l m:List Nd},¬l.length=m.length→jZ l m=false
 |[],[],h=>absurd rfl h
 |[],_::_,_=>by simp[jZ]
 |_::_,[],_=>by simp[jZ]
 |a::r,b::q,h=>by
  simp only[jZ,Bool.and_eq_false_iff]
  exact .inr (ze (by simpa using h))
theorem xz:∀{l m:List Nd},l.length=m.length→(jZ l m=true↔∀j,j<l.length→jY (aE l j) (aE m j)=true)
 |[],[],_=>by simp[jZ]
 |[],_::_,h=>by simp at h
 |_::_,[],h=>by simp at h
 |a::r,b::q,h=>by
  simp only[jZ,Bool.and_eq_true]
  rw[xz (by simpa using h)]
  constructor
  ·rintro ⟨h1,h2⟩ j hj
   cases j with
   |zero=>simpa [aE] using h1
   |succ j=>simpa [aE] using h2 j (by simpa using hj)
  ·intro h
   exact ⟨by simpa [aE] using h 0 (by simp),fun j hj=>by simpa [aE] using h (j+1) (by simpa using hj)⟩
theorem LG{l m:List Nd}(h:l.length=m.length){k:Nat}(hk:k<l.length)(e:jY (aE l k) (aE m k)=false):jZ l m=false:=by
 cases h2:jZ l m
 ·rfl
 ·rw[(xz h).1 h2 k hk] at e
  cases e
theorem LH{l m:List Nd}(h:l.length=m.length)(e:∀j,j<l.length→jY (aE l j) (aE m j)=true):jZ l m=true:=(xz h).2 e
def iB(n:Nd):Bool:=decide (n.kind=1) && decide ((jb n).1=0)
def kG(x y:kz):Bool:=decide (x.1=y.1) && decide (x.2.2=y.2.2)
def jc:List kz→List kz→Bool
 |[],[]=>true
 |a::r,b::q=>kG a b && jc r q
 |_,_=>false
def gb(a b:Nd):Bool:=iB a && (iB b && (jY a b && jc (bQ a) (bQ b)))
mutual
def bN(f:List Int→Bool)(x:ByteArray):Nd→List Int→Nd
 |⟨k,s,n,l⟩,p=>⟨k,if f p=true then x else s,n,dN f x l p 0⟩
def dN(f:List Int→Bool)(x:ByteArray):List Nd→List Int→Nat→List Nd
 |[],_,_=>[]
 |t::r,p,i=>bN f x t (p++[(i:Int)])::dN f x r p (i+1)
end
theorem iC(f:List Int→Bool)(x:ByteArray)(t:Nd)(p:List Int):bN f x t p=⟨t.kind,if f p=true then x else t.text,t.num,dN f x t.kids p 0⟩:=by cases t;simp only[bN,Nd.kind,Nd.text,Nd.num,Nd.kids]
theorem eG(f:List Int→Bool)(x:ByteArray):∀(l:List Nd)(p:List Int)(i:Nat),(dN f x l p i).length=l.length
 |[],_,_=>rfl
 |t::r,p,i=>by simp only[dN,List.length_cons,eG f x r]
theorem qf(f:List Int→Bool)(x:ByteArray):∀(l:List Nd)(p:List Int)(i j:Nat),j<l.length→aE (dN f x l p i) j=bN f x (aE l j) (p++[((i+j:Nat):Int)])
 |[],_,_,_,h=>by simp at h
 |t::r,p,i,0,_=>by simp[dN,aE]
 |t::r,p,i,j+1,h=>by
  have:=qf f x r p (i+1) j (by simpa using h)
  rw[show i+1+j=i+(j+1) by omega] at this
  simpa [dN,aE] using this
theorem Bw(f:List Int→Bool)(x:ByteArray):∀(l:List Nd)(p:List Int)(i k:Nat),k<l.length→dN f x (l.take (k+1)) p i=dN f x (l.take k) p i++[bN f x (aE l k) (p++[((i+k:Nat):Int)])]
 |[],_,_,_,h=>by simp at h
 |t::r,p,i,0,_=>by simp[dN,aE]
 |t::r,p,i,k+1,h=>by
  have:=Bw f x r p (i+1) k (by simpa using h)
  rw[show i+1+k=i+(k+1) by omega] at this
  simpa [dN,aE] using this
def bX(ps:List (List Int))(p:List Int):Bool:=ps.any fun q=>decide (q=p)
def bw(n:Nd)(x:ByteArray)(path:List Int):Nd×Int :=
 if n.kind=1∧bH n 40=true then
  if iB n=true then
   match (bQ n).find? fun b=>decide (b.1=path) with
   |none=>(Nd.none,6)
   |some b=>if ja x=true then (if gb n (bN (bX (path::b.2.2)) x n [])=true then (bN (bX (path::b.2.2)) x n [],0) else (Nd.none,120)) else (Nd.none,2)
  else (Nd.none,122)
 else (Nd.none,4)
theorem DT{t:Nd}{p:List Int}{b:Pl}(h:b∈bI t p):∃s,b.p=p++s:=by
 rcases nZ t p b h with rfl|⟨j,s,e⟩
 ·exact ⟨[],by simp⟩
 ·exact ⟨[j]++s,by rw[e];simp⟩
theorem DU:∀(l:List Nd),(∀t∈l,∀p,((bI t p).map (·.p)).Nodup)→∀(p:List Int)(i:Nat),((bZ l p i).map (·.p)).Nodup
 |[],_,_,_=>by simp[bZ]
 |t::r,h,p,i=>by
  simp only[bZ,List.map_append]
  refine List.nodup_append.2 ⟨h t (by simp) _,DU r (fun u hu=>h u (by simp[hu])) p (i+1),fun a ha b hb e=>?_⟩
  obtain ⟨x,hx,rfl⟩:=List.mem_map.1 ha
  obtain ⟨y,hy,rfl⟩:=List.mem_map.1 hb
  obtain ⟨s,h1⟩:=DT hx
  obtain ⟨j,u,⟨h2,_⟩,h3⟩:=eS _ _ _ _ hy
  obtain ⟨s',h4⟩:=DT h3
  rw[h1,h4] at e
  have:=(nY e).1
  omega
theorem Pz(t:Nd):∀p,((bI t p).map (·.p)).Nodup:=by
 induction t using Nd.ind with
 |_ t ih =>
  intro p
  rw[cR,List.map_cons,List.nodup_cons]
  refine ⟨fun h=>?_,DU _ ih p 0⟩
  obtain ⟨y,hy,e⟩:=List.mem_map.1 h
  obtain ⟨j,u,_,h3⟩:=eS _ _ _ _ hy
  obtain ⟨s',h4⟩:=DT h3
  rw[h4] at e
  have:=congrArg List.length e
  simp at this
theorem Uj{l:List Pl}{i:Nat}(h:i<l.length):au l i∈l:=by
 have:au l i=l[i]:=by simp[au,List.getD,h]
 rw[this]
 exact List.getElem_mem _
theorem AB{l:List Pl}{b:Pl}(h:b∈l):∃i,i<l.length∧au l i=b:=by
 obtain ⟨i,hi,e⟩:=List.getElem_of_mem h
 exact ⟨i,hi,by simp[au,List.getD,hi,e]⟩
theorem ab8{l:List Pl}(hn:(l.map (·.p)).Nodup){i j:Nat}(hi:i<l.length)(hj:j<l.length)(e:(au l i).p=(au l j).p):i=j:=by
 have hi':i<(l.map (·.p)).length:=by simpa using hi
 have hj':j<(l.map (·.p)).length:=by simpa using hj
 have e':(l.map (·.p))[i]=(l.map (·.p))[j]:=by simpa [au,List.getD,hi,hj] using e
 rcases Nat.lt_trichotomy i j with h1|h1|h1
 ·exact absurd e' (List.pairwise_iff_getElem.1 hn i j hi' hj' h1)
 ·exact h1
 ·exact absurd e'.symm (List.pairwise_iff_getElem.1 hn j i hj' hi' h1)
def tb(f:List Int→Bool)(x:ByteArray)(b:Pl):Pl:=⟨bN f x b.n b.p,b.p⟩
theorem pE{l:List Pl}(g:Pl→Pl){i:Nat}(h:i<l.length):au (l.map g) i=g (au l i):=by simp[au,List.getD,h]
section
variable {f:List Int→Bool}{x:ByteArray}{b:Pl}
theorem adl:(tb f x b).p=b.p:=rfl
theorem qg:(tb f x b).n.kind=b.n.kind:=by simp[tb,iC,Nd.kind]
theorem zf:(tb f x b).n.text=if f b.p=true then x else b.n.text:=by simp only[tb,iC,Nd.text]
theorem LI:(tb f x b).n.kids=dN f x b.n.kids b.p 0:=by
 simp only[tb]
 rw[iC]
 rfl
theorem qh{t:Nd}{p:List Int}:(bN f x t p).kind=t.kind:=by
 rw[iC]
 rfl
theorem wi{t:Nd}{p:List Int}:(bN f x t p).num=t.num:=by
 rw[iC]
 rfl
theorem r9{t:Nd}{p:List Int}:(bN f x t p).text=if f p=true then x else t.text:=by
 rw[iC]
 rfl
theorem n9{t:Nd}{p:List Int}:(bN f x t p).kids=dN f x t.kids p 0:=by
 rw[iC]
 rfl
theorem ab9:(tb f x b).n.kids.length=b.n.kids.length:=by rw[LI,eG]
theorem YJ:(aE (tb f x b).n.kids 0).kids.length=(aE b.n.kids 0).kids.length:=by
 rw[LI]
 by_cases h:0<b.n.kids.length
 ·rw[qf f x b.n.kids b.p 0 0 h,n9,eG]
 ·have e:b.n.kids=[]:=List.length_eq_zero_iff.1 (by omega)
  rw[e]
  rfl
theorem Rv:fH (tb f x b)=fH b:=by simp only[fH,qg]
theorem Rx:gj (tb f x b)=gj b:=by simp only[gj,qg]
theorem Uk{q:List Int}:cM (tb f x b) q=cM b q:=by
 have h:(tb f x b).p=b.p:=rfl
 unfold cM
 rw[qg,h]
end
def lK(P:Nat→Bool):Nat→Int
 |0=>-1
 |n+1=>if P n=true then n else lK P n
def eO(P:Nat→Bool):Nat→Int
 |0=>-1
 |n+1=>if P n=true∧eO P n<0 then n else eO P n
section
variable {P Q:Nat→Bool}{i0:Nat}
theorem Bx:∀{n:Nat},(∀i,i<n→i≠i0→Q i=P i)→(i0<n→Q i0=false)→lK P n≠i0→lK Q n=lK P n
 |0,_,_,_=>rfl
 |n+1,h,h0,hne=>by
  simp only[lK] at hne ⊢
  by_cases c:P n=true
  ·rw[if_pos c] at hne ⊢
   have:n≠i0:=fun e=>hne (by rw[e])
   rw[if_pos (by rw[h n (by omega) this];exact c)]
  ·rw[if_neg c] at hne ⊢
   have hq:¬Q n=true:=by
    by_cases e:n=i0
    ·rw[e,h0 (by omega)];simp
    ·rw[h n (by omega) e];exact c
   rw[if_neg hq]
   exact Bx (fun i hi=>h i (by omega)) (fun hi=>h0 (by omega)) hne
theorem Bz:∀{n:Nat},i0<n→Q i0=true→(∀i,i<n→i≠i0→Q i=false)→lK Q n=i0
 |0,h,_,_=>by omega
 |n+1,hi,h0,h=>by
  simp only[lK]
  by_cases e:n=i0
  ·rw[e,if_pos h0]
  ·rw[if_neg (by rw[h n (by omega) e];simp)]
   exact Bz (by omega) h0 fun i hi=>h i (by omega)
theorem vy:∀{n:Nat}{i:Nat},lK P n=i→i<n∧P i=true
 |0,i,h=>by simp only[lK] at h;omega
 |n+1,i,h=>by
  simp only[lK] at h
  split at h
  ·rename_i c
   have:n=i:=by omega
   subst this
   exact ⟨by omega,c⟩
  ·have:=vy h
   exact ⟨by omega,this.2⟩
theorem zg:∀{n:Nat},(∀i,i<n→i≠i0→Q i=P i)→(i0<n→Q i0=false)→eO P n≠i0→eO Q n=eO P n
 |0,_,_,_=>rfl
 |n+1,h,h0,hne=>by
  have hn:eO P n≠i0:=fun e=>hne (by
   simp only[eO]
   rw[if_neg (fun c=>by have:=c.2;omega)]
   exact e)
  have ih:=zg (n:=n) (fun i hi=>h i (by omega)) (fun hi=>h0 (by omega)) hn
  simp only[eO] at hne ⊢
  rw[ih]
  by_cases c:P n=true∧eO P n<0
  ·rw[if_pos c] at hne ⊢
   have:n≠i0:=fun e=>hne (by rw[e])
   rw[if_pos ⟨by rw[h n (by omega) this];exact c.1,c.2⟩]
  ·rw[if_neg c]
   refine if_neg fun c2=>c ⟨?_,c2.2⟩
   by_cases e:n=i0
   ·rw[e,h0 (by omega)] at c2;simp at c2
   ·rw[←h n (by omega) e];exact c2.1
theorem zh:∀{n:Nat},(∀i,i<n→Q i=false)→eO Q n=-1
 |0,_=>rfl
 |n+1,h=>by
  simp only[eO]
  rw[if_neg (by rw[h n (by omega)];simp)]
  exact zh fun i hi=>h i (by omega)
theorem zi:∀{n:Nat},i0<n→Q i0=true→(∀i,i<n→i≠i0→Q i=false)→eO Q n=i0
 |0,h,_,_=>by omega
 |n+1,hi,h0,h=>by
  simp only[eO]
  by_cases e:n=i0
  ·subst e
   rw[zh (n:=n) fun i hi=>h i (by omega) (by omega)]
   rw[if_pos ⟨h0,by omega⟩]
  ·rw[if_neg (by rw[h n (by omega) e];simp)]
   exact zi (by omega) h0 fun i hi=>h i (by omega)
theorem tf:∀{n:Nat}{i:Nat},eO P n=i→i<n∧P i=true
 |0,i,h=>by simp only[eO] at h;omega
 |n+1,i,h=>by
  simp only[eO] at h
  split at h
  ·rename_i c
   have:n=i:=by omega
   subst this
   exact ⟨by omega,c.1⟩
  ·have:=tf h
   exact ⟨by omega,this.2⟩
end
def tg(l:List Pl)(x:ByteArray)(q:List Int)(i:Nat):Bool:=decide ((au l i).n.text=x) && (fH (au l i) && cM (au l i) q)
def oD(l:List Pl)(x:ByteArray)(i:Nat):Bool:=decide ((au l i).n.text=x) && decide ((au l i).n.kind=2)
theorem Ul{l:List Pl}{x:ByteArray}{q:List Int}:jW x q l 0 (-1)=lK (tg l x q) l.length:=by
 have key:∀k,k≤l.length→jW x q (l.take k) 0 (-1)=lK (tg l x q) k:=by
  intro k
  induction k with
  |zero=>intro _;simp[jW,lK]
  |succ k ih =>
   intro hk
   have h:k<l.length:=by omega
   rw[List.take_add_one,List.getElem?_eq_getElem h,fE]
   have e:au l k=l[k]:=by simp[au,List.getD,h]
   simp only[Option.toList_some,jW,Nat.zero_add,List.length_take,Nat.min_eq_left (Nat.le_of_lt h),lK,tg,e]
   rw[ih (by omega)]
   by_cases c:l[k].n.text=x∧fH l[k]=true∧cM l[k] q=true
   ·rw[if_pos c,if_pos (by simp[c])]
   ·rw[if_neg c,if_neg (by simpa using c)]
 have:=key l.length (Nat.le_refl _)
 rwa [List.take_length] at this
theorem PA{l:List Pl}{x:ByteArray}:iA x l 0 (-1)=eO (oD l x) l.length:=by
 have key:∀k,k≤l.length→iA x (l.take k) 0 (-1)=eO (oD l x) k:=by
  intro k
  induction k with
  |zero=>intro _;simp[iA,eO]
  |succ k ih =>
   intro hk
   have h:k<l.length:=by omega
   rw[List.take_add_one,List.getElem?_eq_getElem h,n8]
   have e:au l k=l[k]:=by simp[au,List.getD,h]
   simp only[Option.toList_some,iA,Nat.zero_add,List.length_take,Nat.min_eq_left (Nat.le_of_lt h),eO,oD,e]
   rw[ih (by omega)]
   by_cases c:l[k].n.text=x∧l[k].n.kind=2∧eO (oD l x) k<0
   ·rw[if_pos c,if_pos (by simp[oD,c])]
   ·rw[if_neg c]
    refine (if_neg fun c2=>c ?_).symm
    simp only[oD,Bool.and_eq_true,decide_eq_true_eq] at c2
    exact ⟨c2.1.1,c2.1.2,c2.2⟩
 have:=key l.length (Nat.le_refl _)
 rwa [List.take_length] at this
theorem qi{l:List Pl}{u:Pl}:bW l u=if u.n.kind=25 then eO (oD l u.n.text) l.length else lK (tg l u.n.text u.p) l.length:=by
 unfold bW
 rw[Ul,PA]
structure Ren(l:List Pl)(i0:Nat)(f:List Int→Bool):Prop where
 lt:i0<l.length
 YK:ga (au l i0)=true
 iff:∀i,i<l.length→(f (au l i).p=true↔i=i0∨(gj (au l i)=true∧bW l (au l i)=i0))
theorem YL{b:Pl}(h:ga b=true):gj b=false:=by
 simp only[ga,Bool.or_eq_true,decide_eq_true_eq] at h
 simp only[gj]
 rcases h with h|h|h<;>rw[h]<;>decide
theorem DV{b:Pl}(h:ga b=true):eM b.n.kind=true:=by
 simp only[ga,Bool.or_eq_true,decide_eq_true_eq] at h
 rcases h with h|h|h<;>rw[h]<;>decide
theorem DW{b:Pl}(h:gj b=true):eM b.n.kind=true:=by
 simp only[gj,Bool.or_eq_true,decide_eq_true_eq] at h
 rcases h with h|h<;>rw[h]<;>decide
theorem IY{b:Pl}(h:fH b=true):ga b=true:=by
 simp only[fH,Bool.or_eq_true,decide_eq_true_eq] at h
 simp only[ga,Bool.or_eq_true,decide_eq_true_eq]
 exact .inr h
theorem Ry{b:Pl}(h:b.n.kind=2):ga b=true:=by simp[ga,h]
theorem DX{l:List Pl}{u:Pl}{i:Nat}(h:bW l u=i):i<l.length∧(au l i).n.text=u.n.text∧ga (au l i)=true:=by
 rw[qi] at h
 split at h
 ·obtain ⟨h1,h2⟩:=tf h
  simp only[oD,Bool.and_eq_true,decide_eq_true_eq] at h2
  exact ⟨h1,h2.1,Ry h2.2⟩
 ·obtain ⟨h1,h2⟩:=vy h
  simp only[tg,Bool.and_eq_true,decide_eq_true_eq] at h2
  exact ⟨h1,h2.1,IY h2.2.1⟩
section
variable {l:List Pl}{i0:Nat}{f:List Int→Bool}{x:ByteArray}
theorem Ren.f_D(h:Ren l i0 f){i:Nat}(hi:i<l.length)(hd:ga (au l i)=true):f (au l i).p=true↔i=i0:=by
 rw[h.iff i hi,YL hd]
 simp
def zj(l:List Pl)(x:ByteArray):Prop:=∀i,i<l.length→eM (au l i).n.kind=true→(au l i).n.text≠x
theorem Ren.pn(h:Ren l i0 f)(hx:zj l x){i:Nat}(hi:i<l.length)(hd:ga (au l i)=true):(tb f x (au l i)).n.text=x↔i=i0:=by
 rw[zf]
 by_cases c:f (au l i).p=true
 ·rw[if_pos c]
  simp[(h.f_D hi hd).1 c]
 ·rw[if_neg c]
  exact ⟨fun e=>absurd e (hx i hi (DV hd)),fun e=>absurd ((h.f_D hi hd).2 e) c⟩
theorem Ren.Ck(h:Ren l i0 f){i:Nat}(hi:i<l.length)(hd:ga (au l i)=true)(hne:i≠i0):(tb f x (au l i)).n.text=(au l i).n.text:=by
 rw[zf,if_neg fun c=>hne ((h.f_D hi hd).1 c)]
theorem Ren.stands(h:Ren l i0 f)(hx:zj l x){i:Nat}(hi:i<l.length)(hu:gj (au l i)=true):bW (l.map (tb f x)) (tb f x (au l i))=bW l (au l i):=by
 have LJ:i≠i0:=fun e=>by
  have:=YL h.YK
  rw[←e,hu] at this
  cases this
 have hN:=hx i hi (DW hu)
 have adm:=h.iff i hi
 rw[qi,qi,qg,adl,List.length_map]
 have hcF:∀(y:ByteArray) j,j<l.length→oD (l.map (tb f x)) y j=(decide ((tb f x (au l j)).n.text=y) && decide ((au l j).n.kind=2)):=fun y j hj=>by
  unfold oD
  rw[pE _ hj,qg]
 have BR:∀(y:ByteArray)(q:List Int) j,j<l.length→tg (l.map (tb f x)) y q j=(decide ((tb f x (au l j)).n.text=y) && (fH (au l j) && cM (au l j) q)):=fun y q j hj=>by
  unfold tg
  rw[pE _ hj,Rv,Uk]
 by_cases hf:f (au l i).p=true
 ·have hst:bW l (au l i)=i0:=by
   rcases adm.1 hf with e|⟨_,e⟩
   ·exact absurd e LJ
   ·exact e
  have ht:(tb f x (au l i)).n.text=x:=by rw[zf,if_pos hf]
  rw[ht]
  rw[qi] at hst
  split at hst
  ·rename_i uc
   rw[if_pos uc,if_pos uc,hst]
   obtain ⟨_,h2⟩:=tf hst
   simp only[oD,Bool.and_eq_true,decide_eq_true_eq] at h2
   refine zi h.lt ?_ fun j hj hne=>?_
   ·rw[hcF x i0 h.lt,(h.pn hx h.lt h.YK).2 rfl]
    simp[h2.2]
   ·rw[hcF x j hj]
    by_cases k2:(au l j).n.kind=2
    ·have:¬(tb f x (au l j)).n.text=x:=fun e=>hne ((h.pn hx hj (Ry k2)).1 e)
     simp[this]
    ·simp[k2]
  ·rename_i uc
   rw[if_neg uc,if_neg uc,hst]
   obtain ⟨_,h2⟩:=vy hst
   simp only[tg,Bool.and_eq_true,decide_eq_true_eq] at h2
   refine Bz h.lt ?_ fun j hj hne=>?_
   ·rw[BR x _ i0 h.lt,(h.pn hx h.lt h.YK).2 rfl]
    simp[h2.2]
   ·rw[BR x _ j hj]
    by_cases kB:fH (au l j)=true
    ·have:¬(tb f x (au l j)).n.text=x:=fun e=>hne ((h.pn hx hj (IY kB)).1 e)
     simp[this]
    ·simp[kB]
 ·have hst:bW l (au l i)≠i0:=fun e=>hf (adm.2 (.inr ⟨hu,e⟩))
  have ht:(tb f x (au l i)).n.text=(au l i).n.text:=by rw[zf,if_neg hf]
  rw[ht]
  rw[qi] at hst
  have h0:¬(tb f x (au l i0)).n.text=(au l i).n.text:=by
   rw[(h.pn hx h.lt h.YK).2 rfl]
   exact fun e=>hN e.symm
  split at hst
  ·rename_i uc
   rw[if_pos uc,if_pos uc]
   refine zg (fun j hj hne=>?_) (fun hj=>?_) hst
   ·rw[hcF _ j hj]
    unfold oD
    by_cases k2:(au l j).n.kind=2
    ·rw[h.Ck hj (Ry k2) hne]
    ·simp[k2]
   ·rw[hcF _ i0 hj]
    simp[h0]
  ·rename_i uc
   rw[if_neg uc,if_neg uc]
   refine Bx (fun j hj hne=>?_) (fun hj=>?_) hst
   ·rw[BR _ _ j hj]
    unfold tg
    by_cases kB:fH (au l j)=true
    ·rw[h.Ck hj (IY kB) hne]
    ·simp[kB]
   ·rw[BR _ _ i0 hj]
    simp[h0]
theorem DZ{i:Nat}(hi:i<l.length):dm l i=true↔∃j,j<i∧twin (au l j) (au l i)=true:=by
 unfold dm
 rw[List.any_eq_true]
 constructor
 ·rintro ⟨a,ha,h⟩
  obtain ⟨j,hj,e⟩:=List.getElem_of_mem ha
  rw[List.getElem_take] at e
  simp only[List.length_take] at hj
  refine ⟨j,by omega,?_⟩
  have:au l j=a:=by rw[←e];simp[au,List.getD,show j<l.length by omega]
  rw[this]
  exact h
 ·rintro ⟨j,hj,h⟩
  refine ⟨_,?_,h⟩
  have:au l j=(l.take i)[j]'(by simp;omega):=by simp[au,List.getD,show j<l.length by omega]
  rw[this]
  exact List.getElem_mem _
theorem Ren.YM(h:Ren l i0 f)(hx:zj l x){i:Nat}(hi:i<l.length)(hd:ga (au l i)=true)(h0:dm l i=false):dm (l.map (tb f x)) i=false:=by
 cases c:dm (l.map (tb f x)) i with
 |false=>rfl
 |true =>
  exfalso
  obtain ⟨j,hj,ht⟩:=(DZ (by simpa using hi)).1 c
  have rQ:j<l.length:=by omega
  rw[pE _ hi,pE _ rQ] at ht
  simp only[twin,Bool.and_eq_true,decide_eq_true_eq,qg,adl] at ht
  obtain ⟨t1,t2,t3,t4⟩:=ht
  have hdj:ga (au l j)=true:=by simp only[ga] at hd ⊢;rw[t1];exact hd
  have hno:¬(au l j).n.text=(au l i).n.text:=fun e=>by
   have:dm l i=true:=(DZ hi).2 ⟨j,hj,by simp[twin,t1,e,of_decide_eq_true t3,t4]⟩
   rw[h0] at this
   cases this
  by_cases ci:i=i0
  ·have e:=(h.pn hx hi hd).2 ci
   rw[e] at t2
   have:=(h.pn hx rQ hdj).1 t2
   omega
  ·by_cases cj:j=i0
   ·have e:=(h.pn hx rQ hdj).2 cj
    rw[e] at t2
    exact ci ((h.pn hx hi hd).1 t2.symm)
   ·rw[h.Ck hi hd ci,h.Ck rQ hdj cj] at t2
    exact hno t2
theorem Ren.steps(h:Ren l i0 f)(hx:zj l x)(h0:∀i,i<l.length→eD l i=none∧cN l i=none):∀i,i<(l.map (tb f x)).length→eD (l.map (tb f x)) i=none∧cN (l.map (tb f x)) i=none:=by
 intro i hi
 rw[List.length_map] at hi
 obtain ⟨g1,g2⟩:=h0 i hi
 unfold eD at g1 ⊢
 unfold cN at g2 ⊢
 rw[pE _ hi,qg,Rv,Rx]
 constructor
 ·refine if_neg fun ⟨c1,c2⟩=>?_
  cases c:dm l i with
  |true=>rw[if_pos ⟨c1,c⟩] at g1;cases g1
  |false=>rw[h.YM hx hi (Ry c1) c] at c2;cases c2
 ·have hB:¬(fH (au l i)=true∧dm l i=true):=fun c=>by rw[if_pos c] at g2;cases g2
  rw[if_neg hB] at g2
  have hB':¬(fH (au l i)=true∧dm (l.map (tb f x)) i=true):=fun ⟨c1,c2⟩=>by
   cases c:dm l i with
   |true=>exact hB ⟨c1,c⟩
   |false=>rw[h.YM hx hi (IY c1) c] at c2;cases c2
  rw[if_neg hB']
  by_cases hu:gj (au l i)=false
  ·rw[if_pos hu]
  ·have SL:gj (au l i)=true:=by simpa using hu
   rw[if_neg hu] at g2 ⊢
   rw[h.stands hx hi SL,ab9]
   by_cases hs:bW l (au l i)<0
   ·rw[if_pos hs] at g2;cases g2
   ·rw[if_neg hs] at g2 ⊢
    have hj:bW l (au l i)=((bW l (au l i)).toNat:Nat):=by omega
    obtain ⟨j1,_,_⟩:=DX hj
    rw[pE _ j1,YJ]
    exact g2
theorem Ren.cZ(h:Ren l i0 f)(hx:zj l x)(i:Nat):e8 (l.map (tb f x)) (l.map (tb f x)) i=e8 l l i:=by
 unfold e8
 rw[List.filter_map,List.map_map]
 have e:(fun u:Pl=>u.p)∘tb f x=fun u=>u.p:=rfl
 rw[e]
 congr 1
 refine List.filter_congr fun u hu=>?_
 obtain ⟨j,hj,rfl⟩:=AB hu
 simp only[Function.comp,Rx]
 by_cases c:gj (au l j)=true
 ·rw[h.stands hx hj c]
 ·simp[c]
end
theorem Um(t:Nd)(p:List Int):(⟨t,p⟩:Pl)∈bI t p:=by rw[cR];simp
def adn(l:List Pl)(i:Nat):kz:=((au l i).p,(au l i).n.text,e8 l l i)
def dIx(l:List Pl):List Nat:=(List.range l.length).filter fun i=>ga (au l i)
theorem LK{l:List Pl}{i:Nat}:i∈dIx l↔i<l.length∧ga (au l i)=true:=by simp[dIx]
theorem BA{n:Nd}(h:iB n=true):bQ n=(dIx (bI n [])).map (adn (bI n [])):=by
 rw[jv]
 unfold iB at h
 rw[vt] at h
 simp only[Bool.and_eq_true,decide_eq_true_eq] at h
 unfold eC
 rw[if_pos h.2]
 rfl
theorem Ren.named{l:List Pl}{i0:Nat}{f:List Int→Bool}(h:Ren l i0 f):∀b∈l,f b.p=true→eM b.n.kind=true:=fun b hb hf=>by
 obtain ⟨i,hi,rfl⟩:=AB hb
 rcases (h.iff i hi).1 hf with e|⟨e,_⟩
 ·rw[e];exact DV h.YK
 ·exact DW e
theorem Ren.text{l:List Pl}{i0:Nat}{f:List Int→Bool}(h:Ren l i0 f):∀b∈l,f b.p=true→b.n.text=(au l i0).n.text:=fun b hb hf=>by
 obtain ⟨i,hi,rfl⟩:=AB hb
 rcases (h.iff i hi).1 hf with e|⟨_,e⟩
 ·rw[e]
 ·exact (DX e).2.1.symm
section
variable {n:Nd}{i0:Nat}{x:ByteArray}
theorem LL(f:List Int→Bool)(y:ByteArray)(t:Nd):∀p,(∀b∈bI t p,f b.p=true→b.n.text=y)→bN f y t p=t:=by
 induction t using Nd.ind with
 |_ t ih =>
  intro p h
  have hs:=h _ (Um t p)
  simp only at hs
  have key:∀(l:List Nd),(∀k∈l,∀p,(∀b∈bI k p,f b.p=true→b.n.text=y)→bN f y k p=k)→∀i,(∀b∈bZ l p i,f b.p=true→b.n.text=y)→dN f y l p i=l:=by
   intro l
   induction l with
   |nil=>intro _ _ _;rfl
   |cons k r fC =>
    intro hk i hb
    simp only[dN]
    rw[hk k (by simp) _ fun b hb'=>hb b (by simp[bZ,hb']),fC (fun k' hk'=>hk k' (by simp[hk'])) _ fun b hb'=>hb b (by simp[bZ,hb'])]
  refine Nd.ext' qh ?_ wi (by rw[n9,key t.kids ih 0 fun b hb=>h b (by rw[cR];simp[hb])])
  rw[r9]
  split
  ·rename_i c;exact (hs c).symm
  ·rfl
end
def ado:IC:=(.seq (.ops [iP 2 (.mv (.k bG))]) (.seq (.ops [iM 7 0,iP 8 (xL 7),iP 9 (.aN .add (.t 8) (kI 12)),⟨(some 10),none,(.h (.jN 4 25 (.agg [(.sc (.int .u8 0)),(.sc (.string ⟨#[]⟩)),(.sc (.int .i64 0)),bG]) (kI 0) (.t 9)))⟩,iM 3 10]) (.seq (.seq (.ops [iP 4 (xI 0)]) (.block 0 (.loop (.seq (.seq (.ops [iM 11 4,iM 12 0,iP 13 (xL 12),iP 14 (xB .lss 11 13)]) (.cond (.t 14) .skip (.exit 0))) (.seq (.block 1 (.seq (.ops [iM 17 0,iM 18 4,iP 19 (xA 4 17 18),iH 20 (yA 4 19),iH 21 (.call 9 [(.t 20)]),⟨(some 5),none,(.h (.alloc (.agg [(.sc (.int .u8 0)),(.sc (.string ⟨#[]⟩)),(.sc (.int .i64 0)),bG]) 25))⟩,iS 4 5 21]) (.ops [iM 22 3,iH 23 (yA 4 5),⟨(some 24),none,(.h (.ep 4 25 (.agg [(.sc (.int .u8 0)),(.sc (.string ⟨#[]⟩)),(.sc (.int .i64 0)),bG]) 1 [(0,(.t 23))]))⟩,iH 25 (.ez 4 25 (.t 22) (.t 24)),iM 3 25]))) (.ops [iM 15 4,iP 16 (.aN .add (.t 15) (kI 1)),iM 4 16])))))) (.seq (.seq (.ops [iP 6 (xI 0)]) (.block 2 (.loop (.seq (.seq (.ops [iM 26 6,iP 27 (.aN .lss (.t 26) (kI 12))]) (.cond (.t 27) .skip (.exit 2))) (.seq (.block 3 (.ops [iM 30 3,iM 31 6,iH 32 (.call 62 [(kI 1),(.t 31)]),⟨(some 33),none,(.h (.ep 4 25 (.agg [(.sc (.int .u8 0)),(.sc (.string ⟨#[]⟩)),(.sc (.int .i64 0)),bG]) 1 [(0,(.t 32))]))⟩,iH 34 (.ez 4 25 (.t 30) (.t 33)),iM 3 34])) (.ops [iM 28 6,iP 29 (.aN .add (.t 28) (kI 1)),iM 6 29])))))) (.seq (.ops [iM 35 3,iM 36 0,iP 37 (xL 36),iP 38 (.qC 4 (.t 35) none (some (.t 37)) none),iM 2 38]) .ret)))))
theorem ahO:Dk Tryz.prog 29 ado [(.t 2)] 39:=aV Tryz.func29
def ic9:IC:=(.seq (.ops [iH 1 (.box 4 25 (.t 0)),⟨(some 2),none,(.h (.alloc (.agg [(.sc (.int .u8 0)),(.sc (.string ⟨#[]⟩)),(.sc (.int .i64 0)),bG]) 25))⟩]) (.seq (.ops [iP 3 (.an 3 (.t 1)),iH 4 (yD 1 3),iH 5 (.call 29 [(.t 4)]),iP 6 (.an 3 (.t 1)),iS 1 6 5]) (.seq (.ops [iH 7 (yA 4 1),iS 4 2 7]) .ret)))
theorem dk9:Dk Tryz.prog 9 ic9 [(.c 2 4 true)] 8:=aV Tryz.func9
def adp:IC:=(.seq (.ops [iP 4 (.mv kF)]) (.seq (.seq (.ops [iM 7 0,iP 8 (xL 7),iM 9 1,iP 10 (xL 9),iP 11 (xB .neq 8 10)]) (.cond (.t 11) (.seq (.ops [iP 4 (.mv kF)]) .ret) .skip)) (.seq (.ops [iM 12 0,iM 13 1,iP 14 (xL 13),iP 15 (.aN .add (.t 14) (kI 12)),iP 16 (.qC 4 (.t 12) none (some (.t 15)) none),iM 5 16]) (.seq (.seq (.ops [iP 6 (xI 0)]) (.block 0 (.loop (.seq (.seq (.ops [iM 17 6,iM 18 5,iP 19 (xL 18),iP 20 (xB .lss 17 19)]) (.cond (.t 20) .skip (.exit 0))) (.seq (.block 1 (.seq (.di [iM 23 6,iM 24 1,iP 25 (xL 24),iP 26 (xB .lss 23 25),iM 27 26,gM 28 27 true 5,gM 29 27 true 6,gP 30 27 true (xA 4 28 29),gH 31 27 true (yA 4 30),gM 32 27 true 1,gM 33 27 true 6,gP 34 27 true (xA 4 32 33),gH 35 27 true (yA 4 34),gH 36 27 true (yC 12 31 35),gP 37 27 true (xN 36),iP 38 (.pick (.t 27) (.t 37) kF),iM 39 38,gM 40 39 false 6,gM 41 39 false 1,gP 42 39 false (xL 41),gP 43 39 false (xB .geq 40 42),gM 44 39 false 43,gM 45 44 true 5,gM 46 44 true 6,gP 47 44 true (xA 4 45 46),gH 48 44 true (yA 4 47),gM 49 44 true 6,gM 50 44 true 1,gP 51 44 true (xL 50),gP 52 44 true (xB .sub 49 51),gH 53 44 true (.call 62 [(kI 1),(.t 52)]),gH 54 44 true (yC 16 48 53),gP 55 44 true (xN 54),gP 56 39 false (.pick (.t 44) (.t 55) kF),iP 57 (.pick (.t 39) kT (.t 56))] [[],[],[1],[0,2,1],[3,0,2,1],[4,3,0,2,1],[4,3,0,2,1],[5,4,3,0,2,1,6],[7,5,4,3,0,2,1,6],[4,3,0,2,1],[4,3,0,2,1],[9,4,3,0,2,1,10],[11,9,4,3,0,2,1,10],[8,7,5,4,3,0,2,1,6,12,11,9,10],[13,8,7,5,4,3,0,2,1,6,12,11,9,10],[4,3,0,2,1,14,13,8,7,5,6,12,11,9,10],[15,4,3,0,2,1,14,13,8,7,5,6,12,11,9,10],[16,15,4,3,0,2,1,14,13,8,7,5,6,12,11,9,10],[16,15,4,3,0,2,1,14,13,8,7,5,6,12,11,9,10],[18,16,15,4,3,0,2,1,14,13,8,7,5,6,12,11,9,10],[17,16,15,4,3,0,2,1,14,13,8,7,5,6,12,11,9,10,19,18],[20,17,16,15,4,3,0,2,1,14,13,8,7,5,6,12,11,9,10,19,18],[21,20,17,16,15,4,3,0,2,1,14,13,8,7,5,6,12,11,9,10,19,18],[21,20,17,16,15,4,3,0,2,1,14,13,8,7,5,6,12,11,9,10,19,18],[22,21,20,17,16,15,4,3,0,2,1,14,13,8,7,5,6,12,11,9,10,19,18,23],[24,22,21,20,17,16,15,4,3,0,2,1,14,13,8,7,5,6,12,11,9,10,19,18,23],[21,20,17,16,15,4,3,0,2,1,14,13,8,7,5,6,12,11,9,10,19,18],[21,20,17,16,15,4,3,0,2,1,14,13,8,7,5,6,12,11,9,10,19,18],[27,21,20,17,16,15,4,3,0,2,1,14,13,8,7,5,6,12,11,9,10,19,18],[26,21,20,17,16,15,4,3,0,2,1,14,13,8,7,5,6,12,11,9,10,19,18,28,27],[29,26,21,20,17,16,15,4,3,0,2,1,14,13,8,7,5,6,12,11,9,10,19,18,28,27],[25,24,22,21,20,17,16,15,4,3,0,2,1,14,13,8,7,5,6,12,11,9,10,19,18,23,30,29,26,28,27],[31,25,24,22,21,20,17,16,15,4,3,0,2,1,14,13,8,7,5,6,12,11,9,10,19,18,23,30,29,26,28,27],[21,20,17,16,15,4,3,0,2,1,14,13,8,7,5,6,12,11,9,10,19,18,32,31,25,24,22,23,30,29,26,28,27],[16,15,4,3,0,2,1,14,13,8,7,5,6,12,11,9,10,33,21,20,17,19,18,32,31,25,24,22,23,30,29,26,28,27]]) (.cond (.t 57) (.seq (.ops [iP 4 (.mv kF)]) .ret) .skip))) (.ops [iM 21 6,iP 22 (.aN .add (.t 21) (kI 1)),iM 6 22])))))) (.seq (.ops [iP 4 (.mv kT)]) .ret)))))
theorem ahP:Dk Tryz.prog 38 adp [(.t 4)] 58:=aV Tryz.func38
def adq:IC:=(.seq (.ops [iH 2 (.box 4 25 (.t 0)),iH 3 (.box 4 25 (.t 1)),iP 4 (.mv kF)]) (.seq (.ops [iH 5 (yA 4 2),iH 6 (yA 4 3),iH 7 (yC 16 5 6),iM 8 7,gP 9 8 true (.an 3 (.t 2)),gH 10 8 true (yD 1 9),gP 11 8 true (.an 3 (.t 3)),gH 12 8 true (yD 1 11),gH 13 8 true (yC 38 10 12),iP 14 (.pick (.t 8) (.t 13) kF),iM 4 14]) .ret))
theorem ahQ:Dk Tryz.prog 12 adq [(.t 4)] 15:=aV Tryz.func12
def adr:IC:=(.seq (.ops [⟨(some 4),none,(.h (.alloc (.agg [(.sc (.int .u8 0)),(.sc (.string ⟨#[]⟩)),(.sc (.int .i64 0)),bG]) 25))⟩]) (.seq (.ops [iM 5 0,iM 6 1,iH 7 (yC 39 5 6),⟨(some 8),none,(.p (.build [(.sc (.int .u8 0)),(.sc (.string ⟨#[]⟩)),(.sc (.int .i64 0)),bG] [(2,1,(.t 7))]))⟩,iS 4 4 8]) .ret))
theorem ahR:Dk Tryz.prog 62 adr [(.c 4 4 true)] 9:=aV Tryz.func62
def ads:IC:=(.seq (.ops [iH 2 (.box 4 25 (.t 0)),iH 3 (.box 4 25 (.t 1)),iP 4 (.mv kF)]) (.seq (.ops [iP 5 (.an 0 (.t 2)),iH 6 (yD 1 5),iP 7 (.an 0 (.t 3)),iH 8 (yD 1 7),iP 9 (xB .eql 6 8),iM 10 9,gP 11 10 true (.an 1 (.t 2)),gH 12 10 true (yD 1 11),gP 13 10 true (.an 1 (.t 3)),gH 14 10 true (yD 1 13),gP 15 10 true (xB .eql 12 14),iP 16 (.pick (.t 10) (.t 15) kF),iM 17 16,gP 18 17 true (.an 2 (.t 2)),gH 19 17 true (yD 1 18),gP 20 17 true (.an 2 (.t 3)),gH 21 17 true (yD 1 20),gP 22 17 true (xB .eql 19 21),iP 23 (.pick (.t 17) (.t 22) kF),iM 24 23,gP 25 24 true (.an 3 (.t 2)),gH 26 24 true (yD 1 25),gP 27 24 true (.an 3 (.t 3)),gH 28 24 true (yD 1 27),gH 29 24 true (yC 49 26 28),iP 30 (.pick (.t 24) (.t 29) kF),iM 4 30]) .ret))
theorem ahS:Dk Tryz.prog 16 ads [(.t 4)] 31:=aV Tryz.func16
def adt:IC:=(.seq (.ops [iP 4 (.mv kF)]) (.seq (.seq (.ops [iM 6 0,iP 7 (xL 6),iM 8 1,iP 9 (xL 8),iP 10 (xB .neq 7 9)]) (.cond (.t 10) (.seq (.ops [iP 4 (.mv kF)]) .ret) .skip)) (.seq (.seq (.ops [iP 5 (xI 0)]) (.block 0 (.loop (.seq (.seq (.ops [iM 11 5,iM 12 0,iP 13 (xL 12),iP 14 (xB .lss 11 13)]) (.cond (.t 14) .skip (.exit 0))) (.seq (.block 1 (.seq (.di [iM 17 0,iM 18 5,iP 19 (xA 4 17 18),iH 20 (yA 4 19),iM 21 1,iM 22 5,iP 23 (xA 4 21 22),iH 24 (yA 4 23),iH 25 (yC 16 20 24),iP 26 (xN 25)] [[],[],[0,1],[2,0,1],[],[],[4,5],[6,4,5],[3,2,0,1,7,6,4,5],[8,3,2,0,1,7,6,4,5]]) (.cond (.t 26) (.seq (.ops [iP 4 (.mv kF)]) .ret) .skip))) (.ops [iM 15 5,iP 16 (.aN .add (.t 15) (kI 1)),iM 5 16])))))) (.seq (.ops [iP 4 (.mv kT)]) .ret))))
theorem ahT:Dk Tryz.prog 49 adt [(.t 4)] 27:=aV Tryz.func49
def ic7:IC:=(.seq (.ops [iH 2 (.box 4 25 (.t 0)),iP 4 (xI 0)]) (.seq (.ops [iP 7 (.an 1 (.t 2)),iH 8 (yD 1 7),iP 9 (.nP (.t 8)),iP 10 (.aN .quo (.t 9) (kI 8)),iP 11 (.aN .add (kI 1) (.t 10)),iM 5 11]) (.seq (.seq (.ops [iP 6 (xI 0)]) (.block 0 (.loop (.seq (.seq (.ops [iM 12 6,iP 13 (.an 3 (.t 2)),iH 14 (yD 1 13),iP 15 (xL 14),iP 16 (xB .lss 12 15),iM 17 16,gM 18 17 true 5,gM 19 17 true 1,gP 20 17 true (xB .leq 18 19),iP 21 (.pick (.t 17) (.t 20) kF)]) (.cond (.t 21) .skip (.exit 0))) (.seq (.block 1 (.ops [iM 24 5,iP 25 (.an 3 (.t 2)),iH 26 (yD 1 25),iM 27 6,iP 28 (xA 4 26 27),iH 29 (yA 4 28),iM 30 1,iM 31 5,iP 32 (xB .sub 30 31),iH 33 (yC 7 29 32),iP 34 (xB .add 24 33),iM 5 34])) (.ops [iM 22 6,iP 23 (.aN .add (.t 22) (kI 1)),iM 6 23])))))) (.seq (.ops [iM 35 5,iM 4 35]) .ret))))
theorem dk7:Dk Tryz.prog 7 ic7 [(.t 4)] 36:=aV Tryz.func7
def adu:IC:=(.seq (.ops [iH 1 (.box 4 25 (.t 0)),⟨(some 2),none,(.h (.alloc (.agg [(.sc (.int .u8 0)),(.sc (.string ⟨#[]⟩)),(.sc (.int .i64 0)),bG]) 25))⟩]) (.seq (.ops [iP 3 (.an 3 (.t 1)),iH 4 (yD 1 3),iH 5 (.call 61 [(.t 4)]),iP 6 (.an 3 (.t 1)),iS 1 6 5]) (.seq (.ops [iH 7 (yA 4 1),iS 4 2 7]) .ret)))
theorem ahU:Dk Tryz.prog 28 adu [(.c 2 4 true)] 8:=aV Tryz.func28
def adw:IC:=(.seq (.ops [iP 2 (.mv (.k bG))]) (.seq (.ops [iP 3 (.mv (.k bG))]) (.seq (.seq (.ops [iP 4 (xI 0)]) (.block 0 (.loop (.seq (.seq (.ops [iM 6 4,iM 7 0,iP 8 (xL 7),iP 9 (xB .lss 6 8)]) (.cond (.t 9) .skip (.exit 0))) (.seq (.block 1 (.seq (.ops [iM 12 0,iM 13 4,iP 14 (xA 4 12 13),iH 15 (yA 4 14),iH 16 (.call 28 [(.t 15)]),⟨(some 5),none,(.h (.alloc (.agg [(.sc (.int .u8 0)),(.sc (.string ⟨#[]⟩)),(.sc (.int .i64 0)),bG]) 25))⟩,iS 4 5 16]) (.ops [iM 17 3,iH 18 (yA 4 5),⟨(some 19),none,(.h (.ep 4 25 (.agg [(.sc (.int .u8 0)),(.sc (.string ⟨#[]⟩)),(.sc (.int .i64 0)),bG]) 1 [(0,(.t 18))]))⟩,iH 20 (.ez 4 25 (.t 17) (.t 19)),iM 3 20]))) (.ops [iM 10 4,iP 11 (.aN .add (.t 10) (kI 1)),iM 4 11])))))) (.seq (.ops [iM 21 3,iM 2 21]) .ret))))
theorem ahV:Dk Tryz.prog 61 adw [(.t 2)] 22:=aV Tryz.func61
theorem GW{H G:Y}{id:Nat}{k:aP}{x y:AV}(hid:id<H.length)(hk:AV.cV (· < H.length) k.es)(h:Over (Y.set H id (some k)) G)(hz:Fz G H.length x y):eB H (.ret x) G (.ret y) (Y.set H id (some k)):=by
 obtain ⟨A,rfl⟩:=h.split
 have hl:(Y.set H id (some k)).length=H.length:=Y.af ..
 refine Gn (by rw[hl];exact Nat.le_refl _) (fun i b hb=>?_) (by rw[hl];exact hz)
 by_cases e:i=id
 ·subst e
  rw[Y.aC hid] at hb
  cases hb
  exact .inr (by rw[hl];exact hk)
 ·rw[Y.aj e] at hb
  exact .inl ⟨Y.ax hb,hb⟩
theorem Over.set{H G:Y}(h:Over H G){i:Nat}(hi:i<H.length)(x:Option aP):Over (Y.set H i x) (Y.set G i x):=by
 induction h with
 |refl=>exact .refl
 |@cons b G hG ih =>
  rw[vZ (Nat.lt_of_lt_of_le hi hG.len)]
  exact .cons ih
def wP(n:Int):aP:=⟨1,[.sc (.int .i64 n)],true,3⟩
theorem YN(t:Nd)(ro:Option (List AV))(id:Nat)(c:Int)(hc:0≤c∧c≤1000000)(H:Y)(hf:Y.find H id=some (wP c)):D Tryz.prog 171 [dZ t ro,.ptr 1 id 0 0] H (.ret (.aO [])) (Y.set H id (some (wP (c+1)))):=by
 have hid:=Y.ax hf
 unfold wP at hf
 rw[aQ]
 refine aG (by rw[Y.af];exact Nat.le_refl _) (afD (aA ?_))
 simp only[X5,ux]
 refine Z fun L hL=>?_
 refine aI hf ?_
 refine hL _ _ ?_
 clear hL
 refine aI hf ?_
 exact GW hid ⟨trivial,trivial⟩ (.cons .refl) (.same trivial)
theorem iK{l:List Nd}{k:Nat}(h:k<l.length):Nd.ay (l.take (k+1))=Nd.ay (l.take k)+(aE l k).size:=by
 rw[List.take_succ_eq_append_getElem h,Nd.wM,eH h]
 simp[Nd.ay]
theorem pF(l:List Nd)(k:Nat):Nd.ay (l.take k)≤Nd.ay l:=by
 have:=Nd.wM (l.take k) (l.drop k)
 rw[List.take_append_drop] at this
 omega
theorem Un{H:Y}{id:Nat}{b:aP}(h:Y.find H id=some b):Y.set H id (some b)=H:=by
 induction H with
 |nil=>rfl
 |cons x r ih =>
  by_cases e:id=r.length
  ·subst e
   rw[Y.iw] at h
   rw[yQ rfl,h]
  ·have hl:id<r.length:=by have:=Y.ax h;simp at this;omega
   rw[Y.bA hl] at h
   rw[vZ hl,ih h]
def D0(l:List Nd):Prop:=∀(ro:Option (List AV))(c:Int)(id:Nat)(H:Y),0≤c→c+Nd.ay l≤1000000→Y.find H id=some (wP c)→D Tryz.prog 115 [.fn (.func 171) [] [.ptr 1 id 0 0],.am 4 (bh l) ro] H (.ret (.aO [])) (Y.set H id (some (wP (c+Nd.ay l))))
theorem GY(l:List Nd)(ih:∀a∈l,D0 a.kids):D0 l:=by
 intro ro c id H hc0 hc hf
 have hid:=Y.ax hf
 have hl:=Nd.fZ l
 have cl:cr Tryz.prog 171=true:=by kernel_rfl
 refine aG (by rw[Y.af];exact Nat.le_refl _) (afC (aA ?_))
 simp only[X4,ux]
 refine Z fun L hL=>?_
 refine aI @aH ?_
 refine hL _ _ ?_
 clear hL
 refine aI @aH ?_
 refine aZ (fun ts F=>∃k:Nat,k≤l.length∧Over (Y.set H id (some (wP (c+Nd.ay (l.take k))))) F∧Fr (some (.fn (.func 171) [] [.ptr 1 id 0 0])::none::fg (some (.am 4 (bh l) ro)::some (.sc (.int .i64 l.length))::some (.sc (.int .i64 k))::none::none::none::iv [])) ts) (fun ts _=>l.length-(aM (ts.getD 8 .top)).toNat) ?_ ?_
 ·refine ⟨0,Nat.zero_le _,?_,by simp[Fr]⟩
  rw[List.take_zero,show c+((Nd.ay []:Nat):Int)=c by simp[Nd.ay],Un hf]
  exact .refl
 rintro ts F ⟨k,hk,hF,aX⟩ L2 bM
 obtain ⟨js,rfl⟩:=aX.opened
 clear aX
 have pR:(Y.set H id (some (wP (c+Nd.ay (l.take k))))).length=H.length:=Y.af ..
 have qj:=hF.len
 rw[pR] at qj
 by_cases hd:k<l.length
 ·have d1:(k:Int)<l.length:=by omega
  have hg:=dG hd
  have dW:=eJ hd
  have htk:=iK hd
  have hle:=pF l (k+1)
  have zY:=Nd.size_eq (aE l k)
  have hfF:Y.find F id=some (wP (c+Nd.ay (l.take k))):=by
   rw[hF.find (by rw[pR];exact hid),Y.aC hid]
  have hs1:=YN (aE l k) none id (c+Nd.ay (l.take k)) (by omega)
  rw[aQ] at hs1
  refine df (gq d1 hg @aH) ?_
  refine ⟨by omega,cl,ae (hs1 _ (by rw[ai (by omega),hfF])) ?_⟩
  refine aw ?_
  refine ae (ih _ dW none (c+Nd.ay (l.take k)+1) id _ (by omega) (by omega) (by rw[ai (by rw[Y.af];omega),Y.aC (by omega)])) ?_
  refine aw ?_
  refine bM _ _ ⟨k+1,by omega,?_,by simp[Fr]⟩ (by simp[aM,mk];omega)
  rw[htk]
  refine .cons ?_
  have:=hF.set (i:=id) (by rw[pR];exact hid) (some (wP (c+Nd.ay (l.take k)+1+Nd.ay (aE l k).kids)))
  rw[set_set] at this
  rw[zY,show c+((Nd.ay (l.take k)+(1+Nd.ay (aE l k).kids):Nat):Int)=c+Nd.ay (l.take k)+1+Nd.ay (aE l k).kids by omega,set_set]
  exact this
 ·have d1:¬(k:Int)<l.length:=by omega
  have e:l.take k=l:=List.take_of_length_le (by omega)
  rw[e] at hF
  refine df d1 ?_
  exact GW hid ⟨trivial,trivial⟩ hF (.same trivial)
theorem PB(l:List Nd):D0 l:=by
 have key:∀t:Nd,D0 t.kids:=fun t=>by
  induction t using Nd.ind with
  |_ t ih=>exact GY _ ih
 exact GY l fun a _=>key a
theorem acd(t:Nd)(hz:t.size≤1000000)(H:Y):D Tryz.prog 112 [dZ t none] H (.ret (.sc (.int .i64 t.size))) H:=by
 have hE:=PB [⟨t.kind,t.text,t.num,t.kids⟩]
 unfold D0 at hE
 have hs:Nd.ay [⟨t.kind,t.text,t.num,t.kids⟩]=t.size:=by simp[Nd.ay,Nd.size,Nd.size_eq t]
 have hL:bh [⟨t.kind,t.text,t.num,t.kids⟩]=[.agg [.sc (.int .u8 t.kind),.sc (.string t.text),.sc (.int .i64 t.num),.am 4 (bh t.kids) none]]:=by simp[bh,eu]
 rw[hs,hL] at hE
 unfold wP at hE
 rw[aQ]
 refine aG (Nat.le_refl _) (afB (aA ?_))
 simp only[X3,ux]
 refine Z fun L hL=>?_
 refine aw ?_
 refine hL _ _ ?_
 clear hL
 refine Z fun L hL=>?_
 refine aw ?_
 refine hL _ _ ?_
 clear hL
 refine Z fun L hL=>?_
 refine aw ?_
 refine ae (hE (some []) 0 (H.length+1) _ (by omega) (by omega) (aJ (by simp))) ?_
 refine aw ?_
 refine hL _ _ ?_
 clear hL
 refine aI @Int.zero_add ?_
 exact bL (.cons (.cons .refl))
mutual
def bulk:Nd→Int→Int
 |⟨_,s,_,l⟩,most=>ij l most (1+((s.size / 8:Nat):Int))
def ij:List Nd→Int→Int→Int
 |[],_,c=>c
 |t::r,most,c=>if c≤most then ij r most (c+bulk t (most-c)) else c
end
theorem zk(t:Nd)(most:Int):bulk t most=ij t.kids most (1+((t.text.size / 8:Nat):Int)):=by
 cases t;simp only[bulk,Nd.kids,Nd.text]
theorem LM(t:Nd):∀most,1≤bulk t most:=by
 induction t using Nd.ind with
 |_ t ih =>
  intro most
  rw[zk]
  have key:∀(l:List Nd)(c:Int),(∀k∈l,∀m,1≤bulk k m)→1≤c→1≤ij l most c:=by
   intro l
   induction l with
   |nil=>intro c _ h;simpa [ij] using h
   |cons x r fC =>
    intro c hx hc
    unfold ij
    split
    ·exact fC _ (fun k hk=>hx k (by simp[hk])) (by have:=hx x (by simp) (most-c);omega)
    ·exact hc
  exact key _ _ ih (by omega)
mutual
def Nd.wt:Nd→Nat
 |⟨_,s,_,l⟩=>1+s.size+Nd.mB l
def Nd.mB:List Nd→Nat
 |[]=>0
 |t::r=>t.wt+Nd.mB r
end
theorem Nd.oG(t:Nd):t.wt=1+t.text.size+Nd.mB t.kids:=by cases t;simp[Nd.wt,Nd.kids,Nd.text]
theorem Nd.D1{l:List Nd}{t:Nd}(h:t∈l):t.wt≤Nd.mB l:=by
 induction l with
 |nil=>cases h
 |cons x r ih =>
  rcases List.mem_cons.1 h with rfl|h
  ·simp only[Nd.mB];omega
  ·have:=ih h;simp only[Nd.mB];omega
theorem Nd.ace(t:Nd):0<t.wt:=by rw[Nd.oG];omega
theorem Nd.YO(l:List Nd):l.length≤Nd.mB l:=by
 induction l with
 |nil=>simp[Nd.mB]
 |cons x r ih=>have:=x.ace;simp only[List.length_cons,Nd.mB];omega
theorem YP(t:Nd):∀most,bulk t most≤t.wt:=by
 induction t using Nd.ind with
 |_ t ih =>
  intro most
  rw[zk,Nd.oG]
  have key:∀(l:List Nd)(c:Int),(∀k∈l,∀m,bulk k m≤k.wt)→ij l most c≤c+Nd.mB l:=by
   intro l
   induction l with
   |nil=>intro c _;simp[ij,Nd.mB]
   |cons x r fC =>
    intro c hx
    unfold ij
    simp only[Nd.mB]
    split
    ·have:=fC (c+bulk x (most-c)) (fun k hk=>hx k (by simp[hk]))
     have:=hx x (by simp) (most-c)
     omega
    ·omega
  have:=key t.kids (1+((t.text.size / 8:Nat):Int)) ih
  omega
theorem GZ(most:Int):∀(l:List Nd)(c:Int),c≤ij l most c
 |[],c=>by simp[ij]
 |t::r,c=>by
  unfold ij
  split
  ·have:=GZ most r (c+bulk t (most-c))
   have:=LM t (most-c)
   omega
  ·omega
theorem LN{l:List Nd}{k:Nat}(h:k<l.length)(most c:Int):ij (l.drop k) most c=if c≤most then ij (l.drop (k+1)) most (c+bulk (aE l k) (most-c)) else c:=by
 rw[List.drop_eq_getElem_cons h,eH h]
 simp only[ij]
theorem Uo{l:List Nd}{k:Nat}(h:k<l.length):Nd.mB (l.drop k)=(aE l k).wt+Nd.mB (l.drop (k+1)):=by
 rw[List.drop_eq_getElem_cons h,eH h]
 simp only[Nd.mB]
theorem PC(t:Nd):∀(ro:Option (List AV))(most:Int)(hm:0≤most∧most≤1000000)(hz:t.wt≤2000000)(H:Y),D Tryz.prog 7 [dZ t ro,.sc (.int .i64 most)] H (.ret (.sc (.int .i64 (bulk t most)))) H:=by
 induction t using Nd.ind with
 |_ t ih =>
  intro ro most hm hz H
  have hwe:=Nd.oG t
  have mO:=Nd.YO t.kids
  have hq:((t.text.size:Int)).tdiv 8=((t.text.size / 8:Nat):Int):=by
   rw[Int.tdiv_eq_ediv_of_nonneg (by omega)]
   omega
  rw[aQ]
  refine aG (Nat.le_refl _) (dk7 (aA ?_))
  simp only[ic7,ux]
  refine Z fun L hL=>?_
  refine aw ?_
  refine hL _ _ ?_
  clear hL
  refine Z fun L hL=>?_
  refine aI hq ?_
  refine hL _ _ ?_
  clear hL
  refine Z fun L hL=>?_
  refine aw ?_
  refine aZ (fun ts F=>∃(k:Nat)(c:Int),(k≤t.kids.length∧0≤c∧c+Nd.mB (t.kids.drop k)≤t.wt∧ij (t.kids.drop k) most c=bulk t most)∧F=some ⟨4,[.agg [.sc (.int .u8 t.kind),.sc (.string t.text),.sc (.int .i64 t.num),.am 4 (bh t.kids) ro]],true,25⟩::H∧Fr (none::some (.sc (.int .i64 most))::some (.ptr 4 H.length 0 0)::none::none::some (.sc (.int .i64 c))::some (.sc (.int .i64 k))::none::fg (iv (dL []))) ts) (fun ts _=>t.kids.length-(aM (ts.getD 6 .top)).toNat) ?_ ?_
  ·refine ⟨0,1+((t.text.size / 8:Nat):Int),⟨Nat.zero_le _,by omega,?_,(zk t most).symm⟩,rfl,by simp[Fr]⟩
   rw[List.drop_zero]
   omega
  rintro ts F ⟨k,c,⟨hk,hc0,hc1,hb⟩,rfl,aX⟩ L2 bM
  obtain ⟨js,rfl⟩:=aX.opened
  clear aX
  by_cases hd:k<t.kids.length
  ·have d1:(k:Int)<t.kids.length:=by omega
   have hg:=dG hd
   have dW:=eJ hd
   have hwm:=Nd.D1 dW
   rw[LN hd] at hb
   rw[Uo hd] at hc1
   by_cases d2:c≤most
   ·rw[if_pos d2] at hb
    have hi:=fun H=>ih _ dW none (most-c) (by omega) (by omega) H
    have hhi:=YP (aE t.kids k) (most-c)
    have hlo:=LM (aE t.kids k) (most-c)
    rw[aQ] at hi
    refine df (ei d1 d2 hg @aH) ?_
    refine ⟨by omega,ae (hi _) ?_⟩
    refine aw ?_
    exact bM _ _ ⟨k+1,_,⟨by omega,by omega,by omega,hb⟩,rfl,by simp[Fr]⟩ (by simp[aM,mk];omega)
   ·rw[if_neg d2] at hb
    refine df (gq d1 d2 @aH) ?_
    refine hL _ _ ?_
    clear hL
    refine fh ?_
    rw[hb]
    exact bL (.cons .refl)
  ·have d1:¬(k:Int)<t.kids.length:=by omega
   have e:t.kids.drop k=[]:=List.drop_of_length_le (by omega)
   rw[e] at hb
   simp only[ij] at hb
   refine df (ak d1 @aH) ?_
   refine hL _ _ ?_
   clear hL
   refine fh ?_
   rw[hb]
   exact bL (.cons .refl)
mutual
def AV.up(n:Nat):AV→AV
 |.aD k id off m c=>.aD k (n+id) off m c
 |.ptr k id j f=>.ptr k (n+id) j f
 |.agg cs=>.agg (AV.mP n cs)
 |.aO cs=>.aO (AV.mP n cs)
 |x=>x
def AV.mP(n:Nat):List AV→List AV
 |[]=>[]
 |x::r=>AV.up n x::AV.mP n r
end
def aP.up(n:Nat)(b:aP):aP:={ b with es:=AV.mP n b.es }
def Y.up(n:Nat)(G:Y):Y:=G.map fun b=>b.map (aP.up n)
mutual
def AV.op:AV→Bool
 |.sc _=>true
 |.ub=>true
 |.top=>true
 |.am _ [] none=>true
 |.am _ [] (some [])=>true
 |.aD _ _ _ _ _=>true
 |.ptr _ _ _ _=>true
 |.agg cs=>AV.ql cs
 |.aO cs=>AV.ql cs
 |_=>false
def AV.ql:List AV→Bool
 |[]=>true
 |x::r=>AV.op x && AV.ql r
end
def Y.op(G:Y):Prop:=∀id b,Y.find G id=some b→AV.ql b.es=true
theorem AV.j5{n:Nat}:∀{l:List AV},(AV.mP n l).length=l.length
 |[]=>rfl
 |_::r=>by simp[AV.mP,AV.j5 (l:=r)]
theorem AV.G0{n:Nat}(x:AV):(x.up n).isAgg=x.isAgg:=by cases x<;>simp[AV.up,AV.isAgg]
theorem AV.PD{n:Nat}(x:AV):(x.up n).az=x.az:=by cases x<;>simp[AV.up,AV.az,AV.j5]
theorem AV.Cl{n:Nat}{x:AV}{u:Value}(h:kV x u):kV (x.up n) u:=by
 cases x<;>first|exact h|skip
 obtain ⟨us,h1,h2⟩:=h
 exact ⟨us,h1,by rw[h2,AV.j5]⟩
section
variable {φ ψ:aU}{O O':Nat→Prop}{w:World}{n:Nat}
mutual
theorem G3(hm:∀id b,φ id=some b→ψ (n+id)=some b):∀{x:AV}{g:Nat→Option Value},x.op=true→R φ O w x g→R ψ O' w (x.up n) g
 |.sc _,_,_,h=>h
 |.ub,_,_,h=>h
 |.top,_,_,_=>trivial
 |.am _ [] none,_,_,h=>by
  obtain ⟨a,c,h1,h2,h3,h4,h5,h6⟩:=h
  exact ⟨a,c,h1,h2,h3,h4,fun hp=>by simp at hp,trivial⟩
 |.am _ [] (some []),_,_,h=>by
  obtain ⟨a,c,h1,h2,h3,h4,h5,h6⟩:=h
  exact ⟨a,c,h1,h2,h3,h4,fun hp=>by simp at hp,⟨h6.1,fun hp=>by simp at hp⟩⟩
 |.am _ [] (some (_::_)),_,ho,_=>by simp[AV.op] at ho
 |.am _ (_::_) _,_,ho,_=>by simp[AV.op] at ho
 |.lp _ _,_,ho,_=>by simp[AV.op] at ho
 |.fn _ _ _,_,ho,_=>by simp[AV.op] at ho
 |.eP _ _,_,ho,_=>by simp[AV.op] at ho
 |.HQ _,_,ho,_=>by simp[AV.op] at ho
 |.aD k id off m c,_,_,h=>by
  obtain ⟨b,c',cur,e,fr,v1,v2⟩:=h
  exact ⟨b,c',cur,e,fr,hm _ _ v1,v2⟩
 |.ptr k id j f,_,_,h=>by
  obtain ⟨b,g1,g2⟩:=h
  exact ⟨b,hm _ _ g1,g2⟩
 |.agg cs,_,ho,h=>YQ hm (by simpa [AV.op] using ho) h
 |.aO cs,_,ho,h=>by
  obtain ⟨us,h1,h2⟩:=h
  exact ⟨us,h1,PE hm (by simpa [AV.op] using ho) h2⟩
theorem YQ(hm:∀id b,φ id=some b→ψ (n+id)=some b):∀{l:List AV}{g:Nat→Option Value},AV.ql l=true→Rs φ O w l g→Rs ψ O' w (AV.mP n l) g
 |[],_,_,_=>trivial
 |x::r,_,ho,h=>by
  simp only[AV.ql,Bool.and_eq_true] at ho
  exact ⟨by rw[AV.G0];exact h.1,G3 hm ho.1 h.2.1,h.2.2.1,YQ hm ho.2 h.2.2.2⟩
theorem PE(hm:∀id b,φ id=some b→ψ (n+id)=some b):∀{l:List AV}{us:List Value},AV.ql l=true→Rt φ O w l us→Rt ψ O' w (AV.mP n l) us
 |[],_,_,h=>h
 |x::r,us,ho,h=>by
  simp only[AV.ql,Bool.and_eq_true] at ho
  obtain ⟨v,s,h1,h2,h3,h4⟩:=h
  exact ⟨v,s,h1,AV.Cl h2,G3 hm ho.1 h3,PE hm ho.2 h4⟩
end
theorem YR(hm:∀id b,φ id=some b→ψ (n+id)=some b){b k:Nat}:∀{l:List AV}{off:Nat},AV.ql l=true→Rl φ O w b k l off→Rl ψ O' w b k (AV.mP n l) off
 |[],_,_,_=>trivial
 |x::r,off,ho,h=>by
  simp only[AV.ql,Bool.and_eq_true] at ho
  exact ⟨by rw[AV.PD];exact h.1,by rw[AV.G0];exact h.2.1,G3 hm ho.1 h.2.2.1,YR hm ho.2 h.2.2.2⟩
end
theorem PF{φ ψ:aU}{O O':Nat→Prop}{w:World}{n:Nat}(hm:∀id b,φ id=some b→ψ (n+id)=some b):∀{l:List AV}{es:List MapEntry},AV.ql l=true→RE φ O w l es→RE ψ O' w (AV.mP n l) es
 |[],_,_,h=>h
 |x::r,_,ho,h=>by
  simp only[AV.ql,Bool.and_eq_true] at ho
  obtain ⟨e,s,h1,h2,h3⟩:=h
  exact ⟨e,s,h1,⟨AV.Cl h2.1,G3 hm ho.1 h2.2⟩,PF hm ho.2 h3⟩
theorem Y.D2{A H:Y}{i:Nat}:Y.find (A++H) (H.length+i)=Y.find A i:=by
 induction A with
 |nil=>rw[List.nil_append,Y.ya (by omega)];rfl
 |cons b r ih =>
  simp only[List.cons_append,Y.find,List.length_append]
  by_cases e:i=r.length
  ·rw[if_pos e,if_pos (by omega)]
  ·rw[if_neg e,if_neg (by omega),ih]
theorem Y.D3{n:Nat}{G:Y}:(Y.up n G).length=G.length:=by simp[Y.up]
theorem Y.LO{n:Nat}{G:Y}{i:Nat}:Y.find (Y.up n G) i=(Y.find G i).map (aP.up n):=by
 induction G with
 |nil=>rfl
 |cons b r ih =>
  show Y.find (b.map (aP.up n)::Y.up n r) i=_
  simp only[Y.find,Y.D3]
  split
  ·rfl
  ·exact ih
theorem LP{P:Program}{f:FuncId}{args args':List AV}{v:AV}{H G:Y}(hv:cJ H args args')(hp:v.op=true)(hg:Y.op G)(h:D P f args' [] (.ret v) G):D P f args H (.ret (v.up H.length)) (Y.up H.length G++H):=by
 refine ⟨by simp,fun φ w vs hR ha=>(h.2 gS w vs (Rg (hR.jC.less fun b ho=>(tP ho).elim)) (hv.Rt hR ha)).mono fun en w' ⟨χ,h1,h2,h3⟩=>?_⟩
 have hblk:∀b,b<w.heap.size→w'.heap[b]? = w.heap[b]?:=fun b hb=>h3.same b hb tP
 have hown:∀b,b<w.heap.size→¬Own χ G b:=fun b hb=>h3.own b hb tP
 let ψ:aU:=fun id=>if id<H.length then φ id else χ (id-H.length)
 have p1:∀id,id<H.length→ψ id=φ id:=fun id hi=>if_pos hi
 have p2:∀id,ψ (H.length+id)=χ id:=fun id=>by
  show (if _ then _ else _)=_
  rw[if_neg (by omega),show H.length+id-H.length=id from by omega]
 have q1:∀id,id<H.length→Y.find (Y.up H.length G++H) id=Y.find H id:=fun id hi=>Y.bF hi
 have q2:∀id,Y.find (Y.up H.length G++H) (H.length+id)=(Y.find G id).map (aP.up H.length):=fun id=>by rw[Y.D2,Y.LO]
 have o1:∀b,Own ψ (Y.up H.length G++H) b→Own φ H b∨Own χ G b:=by
  rintro b ⟨id,blk,e1,e2⟩
  by_cases hi:id<H.length
  ·rw[p1 id hi] at e1
   rw[q1 id hi] at e2
   exact .inl ⟨id,blk,e1,e2⟩
  ·obtain ⟨j,rfl⟩:∃j,id=H.length+j:=⟨id-H.length,by omega⟩
   rw[p2] at e1
   rw[q2] at e2
   cases hf:Y.find G j with
   |none=>rw[hf] at e2;simp at e2
   |some k=>exact .inr ⟨j,k,e1,hf⟩
 have hm:∀id b,φ id=some b→ψ id=some b:=fun id b e=>by rw[p1 id (hR.dom id b e).1];exact e
 have hl:Later (fun _=>True) φ ψ (Own φ H) (Own ψ (Y.up H.length G++H)) w w':=by
  refine ⟨fun id b _ e=>hm id b e,h3.size,fun b hb hn ho=>?_,fun b hb _=>hblk b hb,fun b hb=>h3.shape b hb⟩
  rcases o1 b ho with e|e
  ·exact hn e
  ·exact hown b hb e
 have hu:∀id b,χ id=some b→ψ (H.length+id)=some b:=fun id b e=>by rw[p2];exact e
 refine ⟨ψ,?_,⟨hR.jC.later hl,fun id b e=>?_,fun i j b e1 e2 s1 s2=>?_,fun id b k e1 e2=>?_⟩,⟨hl,h3.os,h3.tape,h3.output,by simp,fun id hi=>p1 id hi⟩⟩
 ·cases en with
  |returned u=>exact ⟨AV.Cl h1.1,G3 hu hp h1.2⟩
  |_=>exact h1.elim
 ·by_cases hi:id<H.length
  ·rw[p1 id hi] at e
   have:=hR.dom id b e
   have h9:=h3.size
   exact ⟨by simp;omega,by omega⟩
  ·obtain ⟨j,rfl⟩:∃j,id=H.length+j:=⟨id-H.length,by omega⟩
   rw[p2] at e
   have:=h2.dom j b e
   exact ⟨by simp[Y.D3];omega,this.2⟩
 ·by_cases hi:i<H.length
  ·rw[p1 i hi] at e1
   rw[q1 i hi] at s1
   have hb:=(hR.dom i b e1).2
   by_cases hj:j<H.length
   ·rw[p1 j hj] at e2
    rw[q1 j hj] at s2
    exact hR.inj i j b e1 e2 s1 s2
   ·obtain ⟨t,rfl⟩:∃t,j=H.length+t:=⟨j-H.length,by omega⟩
    rw[p2] at e2
    rw[q2] at s2
    cases hf:Y.find G t with
    |none=>rw[hf] at s2;simp at s2
    |some k=>exact (hown b hb ⟨t,k,e2,hf⟩).elim
  ·obtain ⟨s,rfl⟩:∃s,i=H.length+s:=⟨i-H.length,by omega⟩
   rw[p2] at e1
   rw[q2] at s1
   by_cases hj:j<H.length
   ·rw[p1 j hj] at e2
    have hb:=(hR.dom j b e2).2
    cases hf:Y.find G s with
    |none=>rw[hf] at s1;simp at s1
    |some k=>exact (hown b hb ⟨s,k,e1,hf⟩).elim
   ·obtain ⟨t,rfl⟩:∃t,j=H.length+t:=⟨j-H.length,by omega⟩
    rw[p2] at e2
    rw[q2] at s2
    have:=h2.inj s t b e1 e2 (by simpa using s1) (by simpa using s2)
    omega
 ·by_cases hi:id<H.length
  ·rw[p1 id hi] at e1
   rw[q1 id hi] at e2
   have hb:=(hR.dom id b e1).2
   exact (hR.blk id b k e1 e2).on hl (hblk b hb)
  ·obtain ⟨j,rfl⟩:∃j,id=H.length+j:=⟨id-H.length,by omega⟩
   rw[p2] at e1
   rw[q2] at e2
   cases hf:Y.find G j with
   |none=>rw[hf] at e2;simp at e2
   |some k0 =>
    rw[hf] at e2
    simp at e2
    subst e2
    rcases h2.blk j b k0 e1 hf with ⟨h0,cur,cap,a1,a2,a3,a4,a5,a6⟩|⟨h0,hty,bU,clock,a1,a2,a3,a4⟩|⟨h0,hty,r,ts,tm,e,_⟩|⟨h0,hty,bU,clock,x,r,e,a1,a2,a3,a4,a5⟩|⟨h0,hty,bm,clock,seen,a1,a2⟩
    ·exact .inl ⟨h0,cur,cap,a1,a2,by simpa [aP.up,AV.j5] using a3,by simpa [aP.up,AV.j5] using a4,a5,YR hu (hg j k0 hf) a6⟩
    ·exact .inr (.inl ⟨h0,hty,bU,clock,a1,a2,a3,PF hu (hg j k0 hf) a4⟩)
    ·have:=hg j k0 hf;rw[e] at this;simp[AV.ql,AV.op] at this
    ·have ho:=hg j k0 hf
     rw[e] at ho
     simp only[AV.ql,Bool.and_eq_true] at ho
     exact .inr (.inr (.inr (.inl ⟨h0,hty,bU,clock,x.up H.length,AV.mP H.length r,by simp[aP.up,e,AV.mP],a1,a2,a3,⟨AV.Cl a4.1,G3 hu ho.1 a4.2⟩,PF hu ho.2 a5⟩)))
    ·exact .inr (.inr (.inr (.inr ⟨h0,hty,bm,clock,seen,a1,PE hu (hg j k0 hf) a2⟩)))
theorem Uq{P:Program}{f:FuncId}{args:List AV}{H H':Y}{e:cH}(S:Y→Prop)(hl:H.length≤H'.length)
  (hS:∀φ w,Rel φ H w→∃H2,S H2∧Rel φ H2 w∧H2.length=H.length∧∀b,Own φ H2 b↔Own φ H b)(h:∀H2,S H2→D P f args H2 e H'):D P f args H e H':=by
 refine ⟨hl,fun φ w vs hR ha=>?_⟩
 obtain ⟨H2,h1,h2,h3,h4⟩:=hS φ w hR
 have ho:Own φ H2=Own φ H:=funext fun b=>propext (h4 b)
 refine ((h H2 h1).2 φ w vs h2 (by rw[ho];exact ha)).mono fun en w' ⟨φ',g1,g2,g3⟩=>⟨φ',g1,g2,?_⟩
 refine ⟨?_,g3.os,g3.tape,g3.output,hl,fun id hid=>g3.old id (by rw[h3];exact hid)⟩
 have:=g3.toLater
 rwa [ho] at this
def IZ:AV→AV→Prop
 |.aD k i off n none,y=>∃c,n≤c∧y = .aD k i off n (some c)
 |x,y=>y=x
inductive gU:List AV→List AV→Prop where
 | nil:gU [] []
 | cons {x y:AV}{r s:List AV}:IZ x y→gU r s→gU (x::r) (y::s)
theorem gU.len:∀{xs ys:List AV},gU xs ys→ys.length=xs.length
 |_,_,.nil=>rfl
 |_,_,.cons _ h=>by simp[h.len]
theorem gU.get:∀{xs ys:List AV},gU xs ys→∀{j:Nat},j<xs.length→IZ (xs.getD j .top) (ys.getD j .top)
 |_,_,.nil,j,h=>by simp at h
 |_,_,.cons hx hr,0,_=>hx
 |_,_,.cons hx hr,j+1,h=>by
  simp only[List.getD_cons_succ]
  exact hr.get (by simpa using h)
theorem Ur{φ:aU}{O:Nat→Prop}{w:World}(x:AV)(g:Nat→Option Value)(h:R φ O w x g):∃y,IZ x y∧R φ O w y g∧y.az=x.az∧y.isAgg=x.isAgg:=by
 cases x with
 |aD k id off n c =>
  cases c with
  |some c=>exact ⟨_,rfl,h,rfl,rfl⟩
  |none =>
   obtain ⟨b,c',cur,e,fr,v1,v2,v3,v4,v5,v6,v7⟩:=h
   exact ⟨_,⟨c',v3,rfl⟩,⟨b,c',cur,e,fr,v1,v2,v3,v4,fun m hm=>by simpa using hm,v6,v7⟩,rfl,rfl⟩
 |_=>exact ⟨_,rfl,h,rfl,rfl⟩
theorem open_row{φ:aU}{O:Nat→Prop}{w:World}{b k:Nat}:∀(xs:List AV)(off:Nat),Rl φ O w b k xs off→∃ys,gU xs ys∧Rl φ O w b k ys off
 |[],off,_=>⟨[],.nil,trivial⟩
 |x::r,off,h=>by
  obtain ⟨y,h1,h2,h3,h4⟩:=Ur x _ h.2.2.1
  obtain ⟨ys,h5,h6⟩:=open_row r (off+k) h.2.2.2
  exact ⟨y::ys,.cons h1 h5,by rw[h3];exact h.1,by rw[h4];exact h.2.1,h2,h6⟩
theorem wQ:∀(xs:List AV),∃ys,gU xs ys
 |[]=>⟨[],.nil⟩
 |x::r=>by
  obtain ⟨ys,h⟩:=wQ r
  cases x with
  |aD k id off n c =>
   cases c with
   |none=>exact ⟨_,.cons ⟨n,Nat.le_refl _,rfl⟩ h⟩
   |some c=>exact ⟨_,.cons rfl h⟩
  |_=>exact ⟨_,.cons rfl h⟩
theorem acf{P:Program}{f:FuncId}{args:List AV}{H H':Y}{e:cH}{id:Nat}{blk:aP}(hf:Y.find H id=some blk)(hl:H.length≤H'.length)
  (h:∀es,gU blk.es es→D P f args (Y.set H id (some { blk with es:=es })) e H')(cE:0<blk.k:=by first|exact Nat.zero_lt_one|simp):D P f args H e H':=by
 have hid:=Y.ax hf
 have hown:∀{φ:aU}{es:List AV}{b:Nat},Own φ (Y.set H id (some { blk with es:=es })) b↔Own φ H b:=by
  intro φ es b
  constructor
  ·rintro ⟨i,k,h1,h2⟩
   by_cases e:i=id
   ·subst e;exact ⟨i,blk,h1,hf⟩
   ·rw[Y.aj e] at h2;exact ⟨i,k,h1,h2⟩
  ·rintro ⟨i,k,h1,h2⟩
   by_cases e:i=id
   ·subst e;exact ⟨i,_,h1,Y.aC hid⟩
   ·exact ⟨i,k,h1,by rw[Y.aj e];exact h2⟩
 refine Uq (fun H2=>∃es,gU blk.es es∧H2=Y.set H id (some { blk with es:=es })) hl (fun φ w hR=>?_) (fun H2 ⟨es,h1,h2⟩=>h2▸h es h1)
 have hex:∃es,gU blk.es es∧∀b,φ id=some b→Rl φ (Own φ H) w b blk.k es 0:=by
  cases hm:φ id with
  |none =>
   obtain ⟨es,h1⟩:=wQ blk.es
   exact ⟨es,h1,fun b hb=>by simp at hb⟩
  |some b =>
   obtain ⟨cur,cap,a1,a2,a3,a4,a5,a6⟩:=(hR.blk id b blk hm hf).cells cE
   obtain ⟨es,h1,h2⟩:=open_row _ _ a6
   exact ⟨es,h1,fun b' hb=>by cases hb;exact h2⟩
 obtain ⟨es,h1,h2⟩:=hex
 refine ⟨_,⟨es,h1,rfl⟩,⟨hR.jC.less (fun b ho=>hown.1 ho),fun i b hi=>?_,fun i j b hi hj fi fj=>?_,fun i b k hi hk=>?_⟩,by rw[Y.af],fun b=>hown⟩
 ·have:=hR.dom i b hi
  rw[Y.af];exact this
 ·have key:∀i,(Y.find (Y.set H id (some { blk with es:=es })) i).isSome→(Y.find H i).isSome:=by
   intro i hi
   by_cases e:i=id
   ·subst e;rw[hf];rfl
   ·rwa [Y.aj e] at hi
  exact hR.inj i j b hi hj (key i fi) (key j fj)
 ·have ho:Own φ (Y.set H id (some { blk with es:=es }))=Own φ H:=funext fun b=>propext hown
  rw[ho]
  by_cases e:i=id
  ·subst e
   rw[Y.aC hid] at hk
   cases hk
   obtain ⟨cur,cap,a1,a2,a3,a4,a5,a6⟩:=(hR.blk i b blk hi hf).cells cE
   have hlen:=h1.len
   exact .inl ⟨cE,cur,cap,a1,a2,by simp only[hlen];exact a3,fun hx=>by simp only[hlen];exact a4 hx,a5,h2 b hi⟩
  ·rw[Y.aj e] at hk
   exact hR.blk i b k hi hk
structure ct where
 nil:Bool
 n:Nat
 id:Nat
 c:Nat
instance:Inhabited ct:=⟨⟨true,0,0,0⟩⟩
def ct.av(k:Nat)(r:ct):AV:=if r.nil then .am 0 [] (some []) else .aD k r.id 0 r.n (some r.c)
theorem ct.th{k:Nat}{r:ct}(h:r.nil=true):r.av k = .am 0 [] (some []):=by simp[ct.av,h]
theorem ct.nK{k:Nat}{r:ct}(h:r.nil=false):r.av k = .aD k r.id 0 r.n (some r.c):=by simp[ct.av,h]
theorem ct.I0{k:Nat}{r:ct}:(r.av k).bT=false:=by unfold ct.av;split<;>rfl
theorem ct.xC{k:Nat}{r:ct}:(r.av k).az=1:=by unfold ct.av;split<;>rfl
theorem ct.AC{k:Nat}{r:ct}:(r.av k).isAgg=false:=by unfold ct.av;split<;>rfl
theorem ct.AD{k:Nat}{r:ct}:(r.av k).cells=[r.av k]:=by unfold ct.av;split<;>rfl
theorem ct.AE{k:Nat}{r:ct}:oz (r.av k)=True:=by unfold ct.av;split<;>rfl
theorem ct.D4{k:Nat}{r:ct}(h:r.nil=true→r.n=0):pS (r.av k)=r.n:=by
 cases e:r.nil with
 |true=>rw[ct.th e,h e];rfl
 |false=>rw[ct.nK e];rfl
def nx(k:Nat)(rs:List ct):List AV:=rs.map (ct.av k)
theorem Fx{k:Nat}{rs:List ct}:(nx k rs).length=rs.length:=by simp[nx]
def aR(rs:List ct)(i:Nat):ct:=rs.getD i default
theorem qm{k:Nat}{rs:List ct}{i:Nat}(h:i<rs.length):(nx k rs).getD i .top=(aR rs i).av k:=by
 simp[nx,aR,List.getD,h]
def qn(n c:Nat)(es:List AV)(ex:Bool):Prop:=(ex=true∧c=es.length∧n≤c)∨(ex=false∧n≤es.length)
structure Shape where
 k:Nat
 ty:TypeId
 ag:Bool
def Shape.is(s:Shape)(x:AV):Prop:=x.bT=false∧x.az=s.k∧x.isAgg=s.ag
def il(s:Shape)(mk:Nat→AV)(F:Y)(id n c m:Nat):Prop :=
 ∃es ex,Y.find F id=some ⟨s.k,es,ex,s.ty⟩∧qn n c es ex∧(∀x∈es,s.is x)∧∀i,i<m→es[i]? = some (mk i)
def Reads(k:Nat)(mk:Nat→AV)(F:Y)(id m:Nat):Prop:=∃blk,Y.find F id=some blk∧blk.k=k∧m≤blk.es.length∧∀i,i<m→blk.es.getD i .top=mk i
section
variable {s:Shape}{mk:Nat→AV}{F G:Y}{id n c m:Nat}
theorem kH{es:List AV}{ex:Bool}(h:qn n c es ex):n≤es.length:=by
 rcases h with ⟨_,h1,h2⟩|⟨_,h⟩
 ·omega
 ·exact h
theorem rE{l:List AV}{i:Nat}{x:AV}(h:l[i]? = some x):l.getD i .top=x:=by simp[List.getD,h]
theorem il.keep(h:il s mk F id n c m)(e:Y.find G id=Y.find F id):il s mk G id n c m:=by
 unfold il at h ⊢
 rw[e]
 exact h
theorem Reads.keep{k:Nat}(h:Reads k mk F id m)(e:Y.find G id=Y.find F id):Reads k mk G id m:=by
 unfold Reads at h ⊢
 rw[e]
 exact h
theorem il.less{m':Nat}(h:il s mk F id n c m)(hm:m'≤m):il s mk F id n c m':=by
 obtain ⟨es,ex,h1,h2,h3,h4⟩:=h
 exact ⟨es,ex,h1,h2,h3,fun i hi=>h4 i (by omega)⟩
theorem il.shrink{n':Nat}(h:il s mk F id n c m)(hn:n'≤n):il s mk F id n' c m:=by
 obtain ⟨es,ex,h1,h2,h3,h4⟩:=h
 refine ⟨es,ex,h1,?_,h3,h4⟩
 rcases h2 with ⟨e1,e2,e3⟩|⟨e1,e2⟩
 ·exact .inl ⟨e1,e2,by omega⟩
 ·exact .inr ⟨e1,by omega⟩
theorem il.reads(h:il s mk F id n c m)(hm:m≤n):Reads s.k mk F id m:=by
 obtain ⟨es,ex,h1,h2,h3,h4⟩:=h
 have:=kH h2
 exact ⟨_,h1,rfl,by simp only;omega,fun i hi=>rE (h4 i hi)⟩
theorem Reads.less{k m':Nat}(h:Reads k mk F id m)(hm:m'≤m):Reads k mk F id m':=by
 obtain ⟨blk,h1,h2,h3,h4⟩:=h
 exact ⟨blk,h1,h2,by omega,fun i hi=>h4 i (by omega)⟩
theorem il.store{es:List AV}{ex:Bool}(hf:Y.find F id=some ⟨s.k,es,ex,s.ty⟩)(h2:qn n c es ex)(h3:∀x∈es,s.is x)(h4:∀i,i<m→es[i]? = some (mk i))(hm:m<n)(hs:s.is (mk m)) :
  il s mk (Y.set F id (some ⟨s.k,es.set m (mk m),ex,s.ty⟩)) id n c (m+1):=by
 have hlt:=Y.ax hf
 have hle:=kH h2
 refine ⟨_,_,Y.aC hlt,?_,fun x hx=>?_,fun i hi=>?_⟩
 ·simpa [qn] using h2
 ·rcases List.mem_or_eq_of_mem_set hx with h|rfl
  ·exact h3 x h
  ·exact hs
 ·rw[List.getElem?_set]
  by_cases e:m=i
  ·subst e;simp;omega
  ·rw[if_neg e];exact h4 i (by omega)
theorem il.ez{es ys:List AV}{ex:Bool}(hf:Y.find F id=some ⟨s.k,es,ex,s.ty⟩)(h2:qn n c es ex)(h3:∀x∈es,s.is x)(h4:∀i,i<n→es[i]? = some (mk i))(hr:n+ys.length≤c)(hs:∀x∈ys,s.is x)(hy:∀i,i<ys.length→ys[i]? = some (mk (n+i))) :
  il s mk (Y.set F id (some ⟨s.k,es.take n++ys++es.drop (n+ys.length),ex,s.ty⟩)) id (n+ys.length) c (n+ys.length):=by
 have hlt:=Y.ax hf
 have hle:=kH h2
 have hl:(es.take n++ys).length=n+ys.length:=by simp;omega
 refine ⟨_,_,Y.aC hlt,?_,fun x hx=>?_,fun i hi=>?_⟩
 ·rcases h2 with ⟨e1,e2,e3⟩|⟨e1,e2⟩
  ·refine .inl ⟨e1,?_,hr⟩
   simp;omega
  ·refine .inr ⟨e1,?_⟩
   rw[List.length_append,hl];omega
 ·rcases List.mem_append.1 hx with hx|hx
  ·rcases List.mem_append.1 hx with hx|hx
   ·exact h3 x (List.mem_of_mem_take hx)
   ·exact hs x hx
  ·exact h3 x (List.mem_of_mem_drop hx)
 ·rw[List.getElem?_append_left (by omega)]
  by_cases e:i<n
  ·rw[List.getElem?_append_left (by simp;omega),List.getElem?_take_of_lt e]
   exact h4 i e
  ·rw[List.getElem?_append_right (by simp;omega)]
   have:i-(es.take n).length=i-n:=by simp;omega
   rw[this,hy _ (by omega)]
   congr 2
   omega
theorem il.ahW{es ys:List AV}{ex:Bool}(hf:Y.find F id=some ⟨s.k,es,ex,s.ty⟩)(h2:qn n c es ex)(h3:∀x∈es,s.is x)(h4:∀i,i<n→es[i]? = some (mk i))(hr:n+ys.length≤c)(hs:∀x∈ys,s.is x) :
  il s mk (Y.set F id (some ⟨s.k,es.take n++ys++es.drop (n+ys.length),ex,s.ty⟩)) id n c n:=by
 have hlt:=Y.ax hf
 have hle:=kH h2
 refine ⟨_,_,Y.aC hlt,?_,fun x hx=>?_,fun i hi=>?_⟩
 ·rcases h2 with ⟨e1,e2,e3⟩|⟨e1,e2⟩
  ·refine .inl ⟨e1,?_,by omega⟩
   simp;omega
  ·refine .inr ⟨e1,?_⟩
   simp;omega
 ·rcases List.mem_append.1 hx with hx|hx
  ·rcases List.mem_append.1 hx with hx|hx
   ·exact h3 x (List.mem_of_mem_take hx)
   ·exact hs x hx
  ·exact h3 x (List.mem_of_mem_drop hx)
 ·rw[List.append_assoc,List.getElem?_append_left (by simp;omega),List.getElem?_take_of_lt hi]
  exact h4 i hi
theorem LQ{es:List AV}(hl:n≤es.length)(h4:∀i,i<n→es[i]? = some (mk i)):es.take n=(List.range n).map mk:=by
 apply List.ext_getElem?
 intro i
 by_cases e:i<n
 ·rw[List.getElem?_take_of_lt e,h4 i e];simp[e]
 ·rw[List.getElem?_eq_none (by simp;omega),List.getElem?_eq_none (by simp;omega)]
end
def tj(rs:List ct):List Nat:=(rs.filter fun r=>!r.nil).map (·.id)
theorem LR{rs:List ct}{k:Nat}(h:k<rs.length)(hn:(aR rs k).nil=false):(aR rs k).id∈tj rs:=by
 refine List.mem_map.2 ⟨aR rs k,List.mem_filter.2 ⟨?_,by simp[hn]⟩,rfl⟩
 unfold aR
 rw[List.getD_eq_getElem?_getD,List.getElem?_eq_getElem h]
 exact List.getElem_mem h
structure tq(s:Shape)(F:Y)(rs:List ct):Prop where
 nil:∀k,k<rs.length→(aR rs k).nil=true→(aR rs k).n=0
 blk:∀k,k<rs.length→(aR rs k).nil=false→∃es ex,Y.find F (aR rs k).id=some ⟨s.k,es,ex,s.ty⟩∧qn (aR rs k).n (aR rs k).c es ex∧∀x∈es,s.is x
 apart:∀k l,k<rs.length→l<rs.length→(aR rs k).nil=false→(aR rs l).nil=false→(aR rs k).id=(aR rs l).id→k=l
 rF:∀k,k<rs.length→(aR rs k).n≤10000000
def ik(s:Shape)(mk:Nat→Nat→AV)(F:Y)(rs:List ct)(m:Nat→Nat):Prop :=
 ∀k,k<rs.length→(aR rs k).nil=false→il s (mk k) F (aR rs k).id (aR rs k).n (aR rs k).c (m k)
def gV(H F:Y)(rs:List ct):Prop:=∀id,id<H.length→id∉tj rs→Y.find F id=Y.find H id
def dH(k0:Nat)(mk:Nat→Nat→AV)(F:Y)(rs:List ct)(g0 B:Nat)(jl:List AV)(K:Nat)(x:Nat→Nat):Prop :=
 ∀k,k<K→∃gid gc,jl.getD k .top = .aD k0 gid 0 ((aR rs k).n+64) gc∧Reads k0 (mk k) F gid (x k)∧((gid=(aR rs k).id∧(aR rs k).nil=false)∨g0<gid)∧gid<B
section
variable {s:Shape}{mk:Nat→Nat→AV}{H F G:Y}{rs:List ct}{m m':Nat→Nat}
theorem tq.start(h:tq s H rs):ik s mk H rs (fun _=>0):=fun k hk hn=>by
 obtain ⟨es,ex,h1,h2,h3⟩:=h.blk k hk hn
 exact ⟨es,ex,h1,h2,h3,fun i hi=>absurd hi (Nat.not_lt_zero _)⟩
theorem gV.refl:gV H H rs:=fun _ _ _=>rfl
theorem gV.set(h:gV H F rs){K:Nat}{b:Option aP}(hK:K<rs.length)(hn:(aR rs K).nil=false):gV H (Y.set F (aR rs K).id b) rs:=fun id hid hni=>by
 have hne:id≠(aR rs K).id:=fun e=>hni (by rw[e];exact LR hK hn)
 rw[Y.aj hne]
 exact h id hid hni
theorem gV.LS(h:gV H F rs){i:Nat}{b:Option aP}(hi:H.length≤i):gV H (Y.set F i b) rs:=fun id hid hni=>by
 rw[Y.aj (by omega)]
 exact h id hid hni
theorem gV.cons(h:gV H F rs)(hl:H.length≤F.length){b:Option aP}:gV H (b::F) rs:=fun id hid hni=>by
 rw[Y.bA (by omega)]
 exact h id hid hni
theorem ik.put(h:ik s mk F rs m)(ok:tq s H rs){K:Nat}{b:Option aP}(hK:K<rs.length)(hn:(aR rs K).nil=false)(hr:il s (mk K) (Y.set F (aR rs K).id b) (aR rs K).id (aR rs K).n (aR rs K).c (m' K))(hm:∀k,k≠K→m' k≤m k) :
  ik s mk (Y.set F (aR rs K).id b) rs m':=fun k hk hkn=>by
 by_cases e:k=K
 ·subst e;exact hr
 ·exact ((h k hk hkn).less (hm k e)).keep (Y.aj (fun e'=>e (ok.apart k K hk hK hkn hn e')))
theorem ik.less(h:ik s mk F rs m)(hm:∀k,k<rs.length→m' k≤m k):ik s mk F rs m':=fun k hk hkn=>(h k hk hkn).less (hm k hk)
theorem ik.zl(h:ik s mk F rs m)(ok:tq s H rs){i:Nat}{b:Option aP}(hi:H.length≤i):ik s mk (Y.set F i b) rs m:=fun k hk hkn=>by
 obtain ⟨es,ex,h1,_⟩:=ok.blk k hk hkn
 have:=Y.ax h1
 exact (h k hk hkn).keep (Y.aj (by omega))
theorem ik.cons(h:ik s mk F rs m){b:Option aP}:ik s mk (b::F) rs m:=fun k hk hkn=>by
 obtain ⟨es,ex,h1,_⟩:=h k hk hkn
 exact (h k hk hkn).keep (Y.bA (Y.ax h1))
theorem dH.keep{k0 g0 B K:Nat}{jl:List AV}{x:Nat→Nat}(h:dH k0 mk F rs g0 B jl K x)(h1:∀id,g0<id→id<B→Y.find G id=Y.find F id)(h2:∀k,k<K→(aR rs k).nil=false→Y.find G (aR rs k).id=Y.find F (aR rs k).id):dH k0 mk G rs g0 B jl K x:=fun k hk=>by
 obtain ⟨gid,gc,a1,a2,a3,a4⟩:=h k hk
 refine ⟨gid,gc,a1,a2.keep ?_,a3,a4⟩
 rcases a3 with ⟨rfl,hn⟩|h
 ·exact h2 k hk hn
 ·exact h1 gid h a4
theorem dH.more{k0 g0 B B' K:Nat}{jl:List AV}{x:Nat→Nat}(h:dH k0 mk F rs g0 B jl K x)(hB:B≤B'):dH k0 mk F rs g0 B' jl K x:=fun k hk=>by
 obtain ⟨gid,gc,a1,a2,a3,a4⟩:=h k hk
 exact ⟨gid,gc,a1,a2,a3,by omega⟩
theorem dH.less{k0 g0 B K:Nat}{jl:List AV}{x y:Nat→Nat}(h:dH k0 mk F rs g0 B jl K x)(hy:∀k,k<K→y k≤x k):dH k0 mk F rs g0 B jl K y:=fun k hk=>by
 obtain ⟨gid,gc,a1,a2,a3,a4⟩:=h k hk
 exact ⟨gid,gc,a1,a2.less (hy k hk),a3,a4⟩
theorem dH.next{k0 g0 B B' K:Nat}{jl:List AV}{x:Nat→Nat}{gid:Nat}{gc:Option Nat}(h:dH k0 mk F rs g0 B jl K x)(hB:B≤B')(hK:K<jl.length)(hr:Reads k0 (mk K) F gid (x K))(ho:(gid=(aR rs K).id∧(aR rs K).nil=false)∨g0<gid)(hb:gid<B') :
  dH k0 mk F rs g0 B' (jl.set K (.aD k0 gid 0 ((aR rs K).n+64) gc)) (K+1) x:=fun k hk=>by
 by_cases e:k=K
 ·subst e
  exact ⟨gid,gc,by simp[List.getD,hK],hr,ho,hb⟩
 ·obtain ⟨gid',gc',a1,a2,a3,a4⟩:=h k (by omega)
  refine ⟨gid',gc',?_,a2,a3,by omega⟩
  rw[←a1]
  simp only[List.getD_eq_getElem?_getD]
  rw[List.getElem?_set_ne (by omega)]
theorem dH.zero{k0 g0 B:Nat}{jl:List AV}{x:Nat→Nat}:dH k0 mk F rs g0 B jl 0 x:=fun k hk=>by omega
end
theorem LU{n:Nat→Nat}{K j:Nat}(hj:n K≤j)(k:Nat):(if k<K+1 then n k else 0)≤(if k<K then n k else if k=K then j else 0):=by
 by_cases e:k<K
 ·rw[if_pos e,if_pos (by omega)];exact Nat.le_refl _
 ·by_cases e2:k=K
  ·subst e2;rw[if_neg e,if_pos rfl,if_pos (by omega)];exact hj
  ·rw[if_neg (by omega)];exact Nat.zero_le _
theorem mk_zero{n:Nat→Nat}{K:Nat}(k:Nat):(if k<K then n k else if k=K then 0 else 0)≤(if k<K then n k else 0):=by
 by_cases e:k<K<;>simp[e]
theorem af1{n:Nat→Nat}{K j:Nat}(k:Nat)(e:k≠K):(if k<K then n k else if k=K then j+1 else 0)≤(if k<K then n k else if k=K then j else 0):=by
 by_cases e1:k<K<;>simp[e,e1]
theorem Ut{e x:AV}{f:Nat}(h:e.isAgg=false):AV.lu e f x=x:=by
 cases e<;>first|rfl|(simp[AV.isAgg] at h)
theorem G4{e x:AV}{n:Nat}(h:e.az=n)(hx:x.az=n)(y9:x.isAgg=true):AV.lu e 0 x=x:=by
 cases x with
 |agg xs =>
  cases e with
  |agg cs =>
   simp only[AV.az] at h hx
   have:cs.drop (0+xs.length)=[]:=List.drop_of_length_le (by omega)
   simp only[AV.lu,AV.cells,AV.az,List.take_zero,List.nil_append,this,List.append_nil]
  |_=>rfl
 |_=>simp[AV.isAgg] at y9
inductive Grow(s:Shape)(mk:Nat→AV)(F:Y)(r:ct)(B j:Nat):AV→Prop where
 | nil:r.nil=true→j=0→Grow s mk F r B j (.am 0 [] (some []))
 | room:r.nil=false→il s mk F r.id (r.n+j) r.c (r.n+j)→Grow s mk F r B j (.aD s.k r.id 0 (r.n+j) (some r.c))
 | new {gid:Nat}:B≤gid→gid<F.length→Y.find F gid=some ⟨s.k,(List.range (r.n+j)).map mk,false,s.ty⟩→Grow s mk F r B j (.aD s.k gid 0 (r.n+j) none)
theorem BB{mk:Nat→AV}{n:Nat}:(List.range n).map mk++[mk n]=(List.range (n+1)).map mk:=by simp[List.range_succ]
theorem PG{mk:Nat→AV}{n:Nat}:((List.range n).map mk).length=n:=by simp
theorem Reads.marks{k:Nat}{mk:Nat→AV}{F:Y}{gid n:Nat}{ex:Bool}{ty:TypeId}(h:Y.find F gid=some ⟨k,(List.range n).map mk,ex,ty⟩):Reads k mk F gid n :=
 ⟨_,h,rfl,by simp,fun i hi=>by simp[List.getD,hi]⟩
def zm(l:List AV):Prop:=∀x∈l,x.az=1∧x.isAgg=false
theorem zm.get{l:List AV}(h:zm l){i:Nat}(hi:i<l.length):(l.getD i .top).az=1∧∀f x,AV.lu (l.getD i .top) f x=x:=by
 have e:l.getD i .top=l[i]:=by simp[List.getD,hi]
 have:=h _ (List.getElem_mem hi)
 rw[e]
 exact ⟨this.1,fun f x=>Ut this.2⟩
theorem zm.set{l:List AV}(h:zm l){i:Nat}{x:AV}(hx:x.az=1∧x.isAgg=false):zm (l.set i x):=fun y hy=>by
 rcases List.mem_or_eq_of_mem_set hy with hy|rfl
 ·exact h y hy
 ·exact hx
theorem zm.rep{n:Nat}{x:AV}(hx:x.az=1∧x.isAgg=false):zm (List.replicate n x):=fun y hy=>by rw[List.eq_of_mem_replicate hy];exact hx
def lD(ids:List Nat)(H:Y):Y:=ids.foldl (fun G i=>Y.set G i none) H
theorem fQ:∀(ids:List Nat)(H:Y),(lD ids H).length=H.length
 |[],H=>rfl
 |i::r,H=>by
  have:=fQ r (Y.set H i none)
  rw[Y.af] at this
  exact this
theorem rG{i:Nat}{k:aP}:∀{ids:List Nat}{H:Y},Y.find (lD ids H) i=some k→i∉ids∧Y.find H i=some k
 |[],H,h=>⟨by simp,h⟩
 |j::r,H,h=>by
  obtain ⟨h1,h2⟩:=rG (ids:=r) (H:=Y.set H j none) h
  obtain ⟨h3,h4⟩:=iW h2
  exact ⟨by simp;exact ⟨h3,h1⟩,h4⟩
theorem qo{i:Nat}:∀{ids:List Nat}{H:Y},i∉ids→Y.find (lD ids H) i=Y.find H i
 |[],H,h=>rfl
 |j::r,H,h=>by
  have:=qo (ids:=r) (H:=Y.set H j none) (i:=i) (by simp at h;exact h.2)
  have e:Y.find (Y.set H j none) i=Y.find H i:=Y.aj (by simp at h;exact h.1)
  exact this.trans e
theorem Fy{H F:Y}{ids:List Nat}{v:Value}(h:∀id,id<H.length→id∉ids→Y.find F id=Y.find H id):eB H (.ret (.sc v)) F (.ret (.sc v)) (lD ids H):=by
 refine kw [] (by simp[fQ]) (by simp) (by simp) (fun id k hid hk=>.inl ?_) (fun i s k hs=>by simp at hs) (.same trivial)
 obtain ⟨h1,h2⟩:=rG hk
 exact ⟨h2,by rw[h id hid h1];exact h2⟩
theorem zn{xs:List AV}{id i:Nat}{H:Y}(h:xs≠[]→i≠id):Y.find (jS xs id H) i=Y.find H i:=by
 cases xs with
 |nil=>rfl
 |cons x r=>exact Y.aj (h (by simp))
theorem adx{n m:Nat}(h:n≤m){l:List AV}(hl:AV.cV (· < n) l):AV.cV (· < m) l:=AV.eU (fun i hi=>Nat.lt_of_lt_of_le hi h) l hl
def lays:List (Option aP)→Y→Y
 |[],H=>H
 |b::r,H=>lays r (b::H)
theorem zo:∀{bs:List (Option aP)}{H:Y},(lays bs H).length=H.length+bs.length
 |[],H=>rfl
 |b::r,H=>by simp only[lays,zo (bs:=r),List.length_cons];omega
theorem AF:∀{bs:List (Option aP)}{H:Y}{i:Nat},i<H.length→Y.find (lays bs H) i=Y.find H i
 |[],H,i,h=>rfl
 |b::r,H,i,h=>by
  simp only[lays]
  rw[AF (by simp;omega),Y.bA h]
theorem sg:∀{bs:List (Option aP)}{H:Y}{i:Nat}{b:Option aP},bs[i]? = some b→Y.find (lays bs H) (H.length+i)=b
 |[],H,i,b,h=>by simp at h
 |x::r,H,0,b,h=>by
  simp at h
  subst h
  simp only[lays]
  rw[Nat.add_zero,AF (by simp),Y.iw]
 |x::r,H,i+1,b,h=>by
  simp only[lays]
  have:=sg (bs:=r) (H:=x::H) (i:=i) (by simpa using h)
  rw[List.length_cons,show H.length+1+i=H.length+(i+1) from by omega] at this
  exact this
theorem ny{H F:Y}(bs:List (Option aP))(src:List Nat){x y:AV}(hl:src.length=bs.length)(hn:src.Nodup)(ha:∀s∈src,H.length≤s)(h1:∀id,id<H.length→Y.find F id=Y.find H id)
  (h2:∀(i:Nat)(k:aP)(s:Nat),bs[i]? = some (some k)→src[i]? = some s→∃k1,Y.find F s=some k1∧Gx F H.length src k1 k)(hz:Gz F H.length src x y):eB H (.ret x) F (.ret y) (lays bs H):=by
 refine kw src (by rw[zo,hl]) hn ha (fun id k hid hk=>?_) (fun i s k hs hk=>?_) hz
 ·rw[AF hid] at hk
  exact .inl ⟨hk,by rw[h1 id hid];exact hk⟩
 ·have hi:i<bs.length:=by
   have:=(List.getElem?_eq_some_iff.1 hs).1
   omega
  have hr:bs[i]? = some bs[i]:=by simp[hi]
  rw[sg hr] at hk
  exact h2 i k s (by rw[hr,hk]) hs
theorem D5{n:Nat}{f:Nat→Nat}(h:∀i j,i<j→f i<f j):((List.range n).map f).Nodup:=by
 rw[List.nodup_iff_pairwise_ne,List.pairwise_map]
 exact List.pairwise_lt_range.imp fun hab=>Nat.ne_of_lt (h _ _ hab)
theorem dt.append{H1:Y}{n0:Nat}{src:List Nat}:∀{a b c d:List AV},dt H1 n0 src a c→dt H1 n0 src b d→dt H1 n0 src (a++b) (c++d)
 |_,_,_,_,.nil,h=>h
 |_,_,_,_,.cons hx hr,h=>.cons hx (dt.append hr h)
theorem dt.map{H1:Y}{n0:Nat}{src:List Nat}{α:Type}{f g:α→AV}:∀{l:List α},(∀x∈l,Gz H1 n0 src (f x) (g x))→dt H1 n0 src (l.map f) (l.map g)
 |[],_=>.nil
 |x::r,h=>.cons (h x (by simp)) (dt.map fun y hy=>h y (by simp[hy]))
theorem tt{H:Y}{k:Nat}{ty:TypeId}{xs ys:List AV}{id:Nat}(hf:xs≠[]→Y.find H id=bS k ty xs)(hl:xs.length+ys.length≤100000000) :
  ∃(id':Nat)(H':Y),gQ H k ty ys (aW k xs id)∧lC H k ys (aW k xs id)=aW k (xs++ys) id'∧jy H k ty ys (aW k xs id)=H'∧(xs++ys≠[]→Y.find H' id'=bS k ty (xs++ys)∧id'=H.length)∧H.length≤H'.length∧(∀i,i<H.length→(xs≠[]→i≠id)→Y.find H' i=Y.find H i):=by
 obtain ⟨h1,h2,h3⟩:=XC hf hl
 by_cases e:ys≠[]∨xs≠[]
 ·obtain ⟨g1,g2⟩:=h2 e
  refine ⟨_,_,h1,g1,g2,fun _=>⟨?_,rfl⟩,by simp[bz],fun i hi hne=>?_⟩
  ·have:=Y.iw (H:=jS xs id H) (b:=bS k ty (xs++ys))
   rwa [bz] at this
  ·rw[Y.bA (by rw[bz];exact hi),zn hne]
 ·have e1:ys=[]:=Classical.byContradiction fun h=>e (.inl h)
  have e2:xs=[]:=Classical.byContradiction fun h=>e (.inr h)
  obtain ⟨g1,g2⟩:=h3 e1 e2
  refine ⟨0,H,h1,by rw[g1,e1,e2];rfl,g2,fun h=>by rw[e1,e2] at h;exact (h rfl).elim,Nat.le_refl _,fun _ _ _=>rfl⟩
theorem nA{H F:Y}{x y:AV}(h:∀id,id<H.length→Y.find F id=Y.find H id)(hz:Gz F H.length [] x y):eB H (.ret x) F (.ret y) H :=
 kw [] (by simp) (by simp) (by simp) (fun id k hid hk=>.inl ⟨hk,by rw[h id hid];exact hk⟩) (fun i s k hs=>by simp at hs) hz
section
variable {P:Program}{ro:Option Nat}{n:Nat}
def Mk(m:Nat):Deferred:={ target:=.collected m,args:=#[] }
def MD(n0:Nat)(φ:aU)(H:Y)(w:World)(ds:List Deferred):Prop:=∃ms:List Nat,ds=ms.map Mk∧ms.Nodup∧∀m∈ms,n0≤m∧w.heap[m]? = some (.deferred (some []))∧¬Own φ H m
theorem MD.nil(n0:Nat)(φ:aU)(H:Y)(w:World):MD n0 φ H w []:=⟨[],rfl,.nil,fun m h=>by cases h⟩
theorem MD.step{n0:Nat}{φ φ':aU}{H H':Y}{w w':World}{ds:List Deferred}(hs:Step φ H w φ' H' w')(h:MD n0 φ H w ds):MD n0 φ' H' w' ds:=by
 obtain ⟨ms,h1,h2,h3⟩:=h
 refine ⟨ms,h1,h2,fun m hm=>?_⟩
 obtain ⟨g1,g2,g3⟩:=h3 m hm
 exact ⟨g1,(hs.same m (jI g2) g3).trans g2,hs.own m (jI g2) g3⟩
def YS(n0:Nat)(K:Post)(φ:aU)(H:Y)(w:World):Exit→Act→World→Prop:=fun e a' w' =>
 ∃x ts' H' φ',XR φ' (Own φ' H') w' x e∧K x ts' H'∧FR φ' (Own φ' H') w' ts' a'∧Rel φ' H' w'∧Step φ H w φ' H' w'∧MD n0 φ' H' w' a'.defers
theorem YS.step{n0:Nat}{K:Post}{φ φ':aU}{H H':Y}{w w':World}{e:Exit}{a:Act}{w2:World}(hs:Step φ H w φ' H' w')(h:YS n0 K φ' H' w' e a w2):YS n0 K φ H w e a w2:=by
 obtain ⟨x,ts,H2,dJ,h1,h2,h3,h4,h5,h6⟩:=h
 exact ⟨x,ts,H2,dJ,h1,h2,h3,h4,hs.trans h5,h6⟩
theorem YS.stays{n0:Nat}{K:Post}{φ:aU}{H:Y}{w:World}:¬LetsOut (YS n0 K φ H w):=by
 rintro ⟨a,w',x,ts,H2,dJ,h1,_⟩
 cases x<;>exact h1.elim
end
section
variable {φ:aU}{O:Nat→Prop}{w w':World}
end
section
variable {P:Program}{K:Post}{ts:List AV}{H:Y}
end
theorem FA(s:ByteArray):oZ (bO s)=s:=by
 apply ByteArray.ext
 simp only[oZ,bO,List.map_map]
 apply Array.ext'
 simp only[List.toList_toArray]
 have:∀l:List UInt8,l.map ((fun x=>(pG x).getD 0)∘fun b=>AV.sc (.int .u8 (b.toNat:Int)))=l:=by
  intro l
  induction l with
  |nil=>rfl
  |cons c r ih =>
   rw[List.map_cons,ih]
   congr 1
   simp[Function.comp,pG]
 exact this _
theorem LV{s:ByteArray}(h:s.size=0):s=⟨#[]⟩:=by
 apply ByteArray.ext
 exact Array.eq_empty_of_size_eq_zero h
theorem LW(s:ByteArray):(bO s).take s.size=bO s:=List.take_of_length_le (by rw[jQ];exact Nat.le_refl _)
theorem PH(s:ByteArray)(x:AV):(List.replicate s.size x).drop s.size=[]:=List.drop_of_length_le (by simp)
theorem D6(s:ByteArray)(H:Y)(hs:s.size≤100000000):D Tryz.prog 175 [.sc (.string s)] H (.ret (.sc (.string s))) H:=by
 refine aG (Nat.le_refl _) (afO (aA ?_))
 simp -implicitDefEqProofs (maxSteps:=99999999) (disch:=omega) only[vu,Yg,va,vg,vs,vh,vk,simprocAttr]
 refine dz (fun h=>?_) (fun h=>?_)
 ·have:=LV (s:=s) (by omega)
  subst this
  refine zE0 ?_
  exact bL .refl
 have h0:0<s.size:=by omega
 simp -implicitDefEqProofs (maxSteps:=99999999) (disch:=omega) only[vu,List.length_replicate,PH s,LW s,jQ s,FA s,va,vg,vs,vh,vk,simprocAttr]
 exact ⟨⟨by omega,by omega,by omega⟩,Nat.le_refl _,by omega,⟨⟨by omega,Nat.le_refl _⟩,⟨s,rfl⟩⟩,bL (by repeat constructor)⟩
theorem I1(s:ByteArray)(H:Y)(hs:s.size≤100000000):D Tryz.prog 118 [.sc (.string s)] H (.ret (.sc (.string s))) H:=by
 refine aG (Nat.le_refl _) (afN (aA ?_))
 simp -implicitDefEqProofs (maxSteps:=99999999) (disch:=omega) only[vu,Yf,va,vg,vs,vh,vk,simprocAttr]
 refine ae (D6 s H hs) ?_
 refine zE0 ?_
 exact bL .refl
structure G5(F:Y)(lE:Nat)(xs:List ByteArray)(io:Nat):Prop where
 box:Y.find F lE=some ⟨1,[aW 1 (strs xs) io],true,41⟩
 own:xs≠[]→Y.find F io=bS 1 9 (strs xs)∧io≠lE
structure BC(F:Y)(lE:Nat)(xs:List ByteArray)(io:Nat)(ys:List ByteArray)(PI:Nat)(F':Y):Prop where
 out:G5 F' lE ys PI
 len:F.length≤F'.length
 at_:ys≠[]→(xs≠[]∧PI=io)∨F.length≤PI
 old:∀i,i<F.length→i≠lE→(xs≠[]→i≠io)→Y.find F' i=Y.find F i
theorem YT{xs:List ByteArray}(h:xs≠[]):strs xs≠[]:=fun e=>h (by simpa [strs] using e)
theorem BC.none{F:Y}{lE:Nat}{xs:List ByteArray}{io:Nat}(h:G5 F lE xs io):BC F lE xs io xs io F :=
 ⟨h,Nat.le_refl _,fun e=>.inl ⟨e,rfl⟩,fun _ _ _ _=>rfl⟩
theorem BC.trans{F G K:Y}{lE a b c:Nat}{xs ys zs:List ByteArray}(h:BC F lE xs a ys b G)(k:BC G lE ys b zs c K):BC F lE xs a zs c K:=by
 refine ⟨k.out,Nat.le_trans h.len k.len,fun e=>?_,fun i hi h1 h2=>?_⟩
 ·rcases k.at_ e with ⟨e1,e2⟩|h3
  ·rcases h.at_ e1 with ⟨g1,g2⟩|g3
   ·exact .inl ⟨g1,e2.trans g2⟩
   ·exact .inr (by omega)
  ·exact .inr (by have:=h.len;omega)
 ·rw[k.old i (by have:=h.len;omega) h1 (fun e=>?_),h.old i hi h1 h2]
  rcases h.at_ e with ⟨g1,g2⟩|g3
  ·rw[g2];exact h2 g1
  ·omega
theorem G5.cons{F:Y}{lE io:Nat}{xs:List ByteArray}(b:Option aP)(h:G5 F lE xs io):G5 (b::F) lE xs io:=by
 refine ⟨by rw[ai (Y.ax h.box)];exact h.box,fun e=>⟨?_,(h.own e).2⟩⟩
 have h1:=(h.own e).1
 rw[bj (YT e)] at h1 ⊢
 rw[ai (Y.ax h1),h1]
theorem BC.cons{F:Y}{lE io:Nat}{xs:List ByteArray}(b:Option aP)(h:G5 F lE xs io):BC F lE xs io xs io (b::F) :=
 ⟨h.cons b,by simp,fun e=>.inl ⟨e,rfl⟩,fun i hi _ _=>ai hi⟩
mutual
def fF:Nd→Nat→AV
 |⟨k,s,n,l⟩,a=>.agg [.sc (.int .u8 k),.sc (.string s),.sc (.int .i64 n),aW 4 (eT l (a+1)) a]
def eT:List Nd→Nat→List AV
 |[],_=>[]
 |t::r,a=>fF t a::eT r (a+t.size)
end
mutual
def gd:Nd→Nat→Y
 |⟨_,_,_,l⟩,a=>si l (a+1)++[bS 4 25 (eT l (a+1))]
def si:List Nd→Nat→Y
 |[],_=>[]
 |t::r,a=>si r (a+t.size)++gd t a
end
theorem ey(t:Nd)(a:Nat):fF t a = .agg [.sc (.int .u8 t.kind),.sc (.string t.text),.sc (.int .i64 t.num),aW 4 (eT t.kids (a+1)) a]:=by cases t;simp[fF,Nd.kind,Nd.text,Nd.num,Nd.kids]
theorem zq(t:Nd)(a:Nat):gd t a=si t.kids (a+1)++[bS 4 25 (eT t.kids (a+1))]:=by cases t;simp[gd,Nd.kids]
theorem gW(l:List Nd):∀a,(eT l a).length=l.length:=by
 induction l with
 |nil=>intro a;rfl
 |cons x r ih=>intro a;simp[eT,ih]
theorem iL(t:Nd):∀a,(gd t a).length=t.size:=by
 induction t using Nd.ind with
 |_ t ih =>
  intro a
  have key:∀(l:List Nd),(∀k∈l,∀a,(gd k a).length=k.size)→∀a,(si l a).length=Nd.ay l:=by
   intro l
   induction l with
   |nil=>intro _ a;rfl
   |cons x r fC =>
    intro h a
    simp only[si,List.length_append,Nd.ay,fC fun k hk=>h k (by simp[hk]),h x (by simp)]
    omega
  rw[zq,List.length_append,key _ ih,Nd.size_eq]
  simp
  omega
theorem acg{H1:Y}{n0:Nat}{src:List Nat}(t:Nd):Gz H1 n0 src (eu t) (eu t):=by
 induction t using Nd.ind with
 |_ t ih =>
  have key:∀l:List Nd,(∀k∈l,Gz H1 n0 src (eu k) (eu k))→dt H1 n0 src (bh l) (bh l):=by
   intro l
   induction l with
   |nil=>intro _;exact .nil
   |cons x r fC=>intro h;exact .cons (h x (by simp)) (fC fun k hk=>h k (by simp[hk]))
  rw[ew]
  exact .agg (.cons (.same trivial) (.cons (.same trivial) (.cons (.same trivial) (.cons (.am (key _ ih)) .nil))))
theorem zt{H1:Y}{n0:Nat}{src:List Nat}(l:List Nd):dt H1 n0 src (bh l) (bh l):=by
 induction l with
 |nil=>exact .nil
 |cons x r ih=>exact .cons (acg x) ih
theorem LX(l:List Nd):∀(j a:Nat),j<l.length→(eT l a)[j]? = some (fF (aE l j) (a+Nd.ay (l.take j))):=by
 induction l with
 |nil=>intro j a h;simp at h
 |cons x r ih =>
  intro j a h
  cases j with
  |zero=>simp[eT,aE,Nd.ay]
  |succ j =>
   simp only[eT,List.getElem?_cons_succ,List.take_succ_cons,Nd.ay]
   rw[ih j (a+x.size) (by simpa using h)]
   simp[aE,Nat.add_assoc]
mutual
def AG:Nd→Nat→List (List AV)
 |⟨_,_,_,l⟩,a=>eT l (a+1)::lV l (a+1)
def lV:List Nd→Nat→List (List AV)
 |[],_=>[]
 |t::r,a=>AG t a++lV r (a+t.size)
end
theorem Cm(t:Nd)(a:Nat):AG t a=eT t.kids (a+1)::lV t.kids (a+1):=by cases t;simp[AG,Nd.kids]
theorem G6:∀(p q:List (Option aP))(H:Y),lays (p++q) H=lays q (lays p H)
 |[],_,_=>rfl
 |x::r,q,H=>by simp only[List.cons_append,lays,G6 r q]
def LY(l:List (List AV)):List (Option aP):=l.map (bS 4 25)
theorem G7(t:Nd):∀(a:Nat)(H:Y),gd t a++H=lays (LY (AG t a)) H:=by
 induction t using Nd.ind with
 |_ t ih =>
  intro a H
  have key:∀(l:List Nd),(∀k∈l,∀(a:Nat)(H:Y),gd k a++H=lays (LY (AG k a)) H)→∀(a:Nat)(H:Y),si l a++H=lays (LY (lV l a)) H:=by
   intro l
   induction l with
   |nil=>intro _ a H;rfl
   |cons x r fC =>
    intro h a H
    simp only[si,lV,LY,List.map_append,G6,List.append_assoc]
    have h1:=h x (by simp) a H
    have h2:=fC (fun k hk=>h k (by simp[hk])) (a+x.size) (lays (LY (AG x a)) H)
    rw[h1,h2]
    rfl
  rw[zq,Cm,List.append_assoc]
  have:=key t.kids ih (a+1) (bS 4 25 (eT t.kids (a+1))::H)
  rw[List.singleton_append,this]
  rfl
theorem G8{k id:Nat}{xs ys:List AV}(h:xs.length=ys.length):aW k xs id=aW k ys id:=by
 cases xs<;>cases ys<;>simp_all [aW]
theorem gY(t:Nd):∀a,(AG t a).length=t.size:=by
 induction t using Nd.ind with
 |_ t ih =>
  intro a
  have key:∀(l:List Nd),(∀k∈l,∀a,(AG k a).length=k.size)→∀a,(lV l a).length=Nd.ay l:=by
   intro l
   induction l with
   |nil=>intro _ a;rfl
   |cons x r fC =>
    intro h a
    simp only[lV,List.length_append,Nd.ay,fC fun k hk=>h k (by simp[hk]),h x (by simp)]
  rw[Cm,List.length_cons,key _ ih,Nd.size_eq]
  omega
theorem nB{n0:Nat}{src:List Nat}(hn:src.Nodup){i s:Nat}(h:src[i]? = some s)(hs:n0≤s):cP n0 src s=some (n0+i):=by
 unfold cP
 rw[if_neg (by omega),u0 hn h]
 rfl
def ahX(l:List Int):List AV:=l.map fun n=>.sc (.int .i64 n)
def lW:Nd→List Int→Option Nd
 |t,[]=>some t
 |t,k::r=>if 0≤k∧k<t.kids.length then lW (aE t.kids k.toNat) r else none
def dP(F:Y)(t:Nd)(a:Nat):Prop:=∀(i:Nat)(xs:List AV),(AG t a)[i]? = some xs→Y.find F (a+i)=bS 4 25 xs
def jd(F:Y)(l:List Nd)(a:Nat):Prop:=∀(i:Nat)(xs:List AV),(lV l a)[i]? = some xs→Y.find F (a+i)=bS 4 25 xs
theorem dP.head{F:Y}{t:Nd}{a:Nat}(h:dP F t a):Y.find F a=bS 4 25 (eT t.kids (a+1)):=h 0 _ (by rw[Cm];rfl)
theorem dP.kids{F:Y}{t:Nd}{a:Nat}(h:dP F t a):jd F t.kids (a+1):=fun i xs hx=>by
 rw[show a+1+i=a+(i+1) by omega]
 exact h (i+1) xs (by rw[Cm,List.getElem?_cons_succ];exact hx)
theorem jd.first{F:Y}{t:Nd}{r:List Nd}{a:Nat}(h:jd F (t::r) a):dP F t a:=fun i xs hx=>by
 refine h i xs ?_
 simp only[lV]
 rw[List.getElem?_append_left (List.getElem?_eq_some_iff.1 hx).1]
 exact hx
theorem jd.rest{F:Y}{t:Nd}{r:List Nd}{a:Nat}(h:jd F (t::r) a):jd F r (a+t.size):=fun i xs hx=>by
 rw[show a+t.size+i=a+(t.size+i) by omega]
 refine h (t.size+i) xs ?_
 simp only[lV]
 rw[List.getElem?_append_right (by rw[gY];omega),gY,Nat.add_sub_cancel_left]
 exact hx
theorem j6{t:Nd}{H:Y}:dP (gd t H.length++H) t H.length:=fun i xs hx=>by
 rw[G7]
 exact sg (by simp[LY,hx])
theorem dP.of{F G:Y}{t:Nd}{a:Nat}(h:dP F t a)(hs:∀i,a≤i→i<a+t.size→Y.find G i=Y.find F i):dP G t a:=fun i xs hx=>by
 have hi:=(List.getElem?_eq_some_iff.1 hx).1
 rw[gY] at hi
 rw[hs _ (by omega) (by omega)]
 exact h i xs hx
theorem AH{F:Y}(t:Nd):∀{a:Nat},dP F t a→View F (fF t a) (eu t):=by
 induction t using Nd.ind with
 |_ t ih =>
  intro a h
  have key:∀(l:List Nd),(∀k∈l,∀{a:Nat},dP F k a→View F (fF k a) (eu k))→∀a,jd F l a→cJ F (eT l a) (bh l):=by
   intro l
   induction l with
   |nil=>intro _ a _;exact .nil
   |cons x r fC =>
    intro hx a hl
    exact .cons (hx x (by simp) hl.first) (fC (fun k hk=>hx k (by simp[hk])) _ hl.rest)
  rw[ey,ew]
  exact .agg (.cons .sc (.cons .sc (.cons .sc (.cons (cJ.own (fun _=>h.head) (key _ ih _ h.kids)) .nil))))
def D7(x:ByteArray):List Int→Nd→Nd
 |[],t=>⟨t.kind,x,t.num,t.kids⟩
 |q::r,t=>⟨t.kind,t.text,t.num,t.kids.set q.toNat (D7 x r (aE t.kids q.toNat))⟩
theorem YU(f g:List Int→Bool)(x:ByteArray)(t:Nd):∀p,bN f x (bN g x t p) p=bN (fun q=>g q|| f q) x t p:=by
 induction t using Nd.ind with
 |_ t ih =>
  intro p
  have key:∀(l:List Nd),(∀k∈l,∀p,bN f x (bN g x k p) p=bN (fun q=>g q|| f q) x k p)→∀i,dN f x (dN g x l p i) p i=dN (fun q=>g q|| f q) x l p i:=by
   intro l
   induction l with
   |nil=>intro _ _;rfl
   |cons k r fC =>
    intro hk i
    simp only[dN]
    rw[hk k (by simp),fC fun k' hk'=>hk k' (by simp[hk'])]
  refine Nd.ext' ?_ ?_ ?_ ?_
  ·rw[qh,qh,qh]
  ·rw[r9,r9,r9]
   cases f p<;>cases g p<;>rfl
  ·rw[wi,wi,wi]
  ·rw[n9,n9,n9,key t.kids ih 0]
theorem G9{l m:List Nd}(h:l.length=m.length)(k:∀j,j<l.length→aE l j=aE m j):l=m :=
 List.ext_getElem h fun j h1 h2=>by
  have:=k j h1
  rwa [eH h1,eH h2] at this
theorem tu(t:Nd):∀(p:List Int)(b:Pl),b∈bI t p→∃s,b.p=p++s∧(lW t s).isSome=true:=by
 induction t using Nd.ind with
 |_ t ih =>
  intro p b hb
  rw[cR] at hb
  rcases List.mem_cons.1 hb with rfl|hb
  ·exact ⟨[],by simp,rfl⟩
  ·obtain ⟨j,u,⟨h1,h2⟩,h3⟩:=eS _ _ _ _ hb
   rw[Nat.sub_zero] at h2
   obtain ⟨hl,he⟩:=List.getElem?_eq_some_iff.1 h2
   obtain ⟨s,e1,e2⟩:=ih u (List.mem_of_getElem? h2) _ b h3
   refine ⟨(j:Int)::s,by rw[e1];simp,?_⟩
   rw[lW,if_pos ⟨by omega,by omega⟩,Int.toNat_natCast,eH hl,he]
   exact e2
theorem vz(f:List Int→Bool)(x:ByteArray):∀(s:List Int)(t:Nd)(p:List Int),(lW (bN f x t p) s).isSome=(lW t s).isSome
 |[],_,_=>rfl
 |q::r,t,p=>by
  rw[lW,lW,n9,eG]
  split
  ·rename_i c
   have hl:q.toNat<t.kids.length:=by omega
   rw[qf f x _ _ _ _ hl,vz f x r]
  ·rfl
theorem D8(x:ByteArray):∀(s:List Int)(t:Nd)(p:List Int),(lW t s).isSome=true→bN (bX [p++s]) x t p=D7 x s t
 |[],t,p,_=>by
  refine Nd.ext' qh ?_ wi ?_
  ·rw[r9,if_pos (by simp[bX])]
   rfl
  ·rw[n9]
   show _=t.kids
   refine G9 (eG _ _ _ _ _) fun j hj=>?_
   rw[eG] at hj
   rw[qf _ _ _ _ _ _ hj]
   refine LL _ _ _ _ fun b hb hf=>?_
   obtain ⟨s,e1,_⟩:=tu _ _ _ hb
   simp[bX,e1] at hf
 |q::r,t,p,h=>by
  rw[lW] at h
  split at h
  ·rename_i c
   have hl:q.toNat<t.kids.length:=by omega
   obtain ⟨m,rfl⟩:∃m:Nat,q=m:=⟨q.toNat,by omega⟩
   rw[Int.toNat_natCast] at h hl
   refine Nd.ext' qh ?_ wi ?_
   ·rw[r9,if_neg (by simp[bX])]
    rfl
   ·rw[n9]
    show _=t.kids.set (Int.toNat (m:Int)) (D7 x r (aE t.kids (Int.toNat (m:Int))))
    rw[Int.toNat_natCast]
    refine G9 (by rw[eG,List.length_set]) fun j hj=>?_
    rw[eG] at hj
    rw[qf _ _ _ _ _ _ hj,Nat.zero_add]
    by_cases e:j=m
    ·subst e
     have e2:p++((j:Int)::r)=(p++[(j:Int)])++r:=by simp
     rw[e2,D8 x r _ _ h]
     rw[eH (l:=t.kids.set _ _) (by rw[List.length_set];exact hj),List.getElem_set_self]
    ·rw[eH (l:=t.kids.set _ _) (by rw[List.length_set];exact hj),List.getElem_set_ne (fun h=>e h.symm),←eH hj]
     refine LL _ _ _ _ fun b hb hf=>?_
     obtain ⟨s,e1,_⟩:=tu _ _ _ hb
     simp only[bX,e1,List.any_cons,List.any_nil,Bool.or_false,decide_eq_true_eq] at hf
     have hs:(m:Int)=(j:Int):=by
      have:=List.append_cancel_left (hf.trans (List.append_assoc p [(j:Int)] s))
      simpa using (List.cons.inj this).1
     omega
  ·simp at h
theorem LZ{ps:List (List Int)}{q:List Int}:(fun z=>bX ps z|| bX [q] z)=bX (ps++[q]):=by
 funext z
 simp[bX]
theorem YV{x:ByteArray}{n:Nd}{ps:List (List Int)}{q:List Int}(h:(lW n q).isSome=true):D7 x q (bN (bX ps) x n [])=bN (bX (ps++[q])) x n []:=by
 rw[←D8 x q _ [] (by rw[vz];exact h),List.nil_append,YU,LZ]
theorem Uu{x:ByteArray}{n:Nd}{q:List Int}(h:(lW n q).isSome=true):D7 x q n=bN (bX [q]) x n []:=(D8 x q n [] h).symm
theorem L0{n:Nd}{i:Nat}{q:List Int}(h:q∈e8 (bI n []) (bI n []) i):(lW n q).isSome=true:=by
 unfold e8 at h
 obtain ⟨b,hb,rfl⟩:=List.mem_map.1 h
 obtain ⟨s,e1,e2⟩:=tu _ _ _ ((List.mem_filter.1 hb).1)
 rw[List.nil_append] at e1
 rw[e1]
 exact e2
theorem FB{n:Nd}(h:iB n=true){b:kz}(hb:b∈bQ n):(lW n b.1).isSome=true∧∀q∈b.2.2,(lW n q).isSome=true:=by
 rw[BA h] at hb
 obtain ⟨i,hi,rfl⟩:=List.mem_map.1 hb
 refine ⟨?_,fun q hq=>L0 hq⟩
 obtain ⟨s,e1,e2⟩:=tu _ _ _ (Uj (LK.1 hi).1)
 rw[List.nil_append] at e1
 show (lW n (au (bI n []) i).p).isSome=true
 rw[e1]
 exact e2
theorem PJ{l:List Pl}:(dIx l).Nodup:=List.nodup_range.filter _
theorem L1{n:Nd}(h:iB n=true):((bQ n).map (·.1)).Nodup:=by
 rw[BA h,List.map_map]
 have:∀(L:List Nat),L.Nodup→(∀i∈L,i<(bI n []).length)→(L.map ((·.1)∘adn (bI n []))).Nodup:=by
  intro L
  induction L with
  |nil=>intro _ _;simp
  |cons a r ih =>
   intro h1 h2
   rw[List.nodup_cons] at h1
   rw[List.map_cons,List.nodup_cons]
   refine ⟨fun hm=>?_,ih h1.2 fun i hi=>h2 i (by simp[hi])⟩
   obtain ⟨c,hc,e⟩:=List.mem_map.1 hm
   have:=ab8 (Pz n []) (h2 c (by simp[hc])) (h2 a (by simp)) e
   exact h1.1 (this▸hc)
 exact this _ PJ fun i hi=>(LK.1 hi).1
theorem Uv{l:List kz}{path:List Int}(hn:(l.map (·.1)).Nodup){k:Nat}(hk:k<l.length)(e:(l[k]).1=path):l.find? (fun b=>decide (b.1=path))=some l[k]:=by
 induction l generalizing k with
 |nil=>simp at hk
 |cons a r ih =>
  rw[List.map_cons,List.nodup_cons] at hn
  cases k with
  |zero =>
   simp only[List.getElem_cons_zero] at e ⊢
   rw[List.find?_cons_of_pos (by simpa using e)]
  |succ k =>
   simp only[List.getElem_cons_succ] at e ⊢
   rw[List.find?_cons_of_neg (by
    simp only[decide_eq_true_eq]
    intro c
    exact hn.1 (List.mem_map.2 ⟨r[k]'(by simpa using hk),List.getElem_mem _,by rw[e,c]⟩))]
   exact ih hn.2 (by simpa using hk) e
theorem D9:∀(p:List Int)(t:Nd),(lW t p).isSome=true→p.length≤t.size
 |[],t,_=>by simp
 |q::r,t,h=>by
  rw[lW] at h
  split at h
  ·rename_i c
   have h1:=D9 r _ h
   have h2:=Nd.pg (eJ (l:=t.kids) (k:=q.toNat) (by omega))
   simp only[List.length_cons]
   omega
  ·simp at h
def ady:IC:=(.seq (.ops [iP 2 (.mv kF)]) (.seq (.ops [iM 3 0,iP 4 (.bV (.t 3)),iP 5 (.an 0 (.t 4)),iH 6 (yD 1 5),iH 7 (.call 83 [(.t 6)]),iM 8 7,gM 9 8 true 0,gP 10 8 true (.bV (.t 9)),gP 11 8 true (.an 1 (.t 10)),gH 12 8 true (yD 1 11),gH 13 8 true (.call 84 [(.t 12)]),iP 14 (.pick (.t 8) (.t 13) kF),iM 15 14,gM 16 15 true 0,gP 17 15 true (.bV (.t 16)),gP 18 15 true (.an 2 (.t 17)),gH 19 15 true (yD 1 18),gH 20 15 true (.call 85 [(.t 19)]),iP 21 (.pick (.t 15) (.t 20) kF),iM 22 21,gM 23 22 true 0,gP 24 22 true (.bV (.t 23)),gP 25 22 true (.an 3 (.t 24)),gH 26 22 true (yD 1 25),gH 27 22 true (.call 86 [(.t 26)]),iP 28 (.pick (.t 22) (.t 27) kF),iM 29 28,gM 30 29 true 0,gP 31 29 true (.bV (.t 30)),gP 32 29 true (.an 4 (.t 31)),gH 33 29 true (yD 1 32),gH 34 29 true (.call 87 [(.t 33)]),iP 35 (.pick (.t 29) (.t 34) kF),iM 36 35,gM 37 36 true 0,gP 38 36 true (.bV (.t 37)),gP 39 36 true (.an 5 (.t 38)),gH 40 36 true (yD 1 39),gH 41 36 true (.call 88 [(.t 40)]),iP 42 (.pick (.t 36) (.t 41) kF),iM 43 42,gM 44 43 true 0,gP 45 43 true (.bV (.t 44)),gP 46 43 true (.an 6 (.t 45)),gH 47 43 true (yD 1 46),gH 48 43 true (.call 89 [(.t 47)]),iP 49 (.pick (.t 43) (.t 48) kF),iM 50 49,gM 51 50 true 0,gP 52 50 true (.bV (.t 51)),gP 53 50 true (.an 7 (.t 52)),gH 54 50 true (yD 1 53),gH 55 50 true (.call 90 [(.t 54)]),iP 56 (.pick (.t 50) (.t 55) kF),iM 57 56,gM 58 57 true 0,gP 59 57 true (.bV (.t 58)),gP 60 57 true (.an 8 (.t 59)),gH 61 57 true (yD 1 60),gH 62 57 true (.call 91 [(.t 61)]),iP 63 (.pick (.t 57) (.t 62) kF),iM 64 63,gM 65 64 true 0,gP 66 64 true (.bV (.t 65)),gP 67 64 true (.an 9 (.t 66)),gH 68 64 true (yD 1 67),gH 69 64 true (.call 92 [(.t 68)]),iP 70 (.pick (.t 64) (.t 69) kF),iM 71 70,gM 72 71 true 0,gP 73 71 true (.bV (.t 72)),gP 74 71 true (.an 10 (.t 73)),gH 75 71 true (yD 1 74),gH 76 71 true (.call 93 [(.t 75)]),iP 77 (.pick (.t 71) (.t 76) kF),iM 78 77,gM 79 78 true 0,gP 80 78 true (.bV (.t 79)),gP 81 78 true (.an 11 (.t 80)),gH 82 78 true (yD 1 81),gH 83 78 true (.call 94 [(.t 82)]),iP 84 (.pick (.t 78) (.t 83) kF),iM 85 84,gM 86 85 true 0,gP 87 85 true (.bV (.t 86)),gP 88 85 true (.an 12 (.t 87)),gH 89 85 true (yD 1 88),gH 90 85 true (.call 95 [(.t 89)]),iP 91 (.pick (.t 85) (.t 90) kF),iM 92 91,gM 93 92 true 0,gP 94 92 true (.bV (.t 93)),gP 95 92 true (.an 13 (.t 94)),gH 96 92 true (yD 1 95),gH 97 92 true (.call 96 [(.t 96)]),iP 98 (.pick (.t 92) (.t 97) kF),iM 99 98,gM 100 99 true 0,gP 101 99 true (.bV (.t 100)),gP 102 99 true (.an 14 (.t 101)),gH 103 99 true (yD 1 102),gH 104 99 true (.call 97 [(.t 103)]),iP 105 (.pick (.t 99) (.t 104) kF),iM 106 105,gM 107 106 true 0,gP 108 106 true (.bV (.t 107)),gP 109 106 true (.an 15 (.t 108)),gH 110 106 true (yD 1 109),gH 111 106 true (.call 98 [(.t 110)]),iP 112 (.pick (.t 106) (.t 111) kF),iM 113 112,gM 114 113 true 0,gP 115 113 true (.bV (.t 114)),gP 116 113 true (.an 16 (.t 115)),gH 117 113 true (yD 1 116),gH 118 113 true (.call 99 [(.t 117)]),iP 119 (.pick (.t 113) (.t 118) kF),iM 120 119,gM 121 120 true 0,gP 122 120 true (.bV (.t 121)),gP 123 120 true (.an 17 (.t 122)),gH 124 120 true (yD 1 123),gH 125 120 true (.call 100 [(.t 124)]),iP 126 (.pick (.t 120) (.t 125) kF),iM 127 126,gM 128 127 true 0,gP 129 127 true (.bV (.t 128)),gP 130 127 true (.an 18 (.t 129)),gH 131 127 true (yD 1 130),gH 132 127 true (.call 101 [(.t 131)]),iP 133 (.pick (.t 127) (.t 132) kF),iM 134 133,gM 135 134 true 0,gP 136 134 true (.bV (.t 135)),gP 137 134 true (.an 19 (.t 136)),gH 138 134 true (yD 1 137),gH 139 134 true (.call 102 [(.t 138)]),iP 140 (.pick (.t 134) (.t 139) kF),iM 141 140,gM 142 141 true 0,gP 143 141 true (.bV (.t 142)),gP 144 141 true (.an 20 (.t 143)),gH 145 141 true (yD 1 144),gH 146 141 true (.call 103 [(.t 145)]),iP 147 (.pick (.t 141) (.t 146) kF),iM 2 147]) .ret))
theorem ahY:Dk Tryz.prog 52 ady [(.t 2)] 148:=aV Tryz.func52
def adz:IC:=(.seq (.ops [iP 4 (xI 0)]) (.seq (.ops [iM 5 0,iP 6 (.aN .add (.t 5) (kI 7)),iP 7 (.aN .mul (kI 1000003) (.t 6)),iM 8 1,iP 9 (xB .add 7 8),iM 4 9]) .ret))
theorem ahZ:Dk Tryz.prog 39 adz [(.t 4)] 10:=aV Tryz.func39
def gu(k i:Int):Int:=IntKind.i64.wrap (IntKind.i64.wrap (1000003*IntKind.i64.wrap (k+7))+i)
theorem I2(k i:Int)(H:Y):D Tryz.prog 39 [.sc (.int .i64 k),.sc (.int .i64 i)] H (.ret (.sc (.int .i64 (gu k i)))) H:=by
 refine aG (Nat.le_refl _) (ahZ (aA ?_))
 unfold gu
 simp -implicitDefEqProofs (maxSteps:=99999999) only[adz,va,vs,vh,↓reduceIte]
 exact eB.refl _ _ _
def adA:IC:=(.seq (.ops [iP 2 (.mv (.k bG))]) (.seq (.ops [iM 5 0,iP 6 (xL 5),iP 7 (.aN .add (.t 6) (kI 12)),iH 8 (.jN 1 3 (.sc (.int .i64 0)) (kI 0) (.t 7)),iM 3 8]) (.seq (.ops [iM 9 3,iM 10 0,iH 11 (.ez 1 3 (.t 9) (.t 10)),iM 3 11]) (.seq (.seq (.ops [iP 4 (xI 0)]) (.block 0 (.loop (.seq (.seq (.ops [iM 12 4,iP 13 (.aN .lss (.t 12) (kI 12))]) (.cond (.t 13) .skip (.exit 0))) (.seq (.block 1 (.ops [iM 16 3,iM 17 4,iH 18 (.call 39 [(kI 1),(.t 17)]),iH 19 (.ep 1 3 (.sc (.int .i64 0)) 1 [(0,(.t 18))]),iH 20 (.ez 1 3 (.t 16) (.t 19)),iM 3 20])) (.ops [iM 14 4,iP 15 (.aN .add (.t 14) (kI 1)),iM 4 15])))))) (.seq (.ops [iM 21 3,iM 22 0,iP 23 (xL 22),iP 24 (.qC 1 (.t 21) none (some (.t 23)) none),iM 2 24]) .ret)))))
theorem ah0:Dk Tryz.prog 13 adA [(.t 2)] 25:=aV Tryz.func13
def adB:IC:=(.seq (.ops [iP 4 (.mv kF)]) (.seq (.seq (.ops [iM 6 0,iP 7 (xL 6),iM 8 1,iP 9 (xL 8),iP 10 (xB .neq 7 9)]) (.cond (.t 10) (.seq (.ops [iP 4 (.mv kF)]) .ret) .skip)) (.seq (.seq (.ops [iP 5 (xI 0)]) (.block 0 (.loop (.seq (.seq (.ops [iM 11 5,iM 12 0,iP 13 (xL 12),iP 14 (xB .lss 11 13)]) (.cond (.t 14) .skip (.exit 0))) (.seq (.block 1 (.seq (.di [iM 17 0,iM 18 5,iP 19 (xA 1 17 18),iH 20 (yD 1 19),iM 21 1,iM 22 5,iP 23 (xA 1 21 22),iH 24 (yD 1 23),iP 25 (xB .neq 20 24)] [[],[],[0,1],[2,0,1],[],[],[4,5],[6,4,5],[3,2,0,1,7,6,4,5]]) (.cond (.t 25) (.seq (.ops [iP 4 (.mv kF)]) .ret) .skip))) (.ops [iM 15 5,iP 16 (.aN .add (.t 15) (kI 1)),iM 5 16])))))) (.seq (.ops [iP 4 (.mv kT)]) .ret))))
theorem ah1:Dk Tryz.prog 26 adB [(.t 4)] 26:=aV Tryz.func26
def adC:IC:=(.seq (.ops [iP 4 (.mv kF)]) (.seq (.seq (.ops [iM 7 0,iP 8 (xL 7),iM 9 1,iP 10 (xL 9),iP 11 (xB .neq 8 10)]) (.cond (.t 11) (.seq (.ops [iP 4 (.mv kF)]) .ret) .skip)) (.seq (.ops [iM 12 0,iM 13 1,iP 14 (xL 13),iP 15 (.aN .add (.t 14) (kI 12)),iP 16 (.qC 1 (.t 12) none (some (.t 15)) none),iM 5 16]) (.seq (.seq (.ops [iP 6 (xI 0)]) (.block 0 (.loop (.seq (.seq (.ops [iM 17 6,iM 18 5,iP 19 (xL 18),iP 20 (xB .lss 17 19)]) (.cond (.t 20) .skip (.exit 0))) (.seq (.block 1 (.seq (.di [iM 23 6,iM 24 1,iP 25 (xL 24),iP 26 (xB .lss 23 25),iM 27 26,gM 28 27 true 5,gM 29 27 true 6,gP 30 27 true (xA 1 28 29),gH 31 27 true (yD 1 30),gM 32 27 true 1,gM 33 27 true 6,gP 34 27 true (xA 1 32 33),gH 35 27 true (yD 1 34),gP 36 27 true (xB .eql 31 35),gP 37 27 true (xN 36),iP 38 (.pick (.t 27) (.t 37) kF),iM 39 38,gM 40 39 false 6,gM 41 39 false 1,gP 42 39 false (xL 41),gP 43 39 false (xB .geq 40 42),gM 44 39 false 43,gM 45 44 true 5,gM 46 44 true 6,gP 47 44 true (xA 1 45 46),gH 48 44 true (yD 1 47),gM 49 44 true 6,gM 50 44 true 1,gP 51 44 true (xL 50),gP 52 44 true (xB .sub 49 51),gH 53 44 true (.call 39 [(kI 1),(.t 52)]),gP 54 44 true (xB .eql 48 53),gP 55 44 true (xN 54),gP 56 39 false (.pick (.t 44) (.t 55) kF),iP 57 (.pick (.t 39) kT (.t 56))] [[],[],[1],[0,2,1],[3,0,2,1],[4,3,0,2,1],[4,3,0,2,1],[5,4,3,0,2,1,6],[7,5,4,3,0,2,1,6],[4,3,0,2,1],[4,3,0,2,1],[9,4,3,0,2,1,10],[11,9,4,3,0,2,1,10],[8,7,5,4,3,0,2,1,6,12,11,9,10],[13,8,7,5,4,3,0,2,1,6,12,11,9,10],[4,3,0,2,1,14,13,8,7,5,6,12,11,9,10],[15,4,3,0,2,1,14,13,8,7,5,6,12,11,9,10],[16,15,4,3,0,2,1,14,13,8,7,5,6,12,11,9,10],[16,15,4,3,0,2,1,14,13,8,7,5,6,12,11,9,10],[18,16,15,4,3,0,2,1,14,13,8,7,5,6,12,11,9,10],[17,16,15,4,3,0,2,1,14,13,8,7,5,6,12,11,9,10,19,18],[20,17,16,15,4,3,0,2,1,14,13,8,7,5,6,12,11,9,10,19,18],[21,20,17,16,15,4,3,0,2,1,14,13,8,7,5,6,12,11,9,10,19,18],[21,20,17,16,15,4,3,0,2,1,14,13,8,7,5,6,12,11,9,10,19,18],[22,21,20,17,16,15,4,3,0,2,1,14,13,8,7,5,6,12,11,9,10,19,18,23],[24,22,21,20,17,16,15,4,3,0,2,1,14,13,8,7,5,6,12,11,9,10,19,18,23],[21,20,17,16,15,4,3,0,2,1,14,13,8,7,5,6,12,11,9,10,19,18],[21,20,17,16,15,4,3,0,2,1,14,13,8,7,5,6,12,11,9,10,19,18],[27,21,20,17,16,15,4,3,0,2,1,14,13,8,7,5,6,12,11,9,10,19,18],[26,21,20,17,16,15,4,3,0,2,1,14,13,8,7,5,6,12,11,9,10,19,18,28,27],[29,26,21,20,17,16,15,4,3,0,2,1,14,13,8,7,5,6,12,11,9,10,19,18,28,27],[25,24,22,21,20,17,16,15,4,3,0,2,1,14,13,8,7,5,6,12,11,9,10,19,18,23,30,29,26,28,27],[31,25,24,22,21,20,17,16,15,4,3,0,2,1,14,13,8,7,5,6,12,11,9,10,19,18,23,30,29,26,28,27],[21,20,17,16,15,4,3,0,2,1,14,13,8,7,5,6,12,11,9,10,19,18,32,31,25,24,22,23,30,29,26,28,27],[16,15,4,3,0,2,1,14,13,8,7,5,6,12,11,9,10,33,21,20,17,19,18,32,31,25,24,22,23,30,29,26,28,27]]) (.cond (.t 57) (.seq (.ops [iP 4 (.mv kF)]) .ret) .skip))) (.ops [iM 21 6,iP 22 (.aN .add (.t 21) (kI 1)),iM 6 22])))))) (.seq (.ops [iP 4 (.mv kT)]) .ret)))))
theorem ah2:Dk Tryz.prog 17 adC [(.t 4)] 58:=aV Tryz.func17
def aK(l:List Int):List AV:=l.map fun i=>.sc (.int .i64 i)
theorem aB(l:List Int):(aK l).length=l.length:=by simp[aK]
theorem Hf:aK []=[]:=rfl
theorem xD(s:Int)(l:List Int):aK (s::l) = .sc (.int .i64 s)::aK l:=rfl
theorem zu(a b:List Int):aK (a++b)=aK a++aK b:=by simp[aK]
def oa(xs:List Int)(k:Nat):Int:=xs.getD k 0
theorem vC{xs:List Int}{k:Nat}(h:k<xs.length):oa xs k=xs[k]:=by simp[oa,List.getD,h]
theorem lX{l:List Int}{k:Nat}(h:k<l.length):(aK l).getD k .top = .sc (.int .i64 (oa l k)):=by
 simp[aK,oa,List.getD,h]
theorem Hg{xs ys:List Int}(hl:xs.length=ys.length)(h:∀i,i<xs.length→oa xs i=oa ys i):xs=ys:=by
 apply List.ext_getElem hl
 intro i h1 h2
 have:=h i h1
 rwa [vC h1,vC h2] at this
theorem sj{H:Y}{n:Nat}{src:List Nat}:∀{l:List Int},dt H n src (aK l) (aK l)
 |[]=>.nil
 |_::_=>.cons (.same trivial) sj
theorem Ea{H:Y}{l:List Int}{r:Option (List AV)}:View H (.am 1 (aK l) r) (.am 1 (aK l) none):=.am cJ.Tq
theorem ob(a b:List Int)(ra rb:Option (List AV))(H:Y)(hl:a.length≤100000000):D Tryz.prog 26 [.am 1 (aK a) ra,.am 1 (aK b) rb] H (.ret (.sc (.bool (decide (a=b))))) H:=by
 refine aG (Nat.le_refl _) (ah1 (aA ?_))
 simp -implicitDefEqProofs (maxSteps:=99999999) (disch:=omega) only[aB,adB,va,vg,vs,vh,vk,simprocAttr]
 refine dz (fun h=>?_) (fun h=>?_)
 ·have hne:¬a=b:=fun e=>by simp[e] at h
  refine yU (ak @aB hne) ?_
  exact bL .refl
 have eK:a.length=b.length:=by omega
 refine yU @aB ?_
 refine Dj (fun ts H'=>H'=H∧∃k:Nat,(k≤a.length∧∀j,j<k→oa a j=oa b j)∧Fr (some (.am 1 (aK a) ra)::some (.am 1 (aK b) rb)::none::none::some (.sc (.bool false))::some (.sc (.int .i64 k))::fg (dL [])) ts) (fun ts _=>a.length-(aM (ts.getD 5 .top)).toNat) ?_ ?_
 ·exact ⟨rfl,0,⟨Nat.zero_le _,fun j h=>absurd h (Nat.not_lt_zero _)⟩,by simp[Fr]⟩
 rintro ts _ ⟨rfl,k,⟨hk,hp⟩,aX⟩
 obtain ⟨js,rfl⟩:=aX.opened
 clear aX
 refine zI1 @aB ?_
 refine dz (fun h=>?_) (fun h=>?_)
 ·have h1:k<a.length:=by omega
  have h2:k<b.length:=by omega
  simp -implicitDefEqProofs (maxSteps:=99999999) (disch:=omega) only[aB,lX h1,lX h2,va,vg,vs,vh,vk,simprocAttr]
  refine ⟨by omega,by omega,dz (fun h=>?_) (fun h=>?_)⟩
  ·have hne:¬a=b:=fun e=>by simp[e] at h
   refine yU (ak @aB hne) ?_
   exact bL .refl
  ·refine yU @aB ?_
   refine ⟨⟨k+1,⟨by omega,fun j hj=>?_⟩,by simp[Fr]⟩,by omega⟩
   rcases Nat.lt_succ_iff_lt_or_eq.1 hj with h'|rfl
   ·exact hp j h'
   ·exact Classical.not_not.1 h
 ·have hab:a=b:=Hg eK (fun i hi=>hp i (by omega))
  refine yU (ak @aB hab) ?_
  exact bL .refl
def mC(j:Nat):List Int:=(List.range j).map fun i:Nat=>gu 1 (i:Int)
theorem pq{j:Nat}:(mC j).length=j:=by simp[mC]
theorem PK{j:Nat}:mC (j+1)=mC j++[gu 1 j]:=by simp[mC,List.range_succ]
def nC(l:List Int)(j:Nat):List AV:=aK (l++mC j)++List.replicate (12-j) (.sc (.int .i64 0))
theorem FC{l:List Int}{j:Nat}(h:j≤12):(nC l j).length=l.length+12:=by
 simp[nC,aB,pq];omega
theorem I3{l:List Int}:aK l++List.drop l.length (List.replicate (l.length+12) (.sc (.int .i64 0)))=nC l 0:=by
 simp[nC,mC]
theorem PL{l:List Int}{j:Nat}(h:j<12):(nC l j).take (l.length+j)++(.sc (.int .i64 (gu 1 j))::(nC l j).drop (l.length+(j+1)))=nC l (j+1):=by
 have h1:(aK (l++mC j)).length=l.length+j:=by simp[aB,pq]
 unfold nC
 rw[List.take_append_of_le_length (by omega),List.take_of_length_le (by omega),List.drop_append,List.drop_of_length_le (by omega),h1,PK,←List.append_assoc,zu]
 rw[show l.length+(j+1)-(l.length+j)=1 from by omega,List.drop_replicate,show 12-j-1=12-(j+1) from by omega]
 simp[aK]
theorem L4(l:List Int)(ro:Option (List AV))(H:Y)(hl:l.length≤1000000):D Tryz.prog 13 [.am 1 (aK l) ro] H (.ret (.aD 1 H.length 0 l.length (some (l.length+12)))) (some ⟨1,aK (l++mC 12),true,3⟩::H):=by
 refine aG (by simp) (ah0 (aA ?_))
 simp only[adA,ux]
 obtain ⟨m,hm⟩:∃m,m=l.length+12:=⟨_,rfl⟩
 have Eb:((l.length:Int)+12).toNat=m:=by omega
 have cm:l.length≤m:=by omega
 have hS:aK l++List.drop l.length (List.replicate m (.sc (.int .i64 0)))=nC l 0:=by rw[hm];exact I3
 rw[←hm]
 refine Z fun L hL=>?_
 refine yU @aB ?_
 refine hL _ _ ?_
 clear hL
 refine Z fun L hL=>?_
 refine yU (ak @aB Eb) ?_
 refine ⟨by omega,?_⟩
 refine hL _ _ ?_
 clear hL
 refine Z fun L hL=>?_
 simp -implicitDefEqProofs (maxSteps:=99999999) (disch:=omega) only[aB,Eb,List.length_replicate,cm,hS,va,vg,vs,vh,vk,simprocAttr]
 refine ⟨by omega,?_⟩
 refine hL _ _ ?_
 clear hL
 refine Z fun L hL=>?_
 refine yU (ak @aB Eb) ?_
 refine aZ (fun ts H'=>∃j:Nat,j≤12∧H'=some ⟨1,nC l j,true,3⟩::H∧Fr (some (.am 1 (aK l) ro)::none::none::some (.aD 1 H.length 0 (l.length+j) (some m))::some (.sc (.int .i64 j))::fg (dL [])) ts) (fun ts _=>12-(aM (ts.getD 4 .top)).toNat) ⟨0,by omega,rfl,by simp[Fr]⟩ ?_
 rintro ts _ ⟨j,hj,rfl,aX⟩ L2 bM
 obtain ⟨js,rfl⟩:=aX.opened
 clear aX
 refine zI1 @aB ?_
 refine dz (fun h=>?_) (fun h=>?_)
 ·have h1:j<12:=by omega
  have c1:l.length+(j+1)≤m:=by omega
  refine yU @aB ?_
  refine ae (I2 _ _ _) ?_
  have hlen:(nC l j).length=m:=by rw[FC hj,hm]
  simp -implicitDefEqProofs (maxSteps:=99999999) (disch:=omega) only[aB,hlen,PL h1,c1,va,vg,vs,vh,vk,simprocAttr]
  exact ⟨by omega,bM _ _ ⟨j+1,by omega,rfl,by simp[Fr]⟩ (by simp[aM,mk];omega)⟩
 ·have h1:j=12:=by omega
  subst h1
  refine hL _ _ ?_
  clear hL
  have c2:0<m:=by omega
  have e2:nC l 12=aK (l++mC 12):=by simp[nC]
  refine yU (ei @aB c2 @Nat.sub_zero e2) ?_
  exact ⟨⟨by omega,rfl,by omega,by omega⟩,eB.refl _ _ _⟩
theorem Uw{l:List Int}{j n:Nat}(h:j<n):oa (l++mC n) (l.length+j)=gu 1 j:=by
 rw[vC (by simp[pq];exact h)]
 rw[List.getElem_append_right (by omega)]
 simp[mC]
theorem Ux{l m:List Int}{k:Nat}(h:k<l.length):oa (l++m) k=oa l k:=by
 rw[vC (by simp;omega),vC h,List.getElem_append_left h]
theorem L5(l:List Int)(rl:Option (List AV))(H:Y)(id:Nat)(ty:TypeId)(hf:Y.find H id=some ⟨1,aK (l++mC 12),true,ty⟩)(hl:l.length≤1000000) :
  D Tryz.prog 17 [.aD 1 id 0 l.length (some (l.length+12)),.am 1 (aK l) rl] H (.ret (.sc (.bool true))) H:=by
 refine aG (Nat.le_refl _) (ah2 (aA ?_))
 simp only[adC,ux]
 obtain ⟨m,hm⟩:∃m,m=l.length+12:=⟨_,rfl⟩
 have Eb:((l.length:Int)+12).toNat=m:=by omega
 have c0:0<m:=by omega
 have hlen:(l++mC 12).length=m:=by simp[pq];omega
 rw[←hm]
 refine Z fun L hL=>?_
 refine eQ @aB ?_
 refine hL _ _ ?_
 clear hL
 refine Z fun L hL=>?_
 simp -implicitDefEqProofs (maxSteps:=99999999) (disch:=first|omega|(simp only[vl];first|done|omega)) only[aB,ne_eq,va,vg,vs,vw,vk,simprocAttr]
 refine hL _ _ ?_
 clear hL
 refine Z fun L hL=>?_
 refine eQ (ei @aB Eb c0 @Nat.sub_zero) ?_
 refine ⟨⟨by omega,rfl,by omega,by omega⟩,?_⟩
 refine hL _ _ ?_
 clear hL
 refine Z fun L hL=>?_
 refine eQ @aB ?_
 refine aZ (fun ts H'=>∃j:Nat,j≤m∧H'=H∧Fr (some (.aD 1 id 0 l.length (some m))::some (.am 1 (aK l) rl)::none::none::some (.sc (.bool false))::some (.aD 1 id 0 m (some m))::some (.sc (.int .i64 j))::none::none::none::dL (bf [])) ts) (fun ts _=>m-(aM (ts.getD 6 .top)).toNat) ⟨0,by omega,rfl,by simp[Fr]⟩ ?_
 rintro ts _ ⟨j,hj,rfl,aX⟩ L2 bM
 obtain ⟨js,rfl⟩:=aX.opened
 clear aX
 refine df @aB ?_
 refine dz (fun h=>?_) (fun h=>?_)
 ·have h1:j<m:=by omega
  have hg:(aK (l++mC 12)).getD j .top = .sc (.int .i64 (oa (l++mC 12) j)):=lX (by omega)
  by_cases c1:j<l.length
  ·have c2:(j:Int)<l.length:=by omega
   have c3:¬((j:Int)≥l.length):=by omega
   have e1:=Ux (m:=mC 12) c1
   simp -implicitDefEqProofs (maxSteps:=99999999) (disch:=first|omega|(simp only[vl];first|done|omega)) only[aB,hf,aB,hlen,h1,c1,c2,c3,hg,lX c1,e1,va,vg,vs,vw,vk,simprocAttr]
   exact ⟨⟨by omega,by omega⟩,by omega,bM _ _ ⟨j+1,by omega,rfl,by simp[Fr]⟩ (by simp[aM,mk];omega)⟩
  ·obtain ⟨t,rfl⟩:∃t,j=l.length+t:=⟨j-l.length,by omega⟩
   have c2:¬(((l.length+t:Nat):Int)<l.length):=by omega
   have c3:((l.length+t:Nat):Int)≥l.length:=by omega
   have e1:=Uw (l:=l) (j:=t) (n:=12) (by omega)
   have e2:((l.length+t:Nat):Int)-l.length=t:=by omega
   refine eQ (yS @aB hf @aB hlen h1 c1 c2 c3 hg e1 e2) ?_
   refine ⟨⟨by omega,by omega⟩,aL (I2 _ _ _) ?_⟩
   refine eQ (yS @aB hf @aB hlen h1 c1 c2 c3 hg e1 e2) ?_
   exact bM _ _ ⟨l.length+t+1,by omega,rfl,by simp[Fr]⟩ (by simp[aM,mk];omega)
 ·have h1:j=m:=by omega
  refine hL _ _ ?_
  clear hL
  refine eQ @aB ?_
  exact eB.refl _ _ _
def adD:IC:=(.seq (.ops [iP 4 (.mv kF)]) (.seq (.seq (.ops [iM 6 0,iP 7 (xL 6),iM 8 1,iP 9 (xL 8),iP 10 (xB .neq 7 9)]) (.cond (.t 10) (.seq (.ops [iP 4 (.mv kF)]) .ret) .skip)) (.seq (.seq (.ops [iM 11 0,iP 12 (xL 11),iP 13 (xI 0)]) (.block 0 (.loop (.seq (.ops [iP 14 (xB .lss 13 12)]) (.seq (.cond (.t 14) .skip (.exit 0)) (.seq (.block 1 (.seq (.ops [iM 15 13,iM 5 15]) (.seq (.di [iM 16 0,iM 17 5,iP 18 (xA 1 16 17),iH 19 (yD 1 18),iM 20 1,iM 21 5,iP 22 (xA 1 20 21),iH 23 (yD 1 22),iP 24 (xB .neq 19 23)] [[],[],[0,1],[2,0,1],[],[],[4,5],[6,4,5],[3,2,0,1,7,6,4,5]]) (.cond (.t 24) (.seq (.ops [iP 4 (.mv kF)]) .ret) .skip)))) (.ops [iP 25 (.aN .add (.t 13) (kI 1)),iM 13 25]))))))) (.seq (.ops [iP 4 (.mv kT)]) .ret))))
theorem ah3:Dk Tryz.prog 31 adD [(.t 4)] 26:=aV Tryz.func31
def PM:IC:=(.seq (.ops [iP 2 (.mv (.k bG))]) (.seq (.seq (.ops [iM 3 0,iP 4 (.yd true (.t 3))]) (.cond (.t 4) (.seq (.ops [iP 2 (.mv (.k bG))]) .ret) .skip)) (.seq (.ops [iH 5 (.ep 1 3 (.sc (.int .i64 0)) 0 []),iM 6 0,iH 7 (.ez 1 3 (.t 5) (.t 6)),iM 2 7]) .ret)))
theorem af2:Dk Tryz.prog 170 PM [(.t 2)] 8:=aV Tryz.func170
theorem wj(a b:List Int)(ra rb:Option (List AV))(H:Y)(hl:a.length≤100000000):D Tryz.prog 31 [.am 1 (aK a) ra,.am 1 (aK b) rb] H (.ret (.sc (.bool (decide (a=b))))) H:=by
 refine aG (Nat.le_refl _) (ah3 (aA ?_))
 simp -implicitDefEqProofs (maxSteps:=99999999) (disch:=omega) only[adD,aB,va,vg,vs,vh,vk,simprocAttr]
 refine dz (fun h=>?_) (fun h=>?_)
 ·have hne:¬a=b:=fun e=>by simp[e] at h
  refine yU hne ?_
  exact bL .refl
 have eK:a.length=b.length:=by omega
 refine yU @aB ?_
 refine Dj (fun ts H'=>H'=H∧∃k:Nat,(k≤a.length∧∀j,j<k→oa a j=oa b j)∧Fr (some (.am 1 (aK a) ra)::some (.am 1 (aK b) rb)::none::none::some (.sc (.bool false))::none::none::none::fg (some (.sc (.int .i64 a.length))::some (.sc (.int .i64 k))::fg (iv []))) ts) (fun ts _=>a.length-(aM (ts.getD 13 .top)).toNat) ?_ ?_
 ·exact ⟨rfl,0,⟨Nat.zero_le _,fun j h=>absurd h (Nat.not_lt_zero _)⟩,by simp[Fr]⟩
 rintro ts _ ⟨rfl,k,⟨hk,hp⟩,aX⟩
 obtain ⟨js,rfl⟩:=aX.opened
 clear aX
 refine zI0 ?_
 refine dz (fun h=>?_) (fun h=>?_)
 ·have h1:k<a.length:=by omega
  have h2:k<b.length:=by omega
  simp -implicitDefEqProofs (maxSteps:=99999999) (disch:=omega) only[lX h1,lX h2,aB,va,vg,vs,vh,vk,simprocAttr]
  refine ⟨by omega,by omega,dz (fun h=>?_) (fun h=>?_)⟩
  ·have hne:¬a=b:=fun e=>by simp[e] at h
   refine yU hne ?_
   exact bL .refl
  ·refine zD0 ?_
   refine ⟨⟨k+1,⟨by omega,fun j hj=>?_⟩,by simp[Fr]⟩,by omega⟩
   rcases Nat.lt_succ_iff_lt_or_eq.1 hj with h'|rfl
   ·exact hp j h'
   ·exact Classical.not_not.1 h
 ·have hab:a=b:=Hg eK (fun i hi=>hp i (by omega))
  refine yU hab ?_
  exact bL .refl
def adE:IC:=(.seq (.ops [iH 1 (.box 4 25 (.t 0)),iP 2 (.mv (.k bG))]) (.seq (.ops [iH 10 (yA 4 1),iH 11 (.call 54 [(.t 10)]),iH 3 (.alloc (.agg [(.sc (.int .i64 0)),(.sc (.int .i64 0))]) 93),iS 2 3 11]) (.seq (.seq (.ops [iP 12 (.an 0 (.t 3)),iH 13 (yD 1 12),iP 14 (.aN .neq (.t 13) (kI 0))]) (.cond (.t 14) (.seq (.ops [iP 2 (.mv (.k bG))]) .ret) .skip)) (.seq (.ops [iP 4 (.mv (.k bG))]) (.seq (.ops [iH 15 (yA 4 1),iH 16 (.call 55 [(.t 15)]),iM 5 16]) (.seq (.seq (.ops [iP 6 (xI 0)]) (.block 0 (.loop (.seq (.seq (.ops [iM 17 6,iM 18 5,iP 19 (xL 18),iP 20 (xB .lss 17 19)]) (.cond (.t 20) .skip (.exit 0))) (.seq (.block 1 (.seq (.ops [iM 23 5,iM 24 6,iP 25 (xA 5 23 24),iP 26 (.an 0 (.t 25)),iP 27 (.an 0 (.t 26)),iH 28 (yD 1 27),iM 7 28]) (.seq (.seq (.ops [iM 29 7,iP 30 (.aN .neq (.t 29) (.k (.sc (.int .u8 2)))),iM 31 30,gM 32 31 true 7,gP 33 31 true (.aN .neq (.t 32) (.k (.sc (.int .u8 4)))),iP 34 (.pick (.t 31) (.t 33) kF),iM 35 34,gM 36 35 true 7,gP 37 35 true (.aN .neq (.t 36) (.k (.sc (.int .u8 6)))),iP 38 (.pick (.t 35) (.t 37) kF)]) (.cond (.t 38) (.exit 1) .skip)) (.seq (.di [⟨(some 8),none,(.h (.alloc (.agg [bG,(.sc (.string ⟨#[]⟩)),bG]) 47))⟩,iH 39 (.ep 1 3 (.sc (.int .i64 0)) 0 []),iM 40 5,iM 41 6,iP 42 (xA 5 40 41),iP 43 (.an 4 (.t 42)),iH 44 (yD 1 43),iH 45 (.ez 1 3 (.t 39) (.t 44)),iM 46 5,iM 47 6,iP 48 (xA 5 46 47),iP 49 (.an 0 (.t 48)),iP 50 (.an 1 (.t 49)),iH 51 (yD 1 50),⟨(some 52),none,(.p (.build [bG,(.sc (.string ⟨#[]⟩)),bG] [(0,1,(.t 45)),(1,1,(.t 51))]))⟩,iS 3 8 52] [[],[],[],[],[2,3],[4,2,3],[5,4,2,3],[1,6,5,4,2,3],[],[],[8,9],[10,8,9],[11,10,8,9],[12,11,10,8,9],[7,1,6,5,4,2,3,13,12,11,10,8,9],[0,14,7,1,6,5,4,2,3,13,12,11,10,8,9]]) (.seq (.seq (.ops [iP 9 (xI 0)]) (.block 2 (.loop (.seq (.seq (.ops [iM 53 9,iM 54 5,iP 55 (xL 54),iP 56 (xB .lss 53 55)]) (.cond (.t 56) .skip (.exit 2))) (.seq (.block 3 (.seq (.ops [iM 59 5,iM 60 9,iP 61 (xA 5 59 60),iP 62 (.an 0 (.t 61)),iP 63 (.an 0 (.t 62)),iH 64 (yD 1 63),iP 65 (.aN .eql (.t 64) (.k (.sc (.int .u8 22)))),iM 66 65,gM 67 66 false 5,gM 68 66 false 9,gP 69 66 false (xA 5 67 68),gP 70 66 false (.an 0 (.t 69)),gP 71 66 false (.an 0 (.t 70)),gH 72 66 false (yD 1 71),gP 73 66 false (.aN .eql (.t 72) (.k (.sc (.int .u8 25)))),iP 74 (.pick (.t 66) kT (.t 73)),iM 75 74,gM 76 75 true 5,gM 77 75 true 9,gH 78 75 true (yC 56 76 77),gM 79 75 true 6,gP 80 75 true (xB .eql 78 79),iP 81 (.pick (.t 75) (.t 80) kF)]) (.cond (.t 81) (.di [iP 82 (.an 2 (.t 8)),iH 83 (yD 1 82),iH 84 (.ep 1 3 (.sc (.int .i64 0)) 0 []),iM 85 5,iM 86 9,iP 87 (xA 5 85 86),iP 88 (.an 4 (.t 87)),iH 89 (yD 1 88),iH 90 (.ez 1 3 (.t 84) (.t 89)),iH 91 (.ep 1 30 bG 1 [(0,(.t 90))]),iH 92 (.ez 1 30 (.t 83) (.t 91)),iP 93 (.an 2 (.t 8)),iS 1 93 92] [[],[0],[],[],[],[3,4],[5,3,4],[6,5,3,4],[2,7,6,5,3,4],[8,2,7,6,5,3,4],[1,0,9,8,2,7,6,5,3,4],[0,1,2,3,4,5,6,7,8,9,10],[11,0,1,2,3,4,5,6,7,8,9,10]]) .skip))) (.ops [iM 57 9,iP 58 (.aN .add (.t 57) (kI 1)),iM 9 58])))))) (.ops [iM 94 4,iH 95 (yA 3 8),⟨(some 96),none,(.h (.ep 3 47 (.agg [bG,(.sc (.string ⟨#[]⟩)),bG]) 1 [(0,(.t 95))]))⟩,iH 97 (.ez 3 47 (.t 94) (.t 96)),iM 4 97])))))) (.ops [iM 21 6,iP 22 (.aN .add (.t 21) (kI 1)),iM 6 22])))))) (.seq (.ops [iM 98 4,iM 2 98]) .ret)))))))
theorem ah4:Dk Tryz.prog 21 adE [(.t 2)] 99:=aV Tryz.func21
def adF:IC:=(.seq (.ops [iH 1 (.box 4 25 (.t 0)),iH 2 (.alloc (.agg [(.sc (.int .i64 0)),(.sc (.int .i64 0))]) 93)]) (.seq (.seq (.ops [iP 8 (.an 0 (.t 1)),iH 9 (yD 1 8),iP 10 (.aN .neq (.t 9) (.k (.sc (.int .u8 1)))),iM 11 10,gH 12 11 false (yA 4 1),gH 13 11 false (.call 46 [(.t 12)]),gP 14 11 false (xN 13),iP 15 (.pick (.t 11) kT (.t 14))]) (.cond (.t 15) (.seq (.ops [iP 16 (.build [(.sc (.int .i64 0)),(.sc (.int .i64 0))] [(0,1,(kI 4))]),iS 2 2 16]) .ret) .skip)) (.seq (.ops [iH 17 (yA 4 1),iH 18 (.call 55 [(.t 17)]),iM 3 18]) (.seq (.seq (.ops [iP 4 (xI 0)]) (.block 0 (.loop (.seq (.seq (.ops [iM 19 4,iM 20 3,iP 21 (xL 20),iP 22 (xB .lss 19 21)]) (.cond (.t 22) .skip (.exit 0))) (.seq (.block 1 (.seq (.ops [iM 25 3,iM 26 4,iP 27 (xA 5 25 26),iP 28 (.an 0 (.t 27)),iP 29 (.an 0 (.t 28)),iH 30 (yD 1 29),iP 31 (.aN .eql (.t 30) (.k (.sc (.int .u8 2)))),iM 32 31,gM 33 32 true 3,gM 34 32 true 4,gH 35 32 true (yC 106 33 34),iP 36 (.pick (.t 32) (.t 35) kF)]) (.cond (.t 36) (.seq (.ops [iM 37 4,iP 38 (.build [(.sc (.int .i64 0)),(.sc (.int .i64 0))] [(0,1,(kI 110)),(1,1,(.t 37))]),iS 2 2 38]) .ret) .skip))) (.ops [iM 23 4,iP 24 (.aN .add (.t 23) (kI 1)),iM 4 24])))))) (.seq (.seq (.ops [iP 5 (xI 0)]) (.block 2 (.loop (.seq (.seq (.ops [iM 39 5,iM 40 3,iP 41 (xL 40),iP 42 (xB .lss 39 41)]) (.cond (.t 42) .skip (.exit 2))) (.seq (.block 3 (.seq (.ops [iM 45 3,iM 46 5,iP 47 (xA 5 45 46),iP 48 (.an 0 (.t 47)),iP 49 (.an 0 (.t 48)),iH 50 (yD 1 49),iM 6 50]) (.seq (.seq (.ops [iM 51 6,iP 52 (.aN .eql (.t 51) (.k (.sc (.int .u8 4)))),iM 53 52,gM 54 53 false 6,gP 55 53 false (.aN .eql (.t 54) (.k (.sc (.int .u8 6)))),iP 56 (.pick (.t 53) kT (.t 55)),iM 57 56,gM 58 57 true 3,gM 59 57 true 5,gH 60 57 true (yC 106 58 59),iP 61 (.pick (.t 57) (.t 60) kF)]) (.cond (.t 61) (.seq (.ops [iM 62 5,iP 63 (.build [(.sc (.int .i64 0)),(.sc (.int .i64 0))] [(0,1,(kI 110)),(1,1,(.t 62))]),iS 2 2 63]) .ret) .skip)) (.seq (.seq (.ops [iM 64 6,iP 65 (.aN .neq (.t 64) (.k (.sc (.int .u8 22)))),iM 66 65,gM 67 66 true 6,gP 68 66 true (.aN .neq (.t 67) (.k (.sc (.int .u8 25)))),iP 69 (.pick (.t 66) (.t 68) kF)]) (.cond (.t 69) (.exit 3) .skip)) (.seq (.ops [iM 70 3,iM 71 5,iH 72 (yC 56 70 71),iM 7 72]) (.seq (.seq (.ops [iM 73 7,iP 74 (.aN .lss (.t 73) (kI 0))]) (.cond (.t 74) (.seq (.ops [iM 75 5,iP 76 (.build [(.sc (.int .i64 0)),(.sc (.int .i64 0))] [(0,1,(kI 111)),(1,1,(.t 75))]),iS 2 2 76]) .ret) .skip)) (.seq (.di [iM 77 6,iP 78 (.aN .eql (.t 77) (.k (.sc (.int .u8 25)))),iM 79 78,gM 80 79 true 3,gM 81 79 true 7,gP 82 79 true (xA 5 80 81),gP 83 79 true (.an 0 (.t 82)),gP 84 79 true (.an 3 (.t 83)),gH 85 79 true (yD 1 84),gP 86 79 true (.gm 4 (.t 85) (kI 0)),gP 87 79 true (.an 3 (.t 86)),gH 88 79 true (yD 1 87),gP 89 79 true (xL 88),gM 90 79 true 3,gM 91 79 true 5,gP 92 79 true (xA 5 90 91),gP 93 79 true (.an 0 (.t 92)),gP 94 79 true (.an 3 (.t 93)),gH 95 79 true (yD 1 94),gP 96 79 true (xL 95),gP 97 79 true (xB .neq 89 96),iP 98 (.pick (.t 79) (.t 97) kF)] [[],[0],[1,0],[2,1,0],[2,1,0],[3,2,1,0,4],[5,3,2,1,0,4],[6,5,3,2,1,0,4],[7,6,5,3,2,1,0,4],[8,7,6,5,3,2,1,0,4],[9,8,7,6,5,3,2,1,0,4],[10,9,8,7,6,5,3,2,1,0,4],[11,10,9,8,7,6,5,3,2,1,0,4],[2,1,0],[2,1,0],[13,2,1,0,14],[15,13,2,1,0,14],[16,15,13,2,1,0,14],[17,16,15,13,2,1,0,14],[18,17,16,15,13,2,1,0,14],[12,11,10,9,8,7,6,5,3,2,1,0,4,19,18,17,16,15,13,14],[2,1,0,20,12,11,10,9,8,7,6,5,3,4,19,18,17,16,15,13,14]]) (.cond (.t 98) (.seq (.ops [iM 99 5,iP 100 (.build [(.sc (.int .i64 0)),(.sc (.int .i64 0))] [(0,1,(kI 112)),(1,1,(.t 99))]),iS 2 2 100]) .ret) .skip)))))))) (.ops [iM 43 5,iP 44 (.aN .add (.t 43) (kI 1)),iM 5 44])))))) (.seq (.ops [iP 101 (.build [(.sc (.int .i64 0)),(.sc (.int .i64 0))] []),iS 2 2 101]) .ret))))))
theorem ah5:Dk Tryz.prog 54 adF [(.c 2 2 true)] 102:=aV Tryz.func54
def adG:IC:=(.seq (.ops [iH 1 (.box 4 25 (.t 0)),iP 2 (.mv (.k bG))]) (.seq (.ops [iH 3 (yA 4 1),iH 4 (.call 107 [(.k bG),(.t 3),(.k bG)]),iM 2 4]) .ret))
theorem ah6:Dk Tryz.prog 55 adG [(.t 2)] 5:=aV Tryz.func55
def adH:IC:=(.seq (.ops [iP 4 (xI 0)]) (.seq (.ops [iP 5 (xI (-1))]) (.seq (.seq (.ops [iP 6 (xI 0)]) (.block 0 (.loop (.seq (.seq (.ops [iM 8 6,iM 9 0,iP 10 (xL 9),iP 11 (xB .lss 8 10)]) (.cond (.t 11) .skip (.exit 0))) (.seq (.block 1 (.seq (.ops [iM 14 0,iM 15 6,iP 16 (xA 5 14 15),iP 17 (.an 0 (.t 16)),iP 18 (.an 0 (.t 17)),iH 19 (yD 1 18),iM 7 19]) (.seq (.seq (.di [iM 20 0,iM 21 6,iP 22 (xA 5 20 21),iP 23 (.an 0 (.t 22)),iP 24 (.an 1 (.t 23)),iH 25 (yD 1 24),iM 26 0,iM 27 1,iP 28 (xA 5 26 27),iP 29 (.an 0 (.t 28)),iP 30 (.an 1 (.t 29)),iH 31 (yD 1 30),iP 32 (xB .neq 25 31)] [[],[],[0,1],[2,0,1],[3,2,0,1],[4,3,2,0,1],[],[],[6,7],[8,6,7],[9,8,6,7],[10,9,8,6,7],[5,4,3,2,0,1,11,10,9,8,6,7]]) (.cond (.t 32) (.exit 1) .skip)) (.seq (.seq (.ops [iM 33 0,iM 34 1,iP 35 (xA 5 33 34),iP 36 (.an 0 (.t 35)),iP 37 (.an 0 (.t 36)),iH 38 (yD 1 37),iP 39 (.aN .eql (.t 38) (.k (.sc (.int .u8 25))))]) (.cond (.t 39) (.seq (.seq (.ops [iM 40 7,iP 41 (.aN .eql (.t 40) (.k (.sc (.int .u8 2)))),iM 42 41,gM 43 42 true 5,gP 44 42 true (.aN .lss (.t 43) (kI 0)),iP 45 (.pick (.t 42) (.t 44) kF)]) (.cond (.t 45) (.ops [iM 46 6,iM 5 46]) .skip)) (.exit 1)) .skip)) (.seq (.di [iM 47 7,iP 48 (.aN .eql (.t 47) (.k (.sc (.int .u8 4)))),iM 49 48,gM 50 49 false 7,gP 51 49 false (.aN .eql (.t 50) (.k (.sc (.int .u8 6)))),iP 52 (.pick (.t 49) kT (.t 51)),iM 53 52,gM 54 53 true 0,gM 55 53 true 6,gP 56 53 true (xA 5 54 55),gH 57 53 true (yA 5 56),gM 58 53 true 0,gM 59 53 true 1,gP 60 53 true (xA 5 58 59),gP 61 53 true (.an 4 (.t 60)),gH 62 53 true (yD 1 61),gH 63 53 true (yC 108 57 62),iP 64 (.pick (.t 53) (.t 63) kF)] [[],[0],[1,0],[2,1,0],[3,2,1,0],[2,1,0,4,3],[5,2,1,0,4,3],[6,5,2,1,0,4,3],[6,5,2,1,0,4,3],[7,6,5,2,1,0,4,3,8],[9,7,6,5,2,1,0,4,3,8],[6,5,2,1,0,4,3],[6,5,2,1,0,4,3],[11,6,5,2,1,0,4,3,12],[13,11,6,5,2,1,0,4,3,12],[14,13,11,6,5,2,1,0,4,3,12],[10,9,7,6,5,2,1,0,4,3,8,15,14,13,11,12],[6,5,2,1,0,4,3,16,10,9,7,8,15,14,13,11,12]]) (.cond (.t 64) (.ops [iM 65 6,iM 5 65]) .skip)))))) (.ops [iM 12 6,iP 13 (.aN .add (.t 12) (kI 1)),iM 6 13])))))) (.seq (.ops [iM 66 5,iM 4 66]) .ret))))
theorem ah7:Dk Tryz.prog 56 adH [(.t 4)] 67:=aV Tryz.func56
def YW:IC:=(.seq (.ops [iP 4 (.mv kF)]) (.seq (.ops [iM 7 0,iM 8 1,iP 9 (xA 5 7 8),iP 10 (.an 4 (.t 9)),iH 11 (yD 1 10),iP 12 (xL 11),iM 5 12]) (.seq (.seq (.ops [iP 6 (xI 0)]) (.block 0 (.loop (.seq (.seq (.ops [iM 13 6,iM 14 1,iP 15 (xB .lss 13 14)]) (.cond (.t 15) .skip (.exit 0))) (.seq (.block 1 (.seq (.di [iM 18 0,iM 19 6,iP 20 (xA 5 18 19),iP 21 (.an 0 (.t 20)),iP 22 (.an 0 (.t 21)),iH 23 (yD 1 22),iM 24 0,iM 25 1,iP 26 (xA 5 24 25),iP 27 (.an 0 (.t 26)),iP 28 (.an 0 (.t 27)),iH 29 (yD 1 28),iP 30 (xB .eql 23 29),iM 31 30,gM 32 31 true 0,gM 33 31 true 6,gP 34 31 true (xA 5 32 33),gP 35 31 true (.an 0 (.t 34)),gP 36 31 true (.an 1 (.t 35)),gH 37 31 true (yD 1 36),gM 38 31 true 0,gM 39 31 true 1,gP 40 31 true (xA 5 38 39),gP 41 31 true (.an 0 (.t 40)),gP 42 31 true (.an 1 (.t 41)),gH 43 31 true (yD 1 42),gP 44 31 true (xB .eql 37 43),iP 45 (.pick (.t 31) (.t 44) kF),iM 46 45,gM 47 46 true 0,gM 48 46 true 6,gP 49 46 true (xA 5 47 48),gP 50 46 true (.an 4 (.t 49)),gH 51 46 true (yD 1 50),gP 52 46 true (xL 51),gM 53 46 true 5,gP 54 46 true (xB .eql 52 53),iP 55 (.pick (.t 46) (.t 54) kF),iM 56 55,gM 57 56 true 0,gM 58 56 true 6,gP 59 56 true (xA 5 57 58),gP 60 56 true (.an 4 (.t 59)),gH 61 56 true (yD 1 60),gM 62 56 true 0,gM 63 56 true 1,gP 64 56 true (xA 5 62 63),gP 65 56 true (.an 4 (.t 64)),gH 66 56 true (yD 1 65),gM 67 56 true 5,gP 68 56 true (.aN .sub (.t 67) (kI 1)),gP 69 56 true (.qC 1 (.t 66) none (some (.t 68)) none),gH 70 56 true (yC 168 61 69),iP 71 (.pick (.t 56) (.t 70) kF)] [[],[],[0,1],[2,0,1],[3,2,0,1],[4,3,2,0,1],[],[],[6,7],[8,6,7],[9,8,6,7],[10,9,8,6,7],[5,4,3,2,0,1,11,10,9,8,6,7],[12,5,4,3,2,0,1,11,10,9,8,6,7],[13,12,5,4,3,2,0,1,11,10,9,8,6,7],[13,12,5,4,3,2,0,1,11,10,9,8,6,7],[14,13,12,5,4,3,2,0,1,11,10,9,8,6,7,15],[16,14,13,12,5,4,3,2,0,1,11,10,9,8,6,7,15],[17,16,14,13,12,5,4,3,2,0,1,11,10,9,8,6,7,15],[18,17,16,14,13,12,5,4,3,2,0,1,11,10,9,8,6,7,15],[13,12,5,4,3,2,0,1,11,10,9,8,6,7],[13,12,5,4,3,2,0,1,11,10,9,8,6,7],[20,13,12,5,4,3,2,0,1,11,10,9,8,6,7,21],[22,20,13,12,5,4,3,2,0,1,11,10,9,8,6,7,21],[23,22,20,13,12,5,4,3,2,0,1,11,10,9,8,6,7,21],[24,23,22,20,13,12,5,4,3,2,0,1,11,10,9,8,6,7,21],[19,18,17,16,14,13,12,5,4,3,2,0,1,11,10,9,8,6,7,15,25,24,23,22,20,21],[13,12,5,4,3,2,0,1,11,10,9,8,6,7,26,19,18,17,16,14,15,25,24,23,22,20,21],[27,13,12,5,4,3,2,0,1,11,10,9,8,6,7,26,19,18,17,16,14,15,25,24,23,22,20,21],[28,27,13,12,5,4,3,2,0,1,11,10,9,8,6,7,26,19,18,17,16,14,15,25,24,23,22,20,21],[28,27,13,12,5,4,3,2,0,1,11,10,9,8,6,7,26,19,18,17,16,14,15,25,24,23,22,20,21],[29,28,27,13,12,5,4,3,2,0,1,11,10,9,8,6,7,26,19,18,17,16,14,15,25,24,23,22,20,21,30],[31,29,28,27,13,12,5,4,3,2,0,1,11,10,9,8,6,7,26,19,18,17,16,14,15,25,24,23,22,20,21,30],[32,31,29,28,27,13,12,5,4,3,2,0,1,11,10,9,8,6,7,26,19,18,17,16,14,15,25,24,23,22,20,21,30],[33,32,31,29,28,27,13,12,5,4,3,2,0,1,11,10,9,8,6,7,26,19,18,17,16,14,15,25,24,23,22,20,21,30],[28,27,13,12,5,4,3,2,0,1,11,10,9,8,6,7,26,19,18,17,16,14,15,25,24,23,22,20,21],[34,33,32,31,29,28,27,13,12,5,4,3,2,0,1,11,10,9,8,6,7,26,19,18,17,16,14,15,25,24,23,22,20,21,30,35],[28,27,13,12,5,4,3,2,0,1,11,10,9,8,6,7,26,19,18,17,16,14,15,25,24,23,22,20,21,36,34,33,32,31,29,30,35],[37,28,27,13,12,5,4,3,2,0,1,11,10,9,8,6,7,26,19,18,17,16,14,15,25,24,23,22,20,21,36,34,33,32,31,29,30,35],[38,37,28,27,13,12,5,4,3,2,0,1,11,10,9,8,6,7,26,19,18,17,16,14,15,25,24,23,22,20,21,36,34,33,32,31,29,30,35],[38,37,28,27,13,12,5,4,3,2,0,1,11,10,9,8,6,7,26,19,18,17,16,14,15,25,24,23,22,20,21,36,34,33,32,31,29,30,35],[39,38,37,28,27,13,12,5,4,3,2,0,1,11,10,9,8,6,7,26,19,18,17,16,14,15,25,24,23,22,20,21,36,34,33,32,31,29,30,35,40],[41,39,38,37,28,27,13,12,5,4,3,2,0,1,11,10,9,8,6,7,26,19,18,17,16,14,15,25,24,23,22,20,21,36,34,33,32,31,29,30,35,40],[42,41,39,38,37,28,27,13,12,5,4,3,2,0,1,11,10,9,8,6,7,26,19,18,17,16,14,15,25,24,23,22,20,21,36,34,33,32,31,29,30,35,40],[38,37,28,27,13,12,5,4,3,2,0,1,11,10,9,8,6,7,26,19,18,17,16,14,15,25,24,23,22,20,21,36,34,33,32,31,29,30,35],[38,37,28,27,13,12,5,4,3,2,0,1,11,10,9,8,6,7,26,19,18,17,16,14,15,25,24,23,22,20,21,36,34,33,32,31,29,30,35],[44,38,37,28,27,13,12,5,4,3,2,0,1,11,10,9,8,6,7,26,19,18,17,16,14,15,25,24,23,22,20,21,36,34,33,32,31,29,30,35,45],[46,44,38,37,28,27,13,12,5,4,3,2,0,1,11,10,9,8,6,7,26,19,18,17,16,14,15,25,24,23,22,20,21,36,34,33,32,31,29,30,35,45],[47,46,44,38,37,28,27,13,12,5,4,3,2,0,1,11,10,9,8,6,7,26,19,18,17,16,14,15,25,24,23,22,20,21,36,34,33,32,31,29,30,35,45],[38,37,28,27,13,12,5,4,3,2,0,1,11,10,9,8,6,7,26,19,18,17,16,14,15,25,24,23,22,20,21,36,34,33,32,31,29,30,35],[49,38,37,28,27,13,12,5,4,3,2,0,1,11,10,9,8,6,7,26,19,18,17,16,14,15,25,24,23,22,20,21,36,34,33,32,31,29,30,35],[48,47,46,44,38,37,28,27,13,12,5,4,3,2,0,1,11,10,9,8,6,7,26,19,18,17,16,14,15,25,24,23,22,20,21,36,34,33,32,31,29,30,35,45,50,49],[43,42,41,39,38,37,28,27,13,12,5,4,3,2,0,1,11,10,9,8,6,7,26,19,18,17,16,14,15,25,24,23,22,20,21,36,34,33,32,31,29,30,35,40,51,48,47,46,44,45,50,49],[38,37,28,27,13,12,5,4,3,2,0,1,11,10,9,8,6,7,26,19,18,17,16,14,15,25,24,23,22,20,21,36,34,33,32,31,29,30,35,52,43,42,41,39,40,51,48,47,46,44,45,50,49]]) (.cond (.t 71) (.seq (.ops [iP 4 (.mv kT)]) .ret) .skip))) (.ops [iM 16 6,iP 17 (.aN .add (.t 16) (kI 1)),iM 6 17])))))) (.seq (.ops [iP 4 (.mv kF)]) .ret))))
theorem af3:Dk Tryz.prog 106 YW [(.t 4)] 72:=aV Tryz.func106
def YX:IC:=(.seq (.ops [iH 4 (.box 4 25 (.t 1)),iP 6 (.mv (.k bG))]) (.seq (.di [iM 8 0,iH 9 (yA 4 4),iH 10 (.ep 1 3 (.sc (.int .i64 0)) 0 []),iM 11 2,iH 12 (.ez 1 3 (.t 10) (.t 11)),⟨(some 13),none,(.p (.build [(.sc (.int .u8 0)),(.sc (.string ⟨#[]⟩)),(.sc (.int .i64 0)),bG,bG] [(0,4,(.t 9)),(4,1,(.t 12))]))⟩,⟨(some 14),none,(.h (.ep 5 100 (.agg [(.sc (.int .u8 0)),(.sc (.string ⟨#[]⟩)),(.sc (.int .i64 0)),bG,bG]) 1 [(0,(.t 13))]))⟩,iH 15 (.ez 5 100 (.t 8) (.t 14)),iM 0 15] [[],[],[],[],[2,3],[1,4,2,3],[5,1,4,2,3],[0,6,5,1,4,2,3],[7,0,6,5,1,4,2,3]]) (.seq (.seq (.ops [iP 7 (xI 0)]) (.block 0 (.loop (.seq (.seq (.ops [iM 16 7,iP 17 (.an 3 (.t 4)),iH 18 (yD 1 17),iP 19 (xL 18),iP 20 (xB .lss 16 19)]) (.cond (.t 20) .skip (.exit 0))) (.seq (.block 1 (.di [iM 23 0,iP 24 (.an 3 (.t 4)),iH 25 (yD 1 24),iM 26 7,iP 27 (xA 4 25 26),iH 28 (yA 4 27),iH 29 (.ep 1 3 (.sc (.int .i64 0)) 0 []),iM 30 2,iH 31 (.ez 1 3 (.t 29) (.t 30)),iM 32 7,iH 33 (.ep 1 3 (.sc (.int .i64 0)) 1 [(0,(.t 32))]),iH 34 (.ez 1 3 (.t 31) (.t 33)),iH 35 (.call 107 [(.t 23),(.t 28),(.t 34)]),iM 0 35] [[],[],[1],[],[2,1,3],[4,2,1,3],[],[],[6,7],[],[9],[8,6,7,10,9],[0,5,4,2,1,3,11,8,6,7,10,9],[12,0,5,4,2,1,3,11,8,6,7,10,9]])) (.ops [iM 21 7,iP 22 (.aN .add (.t 21) (kI 1)),iM 7 22])))))) (.seq (.ops [iM 36 0,iM 6 36]) .ret))))
theorem af4:Dk Tryz.prog 107 YX [(.t 6)] 37:=aV Tryz.func107
def PN:IC:=(.seq (.ops [iH 2 (.box 5 100 (.t 0)),iP 4 (.mv kF)]) (.seq (.ops [iP 7 (.an 4 (.t 2)),iH 8 (yD 1 7),iP 9 (xL 8),iM 5 9]) (.seq (.seq (.ops [iP 10 (.an 0 (.t 2)),iP 11 (.an 0 (.t 10)),iH 12 (yD 1 11),iP 13 (.aN .eql (.t 12) (.k (.sc (.int .u8 4))))]) (.cond (.t 13) (.seq (.ops [iH 14 (.ep 1 3 (.sc (.int .i64 0)) 0 []),iP 15 (.an 4 (.t 2)),iH 16 (yD 1 15),iM 17 5,iP 18 (.aN .sub (.t 17) (kI 2)),iP 19 (.qC 1 (.t 16) none (some (.t 18)) none),iH 20 (.ez 1 3 (.t 14) (.t 19)),iH 21 (.ep 1 3 (.sc (.int .i64 0)) 1 [(0,(kI 1))]),iH 22 (.ez 1 3 (.t 20) (.t 21)),iM 6 22]) (.seq (.ops [iM 23 1,iM 24 6,iH 25 (yC 168 23 24),iM 4 25]) .ret)) .skip)) (.seq (.di [iM 26 1,iP 27 (xL 26),iM 28 5,iP 29 (xB .geq 27 28),iM 30 29,gM 31 30 true 1,gP 32 30 true (.an 4 (.t 2)),gH 33 30 true (yD 1 32),gM 34 30 true 5,gP 35 30 true (.aN .sub (.t 34) (kI 1)),gP 36 30 true (.qC 1 (.t 33) none (some (.t 35)) none),gH 37 30 true (yC 168 31 36),iP 38 (.pick (.t 30) (.t 37) kF),iM 39 38,gM 40 39 true 1,gM 41 39 true 5,gP 42 39 true (.aN .sub (.t 41) (kI 1)),gP 43 39 true (xA 1 40 42),gH 44 39 true (yD 1 43),gP 45 39 true (.an 4 (.t 2)),gH 46 39 true (yD 1 45),gM 47 39 true 5,gP 48 39 true (.aN .sub (.t 47) (kI 1)),gP 49 39 true (xA 1 46 48),gH 50 39 true (yD 1 49),gP 51 39 true (xB .gtr 44 50),iP 52 (.pick (.t 39) (.t 51) kF),iM 4 52] [[],[0],[],[1,0,2],[3,1,0,2],[4,3,1,0,2],[4,3,1,0,2],[6,4,3,1,0,2],[4,3,1,0,2],[8,4,3,1,0,2],[7,6,4,3,1,0,2,9,8],[5,4,3,1,0,2,10,7,6,9,8],[4,3,1,0,2,11,5,10,7,6,9,8],[12,4,3,1,0,2,11,5,10,7,6,9,8],[13,12,4,3,1,0,2,11,5,10,7,6,9,8],[13,12,4,3,1,0,2,11,5,10,7,6,9,8],[15,13,12,4,3,1,0,2,11,5,10,7,6,9,8],[14,13,12,4,3,1,0,2,11,5,10,7,6,9,8,16,15],[17,14,13,12,4,3,1,0,2,11,5,10,7,6,9,8,16,15],[13,12,4,3,1,0,2,11,5,10,7,6,9,8],[19,13,12,4,3,1,0,2,11,5,10,7,6,9,8],[13,12,4,3,1,0,2,11,5,10,7,6,9,8],[21,13,12,4,3,1,0,2,11,5,10,7,6,9,8],[20,19,13,12,4,3,1,0,2,11,5,10,7,6,9,8,22,21],[23,20,19,13,12,4,3,1,0,2,11,5,10,7,6,9,8,22,21],[18,17,14,13,12,4,3,1,0,2,11,5,10,7,6,9,8,16,15,24,23,20,19,22,21],[13,12,4,3,1,0,2,11,5,10,7,6,9,8,25,18,17,14,16,15,24,23,20,19,22,21],[26,13,12,4,3,1,0,2,11,5,10,7,6,9,8,25,18,17,14,16,15,24,23,20,19,22,21]]) .ret))))
theorem YY:Dk Tryz.prog 108 PN [(.t 4)] 53:=aV Tryz.func108
def YZ:IC:=(.seq (.ops [iP 4 (.mv kF)]) (.seq (.ops [iM 5 0,iP 6 (xL 5),iM 7 1,iP 8 (xL 7),iP 9 (xB .geq 6 8),iM 10 9,gM 11 10 true 0,gM 12 10 true 1,gP 13 10 true (xL 12),gP 14 10 true (.qC 1 (.t 11) none (some (.t 13)) none),gM 15 10 true 1,gH 16 10 true (yC 26 14 15),iP 17 (.pick (.t 10) (.t 16) kF),iM 4 17]) .ret))
theorem af5:Dk Tryz.prog 168 YZ [(.t 4)] 18:=aV Tryz.func168
theorem AJ(p w:List Int)(rp rw:Option (List AV))(hrp:rp=none∨rp=some [])(hp:p.length≤1000000)(hw:w.length≤1000000)(H:Y):D Tryz.prog 168 [.am 1 (aK p) rp,.am 1 (aK w) rw] H (.ret (.sc (.bool (jk p w)))) H:=by
 refine aG (Nat.le_refl _) (af5 (aA ?_))
 simp only[YZ,ux]
 refine Z fun L hL=>?_
 refine aw ?_
 refine hL _ _ ?_
 clear hL
 by_cases c:w.length≤p.length
 ·have c1:decide (((p.length:Nat):Int)≥(w.length:Nat))=true:=by simp;omega
  have ht:(aK p).take w.length=aK (p.take w.length):=by simp[aK]
  have hb:jk p w=decide (p.take w.length=w):=by unfold jk;simp[c]
  rcases hrp with rfl|rfl
  ·refine aI (ei @aB c1 c ht) ?_
   refine ⟨by omega,ae (ob (p.take w.length) w none rw H (by simp;omega)) ?_⟩
   refine aw ?_
   rw[hb]
   exact bL .refl
  ·refine aI (ei @aB c1 c ht) ?_
   refine ⟨⟨by omega,by omega⟩,ae (ob (p.take w.length) w _ rw H (by simp;omega)) ?_⟩
   refine aw ?_
   rw[hb]
   exact bL .refl
 ·have c1:decide (((p.length:Nat):Int)≥(w.length:Nat))=false:=by simp;omega
  have hb:jk p w=false:=by unfold jk;simp[c]
  refine aI (gq @aB c1 c) ?_
  rw[hb]
  exact bL .refl
def fq(b:Pl):AV:=.agg [.sc (.int .u8 b.n.kind),.sc (.string b.n.text),.sc (.int .i64 b.n.num),.am 4 (bh b.n.kids) none,.am 1 (aK b.p) none]
theorem mD{l:List Pl}{k:Nat}(h:k<l.length):(l.map fq).getD k .top = .agg [.sc (.int .u8 (au l k).n.kind),.sc (.string (au l k).n.text),.sc (.int .i64 (au l k).n.num),.am 4 (bh (au l k).n.kids) none,.am 1 (aK (au l k).p) none]:=by
 simp[List.getD,h,au,fq]
theorem L6(l:List Pl)(ro:Option (List AV))(hl:l.length≤1000000)(hps:∀k,k<l.length→(au l k).p.length≤1000000)(j:Nat)(hj:j<l.length)(hne:(au l j).p≠[])(H:Y):D Tryz.prog 106 [.am 5 (l.map fq) ro,.sc (.int .i64 j)] H (.ret (.sc (.bool (dm l j)))) H:=by
 have wB:=mD hj
 have hpj:=hps j hj
 have hlen:(l.map fq).length=l.length:=by simp
 have hn0:0<(au l j).p.length:=List.length_pos_iff.2 hne
 refine aG (Nat.le_refl _) (af3 (aA ?_))
 simp only[YW,ux]
 refine Z fun L hL=>?_
 refine aw ?_
 refine hL _ _ ?_
 clear hL
 refine Z fun L hL=>?_
 refine aI (gq wB hlen @aB) ?_
 refine ⟨by omega,?_⟩
 refine hL _ _ ?_
 clear hL
 refine Z fun L hL=>?_
 refine Z fun L hL=>?_
 refine aw ?_
 refine hL _ _ ?_
 clear hL
 refine aZ (fun ts F=>F=H∧∃k:Nat,(k≤j∧((l.take k).any fun a=>twin a (au l j))=false)∧Fr (some (.am 5 (l.map fq) ro)::some (.sc (.int .i64 j))::none::none::some (.sc (.bool false))::some (.sc (.int .i64 (au l j).p.length))::some (.sc (.int .i64 k))::none::bf (bf [])) ts) (fun ts _=>j-(aM (ts.getD 6 .top)).toNat) ?_ ?_
 ·exact ⟨rfl,0,⟨Nat.zero_le _,rfl⟩,by simp[Fr]⟩
 rintro ts _ ⟨rfl,k,⟨hk,ha⟩,aX⟩ L2 bM
 obtain ⟨js,rfl⟩:=aX.opened
 clear aX
 by_cases hd:k<j
 ·have d1:(k:Int)<j:=by omega
  have mO:k<l.length:=by omega
  have hg:=mD mO
  have htk:(l.take (k+1)).any (fun a=>twin a (au l j))=twin (au l k) (au l j):=by
   rw[List.take_add_one,List.any_append,ha,List.getElem?_eq_getElem mO]
   simp[au,List.getD,mO]
  have Y0:=fun H=>AJ (au l k).p ((au l j).p.take ((au l j).p.length-1)) none none (.inl rfl) (hps k mO) (by simp;omega) H
  have ht:(aK (au l j).p).take ((au l j).p.length-1)=aK ((au l j).p.take ((au l j).p.length-1)):=by simp[aK]
  have i1:(k:Int)<l.length:=by omega
  have i2:(j:Int)<l.length:=by omega
  have hsub:(((au l j).p.length:Int)-1).toNat=(au l j).p.length-1:=by omega
  have hlt:(au l j).p.length<(au l j).p.length+1:=by omega
  have hno:twin (au l k) (au l j)=false→(l.take (k+1)).any (fun a=>twin a (au l j))=false:=fun h=>by rw[htk,h]
  by_cases c1:(au l k).n.kind=(au l j).n.kind
  ·by_cases c2:(au l k).n.text=(au l j).n.text
   ·by_cases c3:(au l k).p.length=(au l j).p.length
    ·have PP:((au l k).p.length:Int)=(au l j).p.length:=by omega
     refine fB (Rk d1 hg wB hlen @aB c1 c2 c3 PP i1 i2 ht hsub) ?_
     refine ⟨by omega,by omega,by omega,by omega,by omega,by omega,by omega,⟨by omega,by omega,by omega⟩,aL (Y0 _) ?_⟩
     have vo:twin (au l k) (au l j)=jk (au l k).p ((au l j).p.take ((au l j).p.length-1)):=by simp[twin,c1,c2,c3]
     cases hb:jk (au l k).p ((au l j).p.take ((au l j).p.length-1)) with
     |true =>
      rw[hb] at vo
      have htt:dm l j=true:=by
       unfold dm
       refine List.any_eq_true.2 ⟨au l k,?_,vo⟩
       have:au l k=(l.take j)[k]'(by simp;omega):=by simp[au,List.getD,mO]
       rw[this]
       exact List.getElem_mem _
      rw[htt]
      refine aw ?_
      exact bL .refl
     |false =>
      rw[hb] at vo
      refine aw ?_
      exact bM _ _ ⟨rfl,k+1,⟨by omega,hno vo⟩,by simp[Fr]⟩ (by simp[aM,mk];omega)
    ·have PP:¬((au l k).p.length:Int)=(au l j).p.length:=by omega
     have hf:twin (au l k) (au l j)=false:=by simp[twin,c3]
     refine fB (yS d1 hg wB hlen @aB c1 c2 c3 PP i1 i2) ?_
     exact ⟨by omega,by omega,by omega,by omega,by omega,bM _ _ ⟨rfl,k+1,⟨by omega,hno hf⟩,by simp[Fr]⟩ (by simp[aM,mk];omega)⟩
   ·have hf:twin (au l k) (au l j)=false:=by simp[twin,c2]
    refine fB (Fv d1 hg wB hlen @aB c1 c2 i1 i2) ?_
    exact ⟨by omega,by omega,by omega,by omega,bM _ _ ⟨rfl,k+1,⟨by omega,hno hf⟩,by simp[Fr]⟩ (by simp[aM,mk];omega)⟩
  ·have hf:twin (au l k) (au l j)=false:=by simp[twin,c1]
   refine fB (Ds d1 hg wB hlen @aB c1 i1 i2) ?_
   exact ⟨by omega,by omega,bM _ _ ⟨rfl,k+1,⟨by omega,hno hf⟩,by simp[Fr]⟩ (by simp[aM,mk];omega)⟩
 ·have d1:¬(k:Int)<j:=by omega
  have hkj:k=j:=by omega
  subst hkj
  refine fB d1 ?_
  clear bM
  refine hL _ _ ?_
  clear hL
  refine aw ?_
  have htt:dm l k=false:=ha
  rw[htt]
  exact bL .refl
theorem Y1(b:Pl)(q:List Int)(hne:b.p≠[])(h4:¬b.n.kind=4)(hp:b.p.length≤1000000)(hq:q.length≤1000000)(H:Y):D Tryz.prog 108 [fq b,.am 1 (aK q) none] H (.ret (.sc (.bool (cM b q)))) H:=by
 have hn0:0<b.p.length:=List.length_pos_iff.2 hne
 have hsub:((b.p.length:Int)-1).toNat=b.p.length-1:=by omega
 have ht:(aK b.p).take (b.p.length-1)=aK (b.p.take (b.p.length-1)):=by simp[aK]
 have Y0:=fun H=>AJ q (b.p.take (b.p.length-1)) none none (.inl rfl) hq (by simp;omega) H
 have hr:cM b q=(decide (b.p.length≤q.length) && (jk q (b.p.take (b.p.length-1)) && decide (q.getD (b.p.length-1) 0 > b.p.getD (b.p.length-1) 0))):=by unfold cM;rw[if_neg h4]
 unfold fq
 refine aG (Nat.le_refl _) (YY (aA ?_))
 simp only[PN,ux]
 refine Z fun L hL=>?_
 refine aw ?_
 refine hL _ _ ?_
 clear hL
 refine Z fun L hL=>?_
 refine aI @aB ?_
 refine hL _ _ ?_
 clear hL
 refine Z fun L hL=>?_
 refine aI h4 ?_
 refine hL _ _ ?_
 clear hL
 by_cases c:b.p.length≤q.length
 ·have c1:decide (((q.length:Nat):Int)≥(b.p.length:Nat))=true:=by simp;omega
  have g1:=lX (l:=q) (k:=b.p.length-1) (by omega)
  have g2:=lX (l:=b.p) (k:=b.p.length-1) (by omega)
  have i1:((b.p.length:Int)-1)<q.length:=by omega
  refine aI (kZ @aB c1 hsub ht c) ?_
  refine ⟨⟨by omega,by omega,by omega⟩,aL (Y0 _) ?_⟩
  cases hb:jk q (b.p.take (b.p.length-1)) with
  |true =>
   refine aI (kZ @aB hsub g1 g2 i1) ?_
   have hf:cM b q=decide (oa q (b.p.length-1) > oa b.p (b.p.length-1)):=by rw[hr,hb];simp[c,oa]
   rw[hf]
   exact ⟨by omega,⟨by omega,by omega⟩,bL (.cons .refl)⟩
  |false =>
   have hf:cM b q=false:=by rw[hr,hb];simp
   rw[hf]
   refine aw ?_
   exact bL (.cons .refl)
 ·have c1:decide (((q.length:Nat):Int)≥(b.p.length:Nat))=false:=by simp;omega
  have hf:cM b q=false:=by rw[hr];simp[c]
  rw[hf]
  refine aI (gq @aB c1 c) ?_
  exact bL (.cons .refl)
theorem Y2(b:Pl)(q:List Int)(hn:2≤b.p.length)(h4:b.n.kind=4)(hp:b.p.length≤1000000)(hq:q.length≤1000000)(H:Y):D Tryz.prog 108 [fq b,.am 1 (aK q) none] H (.ret (.sc (.bool (cM b q)))) H:=by
 have hsub:((b.p.length:Int)-2).toNat=b.p.length-2:=by omega
 have ht:(aK b.p).take (b.p.length-2)=aK (b.p.take (b.p.length-2)):=by simp[aK]
 have Y0:=AJ q (b.p.take (b.p.length-2)++[1]) none none (.inl rfl) hq (by simp;omega) []
 have hr:cM b q=jk q (b.p.take (b.p.length-2)++[1]):=by unfold cM;rw[if_pos h4]
 rw[hr]
 have key:∀(G:Y)(id:Nat),Y.find G id=some ⟨1,aK (b.p.take (b.p.length-2))++[.sc (.int .i64 1)],false,3⟩→D Tryz.prog 168 [.am 1 (aK q) none,.aD 1 id 0 (aK (b.p.take (b.p.length-2))++[AV.sc (.int .i64 1)]).length none] G (.ret (.sc (.bool (jk q (b.p.take (b.p.length-2)++[1]))))) G:=fun G id hG=>by
  have e:aK (b.p.take (b.p.length-2))++[AV.sc (.int .i64 1)]=aK (b.p.take (b.p.length-2)++[1]):=by simp[aK]
  rw[e] at hG ⊢
  have hne:aK (b.p.take (b.p.length-2)++[1])≠[]:=by simp[aK]
  have hv:View G (aW 1 (aK (b.p.take (b.p.length-2)++[1])) id) (.am 1 (aK (b.p.take (b.p.length-2)++[1])) none):=cJ.own (ty:=3) (fun _=>by rw[bj hne];exact hG) cJ.Tq
  rw[jj hne] at hv
  exact tc (.cons Ea (.cons hv .nil)) .sc Y0
 unfold fq
 refine aG (Nat.le_refl _) (YY (aA ?_))
 simp only[PN,ux]
 refine Z fun L hL=>?_
 refine aw ?_
 refine hL _ _ ?_
 clear hL
 refine Z fun L hL=>?_
 refine aI @aB ?_
 refine hL _ _ ?_
 clear hL
 refine Z fun L hL=>?_
 by_cases c:b.p.length=2
 ·have uz:(aK b.p).take 0=[]:=rfl
  have cE:b.p.take (b.p.length-2)=[]:=by rw[c];rfl
  rw[cE] at key ⊢
  refine aI (ei h4 @aB hsub c) ?_
  refine ae (key _ (H.length+1) (aJ (by simp only[List.length_cons]))) ?_
  refine aw ?_
  exact bL (.cons (.cons .refl))
 ·obtain ⟨x,r,hT⟩:∃x r,b.p.take (b.p.length-2)=x::r:=by
   cases hT:b.p.take (b.p.length-2) with
   |nil=>have:=congrArg List.length hT;simp at this;omega
   |cons x r=>exact ⟨x,r,rfl⟩
  have lw:r.length+1=b.p.length-2:=by have:=congrArg List.length hT;simp at this;omega
  rw[hT] at key ht ⊢
  rw[xD] at ht key
  have hnl:(aK r).length=r.length:=aB r
  refine aI (kZ h4 @aB hsub ht hnl) ?_
  have fx:=fun G id hG=>key G id hG
  simp only[List.cons_append,List.length_cons,List.length_append,List.length_nil,hnl,Nat.zero_add,Nat.add_assoc,Nat.reduceAdd] at fx
  refine ⟨⟨by omega,by omega,by omega⟩,by omega,by omega,ae (fx _ (H.length+2) (aJ (by simp only[List.length_cons,Y.af]))) ?_⟩
  refine aw ?_
  exact bL (.cons (.cons (.cons .refl)))
theorem L7(b:Pl)(q:List Int)(hne:b.p≠[])(hn:b.n.kind=4→2≤b.p.length)(hp:b.p.length≤1000000)(hq:q.length≤1000000)(H:Y):D Tryz.prog 108 [fq b,.am 1 (aK q) none] H (.ret (.sc (.bool (cM b q)))) H:=by
 by_cases h4:b.n.kind=4
 ·exact Y2 b q (hn h4) h4 hp hq H
 ·exact Y1 b q hne h4 hp hq H
def adI(l:List Pl):Prop:=∀k,k<l.length→(au l k).p.length≤1000000∧(fH (au l k)=true→(au l k).p≠[])∧((au l k).n.kind=4→2≤(au l k).p.length)
theorem Uy{x:ByteArray}{q:List Int}{l:List Pl}{k:Nat}(h:k<l.length):jW x q (l.take (k+1)) 0 (-1)=if (au l k).n.text=x∧fH (au l k)=true∧cM (au l k) q=true then (k:Int) else jW x q (l.take k) 0 (-1):=by
 rw[List.take_add_one,List.getElem?_eq_getElem h,fE]
 have:au l k=l[k]:=by simp[au,List.getD,h]
 simp only[Option.toList_some,jW,this,Nat.zero_add,List.length_take,Nat.min_eq_left (Nat.le_of_lt h)]
theorem Uz{x:ByteArray}{l:List Pl}{k:Nat}(h:k<l.length):iA x (l.take (k+1)) 0 (-1)=if (au l k).n.text=x∧(au l k).n.kind=2∧iA x (l.take k) 0 (-1)<0 then (k:Int) else iA x (l.take k) 0 (-1):=by
 rw[List.take_add_one,List.getElem?_eq_getElem h,n8]
 have:au l k=l[k]:=by simp[au,List.getD,h]
 simp only[Option.toList_some,iA,this,Nat.zero_add,List.length_take,Nat.min_eq_left (Nat.le_of_lt h)]
def BZ(l:List Pl)(u:Pl)(k:Nat):Int:=if u.n.kind=25 then iA u.n.text (l.take k) 0 (-1) else jW u.n.text u.p (l.take k) 0 (-1)
theorem Hj(l:List Pl)(ro:Option (List AV))(hl:l.length≤1000000)(hok:adI l)(j:Nat)(hj:j<l.length)(H:Y):D Tryz.prog 56 [.am 5 (l.map fq) ro,.sc (.int .i64 j)] H (.ret (.sc (.int .i64 (bW l (au l j))))) H:=by
 have wB:=mD hj
 have hlen:(l.map fq).length=l.length:=by simp
 have i2:(j:Int)<l.length:=by omega
 refine aG (Nat.le_refl _) (ah7 (aA ?_))
 simp only[adH,ux]
 refine Z fun L hL=>?_
 refine aw ?_
 refine hL _ _ ?_
 clear hL
 refine Z fun L hL=>?_
 refine aw ?_
 refine hL _ _ ?_
 clear hL
 refine Z fun L hL=>?_
 refine Z fun L hL=>?_
 refine aw ?_
 refine hL _ _ ?_
 clear hL
 refine aZ (fun ts F=>F=H∧∃k:Nat,k≤l.length∧Fr (some (.am 5 (l.map fq) ro)::some (.sc (.int .i64 j))::none::none::none::some (.sc (.int .i64 (BZ l (au l j) k)))::some (.sc (.int .i64 k))::fg (iv (dL (bf [])))) ts) (fun ts _=>l.length-(aM (ts.getD 6 .top)).toNat) ?_ ?_
 ·exact ⟨rfl,0,Nat.zero_le _,by simp[Fr,BZ,jW,iA]⟩
 rintro ts F ⟨rfl,k,hk,aX⟩ L2 bM
 obtain ⟨js,rfl⟩:=aX.opened
 clear aX
 by_cases hd:k<l.length
 ·have d1:(k:Int)<l.length:=by omega
  have hg:=mD hd
  obtain ⟨o1,o2,o3⟩:=hok k hd
  obtain ⟨u1,-,-⟩:=hok j hj
  have hst:BZ l (au l j) (k+1)=if (au l k).n.text=(au l j).n.text then (if (au l j).n.kind=25 then (if (au l k).n.kind=2∧BZ l (au l j) k<0 then (k:Int) else BZ l (au l j) k) else (if fH (au l k)=true∧cM (au l k) (au l j).p=true then (k:Int) else BZ l (au l j) k)) else BZ l (au l j) k:=by
   unfold BZ
   rw[Uy hd,Uz hd]
   by_cases c:(au l k).n.text=(au l j).n.text<;>by_cases c2:(au l j).n.kind=25<;>simp[c,c2]
  have fin:∀f,BZ l (au l j) (k+1)=f→∀ts',Fr (some (.am 5 (l.map fq) ro)::some (.sc (.int .i64 j))::none::none::none::some (.sc (.int .i64 f))::some (.sc (.int .i64 ((k+1:Nat):Int)))::fg (iv (dL (bf [])))) ts'→l.length-(aM (ts'.getD 6 .top)).toNat<l.length-k→L2 ts' F:=fun f hf ts' h1 h2=>bM _ _ ⟨rfl,k+1,by omega,by rw[hf];exact h1⟩ (by simpa [aM,mk] using h2)
  by_cases c1:(au l k).n.text=(au l j).n.text
  ·rw[if_pos c1] at hst
   by_cases c2:(au l j).n.kind=25
   ·rw[if_pos c2] at hst
    by_cases c3:(au l k).n.kind=2
    ·by_cases c4:BZ l (au l j) k<0
     ·rw[if_pos ⟨c3,c4⟩] at hst
      refine fB (Fv d1 i2 hlen hg wB c1 c2 c3 c4) ?_
      exact ⟨by omega,by omega,by omega,by omega,fin _ hst _ (by simp[Fr]) (by simp[aM,mk];omega)⟩
     ·rw[if_neg (fun h=>c4 h.2)] at hst
      refine fB (Fv d1 i2 hlen hg wB c1 c2 c3 c4) ?_
      exact ⟨by omega,by omega,by omega,by omega,fin _ hst _ (by simp[Fr]) (by simp[aM,mk];omega)⟩
    ·rw[if_neg (fun h=>c3 h.1)] at hst
     refine fB (Ds d1 i2 hlen hg wB c1 c2 c3) ?_
     exact ⟨by omega,by omega,by omega,by omega,fin _ hst _ (by simp[Fr]) (by simp[aM,mk];omega)⟩
   ·rw[if_neg c2] at hst
    by_cases c5:(au l k).n.kind=4
    ·skip
     have hB:fH (au l k)=true:=by simp[fH,c5]
     have hrd:=fun H=>L7 (au l k) (au l j).p (o2 hB) o3 o1 u1 H
     unfold fq at hrd
     rw[c5,c1] at hrd
     refine fB (Fv d1 i2 hlen hg wB c1 c2 c5 c5) ?_
     first
      | refine ⟨by omega,by omega,by omega,by omega,by omega,by omega,aL (hrd _) ?_⟩
      | refine ⟨by omega,by omega,by omega,by omega,by omega,aL (hrd _) ?_⟩
     cases hb:cM (au l k) (au l j).p with
     |true =>
      rw[if_pos ⟨hB,hb⟩] at hst
      refine aw ?_
      exact fin _ hst _ (by simp[Fr]) (by simp[aM,mk];omega)
     |false =>
      rw[if_neg (fun h=>by rw[hb] at h;simp at h)] at hst
      refine aw ?_
      exact fin _ hst _ (by simp[Fr]) (by simp[aM,mk];omega)
    ·by_cases c6:(au l k).n.kind=6
     ·skip
      have hB:fH (au l k)=true:=by simp[fH,c6]
      have hrd:=fun H=>L7 (au l k) (au l j).p (o2 hB) o3 o1 u1 H
      unfold fq at hrd
      rw[c6,c1] at hrd
      refine fB (Fv d1 i2 hlen hg wB c1 c2 c5 c6) ?_
      first
       | refine ⟨by omega,by omega,by omega,by omega,by omega,by omega,aL (hrd _) ?_⟩
       | refine ⟨by omega,by omega,by omega,by omega,by omega,aL (hrd _) ?_⟩
      cases hb:cM (au l k) (au l j).p with
      |true =>
       rw[if_pos ⟨hB,hb⟩] at hst
       refine aw ?_
       exact fin _ hst _ (by simp[Fr]) (by simp[aM,mk];omega)
      |false =>
       rw[if_neg (fun h=>by rw[hb] at h;simp at h)] at hst
       refine aw ?_
       exact fin _ hst _ (by simp[Fr]) (by simp[aM,mk];omega)
     ·have hB:fH (au l k)=false:=by simp[fH,c5,c6]
      rw[if_neg (fun h=>by rw[hB] at h;simp at h)] at hst
      refine fB (Fv d1 i2 hlen hg wB c1 c2 c5 c6) ?_
      exact ⟨by omega,by omega,by omega,by omega,fin _ hst _ (by simp[Fr]) (by simp[aM,mk];omega)⟩
  ·rw[if_neg c1] at hst
   refine fB (yR d1 i2 hlen hg wB c1) ?_
   exact ⟨by omega,by omega,by omega,fin _ hst _ (by simp[Fr]) (by simp[aM,mk];omega)⟩
 ·have d1:¬(k:Int)<l.length:=by omega
  have FD:l.take k=l:=List.take_of_length_le (by omega)
  have hs:BZ l (au l j) k=bW l (au l j):=by unfold BZ bW;rw[FD]
  rw[hs]
  refine fB (ak d1 hlen) ?_
  clear bM
  refine hL _ _ ?_
  clear hL
  refine aw ?_
  exact bL .refl
def Ec:List cy:=[iM 2 3]
def zw:IC:=(.seq (.ops [iM 4 2,iP 5 (.HS false (.t 4))]) (.cond (.t 5) (.di [iM 6 2,iP 7 (.wF 159 (.t 6)),iP 8 (.field 0 2 true (.t 7)),⟨none,none,(.h (.store 1 (.t 0) (.k bG)))⟩,iS 2 1 8] [[],[0],[1,0],[],[2,1,0,3]]) .skip))
theorem ach:yP Tryz.prog [] (Tryz.f109.body.getD .skip)=some (3,Ec,zw):=by kernel_rfl
def adJ:IC:=(.seq (.ops [iH 1 (.box 4 25 (.t 0)),iH 2 (.alloc bG 102),iH 3 (.alloc (.agg [(.sc (.int .i64 0)),(.sc (.int .i64 0))]) 93)]) (.ops [iP 8 (.oQ (.func 109) [] [(.t 2),(.t 3)])]))
def Y3:IC:=(.seq (.ops [iH 9 (.gx .ol []),iP 10 (.build [(.sc (.pointer none)),(.sc (.map none))] [(1,1,(.t 9))]),iP 11 (.build [(.sc (.pointer none)),(.sc (.map none)),bG,(.sc (.int .i64 0)),(.sc .nilFunc)] [(0,2,(.t 10)),(4,1,(.k (.fn (.func 110) [] [])))]),iH 12 (.box 5 167 (.t 11)),iM 4 12]) (.seq (.ops [iP 5 (xI 1)]) (.seq (.seq (.ops [iP 13 (.an 3 (.t 1)),iH 14 (yD 1 13),iP 15 (xL 14),iP 16 (xI 0)]) (.block 0 (.loop (.seq (.ops [iP 17 (xB .lss 16 15)]) (.seq (.cond (.t 17) .skip (.exit 0)) (.seq (.block 1 (.seq (.ops [iM 18 16,iP 19 (xA 4 14 16),iH 20 (yA 4 19),⟨(some 7),none,(.h (.alloc (.agg [(.sc (.int .u8 0)),(.sc (.string ⟨#[]⟩)),(.sc (.int .i64 0)),bG]) 25))⟩,iM 6 18,iS 4 7 20]) (.seq (.seq (.di [iM 21 4,iM 22 4,iP 23 (.bV (.t 22)),iP 24 (.an 0 (.t 23)),iH 25 (yA 2 24),iH 26 (yA 4 7),iM 27 6,iH 28 (.ep 1 3 (.sc (.int .i64 0)) 1 [(0,(.t 27))]),iM 29 5] [[],[],[1],[2,1],[3,2,1],[],[],[6],[],[0,4,3,2,1,5,7,6,8]]) (.ops [iH 30 (.call 111 [(.t 21),(.t 25),(.t 26),(.t 28),(.t 29)])])) (.seq (.seq (.di [iM 31 4,iP 32 (.bV (.t 31)),iP 33 (.an 0 (.t 32)),iP 34 (.an 1 (.t 33)),iH 35 (yD 1 34),iP 36 (.an 1 (.t 7)),iH 37 (yD 1 36),iH 38 (.gx (.pL none (.sc (.pointer none)) false) [(.t 35),(.t 37)]),iP 39 (.an 3 (.t 7)),iH 40 (yD 1 39),iP 41 (.gm 4 (.t 40) (kI 0)),iP 42 (.an 3 (.t 41)),iH 43 (yD 1 42),iP 44 (xL 43),iP 45 (.bV (.t 38)),iP 46 (.an 3 (.t 45))] [[],[0],[1,0],[2,1,0],[3,2,1,0],[],[5],[4,3,2,1,0,6,5],[],[8],[9,8],[10,9,8],[11,10,9,8],[12,11,10,9,8],[7,4,3,2,1,0,6,5,8,9,10,11,12,13],[14,7,4,3,2,1,0,6,5,8,9,10,11,12,13],[15,14,7,4,3,2,1,0,6,5,8,9,10,11,12,13]]) (.ops [iS 1 46 44])) (.ops [iM 47 5,iH 48 (yA 4 7),iH 49 (.call 112 [(.t 48)]),iP 50 (xB .add 47 49),iM 5 50]))))) (.ops [iP 51 (.aN .add (.t 16) (kI 1)),iM 16 51]))))))) (.seq (.ops [iM 52 4,iP 53 (.bV (.t 52)),iP 54 (.an 2 (.t 53)),⟨none,none,(.h (.store 1 (.t 54) (.k bG)))⟩]) (.seq (.ops [iM 55 4,iH 56 (.gx .ol []),iP 57 (.build [(.sc (.pointer none)),(.sc (.map none))] [(1,1,(.t 56))]),iH 58 (yA 4 1),iH 59 (.call 113 [(.t 55),(.t 57),(.t 58),(.k bG)])]) (.seq (.seq (.di [iM 60 4,iP 61 (.bV (.t 60)),iP 62 (.an 2 (.t 61)),iH 63 (yD 1 62),iH 64 (yA 2 3),iS 1 2 63] [[],[0],[1,0],[2,1,0],[],[3,2,1,0],[4,5,3,2,1,0]]) (.ops [iS 2 3 64])) .ret))))))
theorem ah8{args:List AV}{H:Y}{Kr:cH→Y→Prop}(h:ES Tryz.prog adJ (Gv Tryz.prog 109 8 Y3 (An Tryz.prog 3 Ec zw 9 [(.c 2 1 false),(.c 3 2 true)] Kr) (sZ [(.c 2 1 false),(.c 3 2 true)] Kr)) (args++List.replicate (65-args.length) (.aO [])) H):DK Tryz.prog 58 args H Kr :=
 IL (fn:=Tryz.f58) (c:=Tryz.f58.body.getD .skip) (bx:=((List.range 200).map (·+1000))) (Xz:=[]) Tryz.func58 (by kernel_rfl) (by kernel_rfl) (by kernel_rfl) (gn:=Tryz.f109) (gc:=Tryz.f109.body.getD .skip) Tryz.func109 (by kernel_rfl) ach (by kernel_rfl) (by kernel_rfl) h
def Y4:IC:=(.seq (.ops [iH 1 (.box 2 93 (.t 0))]) (.ops [iH 2 (yA 2 1),iP 3 (.build [(.sc (.int .i64 0)),(.sc (.int .i64 0))] [(0,2,(.t 2))]),iP 4 (.Ba 159 (.t 3)),⟨none,none,(.h (.bP (.t 4)))⟩]))
theorem af6:Dk Tryz.prog 110 Y4 [] 5:=aV Tryz.func110
def adK:IC:=(.seq (.ops [iH 1 (.box 4 25 (.t 0)),iH 2 (.alloc (.agg [(.sc (.int .i64 0)),(.sc (.int .i64 0))]) 93)]) (.seq (.seq (.ops [iP 5 (.an 0 (.t 1)),iH 6 (yD 1 5),iP 7 (.aN .neq (.t 6) (.k (.sc (.int .u8 1)))),iM 8 7,gH 9 8 false (yA 4 1),gH 10 8 false (.call 40 [(.t 9)]),gP 11 8 false (xN 10),iP 12 (.pick (.t 8) kT (.t 11))]) (.cond (.t 12) (.seq (.ops [iP 13 (.build [(.sc (.int .i64 0)),(.sc (.int .i64 0))] [(0,1,(kI 4))]),iS 2 2 13]) .ret) .skip)) (.seq (.ops [iH 15 (yA 4 1),iH 16 (.call 58 [(.t 15)]),iM 14 16,iP 17 (.ext (.t 14) 0),iP 18 (.ext (.t 14) 1),iH 4 (.alloc (.agg [(.sc (.int .i64 0)),(.sc (.int .i64 0))]) 93),iM 3 17,iS 2 4 18]) (.seq (.ops [iH 19 (yA 2 4),iS 2 2 19]) .ret))))
theorem ah9:Dk Tryz.prog 57 adK [(.c 2 2 true)] 20:=aV Tryz.func57
def adL:IC:=(.seq (.ops [iH 1 (.box 4 25 (.t 0)),iP 2 (.mv (.k bG))]) (.seq (.seq (.ops [iH 8 (yA 4 1),iH 9 (.call 57 [(.t 8)]),iP 10 (.field 0 1 false (.t 9)),iP 11 (.aN .neq (.t 10) (kI 0))]) (.cond (.t 11) (.seq (.ops [iP 2 (.mv (.k bG))]) .ret) .skip)) (.seq (.ops [iP 3 (.mv (.k bG))]) (.seq (.ops [iH 13 (yA 4 1),iH 14 (.call 58 [(.t 13)]),iM 12 14,iP 15 (.ext (.t 12) 0),iP 16 (.ext (.t 12) 1),iH 5 (.alloc (.agg [(.sc (.int .i64 0)),(.sc (.int .i64 0))]) 93),iM 4 15,iS 2 5 16]) (.seq (.seq (.ops [iM 17 4,iP 18 (xL 17),iP 19 (xI 0)]) (.block 0 (.loop (.seq (.ops [iP 20 (xB .lss 19 18)]) (.seq (.cond (.t 20) .skip (.exit 0)) (.seq (.block 1 (.seq (.ops [iP 21 (xA 1 17 19),iH 22 (yD 1 21),iM 7 22]) (.ops [iM 23 3,iM 24 7,iP 25 (.bV (.t 24)),iP 26 (.an 0 (.t 25)),iH 27 (yA 3 26),⟨(some 28),none,(.h (.ep 3 47 (.agg [bG,(.sc (.string ⟨#[]⟩)),bG]) 1 [(0,(.t 27))]))⟩,iH 29 (.ez 3 47 (.t 23) (.t 28)),iM 3 29]))) (.ops [iP 30 (.aN .add (.t 19) (kI 1)),iM 19 30]))))))) (.seq (.ops [iM 31 3,iM 2 31]) .ret))))))
theorem aia:Dk Tryz.prog 23 adL [(.t 2)] 32:=aV Tryz.func23
def Y5:IC:=(.seq (.ops [iH 4 (.box 1 160 (.t 0)),iH 5 (.box 2 164 (.t 1)),iH 6 (.box 4 25 (.t 2)),iH 7 (.box 1 30 (.t 3))]) (.seq (.ops [iH 12 (yD 1 4),iP 13 (.bV (.t 12)),iP 14 (.an 3 (.t 13)),iH 15 (yD 1 14),iH 8 (.alloc (.sc (.int .i64 0)) 3),iS 1 8 15]) (.seq (.ops [iH 16 (yD 1 4),iP 17 (.bV (.t 16)),iP 18 (.an 3 (.t 17)),iH 19 (yD 1 18),iP 20 (.aN .add (.t 19) (kI 1)),iP 21 (.bV (.t 16)),iP 22 (.an 3 (.t 21)),iS 1 22 20]) (.seq (.ops [iP 9 (.mv (.k (.sc .nilFunc)))]) (.seq (.seq (.ops [iP 23 (.an 0 (.t 6)),iH 24 (yD 1 23)]) (.block 0 (.seq (.ops [iP 26 (.aN .eql (.t 24) (.k (.sc (.int .u8 2)))),iM 25 26]) (.cond (.t 25) (.seq (.seq (.di [iH 27 (yD 1 4),iH 28 (yD 1 4),iP 29 (.bV (.t 28)),iP 30 (.an 2 (.t 29)),iH 31 (yD 1 30),iH 32 (yD 1 4),iP 33 (.bV (.t 32)),iP 34 (.an 0 (.t 33)),iP 35 (.an 1 (.t 34)),iH 36 (yD 1 35),iP 37 (.an 1 (.t 6)),iH 38 (yD 1 37),iH 39 (.gx (.pL none (.sc (.pointer none)) false) [(.t 36),(.t 38)]),iH 40 (.ep 1 105 (.sc (.pointer none)) 1 [(0,(.t 39))]),iH 41 (.ez 1 105 (.t 31) (.t 40)),iP 42 (.bV (.t 27)),iP 43 (.an 2 (.t 42))] [[],[],[1],[2,1],[3,2,1],[],[5],[6,5],[7,6,5],[8,7,6,5],[],[10],[9,8,7,6,5,11,10],[12,9,8,7,6,5,11,10],[4,3,2,1,13,12,9,8,7,6,5,11,10],[0,1,2,3,4,5,6,7,8,9,10,11,12,13,14],[15,0,1,2,3,4,5,6,7,8,9,10,11,12,13,14],[16,15,0,1,2,3,4,5,6,7,8,9,10,11,12,13,14]]) (.ops [iS 1 43 41])) (.ops [iH 44 (yA 2 5),iH 45 (.call 172 [(.t 44)]),iS 2 5 45])) (.seq (.ops [iP 47 (.aN .eql (.t 24) (.k (.sc (.int .u8 4)))),iM 46 47]) (.cond (.t 46) (.ops [iH 48 (yD 1 4),iH 49 (yA 2 5),iH 50 (yA 4 6),iH 51 (yD 1 7),iH 52 (yD 1 8),iH 53 (.call 111 [(.t 48),(.t 49),(.t 50),(.t 51),(.t 52)])]) (.seq (.ops [iP 55 (.aN .eql (.t 24) (.k (.sc (.int .u8 5)))),iM 54 55]) (.cond (.t 54) (.ops [iH 56 (yA 2 5),iH 57 (.call 172 [(.t 56)]),iS 2 5 57]) (.seq (.ops [iP 59 (.aN .eql (.t 24) (.k (.sc (.int .u8 6)))),iM 58 59]) (.cond (.t 58) (.seq (.seq (.ops [iP 60 (.an 1 (.t 5)),iH 61 (yD 1 60),iP 62 (.an 1 (.t 6)),iH 63 (yD 1 62),iH 64 (.gx (.pL none (.sc (.pointer none)) false) [(.t 61),(.t 63)]),iH 65 (.gx (.qJ false) [(.t 64)])]) (.cond (.t 65) (.ops [iH 66 (yD 1 4),iH 67 (yD 1 8),iH 68 (.call 169 [(.t 66),(kI 110),(.t 67)])]) .skip)) (.ops [iP 69 (.oQ (.func 173) [] [(.t 4),(.t 5),(.t 6),(.t 7),(.t 8)]),iM 9 69])) (.seq (.ops [iP 71 (.aN .eql (.t 24) (.k (.sc (.int .u8 22)))),iM 70 71]) (.cond (.t 70) (.ops [iH 72 (yD 1 4),iH 73 (yA 2 5),iH 74 (yA 4 6),iH 75 (yD 1 7),iH 76 (yD 1 8),iH 77 (.call 174 [(.t 72),(.t 73),(.t 74),(.t 75),(.t 76)])]) (.seq (.ops [iP 79 (.aN .eql (.t 24) (.k (.sc (.int .u8 25)))),iM 78 79]) (.cond (.t 78) (.seq (.di [iH 80 (yD 1 4),iH 81 (yD 1 4),iP 82 (.bV (.t 81)),iP 83 (.an 0 (.t 82)),iH 84 (yA 2 83),iH 85 (yA 4 6),iH 86 (yD 1 7),iH 87 (yD 1 8)] [[],[],[1],[2,1],[3,2,1],[],[],[],[0,4,3,2,1,5,6,7]]) (.ops [iH 88 (.call 174 [(.t 80),(.t 84),(.t 85),(.t 86),(.t 87)])])) .skip)))))))))))))) (.seq (.seq (.ops [iP 89 (.an 3 (.t 6)),iH 90 (yD 1 89),iP 91 (xL 90),iP 92 (xI 0)]) (.block 1 (.loop (.seq (.ops [iP 93 (xB .lss 92 91)]) (.seq (.cond (.t 93) .skip (.exit 1)) (.seq (.block 2 (.seq (.ops [iM 94 92,iP 95 (xA 4 90 92),iH 96 (yA 4 95),⟨(some 11),none,(.h (.alloc (.agg [(.sc (.int .u8 0)),(.sc (.string ⟨#[]⟩)),(.sc (.int .i64 0)),bG]) 25))⟩,iM 10 94,iS 4 11 96]) (.seq (.di [iH 97 (yD 1 4),iH 98 (yA 2 5),iH 99 (yA 4 11),iH 100 (yD 1 7),iH 101 (yD 1 7),iP 102 (xL 101),iH 103 (yD 1 7),iP 104 (xL 103),iP 105 (.qC 1 (.t 100) none (some (.t 102)) (some (.t 104))),iM 106 10,iH 107 (.ep 1 3 (.sc (.int .i64 0)) 1 [(0,(.t 106))]),iH 108 (.ez 1 3 (.t 105) (.t 107))] [[],[],[],[],[],[4],[],[6],[3,5,4,7,6],[],[9],[8,3,5,4,7,6,10,9],[0,1,2,11,8,3,5,4,7,6,10,9]]) (.ops [iH 109 (.call 113 [(.t 97),(.t 98),(.t 99),(.t 108)])])))) (.ops [iP 110 (.aN .add (.t 92) (kI 1)),iM 92 110]))))))) (.seq (.ops [iM 111 9,iP 112 (.ug false (.t 111))]) (.cond (.t 112) (.ops [iM 113 9,iH 114 (.cq (.t 113) [])]) .skip))))))))
theorem af7:Dk Tryz.prog 113 Y5 [] 115:=fun h=>qO (fn:=Tryz.f113) (c:=Tryz.f113.body.getD .skip) (bx:=(List.range 200).map (·+1000)) Tryz.func113 (by kernel_rfl) (by kernel_rfl) (by kernel_rfl) h
def Y6:IC:=(.ops [iH 5 (yD 1 0),iH 6 (yA 2 1),iH 7 (yA 4 2),iH 8 (yD 1 3),iH 9 (yD 1 4),iH 10 (.call 111 [(.t 5),(.t 6),(.t 7),(.t 8),(.t 9)])])
theorem af8:Dk Tryz.prog 173 Y6 [] 11:=aV Tryz.func173
def Y7:IC:=(.seq (.ops [iH 6 (.box 2 164 (.t 1)),iH 7 (.box 4 25 (.t 2))]) (.seq (.seq (.ops [iP 11 (.an 1 (.t 6)),iH 12 (yD 1 11),iP 13 (.an 1 (.t 7)),iH 14 (yD 1 13),iH 15 (.gx (.pL none (.sc (.pointer none)) false) [(.t 12),(.t 14)]),iH 16 (.gx (.qJ false) [(.t 15)])]) (.cond (.t 16) (.seq (.ops [iM 17 0,iM 18 4,iH 19 (.call 169 [(.t 17),(kI 110),(.t 18)])]) .ret) .skip)) (.seq (.di [iM 20 3,iH 21 (.call 170 [(.t 20)]),iP 22 (.an 1 (.t 7)),iH 23 (yD 1 22),iH 24 (.call 118 [(.t 23)]),⟨(some 25),none,(.p (.build [bG,(.sc (.string ⟨#[]⟩)),bG] [(0,1,(.t 21)),(1,1,(.t 24))]))⟩,⟨(some 26),none,(.p (.build [bG,(.sc (.string ⟨#[]⟩)),bG,(.sc (.int .i64 0))] [(0,3,(.t 25))]))⟩,iH 27 (.box 4 107 (.t 26)),iM 10 27] [[],[0],[],[2],[3,2,1,0],[1,0,4,3,2],[5,1,0,4,3,2],[6,5,1,0,4,3,2],[7,6,5,1,0,4,3,2]]) (.seq (.ops [iP 28 (.an 1 (.t 6)),iH 29 (yD 1 28),iP 30 (.an 1 (.t 7)),iH 31 (yD 1 30),iM 32 10,⟨none,none,(.h (.gx (.gi none) [(.t 29),(.t 31),(.t 32)]))⟩]) (.ops [iM 33 0,iM 34 0,iP 35 (.bV (.t 34)),iP 36 (.an 2 (.t 35)),iH 37 (yD 1 36),iM 38 10,iH 39 (.ep 1 105 (.sc (.pointer none)) 1 [(0,(.t 38))]),iH 40 (.ez 1 105 (.t 37) (.t 39)),iP 41 (.bV (.t 33)),iP 42 (.an 2 (.t 41)),iS 1 42 40])))))
theorem af9:Dk Tryz.prog 111 Y7 [] 43:=aV Tryz.func111
def Y8:IC:=(.seq (.ops [iH 6 (.box 2 164 (.t 1)),iH 7 (.box 4 25 (.t 2))]) (.seq (.ops [iH 11 (yA 2 6),iP 12 (.an 1 (.t 7)),iH 13 (yD 1 12),iH 14 (yC 191 11 13),iM 10 14]) (.block 0 (.seq (.ops [iM 29 10,iH 30 (.gx (.qJ true) [(.t 29)]),iM 28 30]) (.cond (.t 28) (.ops [iM 31 0,iM 32 4,iH 33 (.call 169 [(.t 31),(kI 111),(.t 32)])]) (.seq (.di [iP 35 (.an 0 (.t 7)),iH 36 (yD 1 35),iP 37 (.aN .eql (.t 36) (.k (.sc (.int .u8 25)))),iM 38 37,gM 39 38 true 10,gP 40 38 true (.bV (.t 39)),gP 41 38 true (.an 3 (.t 40)),gH 42 38 true (yD 1 41),gP 43 38 true (.an 3 (.t 7)),gH 44 38 true (yD 1 43),gP 45 38 true (xL 44),gP 46 38 true (xB .neq 42 45),iP 47 (.pick (.t 38) (.t 46) kF),iM 34 47] [[],[0],[1,0],[2,1,0],[3,2,1,0],[4,3,2,1,0],[5,4,3,2,1,0],[6,5,4,3,2,1,0],[3,2,1,0],[8,3,2,1,0],[9,8,3,2,1,0],[7,6,5,4,3,2,1,0,10,9,8],[3,2,1,0,11,7,6,5,4,10,9,8],[12,3,2,1,0,11,7,6,5,4,10,9,8]]) (.cond (.t 34) (.ops [iM 48 0,iM 49 4,iH 50 (.call 169 [(.t 48),(kI 112),(.t 49)])]) (.di [iM 15 10,iM 16 10,iP 17 (.bV (.t 16)),iP 18 (.an 0 (.t 17)),iP 19 (.an 2 (.t 18)),iH 20 (yD 1 19),iM 21 3,iH 22 (.call 170 [(.t 21)]),iH 23 (.ep 1 30 bG 1 [(0,(.t 22))]),iH 24 (.ez 1 30 (.t 20) (.t 23)),iP 25 (.bV (.t 15)),iP 26 (.an 0 (.t 25)),iP 27 (.an 2 (.t 26)),iS 1 27 24] [[],[],[1],[2,1],[3,2,1],[4,3,2,1],[],[6],[7,6],[5,4,3,2,1,8,7,6],[0,1,2,3,4,5,6,7,8,9],[10,0,1,2,3,4,5,6,7,8,9],[11,10,0,1,2,3,4,5,6,7,8,9],[12,11,10,0,1,2,3,4,5,6,7,8,9]]))))))))
theorem aga:Dk Tryz.prog 174 Y8 [] 51:=aV Tryz.func174
def Y9:IC:=(.ops [iM 6 0,iP 7 (.bV (.t 6)),iP 8 (.an 4 (.t 7)),iH 9 (yD 1 8),iM 10 1,iM 11 2,iP 12 (.build [(.sc (.int .i64 0)),(.sc (.int .i64 0))] [(0,1,(.t 10)),(1,1,(.t 11))]),iH 13 (.cq (.t 9) [(.t 12)])])
theorem agb:Dk Tryz.prog 169 Y9 [] 14:=aV Tryz.func169
def PQ:IC:=(.seq (.ops [iH 2 (.box 2 164 (.t 0)),iP 4 (.mv (.k (.sc (.pointer none))))]) (.seq (.seq (.ops [iP 6 (.an 1 (.t 2)),iH 7 (yD 1 6),iM 8 1,iH 9 (.gx (.pL none (.sc (.pointer none)) false) [(.t 7),(.t 8)]),iM 5 9]) (.seq (.ops [iM 10 5,iH 11 (.gx (.qJ false) [(.t 10)]),iM 12 11,gP 13 12 false (.an 0 (.t 2)),gH 14 12 false (yD 1 13),gH 15 12 false (.gx (.qJ true) [(.t 14)]),iP 16 (.pick (.t 12) kT (.t 15))]) (.cond (.t 16) (.seq (.ops [iM 17 5,iM 4 17]) .ret) .skip))) (.seq (.ops [iP 18 (.an 0 (.t 2)),iH 19 (yD 1 18),iP 20 (.bV (.t 19)),iP 21 (.an 0 (.t 20)),iH 22 (yA 2 21),iM 23 1,iH 24 (yC 191 22 23),iM 4 24]) .ret)))
theorem Za:Dk Tryz.prog 191 PQ [(.t 4)] 25:=aV Tryz.func191
def Zb:IC:=(.seq (.ops [iH 1 (.box 2 164 (.t 0)),iH 2 (.alloc (.agg [(.sc (.pointer none)),(.sc (.map none))]) 164)]) (.seq (.ops [iH 3 (yA 2 1),iP 4 (.build [(.sc (.pointer none)),(.sc (.map none))] [(0,2,(.t 3))]),iH 5 (.box 2 275 (.t 4)),iH 6 (.gx .ol []),iP 7 (.build [(.sc (.pointer none)),(.sc (.map none))] [(0,1,(.t 5)),(1,1,(.t 6))]),iS 2 2 7]) .ret))
theorem agc:Dk Tryz.prog 172 Zb [(.c 2 2 true)] 8:=aV Tryz.func172
def bp(B:List Nat)(j:Nat):AV:=.ptr 4 (B.getD j 0) 0 0
def lF:AV:=.sc (.pointer none)
def eE(a:AV)(m:Nat):AV:=.agg [a,.ptr 0 m 0 0]
def tR(s:AV):aP:=⟨2,[s],true,275⟩
def j7(B:List Nat)(f:bn):aP:=⟨0,mE (bp B) f,true,0⟩
def k9(n:Nat)(f:bn):Prop:=∀p∈f,p.2<n
def gv(B:List Nat)(H:Y):List bn→AV→List Nat→Prop
 |[],_,_=>False
 |[f],s,ms=>∃m,ms=[m]∧Y.find H m=some (j7 B f)∧s=eE lF m
 |f::g::r,s,ms=>∃m ue a s',ms=m::ue∧Y.find H m=some (j7 B f)∧s=eE (.ptr 2 a 0 0) m∧Y.find H a=some (tR s')∧gv B H (g::r) s' ue
theorem gv.keep{B:List Nat}{H G:Y}:∀{env:List bn}{s:AV}{ms:List Nat},gv B H env s ms→(∀id b,Y.find H id=some b→((id∈ms∧b.k=0)∨(b.ty=275∧b.k=2))→Y.find G id=some b)→gv B G env s ms
 |[],_,_,h,_=>h.elim
 |[f],s,ms,h,k=>by
  obtain ⟨m,rfl,h1,h2⟩:=h
  exact ⟨m,rfl,k m _ h1 (.inl ⟨by simp,rfl⟩),h2⟩
 |f::g::r,s,ms,h,k=>by
  obtain ⟨m,ue,a,s',rfl,h1,h2,h3,h4⟩:=h
  exact ⟨m,ue,a,s',rfl,k m _ h1 (.inl ⟨by simp,rfl⟩),h2,k a _ h3 (.inr ⟨rfl,rfl⟩),h4.keep fun id b hb hc=>k id b hb (hc.imp (fun h=>⟨by simp[h.1],h.2⟩) (fun h=>h))⟩
theorem gv.form{B:List Nat}{H:Y}{env:List bn}{s:AV}{ms:List Nat}(h:gv B H env s ms):∃a m ue,s=eE a m∧ms=m::ue∧Y.find H m=some (j7 B (env.headD [])):=by
 match env,h with
 |[f],h=>obtain ⟨m,e,h1,h2⟩:=h;exact ⟨_,m,_,h2,e,h1⟩
 |f::g::r,h=>obtain ⟨m,ue,a,s',e,h1,h2,h3,h4⟩:=h;exact ⟨_,m,_,h2,e,h1⟩
theorem sk{B:List Nat}{f:bn}{x:ByteArray}:nR (.string x) lF (mE (bp B) f)=match cL x f with
  |some j=>bp B j
  |none=>lF:=by
 rw[Lr]
 cases cL x f<;>rfl
theorem AK(B:List Nat)(f:bn):fM none (mE (bp B) f)=True:=ab4 (bp B) f
theorem AL(l:List Int)(ro:Option (List AV))(H:Y)(hl:l.length≤100000000):D Tryz.prog 170 [.am 1 (aK l) ro] H (.ret (.am 1 (aK l) none)) H:=by
 refine aG (Nat.le_refl _) (af2 (aA ?_))
 cases l with
 |nil =>
  simp -implicitDefEqProofs (maxSteps:=99999999) (disch:=omega) only[PM,Hf,va,vg,vs,vh,vk,simprocAttr]
  refine ⟨?_,?_⟩
  ·refine zD0 ?_
   exact dD .refl .nil
  ·refine zD0 ?_
   exact dD .refl .nil
 |cons x r =>
  simp only[List.length_cons] at hl
  simp -implicitDefEqProofs (maxSteps:=99999999) (disch:=omega) only[PM,xD,aB,va,vg,vs,vh,vk,simprocAttr]
  refine ⟨by omega,nA (fun i hi=>by rw[ai hi]) (.aD (by unfold cP;rw[if_neg (by omega)];rfl) (aJ rfl) rfl (by simp[aB]) ?_)⟩
  simp only[List.drop_zero]
  rw[List.take_of_length_le (by simp[aB])]
  exact sj (l:=x::r)
def fdV(B:List Nat):Option Nat→AV
 |some j=>bp B j
 |none=>lF
def tv(f:jU):AV:=.eP 159 (.agg [.sc (.int .i64 f.1),.sc (.int .i64 f.2)])
def fG(cf bB:Nat)(B:List Nat)(ws:WS):aP:=⟨5,[.agg [.sc (.pointer none),.ptr 0 cf 0 0,aW 1 (ws.all.map (bp B)) bB,.sc (.int .i64 ws.at_),.fn (.func 110) [] []]],true,167⟩
def bc(l:List (List Int)):List AV:=l.map fun p=>.am 1 (aK p) none
def jm(u:Nat)(b:Bd):aP:=⟨4,[.agg [.am 1 (aK b.path) none,.sc (.string b.name),aW 1 (bc b.cZ) u,.sc (.int .i64 b.many)]],true,107⟩
theorem Hl(s:AV)(hs:s.cells.length=2∧s.isAgg=true)(H:Y):DK Tryz.prog 172 [s] H (fun e H'=>∃v,e = .ret v∧∃a m,v=eE (.ptr 2 a 0 0) m∧(H.length≤a∧H.length≤m)∧Y.find H' a=some (tR s)∧Y.find H' m=some (j7 [] [])∧H.length≤H'.length∧∀id,id<H.length→Y.find H' id=Y.find H id):=by
 obtain ⟨c1,c2⟩:=hs
 match s,c1,c2 with
 |.agg [x,y],_,_ =>
  refine agc (aA ?_)
  simp only[Zb,ux]
  refine Z fun L hL=>?_
  refine aw ?_
  refine hL _ _ ?_
  clear hL
  refine Z fun L hL=>?_
  refine aw ?_
  refine hL _ _ ?_
  clear hL
  refine aw ?_
  refine ⟨_,rfl,H.length+2,H.length+3,rfl,⟨by omega,by omega⟩,?_,?_,by omega,fun id hid=>?_⟩
  ·rw[ai (by simp only[List.length_cons];omega),aJ (by simp only[List.length_cons])]
   rfl
  ·rw[aJ (by simp only[List.length_cons])]
   rfl
  ·rw[ai (by simp;omega),ai (by simp;omega),ai (by simp;omega),ai hid]
theorem Ed{H G:Y}{x y:AV}(h:Over H G)(hz:Gz G H.length [] x y):eB H (.bP x) G (.bP y) H:=by
 obtain ⟨A,rfl⟩:=h.split
 exact kw [] (by simp) (by simp) (by simp) (fun id k hid hk=>.inl ⟨hk,by rw[Y.bF hid];exact hk⟩) (fun i s k hs=>by simp at hs) hz
theorem Zc(f:jU)(H:Y):D Tryz.prog 110 [.agg [.sc (.int .i64 f.1),.sc (.int .i64 f.2)]] H (.bP (tv f)) H:=by
 refine aG (Nat.le_refl _) (af6 (aA ?_))
 simp only[Y4,ux]
 refine aw ?_
 exact Ed (by repeat constructor) (.eP (.agg (.cons (.same trivial) (.cons (.same trivial) .nil))))
theorem zy(f:jU)(wid cf bB:Nat)(B:List Nat)(ws:WS)(H:Y)(hw:Y.find H wid=some (fG cf bB B ws)):D Tryz.prog 169 [.ptr 5 wid 0 0,.sc (.int .i64 f.1),.sc (.int .i64 f.2)] H (.bP (tv f)) H:=by
 have hw':=hw
 unfold fG at hw'
 have hl:=Zc f H
 refine aG (Nat.le_refl _) (agb (aA ?_))
 simp only[Y9,ux]
 refine aI hw' ?_
 refine ⟨rfl,pV hl ?_⟩
 exact Ed .refl (.eP (.agg (.cons (.same trivial) (.cons (.same trivial) .nil))))
theorem Rz(B:List Nat)(x:ByteArray):∀(env:List bn)(s:AV)(ms:List Nat)(H:Y),gv B H env s ms→DK Tryz.prog 191 [s,.sc (.string x)] H (fun e H'=>∃v,e = .ret v∧v=fdV B (cF env x)∧H.length≤H'.length∧∀id,id<H.length→Y.find H' id=Y.find H id)
 |[],_,_,_,h=>h.elim
 |[f],s,ms,H,h=>by
  obtain ⟨m,rfl,h1,rfl⟩:=h
  have o8:=Y.ax h1
  have kj:=h1
  unfold j7 at kj
  have hok:=AK B f
  have iI:=sk (B:=B) (f:=f) (x:=x)
  unfold lF at iI
  refine Za (aA ?_)
  simp only[PQ,ux]
  unfold eE lF
  cases hg:cL x f with
  |some j =>
   have PR:cF [f] x=some j:=by rw[cF];rw[hg]
   rw[PR]
   simp only[hg] at iI
   unfold bp at iI hok kj
   refine Z fun L hL=>?_
   refine aw ?_
   refine hL _ _ ?_
   clear hL
   refine Z fun L hL=>?_
   refine aI (gq kj hok iI) ?_
   exact ⟨_,rfl,rfl,by omega,fun id hid=>ai hid⟩
  |none =>
   have PR:cF [f] x=none:=by rw[cF];rw[hg];rfl
   rw[PR]
   simp only[hg] at iI
   unfold bp at iI hok kj
   refine Z fun L hL=>?_
   refine aw ?_
   refine hL _ _ ?_
   clear hL
   refine Z fun L hL=>?_
   refine aI (gq kj hok iI) ?_
   exact ⟨_,rfl,rfl,by omega,fun id hid=>ai hid⟩
 |f::g::r,s,ms,H,h=>by
  obtain ⟨m,ue,a,s',rfl,h1,rfl,h3,h4⟩:=h
  have o8:=Y.ax h1
  have hal:=Y.ax h3
  have kj:=h1
  unfold j7 at kj
  have Vy:=h3
  unfold tR at Vy
  have hok:=AK B f
  have iI:=sk (B:=B) (f:=f) (x:=x)
  unfold lF at iI
  refine Za (aA ?_)
  simp only[PQ,ux]
  unfold eE
  cases hg:cL x f with
  |some j =>
   have PR:cF (f::g::r) x=some j:=by rw[cF];rw[hg]
   rw[PR]
   simp only[hg] at iI
   unfold bp at iI hok kj
   refine Z fun L hL=>?_
   refine aw ?_
   refine hL _ _ ?_
   clear hL
   refine Z fun L hL=>?_
   refine aI (gq kj hok iI) ?_
   exact ⟨_,rfl,rfl,by omega,fun id hid=>ai hid⟩
  |none =>
   have PR:cF (f::g::r) x=cF (g::r) x:=by conv=>lhs;rw[cF];simp only[hg]
   rw[PR]
   simp only[hg] at iI
   unfold bp at iI hok kj
   have JO:∀b,gv B (b::H) (g::r) s' ue:=fun b=>h4.keep fun id k hk _=>by rw[ai (Y.ax hk)];exact hk
   refine Z fun L hL=>?_
   refine aw ?_
   refine hL _ _ ?_
   clear hL
   refine Z fun L hL=>?_
   refine aI (gq kj hok iI) ?_
   refine hL _ _ ?_
   clear hL
   obtain ⟨a',m',ms2,rfl,-,-⟩:=h4.form
   unfold eE at Vy JO
   refine aI Vy ?_
   refine gp (Rz B x (g::r) _ ue _ (JO _)) ?_
   rintro v H' hle ⟨rfl,q1,q2⟩
   refine aw ?_
   simp only[List.length_cons] at q1 q2
   exact ⟨_,rfl,rfl,by omega,fun id hid=>by rw[q2 id (by omega),ai hid]⟩
theorem Ho{k:ByteArray}{a:Nat}:∀{M:bn}{p:ByteArray×Nat},p∈fD k a M→p=(k,a)∨p∈M
 |[],p,h=>by simp only[fD,List.mem_singleton] at h;exact .inl h
 |q::r,p,h=>by
  simp only[fD] at h
  split at h
  ·rcases List.mem_cons.1 h with h|h
   ·exact .inl h
   ·exact .inr (by simp[h])
  ·rcases List.mem_cons.1 h with h|h
   ·exact .inr (by simp[h])
   ·rcases Ho h with h|h
    ·exact .inl h
    ·exact .inr (by simp[h])
theorem k9.set{n m:Nat}{f:bn}(h:k9 n f)(hm:n≤m){k:ByteArray}{a:Nat}(ha:a<m):k9 m (fD k a f):=fun p hp=>by
 rcases Ho hp with rfl|h1
 ·exact ha
 ·have:=h p h1;omega
theorem k9.le{n m:Nat}{f:bn}(h:k9 n f)(hm:n≤m):k9 m f:=fun p hp=>by have:=h p hp;omega
theorem RA{B C:List Nat}{j:Nat}(h:j<B.length):bp (B++C) j=bp B j:=by unfold bp;rw[List.getD,List.getD,List.getElem?_append_left h]
theorem wl{B C:List Nat}{f:bn}(h:k9 B.length f):j7 (B++C) f=j7 B f:=by
 unfold j7
 congr 1
 unfold mE
 apply List.map_congr_left
 intro p hp
 rw[RA (h p hp)]
theorem Zd{B C:List Nat}{l:List Nat}(h:∀j∈l,j<B.length):l.map (bp (B++C))=l.map (bp B):=List.map_congr_left fun j hj=>RA (h j hj)
theorem gv.ext{B C:List Nat}{H:Y}:∀{env:List bn}{s:AV}{ms:List Nat},gv B H env s ms→(∀f∈env,k9 B.length f)→gv (B++C) H env s ms
 |[],_,_,h,_=>h.elim
 |[f],s,ms,h,k=>by
  obtain ⟨m,rfl,h1,h2⟩:=h
  exact ⟨m,rfl,by rw[wl (k f (by simp))];exact h1,h2⟩
 |f::g::r,s,ms,h,k=>by
  obtain ⟨m,ue,a,s',rfl,h1,h2,h3,h4⟩:=h
  exact ⟨m,ue,a,s',rfl,by rw[wl (k f (by simp))];exact h1,h2,h3,h4.ext fun x hx=>k x (by simp[hx])⟩
def tw(b:aP):Prop:=b.k≠0∧b.k≠5∧b.ty≠107∧(b.k=1→b.exact=true)
def dr(m:Nat)(H G:Y):Prop:=H.length≤G.length∧∀id b,Y.find H id=some b→(tw b∨(b.k=0∧id≠m))→Y.find G id=some b
theorem dr.refl{m:Nat}{H:Y}:dr m H H:=⟨Nat.le_refl _,fun _ _ h _=>h⟩
theorem dr.trans{m:Nat}{H G K:Y}(h:dr m H G)(k:dr m G K):dr m H K:=⟨Nat.le_trans h.1 k.1,fun id b hb hs=>k.2 id b (h.2 id b hb hs) hs⟩
theorem dr.cons{m:Nat}{H G:Y}(h:dr m H G)(b:Option aP):dr m H (b::G):=⟨by simp only[List.length_cons];have:=h.1;omega,fun id k hk hs=>by
 have:=h.2 id k hk hs
 rw[ai (Y.ax this)];exact this⟩
theorem dr.all{m:Nat}{H G:Y}(hl:H.length≤G.length)(h:∀id,id<H.length→Y.find G id=Y.find H id):dr m H G:=⟨hl,fun id b hb _=>by rw[h id (Y.ax hb)];exact hb⟩
structure BS(wid cf bB:Nat)(B U:List Nat)(ws:WS)(H:Y):Prop where
 w:Y.find H wid=some (fG cf bB B ws)
 al:ws.all≠[]→Y.find H bB=some ⟨1,ws.all.map (bp B),false,105⟩
 bl:B.length=ws.bs.length
 ul:U.length=ws.bs.length
 bd:∀j,j<ws.bs.length→Y.find H (B.getD j 0)=some (jm (U.getD j 0) (bq ws.bs j))
 us:∀j,j<ws.bs.length→(bq ws.bs j).cZ≠[]→Y.find H (U.getD j 0)=some ⟨1,bc (bq ws.bs j).cZ,false,30⟩
 nd:∀i j,i<ws.bs.length→j<ws.bs.length→B.getD i 0=B.getD j 0→i=j
 ud:∀i j,i<ws.bs.length→j<ws.bs.length→(bq ws.bs i).cZ≠[]→(bq ws.bs j).cZ≠[]→U.getD i 0=U.getD j 0→i=j
 ao:∀j∈ws.all,j<ws.bs.length
theorem BS.keep{wid cf bB:Nat}{B U:List Nat}{ws:WS}{H G:Y}(h:BS wid cf bB B U ws H)(k:∀id b,Y.find H id=some b→(b.k=5∨b.k=1∨b.k=4)→Y.find G id=some b):BS wid cf bB B U ws G :=
 ⟨k _ _ h.w (.inl rfl),fun e=>k _ _ (h.al e) (.inr (.inl rfl)),h.bl,h.ul,fun j hj=>k _ _ (h.bd j hj) (.inr (.inr rfl)),fun j hj e=>k _ _ (h.us j hj e) (.inr (.inl rfl)),h.nd,h.ud,h.ao⟩
theorem BS.cons{wid cf bB:Nat}{B U:List Nat}{ws:WS}{H:Y}(h:BS wid cf bB B U ws H)(b:Option aP):BS wid cf bB B U ws (b::H):=h.keep fun id k hk _=>by rw[ai (Y.ax hk)];exact hk
theorem gv.cons{B:List Nat}{H:Y}{env:List bn}{s:AV}{ms:List Nat}(h:gv B H env s ms)(b:Option aP):gv B (b::H) env s ms:=h.keep fun id k hk _=>by rw[ai (Y.ax hk)];exact hk
theorem gv.top{B:List Nat}{H G:Y}{env:List bn}{s:AV}{m:Nat}{ms:List Nat}(h:gv B H env s (m::ms))(hnd:m∉ms){f:bn}(hm:Y.find G m=some (j7 B f))(k:∀id b,Y.find H id=some b→id≠m→(b.k=0∨(b.ty=275∧b.k=2))→Y.find G id=some b):gv B G (f::env.tail) s (m::ms):=by
 match env,h with
 |[g],h =>
  obtain ⟨m',e,h1,h2⟩:=h
  cases e
  exact ⟨m,rfl,hm,h2⟩
 |g::g'::r,h =>
  obtain ⟨m',ue,a,s',e,h1,h2,h3,h4⟩:=h
  cases e
  refine ⟨m,ms,a,s',rfl,hm,h2,k a _ h3 (fun e=>?_) (.inr ⟨rfl,rfl⟩),h4.keep fun id b hb hc=>?_⟩
  rotate_left
  ·rcases hc with ⟨h5,h6⟩|h5
   ·exact k id b hb (fun e=>hnd (e▸h5)) (.inl h6)
   ·refine k id b hb (fun e=>?_) (.inr h5)
    rw[e,h1] at hb
    cases hb
    simp[j7] at h5
  rw[e] at h3
  rw[h3] at h1
  cases h1
def PS(wid cf:Nat)(s:AV)(m:Nat)(ms:List Nat)(B:List Nat)(H:Y)(r:Except jU (List bn×WS))(e:cH)(H':Y):Prop:=match r with
 |.error f=>e = .bP (tv f)∧dr m H H'
 |.ok q=>e = .ret (.aO [])∧dr m H H'∧∃bB C U,BS wid cf bB (B++C) U q.2 H'∧gv (B++C) H' q.1 s (m::ms)∧∀f∈q.1,k9 q.2.bs.length f
theorem RB(wid cf bB:Nat)(B U:List Nat)(ws:WS)(H:Y)(env:List bn)(s:AV)(m:Nat)(ms:List Nat)(hB:BS wid cf bB B U ws H)(hE:gv B H env s (m::ms))(hnd:m∉ms)(hfo:∀f∈env,k9 ws.bs.length f)
  (t:Nd)(ro:Option (List AV))(p:List Int)(hp:p.length≤1000000)(hts:t.text.size≤100000000)(hal:ws.all.length≤90000000)(a:Nat) :
  DK Tryz.prog 111 [.ptr 5 wid 0 0,s,dZ t ro,.am 1 (aK p) none,.sc (.int .i64 a)] H (PS wid cf s m ms B H (dx env ws t.text p a)):=by
 obtain ⟨a0,m',ms2,rfl,e1,hm⟩:=hE.form
 cases e1
 have o8:=Y.ax hm
 have hwl:=Y.ax hB.w
 have hw:=hB.w
 have hm':=hm
 have hok:=AK B (env.headD [])
 have iI:=sk (B:=B) (f:=env.headD []) (x:=t.text)
 unfold lF at iI
 unfold fG at hw
 unfold j7 at hm'
 rw[aQ]
 refine af9 (aA ?_)
 simp only[Y7,ux]
 unfold eE
 cases hg:cL t.text (env.headD []) with
 |some j =>
  have hb:dx env ws t.text p a = .error (110,a):=by unfold dx;rw[hg]
  rw[hb]
  simp only[hg] at iI
  unfold bp at iI hok hm'
  refine Z fun L hL=>?_
  refine aw ?_
  refine hL _ _ ?_
  clear hL
  refine Z fun L hL=>?_
  refine aI (gq hm' hok iI) ?_
  have hc:=(hB.cons (some ⟨2,[.agg [a0,.ptr 0 m 0 0]],true,164⟩)).cons (some ⟨4,[.agg [.sc (.int .u8 t.kind),.sc (.string t.text),.sc (.int .i64 t.num),.am 4 (bh t.kids) ro]],true,25⟩)
  refine pV (zy (110,a) wid cf bB B ws _ hc.w) ?_
  exact ⟨rfl,(dr.refl.cons _).cons _⟩
 |none =>
  have hb:dx env ws t.text p a = .ok (fD t.text ws.bs.length (env.headD [])::env.tail,{ ws with bs:=ws.bs++[⟨p,t.text,[],0⟩],all:=ws.all++[ws.bs.length] }):=by unfold dx;rw[hg]
  rw[hb]
  simp only[hg] at iI
  refine Z fun L hL=>?_
  refine aw ?_
  refine hL _ _ ?_
  clear hL
  refine Z fun L hL=>?_
  refine aI (gq hm' hok iI) ?_
  have adM:k9 B.length (env.headD []):=by
   rw[hB.bl]
   cases env with
   |nil=>exact fun p hp=>by simp at hp
   |cons f r=>exact hfo f (by simp)
  have oc:bp (B++[H.length+2]) B.length = .ptr 4 (H.length+2) 0 0:=by simp[bp,List.getD]
  have hmp:qK (.string t.text) (.ptr 4 (H.length+2) 0 0) (mE (bp B) (env.headD []))=mE (bp (B++[H.length+2])) (fD t.text B.length (env.headD [])):=by
   have h1:mE (bp B) (env.headD [])=mE (bp (B++[H.length+2])) (env.headD []):=by
    have:=wl (C:=[H.length+2]) adM
    unfold j7 at this
    simp only[aP.mk.injEq,true_and,and_true] at this
    exact this.symm
   rw[h1,←oc]
   exact Ls
  refine hL _ _ ?_
  clear hL
  refine Z fun L hL=>?_
  refine aw ?_
  refine aL (AL p none _ (by omega)) ?_
  refine aw ?_
  refine aL (I1 _ _ hts) ?_
  refine aw ?_
  refine hL _ _ ?_
  clear hL
  refine Z fun L hL=>?_
  refine aI (gq hm' hok hmp) ?_
  refine hL _ _ ?_
  clear hL
  have hwm:wid≠m:=fun e=>by rw[e,hm] at hw;simp[j7] at hw
  have adN:ws.all≠[]→bB<H.length:=fun e=>Y.ax (hB.al e)
  have ham:ws.all≠[]→bB≠m:=fun e e2=>by
   have:=hB.al e
   rw[e2,hm] at this
   simp[j7] at this
  have ri:ws.all.map (bp B)≠[]→ws.all≠[]:=fun e e2=>e (by rw[e2];rfl)
  obtain ⟨tS,F,p1,p2,p3,p4,p5,p6⟩:=tt (H:=some ⟨4,[.agg [.am 1 (aK p) none,.sc (.string t.text),.am 0 [] (some []),.sc (.int .i64 0)]],true,107⟩::some ⟨4,[.agg [.sc (.int .u8 t.kind),.sc (.string t.text),.sc (.int .i64 t.num),.am 4 (bh t.kids) ro]],true,25⟩::some ⟨2,[.agg [a0,.ptr 0 m 0 0]],true,164⟩::Y.set H m (some ⟨0,mE (bp (B++[H.length+2])) (fD t.text B.length (env.headD [])),true,0⟩)) (k:=1) (ty:=105) (xs:=ws.all.map (bp B)) (ys:=[.ptr 4 (H.length+2) 0 0]) (id:=bB)
   (fun e=>by
    have e:=ri e
    have:=adN e
    rw[ai (by simp only[List.length_cons,Y.af];omega),ai (by simp only[List.length_cons,Y.af];omega),ai (by rw[Y.af];omega),Y.aj (ham e),hB.al e,bj (by simpa using e)]) (by simp only[List.length_map,List.length_cons,List.length_nil];omega)
  have hne:ws.all.map (bp B)++[AV.ptr 4 (H.length+2) 0 0]≠[]:=by simp
  obtain ⟨vD,L8⟩:=p4 hne
  simp only[List.length_cons,Y.af] at L8 p5 p6
  have cE:∀id b,Y.find H id=some b→id≠m→(ws.all≠[]→id≠bB)→Y.find F id=some b:=fun id b hb h1 h2=>by
   have:=Y.ax hb
   rw[p6 id (by omega) (fun e=>h2 (ri e)),ai (by simp only[List.length_cons,Y.af];omega),ai (by simp only[List.length_cons,Y.af];omega),ai (by rw[Y.af];omega),Y.aj h1,hb]
  have jP:=cE wid _ hw hwm (fun e e2=>by have:=hB.al e;rw[←e2,hw] at this;simp at this)
  refine aI (kZ hw p1 p2 p3 jP) ?_
  have hwF:wid<F.length:=by omega
  have hk:∀(x:Option aP) id b,Y.find H id=some b→id≠m→id≠wid→(ws.all≠[]→id≠bB)→Y.find (Y.set F wid x) id=some b:=fun x id b hb h1 h2 h3=>by
   rw[Y.aj h2]
   exact cE id b hb h1 h3
  have Ax:∀id b,Y.find H id=some b→(b.k≠5→id≠wid)∧((b.k≠1∨b.ty≠105∨b.exact=true)→ws.all≠[]→id≠bB)∧(b.k≠0→id≠m):=fun id b hb=>by
   refine ⟨fun h e=>?_,fun h e1 e=>?_,fun h e=>?_⟩
   ·rw[e,hw] at hb;cases hb;simp at h
   ·rw[e,hB.al e1] at hb;cases hb;simp at h
   ·rw[e,hm] at hb;cases hb;simp[j7] at h
  have ui:Y.find F (H.length+2)=some ⟨4,[.agg [.am 1 (aK p) none,.sc (.string t.text),.am 0 [] (some []),.sc (.int .i64 0)]],true,107⟩:=by
   rw[p6 (H.length+2) (by omega) (fun e=>by have:=adN (ri e);omega),aJ (by simp only[List.length_cons,Y.af])]
  have hmF:Y.find F m=some (j7 (B++[H.length+2]) (fD t.text B.length (env.headD []))):=by
   rw[p6 m (by omega) (fun e=>(ham (ri e)).symm),ai (by simp only[List.length_cons,Y.af];omega),ai (by simp only[List.length_cons,Y.af];omega),ai (by rw[Y.af];omega),Y.aC o8]
   rfl
  have ir:=hB.bl
  have ua:=hB.ul
  have RC:∀j,j<ws.bs.length→bq (ws.bs++[(⟨p,t.text,[],0⟩:Bd)]) j=bq ws.bs j:=fun j hj=>by simp[bq,List.getD,List.getElem?_append_left hj]
  have RD:bq (ws.bs++[(⟨p,t.text,[],0⟩:Bd)]) ws.bs.length=⟨p,t.text,[],0⟩:=by simp[bq,List.getD]
  have Ze:∀j,j<ws.bs.length→(B++[H.length+2]).getD j 0=B.getD j 0:=fun j hj=>by rw[List.getD,List.getD,List.getElem?_append_left (by omega)]
  have hUo:∀j,j<ws.bs.length→(U++[0]).getD j 0=U.getD j 0:=fun j hj=>by rw[List.getD,List.getD,List.getElem?_append_left (by omega)]
  have Lz:(B++[H.length+2]).getD ws.bs.length 0=H.length+2:=by simp[List.getD,←ir]
  have adO:∀j,j<ws.bs.length→B.getD j 0<H.length:=fun j hj=>Y.ax (hB.bd j hj)
  have hall:ws.all.map (bp B)++[AV.ptr 4 (H.length+2) 0 0]=(ws.all++[ws.bs.length]).map (bp (B++[H.length+2])):=by
   rw[List.map_append,Zd fun j hj=>by rw[ir];exact hB.ao j hj]
   simp only[List.map_cons,List.map_nil]
   rw[←ir,oc]
  refine ⟨rfl,⟨by rw[Y.af];omega,fun id b hb hs=>?_⟩,tS,[H.length+2],U++[0],⟨?_,fun _=>?_,?_,?_,fun j hj=>?_,fun j hj e=>?_,fun i j hi hj e=>?_,fun i j hi hj e1 e2 e=>?_,fun j hj=>?_⟩,?_,fun f hf=>?_⟩
  ·obtain ⟨g1,g2,g3⟩:=Ax id b hb
   rcases hs with hs|⟨h0,hs⟩
   ·exact hk _ id b hb (g3 hs.1) (g1 hs.2.1) (g2 (by
     by_cases c:b.k=1
     ·exact .inr (.inr (hs.2.2.2 c))
     ·exact .inl c))
   ·exact hk _ id b hb hs (g1 (by omega)) (g2 (.inl (by omega)))
  ·rw[Y.aC hwF]
   unfold fG
   rw[hall]
  ·rw[Y.aj (by omega),vD,bj hne,hall]
  ·simp[ir]
  ·simp[ua]
  ·simp only[List.length_append,List.length_cons,List.length_nil] at hj
   by_cases c:j<ws.bs.length
   ·have hb:=hB.bd j c
    obtain ⟨g1,g2,g3⟩:=Ax _ _ hb
    simp only[RC j c,Ze j c,hUo j c]
    exact hk _ _ _ hb (g3 (by simp[jm])) (g1 (by simp[jm])) (g2 (.inl (by simp[jm])))
   ·have e:j=ws.bs.length:=by omega
    subst e
    simp only[RD,Lz]
    rw[Y.aj (by omega),ui]
    rfl
  ·simp only[List.length_append,List.length_cons,List.length_nil] at hj
   by_cases c:j<ws.bs.length
   ·simp only[RC j c] at e ⊢
    simp only[hUo j c]
    have hb:=hB.us j c e
    obtain ⟨g1,g2,g3⟩:=Ax _ _ hb
    exact hk _ _ _ hb (g3 (by simp)) (g1 (by simp)) (g2 (.inr (.inl (by simp))))
   ·have e2:j=ws.bs.length:=by omega
    subst e2
    simp only[RD] at e
    exact absurd rfl e
  ·simp only[List.length_append,List.length_cons,List.length_nil] at hi hj
   by_cases c:i<ws.bs.length<;>by_cases c2:j<ws.bs.length
   ·rw[Ze i c,Ze j c2] at e
    exact hB.nd i j c c2 e
   ·have e2:j=ws.bs.length:=by omega
    subst e2
    rw[Ze i c,Lz] at e
    have:=adO i c
    omega
   ·have e2:i=ws.bs.length:=by omega
    subst e2
    rw[Ze j c2,Lz] at e
    have:=adO j c2
    omega
   ·omega
  ·simp only[List.length_append,List.length_cons,List.length_nil] at hi hj
   by_cases c:i<ws.bs.length<;>by_cases c2:j<ws.bs.length
   ·simp only[RC i c] at e1
    simp only[RC j c2] at e2
    rw[hUo i c,hUo j c2] at e
    exact hB.ud i j c c2 e1 e2 e
   ·have e3:j=ws.bs.length:=by omega
    subst e3
    simp only[RD] at e2
    exact absurd rfl e2
   ·have e3:i=ws.bs.length:=by omega
    subst e3
    simp only[RD] at e1
    exact absurd rfl e1
   ·omega
  ·simp only[List.length_append,List.length_cons,List.length_nil]
   rcases List.mem_append.1 hj with h|h
   ·have:=hB.ao j h;omega
   ·rw[List.mem_singleton] at h;omega
  ·refine (hE.ext (C:=[H.length+2]) (by rw[ir];exact hfo)).top hnd ?_ (fun id b hb h1 h2=>?_)
   ·rw[Y.aj hwm.symm,hmF,ir]
   ·obtain ⟨g1,g2,g3⟩:=Ax id b hb
    have h3:b.k≠5∧b.k≠1:=by rcases h2 with h|⟨_,h⟩<;>omega
    exact hk _ id b hb h1 (g1 h3.1) (g2 (.inl h3.2))
  ·simp only[List.length_append,List.length_cons,List.length_nil]
   rcases List.mem_cons.1 hf with rfl|h
   ·exact (ir▸adM).set (by omega) (by omega)
   ·exact (hfo f (List.mem_of_mem_tail h)).le (by omega)
def dQ(H G:Y):Prop:=H.length≤G.length∧∀id b,Y.find H id=some b→(tw b∨b.k=0)→Y.find G id=some b
theorem dQ.m{H G:Y}(h:dQ H G)(m:Nat):dr m H G:=⟨h.1,fun id b hb hs=>h.2 id b hb (hs.imp (fun h=>h) fun h=>h.1)⟩
theorem dQ.refl{H:Y}:dQ H H:=⟨Nat.le_refl _,fun _ _ h _=>h⟩
theorem dQ.trans{H G K:Y}(h:dQ H G)(k:dQ G K):dQ H K:=⟨Nat.le_trans h.1 k.1,fun id b hb hs=>k.2 id b (h.2 id b hb hs) hs⟩
theorem dQ.cons{H G:Y}(h:dQ H G)(b:Option aP):dQ H (b::G):=⟨by simp only[List.length_cons];have:=h.1;omega,fun id k hk hs=>by
 have:=h.2 id k hk hs
 rw[ai (Y.ax this)];exact this⟩
theorem dQ.all{H G:Y}(hl:H.length≤G.length)(h:∀id,id<H.length→Y.find G id=Y.find H id):dQ H G:=⟨hl,fun id b hb _=>by rw[h id (Y.ax hb)];exact hb⟩
theorem gv.AM{B:List Nat}{H G:Y}{env:List bn}{s:AV}{ms:List Nat}(h:gv B H env s ms)(k:dQ H G):gv B G env s ms:=h.keep fun id b hb hc=>k.2 id b hb (hc.elim (fun h=>.inr h.2) fun h=>.inl ⟨by omega,by omega,by rw[h.1];decide,by omega⟩)
theorem BS.same{wid cf bB:Nat}{B U:List Nat}{ws:WS}{H G:Y}(h:BS wid cf bB B U ws H)(k:∀id,id<H.length→Y.find G id=Y.find H id):BS wid cf bB B U ws G:=h.keep fun id b hb _=>by rw[k id (Y.ax hb)];exact hb
def PT(wid cf:Nat)(B:List Nat)(H:Y)(r:Except jU WS)(e:cH)(H':Y):Prop:=match r with
 |.error f=>e = .bP (tv f)∧dQ H H'
 |.ok ws=>e = .ret (.aO [])∧dQ H H'∧∃bB U,BS wid cf bB B U ws H'
theorem qp(a:List (List Int))(p:List Int):bc (a++[p])=bc a++[.am 1 (aK p) none]:=by simp[bc]
theorem BS.used{wid cf bB:Nat}{B U:List Nat}{ws:WS}{G:Y}(hB:BS wid cf bB B U ws G){j:Nat}(hj:j<ws.bs.length)(p:List Int)(yO:(bq ws.bs j).cZ.length≤90000000) :
  ∃u' F,gQ G 1 30 [.am 1 (aK p) none] (aW 1 (bc (bq ws.bs j).cZ) (U.getD j 0))∧lC G 1 [.am 1 (aK p) none] (aW 1 (bc (bq ws.bs j).cZ) (U.getD j 0))=aW 1 (bc (bq ws.bs j).cZ++[.am 1 (aK p) none]) u'∧
   jy G 1 30 [.am 1 (aK p) none] (aW 1 (bc (bq ws.bs j).cZ) (U.getD j 0))=F∧Y.find F (B.getD j 0)=some (jm (U.getD j 0) (bq ws.bs j))∧
   dQ G (Y.set F (B.getD j 0) (some (jm u' { bq ws.bs j with cZ:=(bq ws.bs j).cZ++[p] })))∧
   BS wid cf bB B (U.set j u') { ws with bs:=ws.bs.set j { bq ws.bs j with cZ:=(bq ws.bs j).cZ++[p] } } (Y.set F (B.getD j 0) (some (jm u' { bq ws.bs j with cZ:=(bq ws.bs j).cZ++[p] }))):=by
 have LJ:bc (bq ws.bs j).cZ≠[]→(bq ws.bs j).cZ≠[]:=fun e e2=>e (by rw[e2];rfl)
 obtain ⟨u',F,p1,p2,p3,p4,p5,p6⟩:=tt (H:=G) (k:=1) (ty:=30) (xs:=bc (bq ws.bs j).cZ) (ys:=[.am 1 (aK p) none]) (id:=U.getD j 0) (fun e=>by rw[hB.us j hj (LJ e),bj e]) (by simp only[bc,List.length_map,List.length_cons,List.length_nil];omega)
 have hne:bc (bq ws.bs j).cZ++[AV.am 1 (aK p) none]≠[]:=by simp
 obtain ⟨vD,L8⟩:=p4 hne
 rw[bj hne] at vD
 have hbd:=hB.bd j hj
 have ir:=Y.ax hbd
 have cE:∀id b,Y.find G id=some b→(b.k≠1∨b.ty≠30∨b.exact=true∨id≠U.getD j 0)→Y.find F id=some b:=fun id b hb h=>by
  rw[p6 id (Y.ax hb) fun e e2=>?_]
  ·exact hb
  ·rw[e2,hB.us j hj (LJ e)] at hb
   cases hb
   rcases h with h|h|h|h
   ·simp at h
   ·simp at h
   ·simp at h
   ·exact h e2
 have jP:Y.find F (B.getD j 0)=some (jm (U.getD j 0) (bq ws.bs j)):=cE _ _ hbd (.inl (by simp[jm]))
 have hk:∀(x:Option aP) id b,Y.find G id=some b→(b.k≠1∨b.ty≠30∨b.exact=true∨id≠U.getD j 0)→id≠B.getD j 0→Y.find (Y.set F (B.getD j 0) x) id=some b:=fun x id b hb h h2=>by
  rw[Y.aj h2];exact cE id b hb h
 have oc:∀id b,Y.find G id=some b→(b.k≠4∨b.ty≠107)→id≠B.getD j 0:=fun id b hb h e=>by
  rw[e,hbd] at hb;cases hb;simp[jm] at h
 have xE:∀i,bq (ws.bs.set j { bq ws.bs j with cZ:=(bq ws.bs j).cZ++[p] }) i=if i=j then { bq ws.bs j with cZ:=(bq ws.bs j).cZ++[p] } else bq ws.bs i:=fun i=>by
  by_cases e:i=j
  ·subst e;simp[bq,List.getD,hj]
  ·rw[if_neg e];simp[bq,List.getD,List.getElem?_set_ne (Ne.symm e)]
 have hUs:∀i,i<ws.bs.length→(U.set j u').getD i 0=if i=j then u' else U.getD i 0:=fun i hi=>by
  have:=hB.ul
  by_cases e:i=j
  ·subst e
   have h:i<U.length:=by omega
   simp[List.getD,h]
  ·rw[if_neg e];simp[List.getD,List.getElem?_set_ne (Ne.symm e)]
 refine ⟨u',F,p1,p2,p3,jP,⟨by rw[Y.af];exact p5,fun id b hb hs=>?_⟩,⟨?_,fun e=>?_,?_,?_,fun i hi=>?_,fun i hi e=>?_,fun i i' hi hi' e=>?_,fun i i' hi hi' e1 e2 e=>?_,fun i hi=>?_⟩⟩
 ·refine hk _ id b hb ?_ (oc id b hb ?_)
  ·rcases hs with hs|hs
   ·by_cases c:b.k=1
    ·exact .inr (.inr (.inl (hs.2.2.2 c)))
    ·exact .inl c
   ·exact .inl (by omega)
  ·rcases hs with hs|hs
   ·exact .inr hs.2.2.1
   ·exact .inl (by omega)
 ·exact hk _ _ _ hB.w (.inl (by simp[fG])) (oc _ _ hB.w (.inl (by simp[fG])))
 ·exact hk _ _ _ (hB.al e) (.inr (.inl (by simp))) (oc _ _ (hB.al e) (.inl (by simp)))
 ·rw[List.length_set];exact hB.bl
 ·rw[List.length_set,List.length_set];exact hB.ul
 ·simp only[List.length_set] at hi
  simp only[xE,hUs i hi]
  by_cases e:i=j
  ·subst e
   simp only[if_true]
   rw[Y.aC (by omega)]
  ·simp only[if_neg e]
   exact hk _ _ _ (hB.bd i hi) (.inl (by simp[jm])) (fun h=>e (hB.nd i j hi hj h))
 ·simp only[List.length_set] at hi
  simp only[xE] at e
  simp only[xE,hUs i hi]
  by_cases c:i=j
  ·subst c
   simp only[if_true]
   rw[Y.aj (by omega),vD,qp]
  ·simp only[if_neg c] at e ⊢
   have hb:=hB.us i hi e
   by_cases c2:(bq ws.bs j).cZ=[]
   ·have h3:Y.find F (U.getD i 0)=some ⟨1,bc (bq ws.bs i).cZ,false,30⟩:=by
     rw[p6 _ (Y.ax hb) fun h=>absurd c2 (LJ h)];exact hb
    rw[Y.aj (oc _ _ hb (.inl (by simp)))]
    exact h3
   ·exact hk _ _ _ hb (.inr (.inr (.inr fun h=>c (hB.ud i j hi hj e c2 h)))) (oc _ _ hb (.inl (by simp)))
 ·simp only[List.length_set] at hi hi'
  exact hB.nd i i' hi hi' e
 ·simp only[List.length_set] at hi hi'
  simp only[xE] at e1 e2
  rw[hUs i hi,hUs i' hi'] at e
  by_cases c:i=j<;>by_cases c2:i'=j
  ·omega
  ·rw[if_pos c,if_neg c2] at e
   rw[if_neg c2] at e2
   have:=Y.ax (hB.us i' hi' e2)
   omega
  ·rw[if_neg c,if_pos c2] at e
   rw[if_neg c] at e1
   have:=Y.ax (hB.us i hi e1)
   omega
  ·rw[if_neg c,if_neg c2] at e
   rw[if_neg c] at e1
   rw[if_neg c2] at e2
   exact hB.ud i i' hi hi' e1 e2 e
 ·simp only[List.length_set]
  exact hB.ao i hi
theorem Zf(wid cf bB:Nat)(B U:List Nat)(ws:WS)(H:Y)(env:List bn)(s:AV)(ms:List Nat)(hB:BS wid cf bB B U ws H)(hE:gv B H env s ms)(hfo:∀x j,cF env x=some j→j<ws.bs.length)
  (t:Nd)(ro:Option (List AV))(hk:t.kind=22∨t.kind=25)(p:List Int)(hp:p.length≤1000000)(yO:∀j,(bq ws.bs j).cZ.length≤90000000)(a:Nat) :
  DK Tryz.prog 174 [.ptr 5 wid 0 0,s,dZ t ro,.am 1 (aK p) none,.sc (.int .i64 a)] H (PT wid cf B H (jV env ws t.kind t.text t.kids.length p a)):=by
 obtain ⟨a0,m,ms2,rfl,e1,hm⟩:=hE.form
 have hnm:dQ H (some ⟨4,[.agg [.sc (.int .u8 t.kind),.sc (.string t.text),.sc (.int .i64 t.num),.am 4 (bh t.kids) ro]],true,25⟩::some ⟨2,[.agg [a0,.ptr 0 m 0 0]],true,164⟩::H):=(dQ.refl.cons _).cons _
 have hBc:=(hB.cons (some ⟨2,[.agg [a0,.ptr 0 m 0 0]],true,164⟩)).cons (some ⟨4,[.agg [.sc (.int .u8 t.kind),.sc (.string t.text),.sc (.int .i64 t.num),.am 4 (bh t.kids) ro]],true,25⟩)
 have hEc:=(hE.cons (some ⟨2,[.agg [a0,.ptr 0 m 0 0]],true,164⟩)).cons (some ⟨4,[.agg [.sc (.int .u8 t.kind),.sc (.string t.text),.sc (.int .i64 t.num),.am 4 (bh t.kids) ro]],true,25⟩)
 rw[aQ]
 refine aga (aA ?_)
 simp only[Y8,ux]
 unfold eE
 unfold eE at hEc
 refine Z fun L hL=>?_
 refine aw ?_
 refine hL _ _ ?_
 clear hL
 refine Z fun L hL=>?_
 refine aw ?_
 refine gp (Rz B t.text env _ ms _ hEc) ?_
 rintro v G hle ⟨rfl,q1,q2⟩
 simp only[List.length_cons] at q1 q2
 have Zg:=hBc.same q2
 have hKG:dQ H G:=hnm.trans (.all q1 q2)
 have hnb:Y.find G (H.length+1)=some ⟨4,[.agg [.sc (.int .u8 t.kind),.sc (.string t.text),.sc (.int .i64 t.num),.am 4 (bh t.kids) ro]],true,25⟩:=by
  rw[q2 _ (by omega),aJ (by simp only[List.length_cons])]
 refine aw ?_
 refine hL _ _ ?_
 clear hL
 cases hf:cF env t.text with
 |none =>
  have hu:jV env ws t.kind t.text t.kids.length p a = .error (111,a):=by unfold jV;rw[hf]
  rw[hu]
  unfold fdV
  unfold lF
  refine aw ?_
  refine pV (zy (111,a) wid cf bB B ws _ Zg.w) ?_
  exact ⟨rfl,hKG⟩
 |some j =>
  have hj:=hfo _ _ hf
  unfold fdV bp
  have hbd:=Zg.bd j hj
  unfold jm at hbd
  have hwG:=Zg.w
  obtain ⟨u',F,p1,p2,p3,jP,Ub,Ee⟩:=Zg.used hj p (yO j)
  have Zh:=jP
  unfold jm at Zh Ub
  rw[qp] at Ub
  rcases hk with hk|hk
  ·have hu:jV env ws t.kind t.text t.kids.length p a = .ok { ws with bs:=ws.bs.set j { bq ws.bs j with cZ:=(bq ws.bs j).cZ++[p] } }:=by unfold jV;rw[hf,hk];rfl
   rw[hu]
   rw[hk] at hnb
   simp -implicitDefEqProofs (maxSteps:=99999999) (disch:=first|omega|(simp only[vl];first|done|omega)) only[vu,vg,hbd,hnb,aH,hk,va,vg,vs,vw,vk,simprocAttr]
   refine aL (AL p none _ (by omega)) ?_
   refine aI (ei p1 p2 p3 Zh) ?_
   refine ⟨rfl,hKG.trans Ub,bB,U.set j u',?_⟩
   unfold jm at Ee
   rw[qp] at Ee
   exact Ee
  ·rw[hk] at hnb
   by_cases c:(bq ws.bs j).many=t.kids.length
   ·have hu:jV env ws t.kind t.text t.kids.length p a = .ok { ws with bs:=ws.bs.set j { bq ws.bs j with cZ:=(bq ws.bs j).cZ++[p] } }:=by
     unfold jV
     rw[hf,hk]
     simp only
     rw[if_neg (fun h=>h.2 c)]
    rw[hu]
    have hc:(decide ¬(bq ws.bs j).many=(t.kids.length:Int))=false:=by simp[c]
    simp -implicitDefEqProofs (maxSteps:=99999999) (disch:=first|omega|(simp only[vl];first|done|omega)) only[vu,vg,hbd,hnb,aH,hk,hc,va,vg,vs,vw,vk,simprocAttr]
    refine aL (AL p none _ (by omega)) ?_
    refine aI (ei p1 p2 p3 Zh) ?_
    refine ⟨rfl,hKG.trans Ub,bB,U.set j u',?_⟩
    unfold jm at Ee
    rw[qp] at Ee
    exact Ee
   ·have hu:jV env ws t.kind t.text t.kids.length p a = .error (112,a):=by
     unfold jV
     rw[hf,hk]
     simp only
     rw[if_pos ⟨trivial,c⟩]
    rw[hu]
    simp -implicitDefEqProofs (maxSteps:=99999999) (disch:=first|omega|(simp only[vl];first|done|omega)) only[vu,vg,hbd,hnb,aH,hk,c,va,vg,vs,vw,vk,simprocAttr]
    refine pV (zy (112,a) wid cf bB B ws _ Zg.w) ?_
    exact ⟨rfl,hKG⟩
theorem L9{fu:bn}{p:List Int}:∀{l:List Nd}{env:List bn}{ws:WS}{i k:Nat},k<l.length→bJ fu (l.take (k+1)) env ws p i=match bJ fu (l.take k) env ws p i with
  |.error e=>.error e
  |.ok q=>bR fu (aE l k) q.1 q.2 (p++[((i+k:Nat):Int)]):=by
 intro l
 induction l with
 |nil=>intro env ws i k h;simp at h
 |cons t r ih =>
  intro env ws i k h
  cases k with
  |zero =>
   have hn:aE (t::r) 0=t:=by simp[aE]
   simp only[List.take_succ_cons,List.take_zero,bJ,hn,Nat.add_zero]
   cases bR fu t env ws (p++[(i:Int)])<;>rfl
  |succ k =>
   have hn:aE (t::r) (k+1)=aE r k:=by simp[aE]
   rw[List.take_succ_cons]
   rw[List.take_succ_cons (i:=k)]
   simp only[bJ,hn]
   cases bR fu t env ws (p++[(i:Int)]) with
   |error e=>rfl
   |ok q =>
    simp only
    rw[ih (by simpa using h)]
    rw[show i+(k+1)=i+1+k by omega]
theorem Ma{fu:bn}{p:List Int}{e:jU}:∀{l:List Nd}{env:List bn}{ws:WS}{i k:Nat},bJ fu (l.take k) env ws p i = .error e→bJ fu l env ws p i = .error e:=by
 intro l
 induction l with
 |nil=>intro env ws i k h;simpa using h
 |cons t r ih =>
  intro env ws i k h
  cases k with
  |zero=>simp[bJ] at h
  |succ k =>
   rw[List.take_succ_cons] at h
   simp only[bJ] at h ⊢
   cases hn:bR fu t env ws (p++[(i:Int)]) with
   |error e'=>rw[hn] at h;simpa using h
   |ok q =>
    rw[hn] at h
    simp only at h ⊢
    exact ih h
theorem Ef{env:List bn}{ws:WS}{s:ByteArray}{p:List Int}{a:Nat}{r:List bn×WS}(h:dx env ws s p a = .ok r):r.1.tail=env.tail∧r.1≠[]:=by
 unfold dx at h
 split at h
 ·cases h
 ·cases h
  exact ⟨rfl,by simp⟩
theorem xF{fu:bn}{p:List Int}:∀(l:List Nd),(∀u∈l,∀(env:List bn)(ws:WS)(p:List Int)(r:List bn×WS),env≠[]→bR fu u env ws p = .ok r→r.1.tail=env.tail∧r.1≠[])→
  ∀(env:List bn)(ws:WS)(i:Nat)(r:List bn×WS),env≠[]→bJ fu l env ws p i = .ok r→r.1.tail=env.tail∧r.1≠[]
 |[],_,env,ws,i,r,he,h=>by
  simp only[bJ] at h
  cases h
  exact ⟨rfl,he⟩
 |t::l,hc,env,ws,i,r,he,h=>by
  simp only[bJ] at h
  cases hn:bR fu t env ws (p++[(i:Int)]) with
  |error e=>rw[hn] at h;cases h
  |ok q =>
   rw[hn] at h
   obtain ⟨h1,h2⟩:=hc t (by simp) env ws _ q he hn
   obtain ⟨h3,h4⟩:=xF l (fun u hu=>hc u (by simp[hu])) q.1 q.2 (i+1) r h2 h
   exact ⟨h3.trans h1,h4⟩
theorem PU{fu:bn}(t:Nd):∀(env:List bn)(ws:WS)(p:List Int)(r:List bn×WS),env≠[]→bR fu t env ws p = .ok r→r.1.tail=env.tail∧r.1≠[]:=by
 induction t using Nd.ind with
 |_ t ih =>
  intro env ws p r he h
  have hk:=fun (p:List Int)=>xF (fu:=fu) (p:=p) t.kids ih
  obtain ⟨k,s,m,l⟩:=t
  simp only[Nd.kids] at hk
  simp only[bR] at h
  split at h
  ·split at h
   ·cases h
   ·cases h;exact ⟨rfl,he⟩
  split at h
  ·split at h
   ·cases h
   ·rename_i q hb
    obtain ⟨h1,h2⟩:=Ef hb
    obtain ⟨h3,h4⟩:=hk p q.1 q.2 0 r h2 h
    exact ⟨h3.trans h1,h4⟩
  split at h
  ·split at h
   ·cases h
   ·cases h;exact ⟨rfl,he⟩
  split at h
  ·split at h
   ·cases h
   split at h
   ·cases h
   ·rename_i q hb
    obtain ⟨h1,h2⟩:=hk p _ _ 0 q he hb
    obtain ⟨h3,h4⟩:=Ef h
    exact ⟨h3.trans h1,h4⟩
  split at h
  ·split at h
   ·cases h
   ·exact hk p _ _ 0 r he h
  split at h
  ·split at h
   ·cases h
   ·exact hk p _ _ 0 r he h
  ·exact hk p _ _ 0 r he h
theorem Mb{fu:bn}{p:List Int}(l:List Nd)(env:List bn)(ws:WS)(i:Nat)(r:List bn×WS)(he:env≠[])(h:bJ fu l env ws p i = .ok r):r.1.tail=env.tail∧r.1≠[]:=xF l (fun u _=>PU u) env ws i r he h
def SZ(ws:WS)(N:Nat):Prop:=ws.all.length≤N∧∀j,(bq ws.bs j).cZ.length≤N
theorem SZ.le{ws:WS}{N M:Nat}(h:SZ ws N)(k:N≤M):SZ ws M:=⟨Nat.le_trans h.1 k,fun j=>Nat.le_trans (h.2 j) k⟩
theorem SZ.at_{ws:WS}{N a:Nat}(h:SZ ws N):SZ { ws with at_:=a } N:=h
theorem UA{bs:List Bd}{b:Bd}{j:Nat}:bq (bs++[b]) j=bq bs j∨bq (bs++[b]) j=b:=by
 by_cases h:j<bs.length
 ·left;simp[bq,List.getD,List.getElem?_append_left h]
 ·by_cases h2:j=bs.length
  ·right;subst h2;simp[bq,List.getD]
  ·left
   have h3:bs.length+1≤j:=by omega
   simp[bq,List.getD,List.getElem?_eq_none (show (bs++[b]).length≤j by simp;omega),List.getElem?_eq_none (show bs.length≤j by omega)]
theorem Hp{bs:List Bd}{b:Bd}{i j:Nat}:bq (bs.set i b) j=bq bs j∨bq (bs.set i b) j=b:=by
 by_cases h:i=j
 ·subst h
  by_cases h2:i<bs.length
  ·right;simp[bq,List.getD,h2]
  ·left;simp[bq,List.getD,List.getElem?_eq_none (show (bs.set i b).length≤i by simp;omega),List.getElem?_eq_none (show bs.length≤i by omega)]
 ·left;simp[bq,List.getD,List.getElem?_set_ne h]
theorem zz{env:List bn}{ws:WS}{s:ByteArray}{p:List Int}{a N:Nat}{r:List bn×WS}(hz:SZ ws N)(h:dx env ws s p a = .ok r):SZ r.2 (N+1):=by
 unfold dx at h
 split at h
 ·cases h
 ·cases h
  refine ⟨by simp only[List.length_append,List.length_cons,List.length_nil];have:=hz.1;omega,fun j=>?_⟩
  simp only
  rcases UA (bs:=ws.bs) (b:=⟨p,s,[],0⟩) (j:=j) with h|h<;>rw[h]
  ·have:=hz.2 j;omega
  ·simp
theorem Cn{env:List bn}{ws B0:WS}{k:Int}{s:ByteArray}{n:Nat}{p:List Int}{a N:Nat}(hz:SZ ws N)(h:jV env ws k s n p a = .ok B0):SZ B0 (N+1):=by
 unfold jV at h
 split at h
 ·cases h
 split at h
 ·cases h
 cases h
 refine ⟨by have:=hz.1;simp only;omega,fun j=>?_⟩
 simp only
 rename_i i _ _
 rcases Hp (bs:=ws.bs) (b:={ bq ws.bs i with cZ:=(bq ws.bs i).cZ++[p] }) (i:=i) (j:=j) with h|h<;>rw[h]
 ·have:=hz.2 j;omega
 ·have:=hz.2 i;simp;omega
theorem Eg{fu:bn}{p:List Int}:∀(l:List Nd),(∀u∈l,∀(env:List bn)(ws:WS)(p:List Int)(r:List bn×WS)(N:Nat),SZ ws N→bR fu u env ws p = .ok r→SZ r.2 (N+u.size))→
  ∀(env:List bn)(ws:WS)(i:Nat)(r:List bn×WS)(N:Nat),SZ ws N→bJ fu l env ws p i = .ok r→SZ r.2 (N+Nd.ay l)
 |[],_,env,ws,i,r,N,hz,h=>by
  simp only[bJ] at h
  cases h
  exact hz.le (by omega)
 |t::l,hc,env,ws,i,r,N,hz,h=>by
  simp only[bJ] at h
  cases hn:bR fu t env ws (p++[(i:Int)]) with
  |error e=>rw[hn] at h;cases h
  |ok q =>
   rw[hn] at h
   have h1:=hc t (by simp) env ws _ q N hz hn
   have h2:=Eg l (fun u hu=>hc u (by simp[hu])) q.1 q.2 (i+1) r _ h1 h
   exact h2.le (by simp[Nd.ay];omega)
theorem Mc{fu:bn}(t:Nd):∀(env:List bn)(ws:WS)(p:List Int)(r:List bn×WS)(N:Nat),SZ ws N→bR fu t env ws p = .ok r→SZ r.2 (N+t.size):=by
 induction t using Nd.ind with
 |_ t ih =>
  intro env ws p r N hz h
  have hk:=fun (p:List Int)=>Eg (fu:=fu) (p:=p) t.kids ih
  have hs:t.size=1+Nd.ay t.kids:=by rw[Nd.size_eq]
  obtain ⟨k,s,m,l⟩:=t
  simp only[Nd.kids] at hk hs
  simp only[bR] at h
  have hA:∀j,SZ { ws with at_:=ws.at_+1,all:=ws.all++[j] } (N+1):=fun j=>⟨by simp;exact hz.1,fun j=>by have:=hz.2 j;simp only;omega⟩
  split at h
  ·split at h
   ·cases h
   ·rename_i q hb
    cases h
    exact (hk p _ _ 0 q _ (hA _) hb).le (by omega)
  split at h
  ·split at h
   ·cases h
   ·rename_i q hb
    exact (hk p _ _ 0 r _ (zz hz.at_ hb) h).le (by omega)
  split at h
  ·split at h
   ·cases h
   ·rename_i q hb
    cases h
    exact (hk p _ _ 0 q _ hz.at_ hb).le (by omega)
  split at h
  ·split at h
   ·cases h
   split at h
   ·cases h
   ·rename_i q hb
    exact (zz (hk p _ _ 0 q _ hz.at_ hb) h).le (by omega)
  split at h
  ·split at h
   ·cases h
   ·rename_i w hu
    exact (hk p _ _ 0 r _ (Cn hz.at_ hu) h).le (by omega)
  split at h
  ·split at h
   ·cases h
   ·rename_i w hu
    exact (hk p _ _ 0 r _ (Cn hz.at_ hu) h).le (by omega)
  ·exact (hk p _ _ 0 r _ hz.at_ h).le (by omega)
theorem Hq{fu:bn}{p:List Int}(l:List Nd)(env:List bn)(ws:WS)(i:Nat)(r:List bn×WS)(N:Nat)(hz:SZ ws N)(h:bJ fu l env ws p i = .ok r):SZ r.2 (N+Nd.ay l):=Eg l (fun u _=>Mc u) env ws i r N hz h
theorem I4(l:List Nd)(k:Nat):Nd.ay (l.take k)≤Nd.ay l:=by
 induction l generalizing k with
 |nil=>simp
 |cons t r ih =>
  cases k with
  |zero=>simp[Nd.ay]
  |succ k=>simp only[List.take_succ_cons,Nd.ay];have:=ih k;omega
theorem Eh{env:List bn}{ws:WS}{s:ByteArray}{p:List Int}{a:Nat}{r:List bn×WS}(h:dx env ws s p a = .ok r):r.2.at_=ws.at_:=by
 unfold dx at h
 split at h
 ·cases h
 ·cases h;rfl
theorem Co{env:List bn}{ws B0:WS}{k:Int}{s:ByteArray}{n:Nat}{p:List Int}{a:Nat}(h:jV env ws k s n p a = .ok B0):B0.at_=ws.at_:=by
 unfold jV at h
 split at h
 ·cases h
 split at h
 ·cases h
 cases h
 rfl
theorem Ei{fu:bn}{p:List Int}:∀(l:List Nd),(∀u∈l,∀(env:List bn)(ws:WS)(p:List Int)(r:List bn×WS),bR fu u env ws p = .ok r→r.2.at_=ws.at_+u.size)→
  ∀(env:List bn)(ws:WS)(i:Nat)(r:List bn×WS),bJ fu l env ws p i = .ok r→r.2.at_=ws.at_+Nd.ay l
 |[],_,env,ws,i,r,h=>by
  simp only[bJ] at h
  cases h
  simp[Nd.ay]
 |t::l,hc,env,ws,i,r,h=>by
  simp only[bJ] at h
  cases hn:bR fu t env ws (p++[(i:Int)]) with
  |error e=>rw[hn] at h;cases h
  |ok q =>
   rw[hn] at h
   have h1:=hc t (by simp) env ws _ q hn
   have h2:=Ei l (fun u hu=>hc u (by simp[hu])) q.1 q.2 (i+1) r h
   simp only[Nd.ay]
   omega
theorem Zi{fu:bn}(t:Nd):∀(env:List bn)(ws:WS)(p:List Int)(r:List bn×WS),bR fu t env ws p = .ok r→r.2.at_=ws.at_+t.size:=by
 induction t using Nd.ind with
 |_ t ih =>
  intro env ws p r h
  have hk:=fun (p:List Int)=>Ei (fu:=fu) (p:=p) t.kids ih
  have hs:t.size=1+Nd.ay t.kids:=by rw[Nd.size_eq]
  obtain ⟨k,s,m,l⟩:=t
  simp only[Nd.kids] at hk hs
  rw[hs]
  simp only[bR] at h
  split at h
  ·split at h
   ·cases h
   ·rename_i q hb
    cases h
    have:=hk p _ _ 0 q hb
    simp only at this ⊢;omega
  split at h
  ·split at h
   ·cases h
   ·rename_i q hb
    have h1:=Eh hb
    have:=hk p _ _ 0 r h
    simp only at h1;omega
  split at h
  ·split at h
   ·cases h
   ·rename_i q hb
    cases h
    have:=hk p _ _ 0 q hb
    simp only at this ⊢;omega
  split at h
  ·split at h
   ·cases h
   split at h
   ·cases h
   ·rename_i q hb
    have h1:=Eh h
    have:=hk p _ _ 0 q hb
    simp only at this;omega
  split at h
  ·split at h
   ·cases h
   ·rename_i w hu
    have h1:=Co hu
    have:=hk p _ _ 0 r h
    simp only at h1;omega
  split at h
  ·split at h
   ·cases h
   ·rename_i w hu
    have h1:=Co hu
    have:=hk p _ _ 0 r h
    simp only at h1;omega
  ·have:=hk p _ _ 0 r h
   simp only at this;omega
theorem UB{fu:bn}{p:List Int}(l:List Nd)(env:List bn)(ws:WS)(i:Nat)(r:List bn×WS)(h:bJ fu l env ws p i = .ok r):r.2.at_=ws.at_+Nd.ay l:=Ei l (fun u _=>Zi u) env ws i r h
section
variable {fu:bn}{t:Nd}{env:List bn}{ws:WS}{p:List Int}
theorem Zj(h:t.kind=2):bR fu t env ws p=match bJ fu t.kids ([]::env) { ws with at_:=ws.at_+1,all:=ws.all++[(cL t.text fu).getD 0] } p 0 with
  |.error e=>.error e
  |.ok r=>.ok (env,r.2):=by
 obtain ⟨k,s,m,l⟩:=t
 have h:k=2:=h
 subst h
 simp only[bR]
 rw[if_pos trivial]
 rfl
theorem Zk(h:t.kind=4):bR fu t env ws p=match dx env { ws with at_:=ws.at_+1 } t.text p ws.at_ with
  |.error e=>.error e
  |.ok r=>bJ fu t.kids r.1 r.2 p 0:=by
 obtain ⟨k,s,m,l⟩:=t
 have h:k=4:=h
 subst h
 simp only[bR]
 rw[if_neg (by decide),if_pos trivial]
 rfl
theorem Zl(h:t.kind=5):bR fu t env ws p=match bJ fu t.kids ([]::env) { ws with at_:=ws.at_+1 } p 0 with
  |.error e=>.error e
  |.ok r=>.ok (env,r.2):=by
 obtain ⟨k,s,m,l⟩:=t
 have h:k=5:=h
 subst h
 simp only[bR]
 rw[if_neg (by decide),if_neg (by decide),if_pos trivial]
 rfl
theorem Zm(h:t.kind=6):bR fu t env ws p=if (cL t.text (env.headD [])).isSome=true then .error (110,ws.at_)
   else match bJ fu t.kids env { ws with at_:=ws.at_+1 } p 0 with
    |.error e=>.error e
    |.ok r=>dx r.1 r.2 t.text p ws.at_:=by
 obtain ⟨k,s,m,l⟩:=t
 have h:k=6:=h
 subst h
 simp only[bR]
 rw[if_neg (by decide),if_neg (by decide),if_neg (by decide),if_pos trivial]
 rfl
theorem UC(h:t.kind=22):bR fu t env ws p=match jV env { ws with at_:=ws.at_+1 } t.kind t.text t.kids.length p ws.at_ with
  |.error e=>.error e
  |.ok w=>bJ fu t.kids env w p 0:=by
 obtain ⟨k,s,m,l⟩:=t
 have h:k=22:=h
 subst h
 simp only[bR]
 rw[if_neg (by decide),if_neg (by decide),if_neg (by decide),if_neg (by decide),if_pos trivial]
 rfl
theorem UD(h:t.kind=25):bR fu t env ws p=match jV [fu] { ws with at_:=ws.at_+1 } t.kind t.text t.kids.length p ws.at_ with
  |.error e=>.error e
  |.ok w=>bJ fu t.kids env w p 0:=by
 obtain ⟨k,s,m,l⟩:=t
 have h:k=25:=h
 subst h
 simp only[bR]
 rw[if_neg (by decide),if_neg (by decide),if_neg (by decide),if_neg (by decide),if_neg (by decide),if_pos trivial]
 rfl
theorem Zn(h2:¬t.kind=2)(h4:¬t.kind=4)(h5:¬t.kind=5)(h6:¬t.kind=6)(BW:¬t.kind=22)(BV:¬t.kind=25):bR fu t env ws p=bJ fu t.kids env { ws with at_:=ws.at_+1 } p 0:=by
 obtain ⟨k,s,m,l⟩:=t
 simp only[Nd.kind] at h2 h4 h5 h6 BW BV
 simp only[bR]
 rw[if_neg h2,if_neg h4,if_neg h5,if_neg h6,if_neg BW,if_neg BV]
 rfl
end
end Go.Proofs.YtnoplgongieehaaGreatDoor
