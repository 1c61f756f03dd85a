import Derived.Test.YtnoplgongieehaaGreatDoorM3
import Derived.Test.YtnoplgongieehaaGreatDoorProg
import Derived.KernelRfl
import Derived.RangeFuncRecord
import Derived.OrdersIn
namespace Go.Proofs.YtnoplgongieehaaGreatDoor
open Go.RowKit
set_option maxHeartbeats 0
set_option maxRecDepth 1000000
set_option linter.unusedVariables false
set_option linter.unusedSimpArgs false
theorem kz{q w:List Int}:jj q w=true↔w <+: q:=by
 unfold jj
 simp only[Bool.and_eq_true,decide_eq_true_eq]
 constructor
 ·rintro ⟨_,h⟩
  rw[←h]
  exact List.take_prefix _ _
 ·rintro ⟨s,rfl⟩
  exact ⟨by simp,by simp⟩
theorem nX{p s s':List Int}{j k:Int}(h:p++[j]++s=p++[k]++s'):j=k∧s=s':=by
 simp only[List.append_assoc,List.append_cancel_left_eq,List.singleton_append,List.cons.injEq] at h
 exact h
theorem GL{p w s':List Int}{j k:Int}(h:p++[j]++w <+: p++[k]++s'):j=k:=by
 obtain ⟨z,hz⟩:=h
 rw[List.append_assoc (p++[j])] at hz
 exact (nX hz).1
theorem pC{b:Pl}{p q s s':List Int}{j k:Int}(hb:b.p=p++[j]++s)(hq:q=p++[k]++s')(hne:j≠k)(hs:s≠[])(h4:b.n.kind=4→2≤s.length):cM b q=false:=by
 cases hr:cM b q with
 |false=>rfl
 |true =>
  exfalso
  have hl:0<s.length:=List.length_pos_iff.2 hs
  unfold cM at hr
  split at hr
  ·rename_i hk
   have h2:=h4 hk
   rw[kz,hb,hq] at hr
   have e:(p++[j]++s).take ((p++[j]++s).length-2)=p++[j]++s.take (s.length-2):=by
    rw[List.take_append,List.take_of_length_le (by simp;omega)]
    congr 2
    simp
    omega
   rw[e,List.append_assoc (p++[j])] at hr
   exact hne (GL hr)
  ·simp only[Bool.and_eq_true] at hr
   have h2:=hr.2.1
   rw[kz,hb,hq] at h2
   have e:(p++[j]++s).take ((p++[j]++s).length-1)=p++[j]++s.take (s.length-1):=by
    rw[List.take_append,List.take_of_length_le (by simp;omega)]
    congr 2
    simp
    omega
   rw[e] at h2
   exact hne (GL h2)
theorem xv{b:Pl}{p q s':List Int}{j k:Int}(hb:b.p=p++[j])(hq:q=p++[k]++s')(h4:¬b.n.kind=4):cM b q=decide (j<k):=by
 unfold cM
 rw[if_neg h4,hb,hq]
 have e1:(p++[j]).length-1=p.length:=by simp
 rw[e1]
 have e2:(p++[j]).take p.length=p:=by simp
 rw[e2]
 have e3:jj (p++[k]++s') p=true:=kz.2 ⟨[k]++s',by simp⟩
 rw[e3]
 have e4:(p++[k]++s').getD p.length 0=k:=by simp[List.getD]
 have e5:(p++[j]).getD p.length 0=j:=by simp[List.getD]
 rw[e4,e5]
 simp
theorem Lq{b:Pl}{f s:List Int}{j:Int}(hb:b.p=f++[j])(h4:¬b.n.kind=4):cM b (b.p++s)=false:=by
 rw[xv (p:=f) (j:=j) (k:=j) (s':=s) hb (by rw[hb]) h4]
 simp
theorem Pr{b:Pl}{f q s:List Int}{i:Int}(hb:b.p=f++[0]++[i])(hq:q=f++[1]++s)(h4:b.n.kind=4):cM b q=true:=by
 unfold cM
 rw[if_pos h4,kz,hb,hq]
 have e:(f++[0]++[i]).take ((f++[0]++[i]).length-2)=f:=by simp
 rw[e]
 exact ⟨s,rfl⟩
theorem eS:∀(l:List Nd)(p:List Int)(i:Nat)(b:Pl),b∈bZ l p i→∃(j:Nat)(t:Nd),(i≤j∧l[j-i]? = some t)∧b∈bI t (p++[(j:Int)])
 |[],_,_,b,h=>by simp[bZ] at h
 |t::r,p,i,b,h=>by
  simp only[bZ,List.mem_append] at h
  rcases h with h|h
  ·exact ⟨i,t,⟨Nat.le_refl _,by simp⟩,h⟩
  ·obtain ⟨j,u,⟨h1,h2⟩,h3⟩:=eS r p (i+1) b h
   refine ⟨j,u,⟨by omega,?_⟩,h3⟩
   rw[show j-i=(j-(i+1))+1 by omega,List.getElem?_cons_succ]
   exact h2
theorem nY(t:Nd):∀(p:List Int)(b:Pl),b∈bI t p→(b=⟨t,p⟩∨∃j s,b.p=p++[j]++s):=by
 induction t using Nd.ind with
 |_ t ih =>
  intro p b hb
  rw[cR] at hb
  rcases List.mem_cons.1 hb with rfl|hb
  ·exact .inl rfl
  ·obtain ⟨j,u,⟨h1,h2⟩,h3⟩:=eS _ _ _ _ hb
   rcases ih u (List.mem_of_getElem? h2) _ b h3 with rfl|⟨j',s,h⟩
   ·exact .inr ⟨j,[],by simp⟩
   ·exact .inr ⟨j,[j']++s,by rw[h];simp⟩
theorem eL(t:Nd):∀p,(bI t p).length=t.size:=by
 induction t using Nd.ind with
 |_ t ih =>
  intro p
  rw[cR,Nd.size_eq]
  have key:∀(l:List Nd),(∀k∈l,∀p,(bI k p).length=k.size)→∀p i,(bZ l p i).length=Nd.ay l:=by
   intro l
   induction l with
   |nil=>intro _ p i;rfl
   |cons x r fC =>
    intro h p i
    simp only[bZ,List.length_append,Nd.ay,h x (by simp),fC (fun k hk=>h k (by simp[hk]))]
  simp only[List.length_cons,key _ ih]
  omega
theorem lT(l:List Nd)(p:List Int)(i:Nat):(bZ l p i).length=Nd.ay l:=by
 induction l generalizing i with
 |nil=>rfl
 |cons x r ih=>simp only[bZ,List.length_append,Nd.ay,eL,ih]
theorem fE{x:ByteArray}{q:List Int}:∀(a b:List Pl)(i:Nat)(f:Int),jV x q (a++b) i f=jV x q b (i+a.length) (jV x q a i f)
 |[],b,i,f=>by simp[jV]
 |c::a,b,i,f=>by
  simp only[List.cons_append,jV,List.length_cons]
  rw[fE a b]
  congr 1
  omega
theorem Ci{x:ByteArray}{q:List Int}:∀(a:List Pl)(i:Nat)(f:Int),(∀b∈a,fH b=true→cM b q=false)→jV x q a i f=f
 |[],_,_,_=>rfl
 |b::a,i,f,h=>by
  have:¬(b.n.text=x∧fH b=true∧cM b q=true):=fun ⟨_,h1,h2⟩=>by
   rw[h b (by simp) h1] at h2
   cases h2
  simp only[jV,if_neg this]
  exact Ci a (i+1) f fun c hc=>h c (by simp[hc])
inductive qc:Nd→Prop where
 | mk {t:Nd}(h1:t.kind=5∨6≤t.kind)(h2:t.kind≠5→∀k∈t.kids,¬k.kind=6)(h3:t.kind=22→t.kids=[])(h5:t.kind=6→∀p i,∀b∈bZ t.kids p i,ga b=false)(h4:∀k∈t.kids,qc k):qc t
theorem qc.kind{t:Nd}(h:qc t):t.kind=5∨6≤t.kind:=by cases h;assumption
theorem qc.afV{t:Nd}(h:qc t):t.kind≠5→∀k∈t.kids,¬k.kind=6:=by cases h;assumption
theorem qc.name{t:Nd}(h:qc t):t.kind=22→t.kids=[]:=by cases h;assumption
theorem qc.var{t:Nd}(h:qc t):t.kind=6→∀p i,∀b∈bZ t.kids p i,ga b=false:=by cases h;assumption
theorem qc.ve{t:Nd}(h:qc t):∀k∈t.kids,qc k:=by cases h;assumption
theorem y5(t:Nd):qc t→∀(p:List Int)(b:Pl),b∈bI t p→qc b.n:=by
 induction t using Nd.ind with
 |_ t ih =>
  intro hg p b hb
  rw[cR] at hb
  rcases List.mem_cons.1 hb with rfl|hb
  ·exact hg
  ·obtain ⟨j,u,⟨h1,h2⟩,h3⟩:=eS _ _ _ _ hb
   have hu:=List.mem_of_getElem? h2
   exact ih u hu (hg.ve u hu) _ b h3
theorem T3{t:Nd}(hg:qc t){p q s':List Int}{j k:Int}(hq:q=p++[k]++s')(hne:j≠k)(x:ByteArray)(i:Nat)(f:Int):jV x q (bI t (p++[j])) i f=if t.kind=6∧t.text=x∧j<k then (i:Int) else f:=by
 rw[cR]
 simp only[jV]
 rw[Ci]
 ·have h4:¬t.kind=4:=by have:=hg.kind;omega
  have hr:=xv (b:=⟨t,p++[j]⟩) (p:=p) rfl hq h4
  rw[hr]
  have e:fH ⟨t,p++[j]⟩=decide (t.kind=6):=by simp[fH,h4]
  rw[e]
  by_cases c1:t.kind=6<;>by_cases c2:t.text=x<;>by_cases c3:j<k<;>simp[c1,c2,c3]
 ·intro b hb _
  obtain ⟨j',u,⟨_,h2⟩,h3⟩:=eS _ _ _ _ hb
  have IQ:=hg.ve u (List.mem_of_getElem? h2)
  have hgb:=y5 u IQ _ b h3
  have h4:¬b.n.kind=4:=by have:=hgb.kind;omega
  rcases nY u _ b h3 with rfl|⟨j2,s,h⟩
  ·exact pC (p:=p) (j:=j) (s:=[(j':Int)]) rfl hq hne (by simp) fun h=>absurd h h4
  ·exact pC (p:=p) (j:=j) (s:=[(j':Int)]++([j2]++s)) (by rw[h];simp) hq hne (by simp) fun h=>absurd h h4
theorem Ps{t:Nd}(hg:qc t){p q s':List Int}{j k:Int}(hq:q=p++[k]++s')(hlt:k<j):∀b∈bI t (p++[j]),fH b=true→cM b q=false:=by
 intro b hb _
 have hgb:=y5 t hg _ b hb
 have h4:¬b.n.kind=4:=by have:=hgb.kind;omega
 rcases nY t _ b hb with rfl|⟨j2,s,h⟩
 ·rw[xv (p:=p) rfl hq h4]
  simp
  omega
 ·exact pC (p:=p) (j:=j) (s:=[j2]++s) (by rw[h];simp) hq (by omega) (by simp) fun h=>absurd h h4
def enc(ix:List Nat):Option Nat→Int
 |none=>-1
 |some j=>((ix.getD j 0:Nat):Int)
def vi(l:List Pl)(i:Nat):Int:=if (au l i).n.kind=2 then ((aE (au l i).n.kids 0).kids.length:Nat) else 0
def y6(l pre:List Pl)(ix:List Nat):List Bd:=ix.map fun i=>⟨(au l i).p,(au l i).n.text,e8 l pre i,vi l i⟩
def dI:List Pl→Nat→List Nat
 |[],_=>[]
 |b::r,i=>(if ga b=true then [i] else [])++dI r (i+1)
theorem jW:∀(a b:List Pl)(i:Nat),dI (a++b) i=dI a i++dI b (i+a.length)
 |[],b,i=>by simp[dI]
 |c::a,b,i=>by
  simp only[List.cons_append,dI,List.length_cons,jW a b,List.append_assoc]
  rw[show i+1+a.length=i+(a.length+1) by omega]
theorem Lr:∀(a:List Pl)(i:Nat),(∀b∈a,ga b=false)→dI a i=[]
 |[],_,_=>rfl
 |b::a,i,h=>by simp[dI,h b (by simp),Lr a (i+1) fun c hc=>h c (by simp[hc])]
structure oB(l pre:List Pl)(ix A:List Nat)(ws:WS):Prop where
 at_:ws.at_=pre.length
 bs:ws.bs=y6 l pre ix
 all:ws.all.map (fun j=>ix.getD j 0)=A
 lt:∀j∈ws.all,j<ix.length
 nd:ix.Nodup
 old:∀i∈ix,(au l i).n.kind=2∨i<pre.length
 cZ:∀u∈pre,gj u=true→∃i∈ix,bW l u=(i:Int)
def nu(l:List Pl)(a n:Nat):Prop:=∀i,a≤i→i<a+n→cN l i=none
def kD(l:List Pl)(a n:Nat)(e:jT):Prop:=∃i,(a≤i∧i<a+n)∧cN l i=some e∧∀i',a≤i'→i'<i→cN l i'=none
theorem nu.ez{l:List Pl}{a n m:Nat}(h:nu l a n)(k:nu l (a+n) m):nu l a (n+m):=fun i h1 h2=>by
 by_cases c:i<a+n
 ·exact h i h1 c
 ·exact k i (by omega) (by omega)
theorem kD.left{l:List Pl}{a n m:Nat}{e:jT}(h:kD l a n e):kD l a (n+m) e:=by
 obtain ⟨i,⟨h1,h2⟩,h3,h4⟩:=h
 exact ⟨i,⟨h1,by omega⟩,h3,h4⟩
theorem kD.right{l:List Pl}{a n m:Nat}{e:jT}(k:nu l a n)(h:kD l (a+n) m e):kD l a (n+m) e:=by
 obtain ⟨i,⟨h1,h2⟩,h3,h4⟩:=h
 refine ⟨i,⟨by omega,by omega⟩,h3,fun i' g1 g2=>?_⟩
 by_cases c:i'<a+n
 ·exact k i' g1 c
 ·exact h4 i' (by omega) g2
theorem nu.one{l:List Pl}{a:Nat}(h:cN l a=none):nu l a 1:=fun i h1 h2=>by
 have:i=a:=by omega
 rw[this];exact h
theorem kD.one{l:List Pl}{a:Nat}{e:jT}(h:cN l a=some e):kD l a 1 e:=⟨a,⟨Nat.le_refl _,by omega⟩,h,fun i' h1 h2=>by omega⟩
theorem nu.nil{l:List Pl}{a:Nat}:nu l a 0:=fun i h1 h2=>by omega
theorem rX{pre r:List Pl}{u:Pl}:au (pre++u::r) pre.length=u:=by simp[au,List.getD]
theorem y7{ix more:List Nat}{o:Option Nat}(h:∀j,o=some j→j<ix.length):enc (ix++more) o=enc ix o:=by
 cases o with
 |none=>rfl
 |some j =>
  have:=h j rfl
  simp[enc,List.getD,List.getElem?_append_left this]
theorem wg{ix more:List Nat}{j:Nat}(h:j<ix.length):(ix++more).getD j 0=ix.getD j 0:=by simp[List.getD,List.getElem?_append_left h]
theorem vj(l pre:List Pl)(u:Pl)(i:Nat):e8 l (pre++[u]) i=e8 l pre i++if gj u=true∧bW l u=(i:Int) then [u.p] else []:=by
 unfold e8
 rw[List.filter_append,List.map_append]
 congr 1
 by_cases h1:gj u=true<;>by_cases h2:bW l u=(i:Int)<;>simp[h1,h2]
theorem oB.skip{l pre:List Pl}{ix A:List Nat}{ws:WS}(h:oB l pre ix A ws){u:Pl}(hu:gj u=false):oB l (pre++[u]) ix A { ws with at_:=ws.at_+1 } where
 at_:=by simp[h.at_]
 bs:=by
  rw[h.bs]
  unfold y6
  congr 1
  funext i
  rw[vj]
  simp[hu]
 all:=h.all
 lt:=h.lt
 nd:=h.nd
 old:=fun i hi=>by
  rcases h.old i hi with h1|h1
  ·exact .inl h1
  ·exact .inr (by simp;omega)
 cZ:=fun v hv hi=>by
  rcases List.mem_append.1 hv with h1|h1
  ·exact h.cZ v h1 hi
  ·rw[List.mem_singleton] at h1
   subst h1
   rw[hu] at hi
   cases hi
theorem DF{l pre:List Pl}{ix:List Nat}{j:Nat}(h:j<ix.length):bq (y6 l pre ix) j=⟨(au l (ix.getD j 0)).p,(au l (ix.getD j 0)).n.text,e8 l pre (ix.getD j 0),vi l (ix.getD j 0)⟩:=by
 simp[bq,y6,List.getD,h]
theorem ab1{ix:List Nat}(h:ix.Nodup){j m:Nat}(hj:j<ix.length)(hm:m<ix.length)(e:ix[j]=ix[m]):j=m:=by
 rcases Nat.lt_trichotomy j m with h1|h1|h1
 ·exact absurd e (List.pairwise_iff_getElem.1 h j m hj hm h1)
 ·exact h1
 ·exact absurd e.symm (List.pairwise_iff_getElem.1 h m j hm hj h1)
theorem oB.use{l pre:List Pl}{ix A:List Nat}{ws:WS}(h:oB l pre ix A ws){u:Pl}(hu:gj u=true){j:Nat}(hj:j<ix.length)(hs:bW l u=((ix.getD j 0:Nat):Int)) :
  oB l (pre++[u]) ix A { ws with at_:=ws.at_+1,bs:=ws.bs.set j { bq ws.bs j with cZ:=(bq ws.bs j).cZ++[u.p] } } where
 at_:=by simp[h.at_]
 bs:=by
  simp only
  rw[h.bs,DF hj]
  apply List.ext_getElem
  ·simp[y6]
  intro m h1 h2
  have hm:m<ix.length:=by simpa [y6] using h2
  rw[List.getElem_set]
  simp only[y6,List.getElem_map,vj,hu,hs,true_and]
  have wA:ix.getD j 0=ix[j]:=by simp[List.getD,hj]
  split
  ·rename_i e
   subst e
   simp only[wA,if_true]
  ·rename_i e
   have hne:¬(ix[j]:Int)=(ix[m]:Nat):=fun h'=>by
    have h3:ix[j]=ix[m]:=by omega
    exact e (ab1 h.nd hj hm h3)
   simp only[wA,hne,if_false,List.append_nil]
 all:=h.all
 lt:=h.lt
 nd:=h.nd
 old:=fun i hi=>by
  rcases h.old i hi with h1|h1
  ·exact .inl h1
  ·exact .inr (by simp;omega)
 cZ:=fun v hv hi=>by
  rcases List.mem_append.1 hv with h1|h1
  ·exact h.cZ v h1 hi
  ·rw[List.mem_singleton] at h1
   subst h1
   exact ⟨ix.getD j 0,by simp[List.getD,hj],hs⟩
theorem oB.bind{l pre:List Pl}{ix A:List Nat}{ws:WS}(h:oB l pre ix A ws){m:Nat}(hm:m<pre.length)(hk:¬(au l m).n.kind=2)(hni:m∉ix) :
  oB l pre (ix++[m]) (A++[m]) { ws with bs:=ws.bs++[⟨(au l m).p,(au l m).n.text,[],0⟩],all:=ws.all++[ws.bs.length] } where
 at_:=h.at_
 bs:=by
  have hu:e8 l pre m=[]:=by
   unfold e8
   rw[List.map_eq_nil_iff,List.filter_eq_nil_iff]
   intro u hu hc
   simp only[Bool.and_eq_true,decide_eq_true_eq] at hc
   obtain ⟨i,hi,hs⟩:=h.cZ u hu hc.1
   rw[hc.2] at hs
   have:m=i:=by omega
   exact hni (this▸hi)
  have hy:vi l m=0:=by unfold vi;rw[if_neg hk]
  simp only[h.bs,y6,List.map_append,List.map_cons,List.map_nil,hu,hy]
 all:=by
  have hl:ws.bs.length=ix.length:=by rw[h.bs];simp[y6]
  simp only[List.map_append,List.map_cons,List.map_nil,hl]
  congr 1
  ·rw[←h.all]
   apply List.map_congr_left
   intro j hj
   exact wg (h.lt j hj)
  ·simp[List.getD]
 lt:=fun j hj=>by
  have hl:ws.bs.length=ix.length:=by rw[h.bs];simp[y6]
  rcases List.mem_append.1 hj with h1|h1
  ·have:=h.lt j h1
   simp;omega
  ·rw[List.mem_singleton] at h1
   simp;omega
 nd:=by
  rw[List.nodup_append]
  refine ⟨h.nd,by simp,fun a ha b hb e=>?_⟩
  rw[List.mem_singleton] at hb
  subst hb e
  exact hni ha
 old:=fun i hi=>by
  rcases List.mem_append.1 hi with h1|h1
  ·exact h.old i h1
  ·rw[List.mem_singleton] at h1
   subst h1
   exact .inr hm
 cZ:=fun u hu hi=>by
  obtain ⟨i,h1,h2⟩:=h.cZ u hu hi
  exact ⟨i,List.mem_append_left _ h1,h2⟩
structure Bt(l:List Pl)(ix:List Nat)(fu:bn):Prop where
 fa:∀x,iz x l 0 (-1)=enc ix (cL x fu)
 fl:∀x j,cL x fu=some j→j<ix.length∧(au l (ix.getD j 0)).n.kind=2
theorem Bt.more{l:List Pl}{ix:List Nat}{fu:bn}(h:Bt l ix fu)(more:List Nat):Bt l (ix++more) fu where
 fa:=fun x=>by rw[h.fa,y7 fun j hj=>(h.fl x j hj).1]
 fl:=fun x j hj=>by
  obtain ⟨h1,h2⟩:=h.fl x j hj
  exact ⟨by simp;omega,by rw[wg h1];exact h2⟩
structure Ctx(l pre post:List Pl)(t:Nd)(p:List Int)(ix:List Nat)(env:List bn):Prop where
 eq:l=pre++(bI t p++post)
 pne:∃f j,p=f++[j]
 ne:env≠[]
 ag:∀x s,jV x (p++s) pre 0 (-1)=enc ix (cF env x)
 lt:∀x j,cF env x=some j→j<ix.length
 po:∀b∈post,fH b=true→∀s,cM b (p++s)=false
 fr:∀b∈pre,∀s,s≠[]→b.p≠p++s
 hv:t.kind=6→∀x,(cL x (env.headD [])).isSome=pre.any fun b=>decide (b.n.kind=6) && (decide (b.n.text=x) && (decide (b.p.length=p.length) && jj b.p (p.take (p.length-1))))
def IR(l pre:List Pl)(t:Nd)(p:List Int)(ix A:List Nat)(env:List bn):Except jT (List bn×WS)→Prop
 |.error e=>kD l pre.length t.size e
 |.ok r=>nu l pre.length t.size∧∃more,oB l (pre++bI t p) (ix++more) (A++dI (bI t p) pre.length) r.2∧(∀i∈more,pre.length≤i)∧
   (if t.kind=6 then ∃j,j<(ix++more).length∧(ix++more).getD j 0=pre.length∧r.1=fD t.text j (env.headD [])::env.tail else r.1=env)
def Pt(t:Nd):Prop:=∀(l pre post:List Pl)(p:List Int)(ix A:List Nat)(env:List bn)(ws:WS)(fu:bn),Bt l ix fu→Ctx l pre post t p ix env→oB l pre ix A ws→IR l pre t p ix A env (bR fu t env ws p)
structure Yw(l pre post:List Pl)(r:List Nd)(p:List Int)(i:Nat)(ix:List Nat)(env:List bn):Prop where
 eq:l=pre++(bZ r p i++post)
 ne:env≠[]
 ag:∀x (k:Nat) s,i≤k→jV x (p++[(k:Int)]++s) pre 0 (-1)=enc ix (cF env x)
 lt:∀x j,cF env x=some j→j<ix.length
 po:∀b∈post,fH b=true→∀(k:Nat) s,i≤k→cM b (p++[(k:Int)]++s)=false
 fr:∀b∈pre,∀(k:Nat) s,i≤k→b.p≠p++[(k:Int)]++s
 hv:(∃u∈r,u.kind=6)→∀x,(cL x (env.headD [])).isSome=pre.any fun b=>decide (b.n.kind=6) && (decide (b.n.text=x) && (decide (b.p.length=p.length+1) && jj b.p p))
def DG(l pre:List Pl)(r:List Nd)(p:List Int)(i:Nat)(ix A:List Nat)(env:List bn):Except jT (List bn×WS)→Prop
 |.error e=>kD l pre.length (Nd.ay r) e
 |.ok q=>nu l pre.length (Nd.ay r)∧∃more,oB l (pre++bZ r p i) (ix++more) (A++dI (bZ r p i) pre.length) q.2∧(∀i∈more,pre.length≤i)∧
   q.1.tail=env.tail∧((∀u∈r,¬u.kind=6)→q.1=env)
theorem vm{f:bn}{r:List bn}{x:ByteArray}:cF (f::r) x=match cL x f with
 |some i=>some i
 |none=>cF r x:=rfl
theorem T4{env:List bn}(h:env≠[]):env=env.headD []::env.tail:=by
 cases env with
 |nil=>exact absurd rfl h
 |cons a r=>rfl
theorem Ls{env:List bn}(h:env≠[]){x:ByteArray}:cF env x=match cL x (env.headD []) with
 |some i=>some i
 |none=>cF env.tail x:=by
 cases env with
 |nil=>exact absurd rfl h
 |cons a r=>rfl
theorem T5(r:List Nd)(hg:∀u∈r,qc u)(hc:∀u∈r,Pt u):∀(l pre post:List Pl)(p:List Int)(i:Nat)(ix A:List Nat)(env:List bn)(ws:WS)(fu:bn),Bt l ix fu→Yw l pre post r p i ix env→oB l pre ix A ws→DG l pre r p i ix A env (bJ fu r env ws p i):=by
 induction r with
 |nil =>
  intro l pre post p i ix A env ws fu hF hK hW
  refine ⟨nu.nil,[],?_,by simp,rfl,fun _=>rfl⟩
  simpa [bZ,dI] using hW
 |cons t r ih =>
  intro l pre post p i ix A env ws fu hF hK hW
  have hgt:=hg t (by simp)
  have KN:∀u∈r,qc u:=fun u hu=>hg u (by simp[hu])
  have hC:Ctx l pre (bZ r p (i+1)++post) t (p++[(i:Int)]) ix env:=by
   refine ⟨by rw[hK.eq];simp[bZ],⟨p,_,rfl⟩,hK.ne,fun x s=>hK.ag x i s (Nat.le_refl _),hK.lt,?_,fun b hb s _=>hK.fr b hb i s (Nat.le_refl _),?_⟩
   ·intro b hb hB s
    rcases List.mem_append.1 hb with h|h
    ·obtain ⟨j,u,⟨h1,h2⟩,h3⟩:=eS _ _ _ _ h
     exact Ps (KN u (List.mem_of_getElem? h2)) rfl (by omega) b h3 hB
    ·exact hK.po b h hB i s (Nat.le_refl _)
   ·intro h6 x
    rw[hK.hv ⟨t,by simp,h6⟩ x]
    simp
  have hN:=hc t (by simp) l pre _ _ ix A env ws fu hF hC hW
  simp only[bJ]
  cases hn:bR fu t env ws (p++[(i:Int)]) with
  |error e =>
   rw[hn] at hN
   exact kD.left hN
  |ok q =>
   rw[hn] at hN
   obtain ⟨ho,more,IU,hm,DH⟩:=hN
   simp only
   have dY:(pre++bI t (p++[(i:Int)])).length=pre.length+t.size:=by rw[List.length_append,eL]
   have ahC:∀x,enc (ix++more) (cF env x)=enc ix (cF env x):=fun x=>y7 fun j hj=>hK.lt x j hj
   have hef:=T4 hK.ne
   have hE:(∀x,cF q.1 x=if t.kind=6∧t.text=x then cF q.1 x else cF env x)∧q.1≠[]∧q.1.tail=env.tail∧(¬t.kind=6→q.1=env)∧(t.kind=6→∃j,j<(ix++more).length∧(ix++more).getD j 0=pre.length∧cF q.1 t.text=some j∧∀x,cL x (q.1.headD [])=if x=t.text then some j else cL x (env.headD [])):=by
    by_cases h6:t.kind=6
    ·rw[if_pos h6] at DH
     obtain ⟨j,hj,hj2,he⟩:=DH
     have hf:∀x,cF q.1 x=if x=t.text then some j else cF env x:=fun x=>by
      rw[he,vm,jt]
      by_cases hx:x=t.text
      ·simp[hx]
      ·rw[if_neg hx,if_neg hx]
       exact (Ls hK.ne).symm
     refine ⟨fun x=>?_,by rw[he];simp,by rw[he];rfl,fun h=>absurd h6 h,fun _=>⟨j,hj,hj2,by rw[hf];simp,fun x=>by rw[he];exact jt⟩⟩
     by_cases hx:t.text=x
     ·simp[h6,hx]
     ·rw[if_neg (fun h=>hx h.2),hf,if_neg (fun h=>hx h.symm)]
    ·rw[if_neg h6] at DH
     exact ⟨fun x=>by simp[h6,DH],by rw[DH];exact hK.ne,by rw[DH],fun _=>DH,fun h=>absurd h h6⟩
   obtain ⟨hE1,hE2,hE3,hE4,hE5⟩:=hE
   have T6:Yw l (pre++bI t (p++[(i:Int)])) post r p (i+1) (ix++more) q.1:=by
    refine ⟨by rw[hK.eq];simp[bZ],hE2,?_,?_,fun b hb hB k s hk=>hK.po b hb hB k s (by omega),?_,?_⟩
    ·intro x k s hk
     rw[fE,hK.ag x k s (by omega),Nat.zero_add,T3 hgt (k:=(k:Int)) (s':=s) rfl (by omega)]
     by_cases h6:t.kind=6∧t.text=x
     ·obtain ⟨j,hj,hj2,hj3,-⟩:=hE5 h6.1
      rw[if_pos ⟨h6.1,h6.2,by omega⟩,←h6.2,hj3]
      simp only[enc,hj2]
     ·rw[if_neg (fun h=>h6 ⟨h.1,h.2.1⟩),hE1 x,if_neg h6,ahC]
    ·intro x j hj
     rw[hE1 x] at hj
     by_cases h6:t.kind=6∧t.text=x
     ·obtain ⟨j',hj',-,hj3,-⟩:=hE5 h6.1
      rw[if_pos h6,←h6.2,hj3] at hj
      cases hj
      exact hj'
     ·rw[if_neg h6] at hj
      have:=hK.lt x j hj
      simp;omega
    ·intro b hb k s hk he
     rcases List.mem_append.1 hb with h|h
     ·exact hK.fr b h k s (by omega) he
     ·rcases nY t _ b h with rfl|⟨j2,s2,h2⟩
      ·have e1:p++[(i:Int)]++[]=p++[(k:Int)]++s:=by simpa using he
       have:=(nX e1).1
       omega
      ·rw[h2] at he
       have e1:p++[(i:Int)]++([j2]++s2)=p++[(k:Int)]++s:=by rw[←he];simp
       have:=(nX e1).1
       omega
    ·rintro ⟨u,hu,Yx⟩ x
     have h0:=hK.hv ⟨u,by simp[hu],Yx⟩ x
     rw[List.any_append]
     have hx:(bI t (p++[(i:Int)])).any (fun b=>decide (b.n.kind=6) && (decide (b.n.text=x) && (decide (b.p.length=p.length+1) && jj b.p p)))=(decide (t.kind=6) && decide (t.text=x)):=by
      rw[cR,List.any_cons]
      have hno:(bZ t.kids (p++[(i:Int)]) 0).any (fun b=>decide (b.n.kind=6) && (decide (b.n.text=x) && (decide (b.p.length=p.length+1) && jj b.p p)))=false:=by
       rw[List.any_eq_false]
       intro b hb
       have hlen:¬b.p.length=p.length+1:=by
        obtain ⟨j',u',⟨_,_⟩,h3⟩:=eS _ _ _ _ hb
        rcases nY u' _ b h3 with rfl|⟨j2,s2,h2⟩
        ·simp
        ·rw[h2];simp
       simp[hlen]
      rw[hno,Bool.or_false]
      have iq:jj (p++[(i:Int)]) p=true:=kz.2 ⟨[(i:Int)],rfl⟩
      simp[iq]
     rw[hx,←h0]
     by_cases h6:t.kind=6
     ·obtain ⟨j,-,-,-,hj4⟩:=hE5 h6
      rw[hj4 x]
      by_cases y8:x=t.text
      ·simp[y8,h6]
      ·have hx3:¬t.text=x:=fun h=>y8 h.symm
       simp[y8,hx3]
     ·rw[hE4 h6]
      simp[h6]
   have hR:=ih KN (fun u hu=>hc u (by simp[hu])) l _ post p (i+1) (ix++more) _ q.1 q.2 fu (hF.more more) T6 IU
   cases hk:bJ fu r q.1 q.2 p (i+1) with
   |error e =>
    rw[hk] at hR
    unfold DG at hR
    rw[dY] at hR
    exact kD.right ho hR
   |ok q2 =>
    rw[hk] at hR
    obtain ⟨wu,DJ,hW3,hm2,T7,T8⟩:=hR
    rw[dY] at wu hW3 hm2
    refine ⟨ho.ez wu,more++DJ,?_,?_,T7.trans hE3,fun hall=>?_⟩
    ·have e1:pre++bZ (t::r) p i=pre++bI t (p++[(i:Int)])++bZ r p (i+1):=by simp[bZ]
     have e2:A++dI (bZ (t::r) p i) pre.length=A++dI (bI t (p++[(i:Int)])) pre.length++dI (bZ r p (i+1)) (pre.length+t.size):=by simp only[bZ];rw[jW,eL];simp
     rw[e1,e2,←List.append_assoc]
     exact hW3
    ·intro z hz
     rcases List.mem_append.1 hz with h|h
     ·exact hm z h
     ·have:=hm2 z h;omega
    ·rw[T8 fun u hu=>hall u (by simp[hu]),hE4 (hall t (by simp))]
theorem Lt{t:Nd}{p:List Int}(hp:∃f j,p=f++[j])(h4:¬t.kind=4)(x:ByteArray)(s:List Int)(i:Nat)(f:Int):jV x (p++s) [⟨t,p⟩] i f=f:=by
 obtain ⟨g,j,hg⟩:=hp
 have h:=Lq (b:=⟨t,p⟩) (s:=s) hg h4
 simp only at h
 simp[jV,h]
theorem DL{l pre post:List Pl}{t:Nd}{p:List Int}{ix:List Nat}{env env':List bn}(hC:Ctx l pre post t p ix env)(h4:¬t.kind=4)(he:∀x,cF env' x=cF env x)(hne:env'≠[])
  (hv:(∃u∈t.kids,u.kind=6)→∀x,(cL x (env'.headD [])).isSome=(pre++[(⟨t,p⟩:Pl)]).any fun b=>decide (b.n.kind=6) && (decide (b.n.text=x) && (decide (b.p.length=p.length+1) && jj b.p p))) :
  Yw l (pre++[⟨t,p⟩]) post t.kids p 0 ix env' where
 eq:=by rw[hC.eq,cR];simp
 ne:=hne
 ag:=fun x k s _=>by
  rw[fE]
  have e:p++[(k:Int)]++s=p++([(k:Int)]++s):=by simp
  rw[e,Lt hC.pne h4,hC.ag,he]
 lt:=fun x j hj=>hC.lt x j (by rw[←he];exact hj)
 po:=fun b hb hB k s _=>by
  have e:p++[(k:Int)]++s=p++([(k:Int)]++s):=by simp
  rw[e]
  exact hC.po b hb hB _
 fr:=fun b hb k s _ h=>by
  have e:p++[(k:Int)]++s=p++([(k:Int)]++s):=by simp
  rw[e] at h
  rcases List.mem_append.1 hb with h1|h1
  ·exact hC.fr b h1 _ (by simp) h
  ·rw[List.mem_singleton] at h1
   subst h1
   have:=congrArg List.length h
   simp at this
 hv:=hv
def ade(g:List bn→List bn):Except jT (List bn×WS)→Except jT (List bn×WS)
 |.error e=>.error e
 |.ok q=>.ok (g q.1,q.2)
theorem rC{l pre:List Pl}{t:Nd}{p:List Int}{ix A:List Nat}{env env':List bn}(h6:¬t.kind=6)(hD:ga ⟨t,p⟩=false)(hs:cN l pre.length=none){r:Except jT (List bn×WS)}(hk:DG l (pre++[⟨t,p⟩]) t.kids p 0 ix A env' r)(g:List bn→List bn)(hg:∀q,r = .ok q→g q.1=env) :
  IR l pre t p ix A env (ade g r):=by
 have hl:(pre++[(⟨t,p⟩:Pl)]).length=pre.length+1:=by simp
 cases r with
 |error e =>
  unfold DG at hk
  rw[hl] at hk
  show kD l pre.length t.size e
  rw[Nd.size_eq]
  exact kD.right (nu.one hs) hk
 |ok q =>
  obtain ⟨h1,more,h2,h3,h4,h5⟩:=hk
  rw[hl] at h1 h2 h3
  refine ⟨by rw[Nd.size_eq];exact (nu.one hs).ez h1,more,?_,fun i hi=>by have:=h3 i hi;omega,?_⟩
  ·have e1:pre++bI t p=pre++[⟨t,p⟩]++bZ t.kids p 0:=by rw[cR];simp
   have e2:A++dI (bI t p) pre.length=A++dI (bZ t.kids p 0) (pre.length+1):=by rw[cR];simp[dI,hD]
   rw[e1,e2]
   exact h2
  ·rw[if_neg h6]
   exact hg q rfl
theorem T9(t:Nd):qc t→Pt t:=by
 induction t using Nd.ind with
 |_ t ih =>
  intro hg l pre post p ix A env ws fu hF hC hW
  have hkg:=hg.ve
  have hkc:∀u∈t.kids,Pt u:=fun u hu=>ih u hu (hkg u hu)
  have Ua:=T5 t.kids hkg hkc
  have Aw:=hg.kind
  have h2:¬t.kind=2:=by omega
  have h4:¬t.kind=4:=by omega
  have ej:=hW.at_
  have dY:au l pre.length=⟨t,p⟩:=by rw[hC.eq,cR];exact rX
  obtain ⟨k,s,m,kids⟩:=t
  simp only[Nd.kind,Nd.kids] at Aw h2 h4 Ua hkg hkc
  simp only[bR,if_neg h2,if_neg h4]
  have Lu:∀h5:¬k=5,∀u∈kids,¬u.kind=6:=fun h5=>hg.afV h5
  by_cases h5:k=5
  ·-- a Block
   rw[if_pos h5]
   have hU:gj ⟨⟨k,s,m,kids⟩,p⟩=false:=by simp[gj,Nd.kind,h5]
   have hD:ga ⟨⟨k,s,m,kids⟩,p⟩=false:=by simp[ga,Nd.kind,h5]
   have hs:cN l pre.length=none:=by
    unfold cN
    rw[dY,if_neg (by simp[fH,Nd.kind,h5]),if_pos hU]
   have hK:=DL (env':=[]::env) hC (by simp[Nd.kind,h5]) (fun x=>by simp[cF,cL]) (by simp) (fun _ x=>by
    simp only[List.headD_cons,cL,Option.isSome_none]
    symm
    rw[List.any_eq_false]
    intro b hb hc
    simp only[Bool.and_eq_true,decide_eq_true_eq,kz] at hc
    obtain ⟨-,-,hc3,z,hz⟩:=hc
    rcases List.mem_append.1 hb with h|h
    ·refine hC.fr b h z (fun e=>?_) hz.symm
     rw[e] at hz
     have:=congrArg List.length hz
     simp at this
     omega
    ·rw[List.mem_singleton] at h
     subst h
     simp at hc3)
   have hn:=rC (by simp[Nd.kind,h5]) hD hs (Ua l _ post p 0 ix A ([]::env) _ fu hF hK (hW.skip hU)) (fun _=>env) (fun _ _=>rfl)
   cases hr:bJ fu kids ([]::env) { ws with at_:=ws.at_+1 } p 0 with
   |error e=>rw[hr] at hn;exact hn
   |ok q=>rw[hr] at hn;exact hn
  rw[if_neg h5]
  by_cases h6:k=6
  ·-- a Var
   rw[if_pos h6]
   have hU:gj ⟨⟨k,s,m,kids⟩,p⟩=false:=by simp[gj,Nd.kind,h6]
   have hB:fH ⟨⟨k,s,m,kids⟩,p⟩=true:=by simp[fH,Nd.kind,h6]
   have hD:ga ⟨⟨k,s,m,kids⟩,p⟩=true:=by simp[ga,Nd.kind,h6]
   have hv:=hC.hv (by simp[Nd.kind,h6]) s
   have vn:dm l pre.length=(cL s (env.headD [])).isSome:=by
    unfold dm
    rw[dY,hv,hC.eq,List.take_left]
    congr 1
    funext b
    have Ax:Nd.kind ⟨k,s,m,kids⟩=6:=h6
    have hts:Nd.text ⟨k,s,m,kids⟩=s:=rfl
    unfold twin
    simp only[Ax,hts]
   cases hh:(cL s (env.headD [])).isSome with
   |true =>
    rw[hh] at vn
    simp only[if_true]
    rw[ej]
    refine kD.left (n:=1) (kD.one ?_)
    unfold cN
    rw[dY]
    simp[hB,vn]
   |false =>
    rw[hh] at vn
    simp only[Bool.false_eq_true,if_false]
    have hs:cN l pre.length=none:=by
     unfold cN
     rw[dY]
     simp[vn,hU]
    have hK:=DL (env':=env) hC (by simp[Nd.kind,h6]) (fun x=>rfl) hC.ne (fun ⟨u,hu,Yx⟩=>absurd Yx (Lu h5 u hu))
    have hR:=Ua l _ post p 0 ix A env _ fu hF hK (hW.skip hU)
    have hl:(pre++[(⟨⟨k,s,m,kids⟩,p⟩:Pl)]).length=pre.length+1:=by simp
    cases hr:bJ fu kids env { ws with at_:=ws.at_+1 } p 0 with
    |error e =>
     rw[hr] at hR
     unfold DG at hR
     rw[hl] at hR
     show kD l pre.length (Nd.size ⟨k,s,m,kids⟩) e
     rw[Nd.size_eq]
     exact kD.right (nu.one hs) hR
    |ok q =>
     rw[hr] at hR
     obtain ⟨g1,more,g2,g3,-,g5⟩:=hR
     have hq:=g5 (Lu h5)
     rw[hl] at g1 g2 g3
     have hnd:dI (bZ kids p 0) (pre.length+1)=[]:=Lr _ _ (hg.var (by simp[Nd.kind,h6]) p 0)
     rw[hnd,List.append_nil] at g2
     have e1:pre++bI ⟨k,s,m,kids⟩ p=pre++[⟨⟨k,s,m,kids⟩,p⟩]++bZ kids p 0:=by rw[cR];simp[Nd.kids]
     have hni:pre.length∉ix++more:=fun hm=>by
      rcases List.mem_append.1 hm with h|h
      ·rcases hW.old _ h with h'|h'
       ·rw[dY] at h'
        simp[Nd.kind,h6] at h'
       ·omega
      ·have:=g3 _ h;omega
     have mN:¬(au l pre.length).n.kind=2:=by rw[dY];simp[Nd.kind,h6]
     have hb:=g2.bind (m:=pre.length) (by simp) mN hni
     rw[dY] at hb
     simp only[Nd.text] at hb
     have hmn:cL s (env.headD [])=none:=by
      cases hx:cL s (env.headD []) with
      |none=>rfl
      |some v=>rw[hx] at hh;cases hh
     have iq:q.2.bs.length=(ix++more).length:=by rw[g2.bs];simp[y6]
     simp only[dx,hq,hmn]
     refine ⟨by rw[Nd.size_eq];exact (nu.one hs).ez g1,more++[pre.length],?_,?_,?_⟩
     ·rw[e1,←List.append_assoc]
      have e2:A++dI (bI ⟨k,s,m,kids⟩ p) pre.length=A++[pre.length]:=by
       rw[cR]
       simp only[dI,hD,if_true]
       show A++([pre.length]++dI (bZ kids p 0) (pre.length+1))=_
       rw[hnd]
       simp
      rw[e2]
      exact hb
     ·intro i hi
      rcases List.mem_append.1 hi with h|h
      ·have:=g3 i h;omega
      ·rw[List.mem_singleton] at h;omega
     ·rw[if_pos (by simp[Nd.kind,h6])]
      refine ⟨q.2.bs.length,by rw[iq];simp,?_,rfl⟩
      rw[iq,←List.append_assoc]
      simp[List.getD]
  rw[if_neg h6]
  have h6':¬Nd.kind ⟨k,s,m,kids⟩=6:=by simp[Nd.kind,h6]
  have Lv:fH ⟨⟨k,s,m,kids⟩,p⟩=false:=by simp[fH,Nd.kind,h6,h4]
  have hD:ga ⟨⟨k,s,m,kids⟩,p⟩=false:=by simp[ga,Nd.kind,h6,h4,h2]
  have hK:=DL (env':=env) hC (by simpa [Nd.kind] using h4) (fun x=>rfl) hC.ne (fun ⟨u,hu,Yx⟩=>absurd Yx (Lu h5 u hu))
  have adf:∀(ev:List bn)(hU:gj ⟨⟨k,s,m,kids⟩,p⟩=true)(hst:bW l ⟨⟨k,s,m,kids⟩,p⟩=enc ix (cF ev s))(hlt:∀j,cF ev s=some j→j<ix.length)(BU:k=25→∀j,cF ev s=some j→(au l (ix.getD j 0)).n.kind=2),
    IR l pre ⟨k,s,m,kids⟩ p ix A env (match jU ev { ws with at_:=ws.at_+1 } k s kids.length p ws.at_ with
     |.error e=>.error e
     | .ok w=>bJ fu kids env w p 0):=by
   intro ev hU hst hlt BU
   unfold jU
   cases hf:cF ev s with
   |none =>
    rw[hf] at hst
    simp only
    rw[ej]
    refine kD.left (n:=1) (kD.one ?_)
    unfold cN
    rw[dY]
    simp[Lv,hU,hst,enc]
   |some j =>
    rw[hf] at hst
    have hj:=hlt j hf
    have Lw:bW l ⟨⟨k,s,m,kids⟩,p⟩=((ix.getD j 0:Nat):Int):=hst
    have hb:=DF (l:=l) (pre:=pre) hj
    simp only[hW.bs,hb]
    by_cases c:k=25∧¬vi l (ix.getD j 0)=(kids.length:Nat)
    ·rw[if_pos c]
     simp only
     rw[ej]
     refine kD.left (n:=1) (kD.one ?_)
     have hy:=c.2
     unfold vi at hy
     rw[if_pos (BU c.1 j hf)] at hy
     unfold cN
     rw[dY]
     have hn:¬bW l ⟨⟨k,s,m,kids⟩,p⟩<0:=by rw[Lw];omega
     rw[if_neg (by simp[Lv]),if_neg (by simp[hU]),if_neg hn,if_pos]
     refine ⟨by simp[Nd.kind,c.1],?_⟩
     rw[Lw,Int.toNat_natCast]
     intro h
     exact hy (congrArg _ h)
    ·rw[if_neg c]
     simp only
     have hs:cN l pre.length=none:=by
      unfold cN
      rw[dY]
      have hn:¬bW l ⟨⟨k,s,m,kids⟩,p⟩<0:=by rw[Lw];omega
      rw[if_neg (by simp[Lv]),if_neg (by simp[hU]),if_neg hn,if_neg]
      rintro ⟨c1,c2⟩
      have CT:k=25:=c1
      refine c ⟨CT,?_⟩
      unfold vi
      rw[if_pos (BU CT j hf)]
      rw[Lw,Int.toNat_natCast] at c2
      intro h
      exact c2 (Int.ofNat.inj h)
     have IU:=hW.use hU hj Lw
     rw[hW.bs,hb] at IU
     have hn:=rC h6' hD hs (Ua l _ post p 0 ix A env _ fu hF hK IU) id (fun q hq=>(by
      have:=Ua l _ post p 0 ix A env _ fu hF hK IU
      rw[hq] at this
      exact this.2.choose_spec.2.2.2 (Lu h5)))
     cases hr:bJ fu kids env { ws with at_:=ws.at_+1,bs:=(y6 l pre ix).set j { (⟨(au l (ix.getD j 0)).p,(au l (ix.getD j 0)).n.text,e8 l pre (ix.getD j 0),vi l (ix.getD j 0)⟩:Bd) with cZ:=e8 l pre (ix.getD j 0)++[p] } } p 0 with
     |error e=>rw[hr] at hn;exact hn
     |ok q=>rw[hr] at hn;exact hn
  by_cases BV:k=22
  ·rw[if_pos BV]
   have hkn:kids=[]:=hg.name (by simp[Nd.kind,BV])
   refine adf env (by simp[gj,Nd.kind,BV]) ?_ (hC.lt s) (fun h=>by omega)
   unfold bW
   rw[if_neg (by simp[Nd.kind,BV])]
   simp only[Nd.text]
   have e0:l=pre++([⟨⟨k,s,m,kids⟩,p⟩]++post):=by rw[hC.eq,cR,hkn];simp[bZ,Nd.kids]
   have rQ:p++[]=p:=by simp
   rw[e0,fE,fE]
   have h1:=hC.ag s []
   rw[rQ] at h1
   have BP:=Lt (x:=s) (s:=[]) (i:=0+pre.length) (f:=jV s p pre 0 (-1)) hC.pne (t:=⟨k,s,m,kids⟩) (by simpa [Nd.kind] using h4)
   rw[rQ] at BP
   rw[BP,h1]
   exact Ci _ _ _ fun b hb hB=>by have:=hC.po b hb hB [];rwa [rQ] at this
  rw[if_neg BV]
  by_cases BU:k=25
  ·rw[if_pos BU]
   have hfu:cF [fu] s=cL s fu:=by
    simp only[cF]
    cases cL s fu<;>rfl
   refine adf [fu] (by simp[gj,Nd.kind,BU]) ?_ (fun j hj=>(hF.fl s j (by rw[←hfu];exact hj)).1) (fun _ j hj=>(hF.fl s j (by rw[←hfu];exact hj)).2)
   unfold bW
   rw[if_pos (by simp[Nd.kind,BU]),hfu]
   exact hF.fa s
  rw[if_neg BU]
  have hU:gj ⟨⟨k,s,m,kids⟩,p⟩=false:=by simp[gj,Nd.kind,BV,BU]
  have hs:cN l pre.length=none:=by
   unfold cN
   rw[dY]
   simp[Lv,hU]
  have hR:=Ua l _ post p 0 ix A env _ fu hF hK (hW.skip hU)
  have hn:=rC h6' hD hs hR id (fun q hq=>by
   rw[hq] at hR
   exact hR.2.choose_spec.2.2.2 (Lu h5))
  cases hr:bJ fu kids env { ws with at_:=ws.at_+1 } p 0 with
  |error e=>rw[hr] at hn;exact hn
  |ok q=>rw[hr] at hn;exact hn
theorem vo{t:Nd}{m:Nat}(h:bH t m=true):qb t=true∧∀j,j<t.kids.length→eA t.kind (aE t.kids j).kind j=true∧bH (aE t.kids j) (m-1)=true:=by
 rw[nt] at h
 simp only[Bool.and_eq_true] at h
 refine ⟨h.1.1.2,fun j hj=>?_⟩
 have:=(qU t.kind (m-1) t.kids 0).1 h.1.2 j hj
 rwa [Nat.zero_add] at this
theorem nv{t:Nd}{m:Nat}(h:bH t m=true){u:Nd}(hu:u∈t.kids):∃j:Nat,j<t.kids.length∧eA t.kind u.kind j=true∧bH u (m-1)=true:=by
 obtain ⟨j,hj,rfl⟩:=List.getElem_of_mem hu
 have:=(vo h).2 j hj
 rw[eH hj] at this
 exact ⟨j,hj,this⟩
theorem xw{t:Nd}{m:Nat}(h:bH t m=true)(h0:0≤eZ t.kind):(t.kids.length:Int)=eZ t.kind:=by
 have:=(vo h).1
 simp only[qb,Bool.and_eq_true,Bool.or_eq_true,decide_eq_true_eq] at this
 omega
theorem DM{p k a:Int}(hp:20≤p∨p=6)(h:eA p k a=true):eY k=true:=by
 unfold eA at h
 split at h
 ·cases h
 rw[if_neg (by omega),if_neg (by omega),if_neg (by omega),if_neg (by omega),if_neg (by omega),if_neg (by omega),if_neg (by omega)] at h
 exact h
theorem Ub(t:Nd):∀(m:Nat),bH t m=true→eY t.kind=true→∀(p:List Int)(b:Pl),b∈bI t p→ga b=false:=by
 induction t using Nd.ind with
 |_ t ih =>
  intro m h he p b hb
  have hk:20≤t.kind:=by simp[eY] at he;omega
  rw[cR] at hb
  rcases List.mem_cons.1 hb with rfl|hb
  ·simp[ga];omega
  ·obtain ⟨j,u,⟨h1,h2⟩,h3⟩:=eS _ _ _ _ hb
   have hu:=List.mem_of_getElem? h2
   obtain ⟨j',_,hf,hr⟩:=nv h hu
   exact ih u hu _ hr (DM (.inl hk) hf) _ b h3
theorem GM{p k a:Int}(hp:p=5∨6≤p)(h:eA p k a=true):(k=5∨6≤k)∧(p≠5→¬k=6):=by
 unfold eA at h
 split at h
 ·cases h
 rw[if_neg (by omega),if_neg (by omega),if_neg (by omega)] at h
 by_cases h5:p=5
 ·rw[if_pos h5] at h
  simp[oA] at h
  exact ⟨by omega,fun h'=>absurd h5 h'⟩
 rw[if_neg h5] at h
 by_cases h7:p=7
 ·rw[if_pos h7] at h
  simp[eY] at h
  exact ⟨by omega,fun _=>by omega⟩
 rw[if_neg h7] at h
 by_cases h8:p=8∨p=9
 ·rw[if_pos h8] at h
  simp[eY] at h
  exact ⟨by omega,fun _=>by omega⟩
 rw[if_neg h8] at h
 by_cases h12:p=12
 ·rw[if_pos h12] at h
  simp at h
  exact ⟨by omega,fun _=>by omega⟩
 rw[if_neg h12] at h
 simp[eY] at h
 exact ⟨by omega,fun _=>by omega⟩
theorem Pu(t:Nd):∀(m:Nat),bH t m=true→(t.kind=5∨6≤t.kind)→qc t:=by
 induction t using Nd.ind with
 |_ t ih =>
  intro m h hk
  refine .mk hk (fun h5 u hu=>?_) (fun BV=>?_) (fun h6 p i b hb=>?_) fun u hu=>?_
  ·obtain ⟨j,_,hf,_⟩:=nv h hu
   exact (GM hk hf).2 h5
  ·have:=xw h (by rw[BV];decide)
   rw[BV] at this
   have h0:t.kids.length=0:=by have:eZ 22=0:=rfl;omega
   exact List.length_eq_zero_iff.1 h0
  ·obtain ⟨j,u,⟨h1,h2⟩,h3⟩:=eS _ _ _ _ hb
   have hu:=List.mem_of_getElem? h2
   obtain ⟨j',_,hf,hr⟩:=nv h hu
   exact Ub u _ hr (DM (.inr h6) hf) _ b h3
  ·obtain ⟨j,_,hf,hr⟩:=nv h hu
   exact ih u hu _ hr (GM hk hf).1
structure Fn(f P B:Nd):Prop where
 kind:f.kind=2
 kids:f.kids=[P,B]
 pk:P.kind=3
 ps:∀q∈P.kids,q.kind=4∧q.kids=[]
 bk:B.kind=5
 bg:qc B
theorem rY{n:Nd}{m:Nat}(hk:n.kind=1)(h:bH n m=true){f:Nd}(hf:f∈n.kids):∃P B,Fn f P B:=by
 obtain ⟨j,_,h1,h2⟩:=nv h hf
 have k2:f.kind=2:=by
  rw[hk] at h1
  unfold eA at h1
  split at h1
  ·cases h1
  simpa using h1
 have hl:=xw h2 (by rw[k2];decide)
 have h2l:f.kids.length=2:=by
  rw[k2] at hl
  have:eZ 2=2:=rfl
  omega
 obtain ⟨P,B,hPB⟩:∃P B,f.kids=[P,B]:=by
  match hq:f.kids,h2l with
  |[P,B],_=>exact ⟨P,B,rfl⟩
 have fx:=(vo h2).2
 rw[hPB] at fx
 obtain ⟨f0,r0⟩:=fx 0 (by simp)
 obtain ⟨f1,r1⟩:=fx 1 (by simp)
 have e0:aE [P,B] 0=P:=rfl
 have e1:aE [P,B] 1=B:=rfl
 rw[e0] at f0 r0
 rw[e1] at f1 r1
 rw[k2] at f0 f1
 have kP:P.kind=3:=by
  simp[eA,eZ] at f0
  exact f0
 have kB:B.kind=5:=by
  simp[eA,eZ] at f1
  exact f1
 refine ⟨P,B,k2,hPB,kP,fun q hq=>?_,kB,Pu B _ r1 (.inl kB)⟩
 obtain ⟨j',_,g1,g2⟩:=nv r0 hq
 have k4:q.kind=4:=by
  rw[kP] at g1
  unfold eA at g1
  split at g1
  ·cases g1
  simpa using g1
 refine ⟨k4,?_⟩
 have:=xw g2 (by rw[k4];decide)
 rw[k4] at this
 have h0:q.kids.length=0:=by have:eZ 4=0:=rfl;omega
 exact List.length_eq_zero_iff.1 h0
theorem Rn{f P B:Nd}(hf:Fn f P B){p:List Int}{b:Pl}(hb:b∈bI f p):b=⟨f,p⟩∨b=⟨P,p++[0]⟩∨(∃i:Nat,∃q∈P.kids,b=⟨q,p++[0]++[(i:Int)]⟩)∨(b∈bI B (p++[1])∧qc b.n):=by
 rw[cR,hf.kids] at hb
 simp only[bZ,List.append_nil,List.mem_cons,List.mem_append] at hb
 rcases hb with h|h|h
 ·exact .inl h
 ·rw[cR] at h
  rcases List.mem_cons.1 h with rfl|h
  ·exact .inr (.inl rfl)
  ·obtain ⟨j,u,⟨h1,h2⟩,h3⟩:=eS _ _ _ _ h
   have hu:=List.mem_of_getElem? h2
   rw[cR,(hf.ps u hu).2] at h3
   simp only[bZ,List.mem_singleton] at h3
   exact .inr (.inr (.inl ⟨j,u,hu,h3⟩))
 ·exact .inr (.inr (.inr ⟨h,y5 B hf.bg _ b h⟩))
theorem Yy{f P B:Nd}(hf:Fn f P B){j k:Int}(hne:j≠k){s:List Int}:∀b∈bI f [j],fH b=true→cM b ([k]++s)=false:=by
 intro b hb hB
 rcases Rn hf hb with rfl|rfl|⟨i,q,hq,rfl⟩|⟨h,hg⟩
 ·simp[fH,hf.kind] at hB
 ·simp[fH,hf.pk] at hB
 ·exact pC (p:=[]) (j:=j) (k:=k) (s:=[0,(i:Int)]) (s':=s) rfl rfl hne (by simp) (by simp)
 ·have h4:¬b.n.kind=4:=by have:=hg.kind;omega
  rcases nY B _ b h with rfl|⟨j2,s2,h2⟩
  ·exact pC (p:=[]) (j:=j) (k:=k) (s:=[1]) (s':=s) rfl rfl hne (by simp) fun h=>absurd h h4
  ·exact pC (p:=[]) (j:=j) (k:=k) (s:=[1]++([j2]++s2)) (s':=s) (by rw[h2];simp) rfl hne (by simp) fun h=>absurd h h4
theorem Yz{f P B:Nd}(hf:Fn f P B){p:List Int}{b:Pl}(hb:b∈bI f p):b=⟨f,p⟩∨¬b.n.kind=2:=by
 rcases Rn hf hb with rfl|rfl|⟨i,q,hq,rfl⟩|⟨h,hg⟩
 ·exact .inl rfl
 ·right;rw[hf.pk];omega
 ·right;rw[(hf.ps q hq).1];omega
 ·right;have:=hg.kind;omega
theorem DN{s x:ByteArray}{j:Nat}{head:bn}{tl:List bn}:cF (fD s j head::tl) x=if x=s then some j else cF (head::tl) x:=by
 rw[vm,jt]
 by_cases h:x=s
 ·simp[h]
 ·rw[if_neg h,if_neg h,vm]
theorem Ay(t:Nd)(r:List Nd)(p:List Int)(i:Nat):bZ (t::r) p i=bI t (p++[(i:Int)])++bZ r p (i+1):=rfl
theorem Lx(r:List Nd)(hr:∀q∈r,q.kind=4∧q.kids=[]):∀(l pre post:List Pl)(f:List Int)(i:Nat)(ix A:List Nat)(head:bn)(tl:List bn)(ws:WS)(fu:bn),
  l=pre++(bZ r (f++[0]) i++post)→(∀x s,jV x (f++[1]++s) pre 0 (-1)=enc ix (cF (head::tl) x))→(∀x j,cF (head::tl) x=some j→j<ix.length)→
  (∀x,(cL x head).isSome=pre.any fun b=>decide (b.n.kind=4) && (decide (b.n.text=x) && (decide (b.p.length=f.length+2) && jj b.p (f++[0]))))→oB l pre ix A ws→
  match bJ fu r (head::tl) ws (f++[0]) i with
  |.error e=>kD l pre.length (Nd.ay r) e
  |.ok q=>nu l pre.length (Nd.ay r)∧∃(more:List Nat)(head':bn),oB l (pre++bZ r (f++[0]) i) (ix++more) (A++dI (bZ r (f++[0]) i) pre.length) q.2∧q.1=head'::tl∧
    (∀x s,jV x (f++[1]++s) (pre++bZ r (f++[0]) i) 0 (-1)=enc (ix++more) (cF (head'::tl) x))∧(∀x j,cF (head'::tl) x=some j→j<(ix++more).length):=by
 induction r with
 |nil =>
  intro l pre post f i ix A head tl ws fu heq hag hlt hhv hW
  simp only[bJ]
  exact ⟨nu.nil,[],head,by simpa [bZ,dI] using hW,rfl,by simpa [bZ] using hag,by simpa using hlt⟩
 |cons q r ih =>
  intro l pre post f i ix A head tl ws fu heq hag hlt hhv hW
  obtain ⟨hq4,hq0⟩:=hr q (by simp)
  obtain ⟨k,s,m,kids⟩:=q
  simp only[Nd.kind,Nd.kids] at hq4 hq0
  subst hq4 hq0
  have hN:bI ⟨4,s,m,[]⟩ (f++[0]++[(i:Int)])=[⟨⟨4,s,m,[]⟩,f++[0]++[(i:Int)]⟩]:=by rw[cR];rfl
  have hU:gj ⟨⟨4,s,m,[]⟩,f++[0]++[(i:Int)]⟩=false:=rfl
  have hB:fH ⟨⟨4,s,m,[]⟩,f++[0]++[(i:Int)]⟩=true:=rfl
  have hD:ga ⟨⟨4,s,m,[]⟩,f++[0]++[(i:Int)]⟩=true:=rfl
  have YA:bZ (⟨4,s,m,[]⟩::r) (f++[0]) i=[⟨⟨4,s,m,[]⟩,f++[0]++[(i:Int)]⟩]++bZ r (f++[0]) (i+1):=by rw[Ay,hN]
  have Uc:∀n,dI [(⟨⟨4,s,m,[]⟩,f++[0]++[(i:Int)]⟩:Pl)] n=[n]:=fun n=>by simp only[dI,hD,if_true,List.append_nil]
  have rZ:l=(pre++[⟨⟨4,s,m,[]⟩,f++[0]++[(i:Int)]⟩])++(bZ r (f++[0]) (i+1)++post):=by rw[heq,YA];simp only[List.append_assoc]
  have dY:au l pre.length=⟨⟨4,s,m,[]⟩,f++[0]++[(i:Int)]⟩:=by rw[rZ,List.append_assoc];exact rX
  have vn:dm l pre.length=(cL s head).isSome:=by
   unfold dm
   rw[dY,hhv s,rZ,List.append_assoc,List.take_left]
   congr 1
   funext b
   have h4:Nd.kind ⟨4,s,m,[]⟩=4:=rfl
   have hs:Nd.text ⟨4,s,m,[]⟩=s:=rfl
   have fe:(f++[0]++[(i:Int)]).length=f.length+2:=by simp
   have eK:(f++[0]++[(i:Int)]).take (f.length+2-1)=f++[0]:=by
    have:f.length+2-1=(f++[(0:Int)]).length:=by simp
    rw[this,List.take_left]
   unfold twin
   simp only[h4,hs,fe,eK]
  have ej:=hW.at_
  have hsz:Nd.ay (⟨4,s,m,[]⟩::r)=1+Nd.ay r:=by simp[Nd.ay,Nd.size]
  have hl:(pre++[(⟨⟨4,s,m,[]⟩,f++[0]++[(i:Int)]⟩:Pl)]).length=pre.length+1:=by simp
  have DP:bR fu ⟨4,s,m,[]⟩ (head::tl) ws (f++[0]++[(i:Int)])=dx (head::tl) { ws with at_:=ws.at_+1 } s (f++[0]++[(i:Int)]) ws.at_:=by
   simp only[bR]
   rw[if_neg (by decide),if_pos trivial]
   cases dx (head::tl) { ws with at_:=ws.at_+1 } s (f++[0]++[(i:Int)]) ws.at_<;>rfl
  simp only[bJ,DP]
  rw[hsz]
  cases hg:cL s head with
  |some v =>
   have hb:dx (head::tl) { ws with at_:=ws.at_+1 } s (f++[0]++[(i:Int)]) ws.at_ = .error (110,ws.at_):=by simp[dx,hg]
   rw[hb]
   simp only
   rw[ej]
   refine kD.left (kD.one ?_)
   unfold cN
   rw[dY,if_pos ⟨hB,by rw[vn,hg];rfl⟩]
  |none =>
   have hb:dx (head::tl) { ws with at_:=ws.at_+1 } s (f++[0]++[(i:Int)]) ws.at_ = .ok (fD s ws.bs.length head::tl,{ ws with at_:=ws.at_+1,bs:=ws.bs++[⟨f++[0]++[(i:Int)],s,[],0⟩],all:=ws.all++[ws.bs.length] }):=by simp[dx,hg]
   rw[hb]
   simp only
   have hs:cN l pre.length=none:=by
    unfold cN
    rw[dY,if_neg (by simp[vn,hg]),if_pos hU]
   have hni:pre.length∉ix:=fun hm=>by
    rcases hW.old _ hm with h|h
    ·rw[dY] at h;simp[Nd.kind] at h
    ·omega
   obtain ⟨w2,BW⟩:∃w2,({ ws with at_:=ws.at_+1,bs:=ws.bs++[⟨f++[0]++[(i:Int)],s,[],0⟩],all:=ws.all++[ws.bs.length] }:WS)=w2:=⟨_,rfl⟩
   have IU:oB l (pre++[⟨⟨4,s,m,[]⟩,f++[0]++[(i:Int)]⟩]) (ix++[pre.length]) (A++[pre.length]) w2:=by
    have h:=(hW.skip hU).bind (m:=pre.length) (by simp) (by rw[dY];simp[Nd.kind]) hni
    rw[dY] at h
    rw[←BW]
    exact h
   rw[BW]
   have iq:ws.bs.length=ix.length:=by rw[hW.bs];simp[y6]
   have hR:=ih (fun q hq=>hr q (by simp[hq])) l _ post f (i+1) (ix++[pre.length]) (A++[pre.length]) (fD s ws.bs.length head) tl _ fu rZ ?_ ?_ ?_ IU
   ·rw[hl] at hR
    generalize bJ fu r (fD s ws.bs.length head::tl) w2 (f++[0]) (i+1)=res at hR ⊢
    cases res with
    |error e=>exact kD.right (nu.one hs) hR
    |ok z =>
     obtain ⟨g1,more,head',g2,g3,g4,g5⟩:=hR
     have e1:pre++bZ (⟨4,s,m,[]⟩::r) (f++[0]) i=pre++[⟨⟨4,s,m,[]⟩,f++[0]++[(i:Int)]⟩]++bZ r (f++[0]) (i+1):=by rw[YA];simp only[List.append_assoc]
     have e2:A++dI (bZ (⟨4,s,m,[]⟩::r) (f++[0]) i) pre.length=A++[pre.length]++dI (bZ r (f++[0]) (i+1)) (pre.length+1):=by rw[YA,jW,Uc];simp only[List.append_assoc];rfl
     refine ⟨(nu.one hs).ez g1,pre.length::more,head',?_,g3,?_,?_⟩
     ·rw[e1,e2,show ix++pre.length::more=ix++[pre.length]++more by simp]
      exact g2
     ·intro x s'
      rw[e1,show ix++pre.length::more=ix++[pre.length]++more by simp]
      exact g4 x s'
     ·intro x j hj
      have:=g5 x j hj
      simpa using this
   ·intro x s'
    rw[fE,hag x s',Nat.zero_add,DN]
    simp only[jV]
    have ab2:cM ⟨⟨4,s,m,[]⟩,f++[0]++[(i:Int)]⟩ (f++[1]++s')=true:=Pr rfl rfl rfl
    have hts:Nd.text ⟨4,s,m,[]⟩=s:=rfl
    rw[ab2,hB,hts]
    by_cases hx:x=s
    ·have y8:s=x:=hx.symm
     rw[if_pos hx,if_pos ⟨y8,rfl,rfl⟩]
     simp[enc,iq,List.getD]
    ·have y8:¬s=x:=fun h=>hx h.symm
     rw[if_neg hx,if_neg (fun h=>y8 h.1),y7 (hlt x)]
   ·intro x j hj
    rw[DN] at hj
    split at hj
    ·cases hj
     rw[iq]
     simp
    ·have:=hlt x j hj
     simp;omega
   ·intro x
    rw[jt,List.any_append,List.any_cons,List.any_nil,Bool.or_false,←hhv x]
    have hts:Nd.text ⟨4,s,m,[]⟩=s:=rfl
    have h4:Nd.kind ⟨4,s,m,[]⟩=4:=rfl
    have qL:jj (f++[0]++[(i:Int)]) (f++[0])=true:=kz.2 ⟨[(i:Int)],rfl⟩
    simp only[hts,h4,qL]
    by_cases hx:x=s
    ·simp[hx]
    ·have y8:¬s=x:=fun h=>hx h.symm
     simp[hx,y8]
theorem oB.decl{l pre:List Pl}{ix A:List Nat}{ws:WS}(h:oB l pre ix A ws){u:Pl}(hu:gj u=false){j:Nat}(hj:j<ix.length)(hi:ix.getD j 0=pre.length):oB l (pre++[u]) ix (A++[pre.length]) { ws with at_:=ws.at_+1,all:=ws.all++[j] } where
 at_:=(h.skip hu).at_
 bs:=(h.skip hu).bs
 all:=by
  simp only[List.map_append,List.map_cons,List.map_nil,hi]
  rw[h.all]
 lt:=fun z hz=>by
  rcases List.mem_append.1 hz with h1|h1
  ·exact h.lt z h1
  ·rw[List.mem_singleton] at h1
   rw[h1];exact hj
 nd:=h.nd
 old:=(h.skip hu).old
 cZ:=(h.skip hu).cZ
theorem ab3{f P B:Nd}(hf:Fn f P B)(l pre post:List Pl)(k:Nat)(ix A:List Nat)(ws:WS)(fu:bn)(hF:Bt l ix fu)(heq:l=pre++(bI f [(k:Int)]++post))
  (hag:∀x s,jV x ([(k:Int)]++s) pre 0 (-1)=-1)(jA:∀b∈post,fH b=true→∀s,cM b ([(k:Int)]++s)=false)(aX:∀b∈pre,∀s,b.p≠[(k:Int)]++s)
  (jw:∃j,cL f.text fu=some j∧ix.getD j 0=pre.length)(hW:oB l pre ix A ws) :
  match bR fu f [[]] ws [(k:Int)] with
  |.error e=>kD l pre.length f.size e
  |.ok r=>nu l pre.length f.size∧∃more,oB l (pre++bI f [(k:Int)]) (ix++more) (A++dI (bI f [(k:Int)]) pre.length) r.2∧r.1=[[]]:=by
 obtain ⟨j,hj,hji⟩:=jw
 have rP:=(hF.fl _ _ hj).1
 have NS:=hf.kind
 have hfs:=hf.kids
 obtain ⟨fk,fs,fm,afW⟩:=f
 obtain ⟨pk,ps,pm,dF⟩:=P
 have hpk:pk=3:=hf.pk
 have hps:∀q∈dF,q.kind=4∧q.kids=[]:=hf.ps
 have ahD:fk=2:=NS
 have ahE:afW=[⟨pk,ps,pm,dF⟩,B]:=hfs
 subst ahD hpk ahE
 have hj':cL fs fu=some j:=hj
 have hU:gj ⟨⟨2,fs,fm,[⟨3,ps,pm,dF⟩,B]⟩,[(k:Int)]⟩=false:=rfl
 have hUP:gj ⟨⟨3,ps,pm,dF⟩,[(k:Int)]++[0]⟩=false:=rfl
 have hN:bI ⟨2,fs,fm,[⟨3,ps,pm,dF⟩,B]⟩ [(k:Int)]=[⟨⟨2,fs,fm,[⟨3,ps,pm,dF⟩,B]⟩,[(k:Int)]⟩]++([⟨⟨3,ps,pm,dF⟩,[(k:Int)]++[0]⟩]++(bZ dF ([(k:Int)]++[0]) 0++bI B ([(k:Int)]++[1]))):=by
  rw[cR]
  show _::bZ [⟨3,ps,pm,dF⟩,B] [(k:Int)] 0=_
  simp only[bZ]
  rw[cR]
  simp[Nd.kids]
 have ahF:au l pre.length=⟨⟨2,fs,fm,[⟨3,ps,pm,dF⟩,B]⟩,[(k:Int)]⟩:=by rw[heq,hN];exact rX
 have ahG:au l (pre.length+1)=⟨⟨3,ps,pm,dF⟩,[(k:Int)]++[0]⟩:=by
  have:=rX (pre:=pre++[⟨⟨2,fs,fm,[⟨3,ps,pm,dF⟩,B]⟩,[(k:Int)]⟩]) (u:=⟨⟨3,ps,pm,dF⟩,[(k:Int)]++[0]⟩) (r:=bZ dF ([(k:Int)]++[0]) 0++bI B ([(k:Int)]++[1])++post)
  rw[heq,hN]
  simpa using this
 have hs0:cN l pre.length=none:=by
  unfold cN
  rw[ahF,if_neg (by simp[fH,Nd.kind]),if_pos hU]
 have hs1:cN l (pre.length+1)=none:=by
  unfold cN
  rw[ahG,if_neg (by simp[fH,Nd.kind]),if_pos hUP]
 have wu:nu l pre.length 2:=(nu.one hs0).ez (m:=1) (nu.one hs1)
 have hW1:=(hW.decl hU rP hji).skip hUP
 obtain ⟨Bu,xx⟩:∃Bu,pre++[(⟨⟨2,fs,fm,[⟨3,ps,pm,dF⟩,B]⟩,[(k:Int)]⟩:Pl)]++[⟨⟨3,ps,pm,dF⟩,[(k:Int)]++[0]⟩]=Bu:=⟨_,rfl⟩
 rw[xx] at hW1
 have eK:Bu.length=pre.length+2:=by rw[←xx];simp
 have DP:bR fu ⟨2,fs,fm,[⟨3,ps,pm,dF⟩,B]⟩ [[]] ws [(k:Int)]=ade (fun _=>[[]]) (bJ fu [⟨3,ps,pm,dF⟩,B] [[],[]] { ws with at_:=ws.at_+1,all:=ws.all++[j] } [(k:Int)] 0):=by
  simp only[bR,if_true,hj',Option.getD_some]
  cases bJ fu [⟨3,ps,pm,dF⟩,B] [[],[]] { ws with at_:=ws.at_+1,all:=ws.all++[j] } [(k:Int)] 0<;>rfl
 have hnP:bR fu ⟨3,ps,pm,dF⟩ [[],[]] { ws with at_:=ws.at_+1,all:=ws.all++[j] } [(k:Int),0]=bJ fu dF [[],[]] { ws with at_:=ws.at_+1+1,all:=ws.all++[j] } [(k:Int),0] 0:=by
  simp[bR]
 have YB:∀b∈Bu,b∈pre∨b=⟨⟨2,fs,fm,[⟨3,ps,pm,dF⟩,B]⟩,[(k:Int)]⟩∨b=⟨⟨3,ps,pm,dF⟩,[(k:Int)]++[0]⟩:=fun b hb=>by
  rw[←xx] at hb
  simpa [or_assoc] using hb
 have Lz:=Lx dF hps l Bu (bI B ([(k:Int)]++[1])++post) [(k:Int)] 0 ix (A++[pre.length]) [] [[]] _ fu (by rw[heq,hN,←xx];simp) ?_ (fun x j h=>by simp[cF,cL] at h) ?_ hW1
 rotate_left
 ·intro x s
  rw[←xx,fE,fE]
  have:=hag x ([1]++s)
  rw[show [(k:Int)]++[1]++s=[(k:Int)]++([1]++s) by simp,this]
  simp[jV,fH,Nd.kind,cF,cL,enc]
 ·intro x
  symm
  simp only[cL,Option.isSome_none]
  rw[List.any_eq_false]
  intro b hb hc
  simp only[Bool.and_eq_true,decide_eq_true_eq,kz] at hc
  obtain ⟨c1,-,c3,z,hz⟩:=hc
  rcases YB b hb with h|rfl|rfl
  ·exact aX b h ([0]++z) (by rw[←hz];simp)
  ·simp at c3
  ·simp at c3
 rw[DP]
 simp only[bJ]
 rw[show ([(k:Int)]++[((0:Nat):Int)])=[(k:Int),0] from rfl,hnP]
 rw[show ([(k:Int)]++[(0:Int)])=[(k:Int),0] from rfl] at Lz
 have hsz:Nd.size ⟨2,fs,fm,[⟨3,ps,pm,dF⟩,B]⟩=2+(Nd.ay dF+B.size):=by simp[Nd.size,Nd.ay];omega
 rw[hsz]
 rw[eK] at Lz
 generalize bJ fu dF [[],[]] { ws with at_:=ws.at_+1+1,all:=ws.all++[j] } [(k:Int),0] 0=res at Lz ⊢
 cases res with
 |error e=>exact kD.right wu (kD.left Lz)
 |ok q =>
  obtain ⟨g1,more,head',g2,g3,g4,g5⟩:=Lz
  simp only
  have ahH:(Bu++bZ dF [(k:Int),0] 0).length=pre.length+2+Nd.ay dF:=by rw[List.length_append,lT,eK]
  have hC:Ctx l (Bu++bZ dF [(k:Int),0] 0) post B ([(k:Int)]++[1]) (ix++more) q.1:=by
   refine ⟨by rw[heq,hN,←xx];simp,⟨[(k:Int)],1,rfl⟩,by rw[g3];simp,fun x s=>by rw[g3];exact g4 x s,fun x j h=>g5 x j (by rw[←g3];exact h),?_,?_,fun h=>?_⟩
   ·intro b hb hB s
    have:=jA b hb hB ([1]++s)
    rwa [show [(k:Int)]++[1]++s=[(k:Int)]++([1]++s) by simp]
   ·intro b hb s hs he
    rcases List.mem_append.1 hb with h|h
    ·rcases YB b h with h|rfl|rfl
     ·exact aX b h ([1]++s) (by rw[he];simp)
     ·have:=congrArg List.length he
      simp at this
     ·have e1 : [(k:Int)]++[0]++[]=[(k:Int)]++[1]++s:=by simp at he
      have:=(nX e1).1
      omega
    ·obtain ⟨j',u,⟨_,h2⟩,h3⟩:=eS _ _ _ _ h
     have hu:=hps u (List.mem_of_getElem? h2)
     rw[cR,hu.2] at h3
     simp only[bZ,List.mem_singleton] at h3
     rw[h3] at he
     have e1 : [(k:Int)]++[0]++[(j':Int)]=[(k:Int)]++[1]++s:=by simp at he
     have:=(nX e1).1
     omega
   ·rw[hf.bk] at h
    omega
  have hB:=T9 B hf.bg l _ post ([(k:Int)]++[1]) (ix++more) _ q.1 q.2 fu (hF.more more) hC g2
  rw[show ([(k:Int)]++[((0+1:Nat):Int)])=[(k:Int)]++[1] from rfl]
  unfold IR at hB
  rw[ahH] at hB
  generalize bR fu B q.1 q.2 ([(k:Int)]++[1])=res at hB ⊢
  have ho3:nu l pre.length (2+Nd.ay dF):=wu.ez g1
  cases res with
  |error e =>
   show kD l pre.length (2+(Nd.ay dF+B.size)) e
   rw[←Nat.add_assoc]
   exact kD.right ho3 (by simpa [Nat.add_assoc] using hB)
  |ok z =>
   obtain ⟨b1,DJ,b2,b3,-⟩:=hB
   refine ⟨?_,more++DJ,?_,rfl⟩
   ·rw[←Nat.add_assoc]
    exact ho3.ez (by simpa [Nat.add_assoc] using b1)
   ·have e1:pre++bI ⟨2,fs,fm,[⟨3,ps,pm,dF⟩,B]⟩ [(k:Int)]=Bu++bZ dF [(k:Int),0] 0++bI B ([(k:Int)]++[1]):=by rw[hN,←xx];simp
    have e2:A++dI (bI ⟨2,fs,fm,[⟨3,ps,pm,dF⟩,B]⟩ [(k:Int)]) pre.length=A++[pre.length]++dI (bZ dF [(k:Int),0] 0) (pre.length+2)++dI (bI B ([(k:Int)]++[1])) (pre.length+2+Nd.ay dF):=by
     rw[hN,jW,jW,jW,lT]
     simp[dI,ga,Nd.kind]
    rw[e1,e2,←List.append_assoc]
    exact b2
theorem nZ{x:ByteArray}:∀(a b:List Pl)(i:Nat)(f:Int),iz x (a++b) i f=iz x b (i+a.length) (iz x a i f)
 |[],b,i,f=>by simp[iz]
 |c::a,b,i,f=>by
  simp only[List.cons_append,iz,List.length_cons]
  rw[nZ a b]
  congr 1
  omega
theorem Ro{x:ByteArray}:∀(a:List Pl)(i:Nat)(f:Int),(∀b∈a,¬b.n.kind=2)→iz x a i f=f
 |[],_,_,_=>rfl
 |b::a,i,f,h=>by
  simp only[iz,if_neg (fun hh:b.n.text=x∧b.n.kind=2∧f<0=>h b (by simp) hh.2.1)]
  exact Ro a (i+1) f fun c hc=>h c (by simp[hc])
theorem GN{x:ByteArray}:∀(a:List Pl)(i:Nat)(f:Int),0≤f→iz x a i f=f
 |[],_,_,_=>rfl
 |b::a,i,f,h=>by
  simp only[iz,if_neg (fun hh:b.n.text=x∧b.n.kind=2∧f<0=>absurd hh.2.2 (by omega))]
  exact GN a (i+1) f h
theorem LA{x:ByteArray}:∀(a:List Pl)(i:Nat),(iz x a i (-1)<0↔a.any (fun b=>decide (b.n.kind=2) && decide (b.n.text=x))=false)∧-1≤iz x a i (-1)
 |[],i=>by simp[iz]
 |b::a,i=>by
  by_cases c:b.n.text=x∧b.n.kind=2
  ·have h:iz x (b::a) i (-1)=(i:Int):=by
    simp only[iz,if_pos (⟨c.1,c.2,by omega⟩:b.n.text=x∧b.n.kind=2∧(-1:Int)<0)]
    exact GN a (i+1) _ (by omega)
   rw[h]
   simp[c.1,c.2]
  ·have h:iz x (b::a) i (-1)=iz x a (i+1) (-1):=by
    simp only[iz,if_neg (fun hh:b.n.text=x∧b.n.kind=2∧(-1:Int)<0=>c ⟨hh.1,hh.2.1⟩)]
   rw[h]
   have ih:=LA (x:=x) a (i+1)
   refine ⟨?_,ih.2⟩
   rw[ih.1,List.any_cons]
   have:(decide (b.n.kind=2) && decide (b.n.text=x))=false:=by
    by_cases h1:b.n.kind=2
    ·have h2:¬b.n.text=x:=fun h2=>c ⟨h2,h1⟩
     simp[h2]
    ·simp[h1]
   rw[this,Bool.false_or]
theorem y9{f P B:Nd}(hf:Fn f P B){p:List Int}{i:Nat}{b:Pl}(hb:b∈bZ f.kids p i):¬b.n.kind=2:=by
 rw[hf.kids] at hb
 simp only[bZ,List.append_nil,List.mem_append] at hb
 rcases hb with h|h
 ·rw[cR] at h
  rcases List.mem_cons.1 h with rfl|h
  ·simp only[hf.pk];omega
  ·obtain ⟨j,u,⟨_,h2⟩,h3⟩:=eS _ _ _ _ h
   have hu:=hf.ps u (List.mem_of_getElem? h2)
   rw[cR,hu.2] at h3
   simp only[bZ,List.mem_singleton] at h3
   rw[h3]
   simp only[hu.1];omega
 ·have:=(y5 B hf.bg _ b h).kind
  omega
structure YC(l pre:List Pl)(ix:List Nat)(fu:bn)(ws:WS):Prop where
 at_:ws.at_=0
 bs:ws.bs=ix.map fun i=>⟨(au l i).p,(au l i).n.text,[],vi l i⟩
 nd:ix.Nodup
 old:∀i∈ix,(au l i).n.kind=2∧i<pre.length
 fa:∀x,iz x pre 0 (-1)=enc ix (cL x fu)
 lt:∀x j,cL x fu=some j→j<ix.length
 fi:∀(a c:List Pl)(u:Pl),pre=a++u::c→u.n.kind=2→∃j,cL u.n.text fu=some j∧ix.getD j 0=a.length
 one:∀b∈pre,b.n.kind=2→b.p.length=1
theorem GP(r:List Nd)(hr:∀f∈r,∃P B,Fn f P B):∀(l pre:List Pl)(i:Nat)(ix:List Nat)(fu:bn)(ws:WS),l=pre++bZ r [] i→YC l pre ix fu ws→
  match gD r i fu ws pre.length with
  |.error e=>∃m,(pre.length≤m∧m<l.length)∧eD l m=some e∧∀m',pre.length≤m'→m'<m→eD l m'=none
  |.ok q=>(∀m,pre.length≤m→m<l.length→eD l m=none)∧∃ix',YC l l ix' q.1 q.2:=by
 induction r with
 |nil =>
  intro l pre i ix fu ws heq hH
  have:l=pre:=by rw[heq];simp[bZ]
  subst this
  simp only[gD]
  exact ⟨fun m h1 h2=>by omega,ix,hH⟩
 |cons f r ih =>
  intro l pre i ix fu ws heq hH
  obtain ⟨P,B,hf⟩:=hr f (by simp)
  have hN:=cR f [(i:Int)]
  have YA:bZ (f::r) [] i=[⟨f,[(i:Int)]⟩]++(bZ f.kids [(i:Int)] 0++bZ r [] (i+1)):=by rw[Ay,List.nil_append,hN];rfl
  have rZ:l=pre++([⟨f,[(i:Int)]⟩]++(bZ f.kids [(i:Int)] 0++bZ r [] (i+1))):=by rw[heq,YA]
  have dY:au l pre.length=⟨f,[(i:Int)]⟩:=by rw[rZ];exact rX
  have adg:dm l pre.length=pre.any (fun b=>decide (b.n.kind=2) && decide (b.n.text=f.text)):=by
   unfold dm
   rw[dY,rZ,List.take_left]
   rw[Bool.eq_iff_iff,List.any_eq_true,List.any_eq_true]
   constructor
   ·rintro ⟨b,hb,h⟩
    refine ⟨b,hb,?_⟩
    simp only[twin,Bool.and_eq_true,decide_eq_true_eq,hf.kind] at h ⊢
    exact ⟨h.1,h.2.1⟩
   ·rintro ⟨b,hb,h⟩
    refine ⟨b,hb,?_⟩
    simp only[twin,Bool.and_eq_true,decide_eq_true_eq,hf.kind] at h ⊢
    have h1:=hH.one b hb h.1
    exact ⟨h.1,h.2,by simpa using h1,kz.2 (by simp)⟩
  have hsc:=LA (x:=f.text) pre 0
  rw[hH.fa] at hsc
  have sP:∀m,pre.length<m→m<pre.length+f.size→eD l m=none:=by
   intro m h1 h2
   have hk:¬(au l m).n.kind=2:=by
    have hm:(au l m)∈bZ f.kids [(i:Int)] 0:=by
     have hsz:(bZ f.kids [(i:Int)] 0).length+1=f.size:=by rw[lT,Nd.size_eq];omega
     have hx:l[m]? = (bZ f.kids [(i:Int)] 0)[m-pre.length-1]?:=by
      rw[rZ,List.getElem?_append_right (by omega),List.getElem?_append_right (by simp;omega),List.getElem?_append_left (by simp;omega)]
      simp
     unfold au
     rw[List.getD,hx,List.getElem?_eq_getElem (by omega)]
     exact List.getElem_mem _
    exact y9 hf hm
   unfold eD
   rw[if_neg (fun h=>hk h.1)]
  simp only[gD,dx,List.headD_cons,List.tail_cons]
  cases hg:cL f.text fu with
  |some v =>
   simp only
   have ht:dm l pre.length=true:=by
    rw[adg]
    cases hc:pre.any (fun b=>decide (b.n.kind=2) && decide (b.n.text=f.text)) with
    |true=>rfl
    |false =>
     have:=hsc.1.2 hc
     rw[hg] at this
     simp only[enc] at this
     omega
   refine ⟨pre.length,⟨Nat.le_refl _,by rw[rZ];simp⟩,?_,fun m' h1 h2=>by omega⟩
   unfold eD
   rw[dY,if_pos ⟨hf.kind,ht⟩]
  |none =>
   simp only
   have ht:dm l pre.length=false:=by
    rw[adg]
    refine hsc.1.1 ?_
    rw[hg]
    simp[enc]
   have hs:eD l pre.length=none:=by
    unfold eD
    rw[dY,ht]
    simp
   have iq:ws.bs.length=ix.length:=by rw[hH.bs];simp
   obtain ⟨w2,BW⟩:∃w2,({ ws with bs:=(ws.bs++[(⟨[(i:Int)],f.text,[],0⟩:Bd)]).set ws.bs.length { bq (ws.bs++[(⟨[(i:Int)],f.text,[],0⟩:Bd)]) ws.bs.length with many:=((aE f.kids 0).kids.length:Nat) },all:=ws.all++[ws.bs.length] }:WS)=w2:=⟨_,rfl⟩
   rw[BW]
   have YD:(pre++bI f [(i:Int)]).length=pre.length+f.size:=by rw[List.length_append,eL]
   have ahI:l=(pre++bI f [(i:Int)])++bZ r [] (i+1):=by rw[rZ,hN];simp
   have hH2:YC l (pre++bI f [(i:Int)]) (ix++[pre.length]) (fD f.text ws.bs.length fu) w2:=by
    have hni:pre.length∉ix:=fun h=>by have:=(hH.old _ h).2;omega
    refine ⟨by rw[←BW];exact hH.at_,?_,?_,?_,?_,?_,?_,?_⟩
    ·rw[←BW]
     simp only
     have hbd:bq (ws.bs++[(⟨[(i:Int)],f.text,[],0⟩:Bd)]) ws.bs.length=⟨[(i:Int)],f.text,[],0⟩:=by simp[bq,List.getD]
     rw[hbd,List.set_append_right _ _ (Nat.le_refl _),Nat.sub_self,hH.bs,List.map_append]
     congr 1
     have hm:vi l pre.length=((aE f.kids 0).kids.length:Nat):=by
      unfold vi
      rw[dY,if_pos hf.kind]
     simp[dY,hm]
    ·rw[List.nodup_append]
     refine ⟨hH.nd,by simp,fun a ha b hb e=>?_⟩
     rw[List.mem_singleton] at hb
     subst hb e
     exact hni ha
    ·intro m hm
     rcases List.mem_append.1 hm with h|h
     ·obtain ⟨h1,h2⟩:=hH.old m h
      exact ⟨h1,by rw[YD];omega⟩
     ·rw[List.mem_singleton] at h
      subst h
      exact ⟨by rw[dY];exact hf.kind,by rw[YD];have:=f.size_pos;omega⟩
    ·intro x
     rw[hN,show pre++⟨f,[(i:Int)]⟩::bZ f.kids [(i:Int)] 0=pre++([⟨f,[(i:Int)]⟩]++bZ f.kids [(i:Int)] 0) from rfl,nZ,nZ,Ro (bZ f.kids [(i:Int)] 0) _ _ (fun b hb=>y9 hf hb),hH.fa x,jt,Nat.zero_add]
     simp only[iz]
     by_cases hx:x=f.text
     ·have y8:f.text=x:=hx.symm
      rw[if_pos hx,hx,hg,if_pos ⟨rfl,hf.kind,by simp[enc]⟩]
      simp[enc,iq,List.getD]
     ·rw[if_neg hx,if_neg (fun h=>hx h.1.symm),y7 (hH.lt x)]
    ·intro x j hj
     rw[jt] at hj
     split at hj
     ·cases hj
      rw[iq]
      simp
     ·have:=hH.lt x j hj
      simp;omega
    ·intro a c u hu fx
     by_cases hal:a.length<pre.length
     ·-- an earlier one
      have hpre:∃c',pre=a++u::c':=by
       have h1:(pre++bI f [(i:Int)]).take pre.length=pre:=List.take_left
       rw[hu,List.take_append,List.take_of_length_le (by omega)] at h1
       obtain ⟨z,hz⟩:∃z,pre.length-a.length=z+1:=⟨pre.length-a.length-1,by omega⟩
       rw[hz,List.take_succ_cons] at h1
       exact ⟨_,h1.symm⟩
      obtain ⟨c',sU⟩:=hpre
      obtain ⟨j,hj1,hj2⟩:=hH.fi a c' u sU fx
      have hne:¬u.n.text=f.text:=fun e=>by rw[e,hg] at hj1;cases hj1
      refine ⟨j,by rw[jt,if_neg hne];exact hj1,?_⟩
      rw[wg (hH.lt _ j hj1)]
      exact hj2
     ·have tZ:(pre++bI f [(i:Int)])[a.length]? = some u:=by rw[hu];simp
      rw[List.getElem?_append_right (by omega),hN] at tZ
      by_cases hz:a.length-pre.length=0
      ·rw[hz] at tZ
       simp only[List.getElem?_cons_zero,Option.some.injEq] at tZ
       subst tZ
       have hap:a.length=pre.length:=by omega
       refine ⟨ws.bs.length,by rw[jt];simp,?_⟩
       rw[iq,hap]
       simp[List.getD]
      ·obtain ⟨z,hz2⟩:∃z,a.length-pre.length=z+1:=⟨a.length-pre.length-1,by omega⟩
       rw[hz2,List.getElem?_cons_succ] at tZ
       exact absurd fx (y9 hf (List.mem_of_getElem? tZ))
    ·intro b hb fx
     rcases List.mem_append.1 hb with h|h
     ·exact hH.one b h fx
     ·rw[hN] at h
      rcases List.mem_cons.1 h with rfl|h
      ·rfl
      ·exact absurd fx (y9 hf h)
   have hR:=ih (fun g hg=>hr g (by simp[hg])) l _ (i+1) (ix++[pre.length]) _ w2 ahI hH2
   rw[YD] at hR
   have hall:∀m,pre.length≤m→m<pre.length+f.size→eD l m=none:=fun m h1 h2=>by
    by_cases c:m=pre.length
    ·rw[c];exact hs
    ·exact sP m (by omega) h2
   rw[show ([fD f.text ws.bs.length fu]:List bn).headD []=fD f.text ws.bs.length fu from rfl]
   generalize gD r (i+1) (fD f.text ws.bs.length fu) w2 (pre.length+f.size)=res at hR ⊢
   cases res with
   |error e =>
    obtain ⟨m,⟨m1,m2⟩,m3,m4⟩:=hR
    refine ⟨m,⟨by omega,m2⟩,m3,fun m' h1 h2=>?_⟩
    by_cases c:m'<pre.length+f.size
    ·exact hall m' h1 c
    ·exact m4 m' (by omega) h2
   |ok q =>
    obtain ⟨m1,m2⟩:=hR
    refine ⟨fun m h1 h2=>?_,m2⟩
    by_cases c:m<pre.length+f.size
    ·exact hall m h1 c
    ·exact m1 m (by omega) h2
theorem LB(f:Nd)(r:List Nd)(i:Nat):bZ (f::r) [] i=bI f [(i:Int)]++bZ r [] (i+1):=by rw[Ay];rfl
theorem Ud(r:List Nd)(hr:∀f∈r,∃P B,Fn f P B):∀(l pre:List Pl)(i:Nat)(ix A:List Nat)(ws:WS)(fu:bn),Bt l ix fu→l=pre++bZ r [] i→
  (∀x (k:Nat) s,i≤k→jV x ([(k:Int)]++s) pre 0 (-1)=-1)→(∀b∈pre,∀(k:Nat) s,i≤k→b.p≠[(k:Int)]++s)→
  (∀(a c:List Pl)(u:Pl),l=a++u::c→u.n.kind=2→∃j,cL u.n.text fu=some j∧ix.getD j 0=a.length)→oB l pre ix A ws→
  match bJ fu r [[]] ws [] i with
  |.error e=>kD l pre.length (Nd.ay r) e
  |.ok q=>nu l pre.length (Nd.ay r)∧∃more,oB l l (ix++more) (A++dI (bZ r [] i) pre.length) q.2:=by
 induction r with
 |nil =>
  intro l pre i ix A ws fu hF heq hag aX jw hW
  have:l=pre:=by rw[heq];simp[bZ]
  subst this
  simp only[bJ]
  exact ⟨nu.nil,[],by simpa [bZ,dI] using hW⟩
 |cons f r ih =>
  intro l pre i ix A ws fu hF heq hag aX jw hW
  obtain ⟨P,B,hf⟩:=hr f (by simp)
  have rZ:l=pre++(bI f [(i:Int)]++bZ r [] (i+1)):=by rw[heq,LB]
  have hown:∃j,cL f.text fu=some j∧ix.getD j 0=pre.length:=by
   refine jw pre (bZ f.kids [(i:Int)] 0++bZ r [] (i+1)) ⟨f,[(i:Int)]⟩ ?_ hf.kind
   rw[rZ,cR]
   simp
  have hN:=ab3 hf l pre (bZ r [] (i+1)) i ix A ws fu hF rZ (fun x s=>hag x i s (Nat.le_refl _)) ?_ (fun b hb s=>aX b hb i s (Nat.le_refl _)) hown hW
  rotate_left
  ·intro b hb hB s
   obtain ⟨j,u,⟨h1,h2⟩,h3⟩:=eS _ _ _ _ hb
   obtain ⟨P',B',hu⟩:=hr u (by simp[List.mem_of_getElem? h2])
   exact Yy hu (by omega) b h3 hB
  simp only[bJ,List.nil_append]
  have hsz:Nd.ay (f::r)=f.size+Nd.ay r:=by simp[Nd.ay]
  rw[hsz]
  have YD:(pre++bI f [(i:Int)]).length=pre.length+f.size:=by rw[List.length_append,eL]
  generalize bR fu f [[]] ws [(i:Int)]=res at hN ⊢
  cases res with
  |error e=>exact kD.left hN
  |ok q =>
   obtain ⟨ho,more,IU,he⟩:=hN
   simp only[he]
   have hR:=ih (fun g hg=>hr g (by simp[hg])) l (pre++bI f [(i:Int)]) (i+1) (ix++more) _ q.2 fu (hF.more more) (by rw[rZ];simp) ?_ ?_ ?_ IU
   rotate_left
   ·intro x k s hk
    rw[fE,hag x k s (by omega)]
    exact Ci _ _ _ fun b hb hB=>Yy hf (by omega) b hb hB
   ·intro b hb k s hk T8
    rcases List.mem_append.1 hb with h|h
    ·exact aX b h k s (by omega) T8
    ·rcases nY f _ b h with rfl|⟨j2,s2,h2⟩
     ·have e1:([]:List Int)++[(i:Int)]++[]=[]++[(k:Int)]++s:=by simpa using T8
      have:=(nX e1).1
      omega
     ·rw[h2] at T8
      have e1:([]:List Int)++[(i:Int)]++([j2]++s2)=[]++[(k:Int)]++s:=by simpa using T8
      have:=(nX e1).1
      omega
   ·intro a c u h1 h2
    obtain ⟨j,j1,j2⟩:=jw a c u h1 h2
    exact ⟨j,j1,by rw[wg (hF.fl _ _ j1).1];exact j2⟩
   rw[YD] at hR
   generalize bJ fu r [[]] q.2 [] (i+1)=res at hR ⊢
   cases res with
   |error e=>exact kD.right ho hR
   |ok z =>
    obtain ⟨g1,DJ,g2⟩:=hR
    refine ⟨ho.ez g1,more++DJ,?_⟩
    have e2:A++dI (bZ (f::r) [] i) pre.length=A++dI (bI f [(i:Int)]) pre.length++dI (bZ r [] (i+1)) (pre.length+f.size):=by rw[LB,jW,eL];simp
    rw[e2,←List.append_assoc]
    exact g2
theorem my{g:Nat→Option jT}:∀(n i:Nat),(∀m,i≤m→m<i+n→g m=none)→pg g n i=none
 |0,_,_=>rfl
 |n+1,i,h=>by
  simp only[pg,h i (Nat.le_refl _) (by omega)]
  exact my n (i+1) fun m h1 h2=>h m (by omega) (by omega)
theorem mz{g:Nat→Option jT}{e:jT}:∀(n i m:Nat),i≤m→m<i+n→g m=some e→(∀m',i≤m'→m'<m→g m'=none)→pg g n i=some e
 |0,i,m,h1,h2,_,_=>by omega
 |n+1,i,m,h1,h2,h3,h4=>by
  simp only[pg]
  by_cases c:i=m
  ·rw[c,h3]
  ·rw[h4 i (Nat.le_refl _) (by omega)]
   exact mz n (i+1) m (by omega) (by omega) h3 fun m' g1 g2=>h4 m' (by omega) g2
theorem Az{n:Nd}(hk:n.kind=1)(h:bH n 40=true):match k7 n with
  |.error e=>jE (bI n [])=e∧¬e.1=0
  |.ok ws=>jE (bI n [])=(0,0)∧∃ix,oB (bI n []) (bI n []) ix (dI (bI n []) 0) ws:=by
 have hr:∀f∈n.kids,∃P B,Fn f P B:=fun f hf=>rY hk h hf
 obtain ⟨l,hl⟩:∃l,bI n []=l:=⟨_,rfl⟩
 have heq:l=[⟨n,[]⟩]++bZ n.kids [] 0:=by rw[←hl,cR];rfl
 have hlen:l.length=1+Nd.ay n.kids:=by rw[heq,List.length_append,lT];rfl
 have hroot:au l 0=⟨n,[]⟩:=by rw[heq];rfl
 have gS:eD l 0=none:=by unfold eD;rw[hroot,if_neg (by simp[hk])]
 have Pv:cN l 0=none:=by unfold cN;rw[hroot,if_neg (by simp[fH,hk]),if_pos (by simp[gj,hk])]
 have Fi:YC l [⟨n,[]⟩] [] [] ⟨[],[],0⟩:=by
  refine ⟨rfl,rfl,by simp,by simp,fun x=>by simp[iz,hk,enc,cL],fun x j hj=>by simp[cL] at hj,fun a c u hu h2=>?_,fun b hb h2=>?_⟩
  ·cases a with
   |nil=>simp at hu;rw[←hu.1] at h2;simp[hk] at h2
   |cons z a=>simp at hu
  ·simp at hb;rw[hb] at h2;simp[hk] at h2
 have hA:=GP n.kids hr l [⟨n,[]⟩] 0 [] [] ⟨[],[],0⟩ heq Fi
 rw[show ([(⟨n,[]⟩:Pl)]).length=1 from rfl] at hA
 rw[hl]
 unfold k7
 cases hq:gD n.kids 0 [] ⟨[],[],0⟩ 1 with
 |error e =>
  rw[hq] at hA
  simp only at hA
  obtain ⟨m,⟨m1,m2⟩,m3,m4⟩:=hA
  simp only
  constructor
  ·unfold jE
   rw[mz l.length 0 m (by omega) (by omega) m3 fun m' h1 h2=>by
    by_cases c:m'=0
    ·rw[c];exact gS
    ·exact m4 m' (by omega) h2]
  ·unfold eD at m3
   split at m3
   ·cases m3;simp
   ·cases m3
 |ok q =>
  rw[hq] at hA
  simp only at hA
  obtain ⟨m1,ix,hH⟩:=hA
  simp only
  have hFn:pg (eD l) l.length 0=none:=my _ _ fun m _ h2=>by
   by_cases c:m=0
   ·rw[c];exact gS
   ·exact m1 m (by omega) (by omega)
  have hF:Bt l ix q.1:=⟨hH.fa,fun x j hj=>by
   have h1:=hH.lt x j hj
   refine ⟨h1,?_⟩
   have:ix.getD j 0∈ix:=by simp[List.getD,h1]
   exact (hH.old _ this).1⟩
  have hW0:oB l [] ix [] { q.2 with all:=[] }:=by
   refine ⟨hH.at_,?_,rfl,by simp,hH.nd,fun i hi=>.inl (hH.old i hi).1,by simp⟩
   simp only
   rw[hH.bs]
   simp[y6,e8]
  have hW1:=hW0.skip (u:=⟨n,[]⟩) (by simp[gj,hk])
  have DP:bR q.1 n [[]] { q.2 with all:=[] } []=bJ q.1 n.kids [[]] { q.2 with all:=[],at_:=q.2.at_+1 } [] 0:=by
   obtain ⟨k,s,m,kids⟩:=n
   have hk':k=1:=hk
   subst hk'
   simp only[bR]
   simp[Nd.kids]
  rw[DP]
  have hR:=Ud n.kids hr l ([]++[⟨n,[]⟩]) 0 ix [] _ q.1 hF heq ?_ ?_ ?_ hW1
  rotate_left
  ·intro x k s _
   simp[jV,fH,hk]
  ·intro b hb k s _ he
   simp at hb
   rw[hb] at he
   simp at he
  ·intro a c u h1 h2
   exact hH.fi a c u h1 h2
  simp only[List.nil_append,List.length_singleton] at hR
  have hdI:dI l 0=dI (bZ n.kids [] 0) 1:=by
   rw[heq,jW]
   simp[dI,ga,hk]
  generalize bJ q.1 n.kids [[]] { q.2 with all:=[],at_:=q.2.at_+1 } [] 0=res at hR ⊢
  cases res with
  |error e =>
   obtain ⟨m,⟨k1,k2⟩,k3,k4⟩:=hR
   simp only
   constructor
   ·unfold jE
    rw[hFn]
    simp only
    rw[mz l.length 0 m (by omega) (by omega) k3 fun m' h1 h2=>by
     by_cases c:m'=0
     ·rw[c];exact Pv
     ·exact k4 m' (by omega) h2]
   ·unfold cN at k3
    split at k3
    ·cases k3;simp
    split at k3
    ·cases k3
    split at k3
    ·cases k3;simp
    split at k3
    ·cases k3;simp
    ·cases k3
  |ok z =>
   obtain ⟨g1,more,g2⟩:=hR
   simp only
   refine ⟨?_,ix++more,?_⟩
   ·unfold jE
    rw[hFn]
    simp only
    rw[my _ _ fun m _ h2=>by
     by_cases c:m=0
     ·rw[c];exact Pv
     ·exact g1 m (by omega) (by omega)]
   ·rw[hdI]
    exact g2
theorem vp(n:Nd):ja n=fp n:=by
 unfold ja fp
 by_cases c:n.kind=1∧bH n 40=true
 ·rw[if_pos c,if_pos c]
  have h:=Az c.1 c.2
  cases hq:k7 n with
  |error e =>
   rw[hq] at h
   exact h.1.symm
  |ok ws =>
   rw[hq] at h
   exact h.1.symm
 ·rw[if_neg c,if_neg c]
theorem GQ:∀(l:List Pl)(i:Nat),dI l i=((List.range l.length).filter fun j=>ga (au l j)).map (i+·)
 |[],_=>rfl
 |b::l,i=>by
  rw[List.length_cons,List.range_succ_eq_map,List.filter_cons]
  have h0:au (b::l) 0=b:=rfl
  have hs:((fun j=>ga (au (b::l) j))∘Nat.succ)=fun j=>ga (au l j):=by funext j;rfl
  have hm:(List.map Nat.succ ((List.range l.length).filter fun j=>ga (au l j))).map (i+·)=dI l (i+1):=by
   rw[GQ l (i+1),List.map_map]
   apply List.map_congr_left
   intro a _
   simp only[Function.comp]
   omega
  rw[h0,List.filter_map,hs]
  simp only[dI]
  cases hb:ga b with
  |true=>simp only[if_true];rw[List.map_cons,hm];rfl
  |false =>
   simp only[Bool.false_eq_true,if_false,List.nil_append]
   rw[hm]
theorem ju(n:Nd):bQ n=eC n:=by
 unfold bQ eC
 rw[vp]
 by_cases z:(fp n).1=0
 ·rw[if_pos z,if_pos z]
  by_cases c:n.kind=1∧bH n 40=true
  ·have h:=Az c.1 c.2
   have hc:fp n=jE (bI n []):=by unfold fp;rw[if_pos c]
   cases hq:k7 n with
   |error e =>
    rw[hq] at h
    simp only at h
    rw[hc,h.1] at z
    exact absurd z h.2
   |ok ws =>
    rw[hq] at h
    obtain ⟨-,ix,hW⟩:=h
    simp only
    generalize bI n []=l at hW ⊢
    have hd:((List.range l.length).filter fun i=>ga (au l i))=ws.all.map (fun j=>ix.getD j 0):=by
     rw[hW.all,GQ]
     simp
    rw[hd,List.map_map]
    apply List.map_congr_left
    intro j hj
    rw[hW.bs,DF (hW.lt j hj)]
    rfl
  ·have hc:fp n=(4,0):=by unfold fp;rw[if_neg c]
   rw[hc] at z
   simp at z
 ·rw[if_neg z,if_neg z]
mutual
def jX:Nd→Nd→Bool
 |⟨k,s,n,l⟩,⟨k',s',n',l'⟩=>decide (k=k') && (decide (n=n') && ((eM k|| decide (s=s')) && jY l l'))
def jY:List Nd→List Nd→Bool
 |[],[]=>true
 |a::r,b::q=>jX a b && jY r q
 |_,_=>false
end
theorem GR(a b:Nd):jX a b=(decide (a.kind=b.kind) && (decide (a.num=b.num) && ((eM a.kind|| decide (a.text=b.text)) && jY a.kids b.kids))):=by cases a;cases b;rfl
theorem zb:∀{l m:List Nd},¬l.length=m.length→jY l m=false
 |[],[],h=>absurd rfl h
 |[],_::_,_=>by simp[jY]
 |_::_,[],_=>by simp[jY]
 |a::r,b::q,h=>by
  simp only[jY,Bool.and_eq_false_iff]
  exact .inr (zb (by simpa using h))
theorem xy:∀{l m:List Nd},l.length=m.length→(jY l m=true↔∀j,j<l.length→jX (aE l j) (aE m j)=true)
 |[],[],_=>by simp[jY]
 |[],_::_,h=>by simp at h
 |_::_,[],h=>by simp at h
 |a::r,b::q,h=>by
  simp only[jY,Bool.and_eq_true]
  rw[xy (by simpa using h)]
  constructor
  ·rintro ⟨h1,h2⟩ j hj
   cases j with
   |zero=>simpa [aE] using h1
   |succ j=>simpa [aE] using h2 j (by simpa using hj)
  ·intro h
   exact ⟨by simpa [aE] using h 0 (by simp),fun j hj=>by simpa [aE] using h (j+1) (by simpa using hj)⟩
theorem LC{l m:List Nd}(h:l.length=m.length){k:Nat}(hk:k<l.length)(e:jX (aE l k) (aE m k)=false):jY l m=false:=by
 cases h2:jY l m
 ·rfl
 ·rw[(xy h).1 h2 k hk] at e
  cases e
theorem LD{l m:List Nd}(h:l.length=m.length)(e:∀j,j<l.length→jX (aE l j) (aE m j)=true):jY l m=true:=(xy h).2 e
def iA(n:Nd):Bool:=decide (n.kind=1) && decide ((ja n).1=0)
def kE(x y:ky):Bool:=decide (x.1=y.1) && decide (x.2.2=y.2.2)
def jb:List ky→List ky→Bool
 |[],[]=>true
 |a::r,b::q=>kE a b && jb r q
 |_,_=>false
def gb(a b:Nd):Bool:=iA a && (iA b && (jX a b && jb (bQ a) (bQ b)))
mutual
def bN(f:List Int→Bool)(x:ByteArray):Nd→List Int→Nd
 |⟨k,s,n,l⟩,p=>⟨k,if f p=true then x else s,n,dN f x l p 0⟩
def dN(f:List Int→Bool)(x:ByteArray):List Nd→List Int→Nat→List Nd
 |[],_,_=>[]
 |t::r,p,i=>bN f x t (p++[(i:Int)])::dN f x r p (i+1)
end
theorem iB(f:List Int→Bool)(x:ByteArray)(t:Nd)(p:List Int):bN f x t p=⟨t.kind,if f p=true then x else t.text,t.num,dN f x t.kids p 0⟩:=by cases t;simp only[bN,Nd.kind,Nd.text,Nd.num,Nd.kids]
theorem eG(f:List Int→Bool)(x:ByteArray):∀(l:List Nd)(p:List Int)(i:Nat),(dN f x l p i).length=l.length
 |[],_,_=>rfl
 |t::r,p,i=>by simp only[dN,List.length_cons,eG f x r]
theorem qd(f:List Int→Bool)(x:ByteArray):∀(l:List Nd)(p:List Int)(i j:Nat),j<l.length→aE (dN f x l p i) j=bN f x (aE l j) (p++[((i+j:Nat):Int)])
 |[],_,_,_,h=>by simp at h
 |t::r,p,i,0,_=>by simp[dN,aE]
 |t::r,p,i,j+1,h=>by
  have:=qd f x r p (i+1) j (by simpa using h)
  rw[show i+1+j=i+(j+1) by omega] at this
  simpa [dN,aE] using this
theorem Bv(f:List Int→Bool)(x:ByteArray):∀(l:List Nd)(p:List Int)(i k:Nat),k<l.length→dN f x (l.take (k+1)) p i=dN f x (l.take k) p i++[bN f x (aE l k) (p++[((i+k:Nat):Int)])]
 |[],_,_,_,h=>by simp at h
 |t::r,p,i,0,_=>by simp[dN,aE]
 |t::r,p,i,k+1,h=>by
  have:=Bv f x r p (i+1) k (by simpa using h)
  rw[show i+1+k=i+(k+1) by omega] at this
  simpa [dN,aE] using this
def bX(ps:List (List Int))(p:List Int):Bool:=ps.any fun q=>decide (q=p)
def bw(n:Nd)(x:ByteArray)(path:List Int):Nd×Int :=
 if n.kind=1∧bH n 40=true then
  if iA n=true then
   match (bQ n).find? fun b=>decide (b.1=path) with
   |none=>(Nd.none,6)
   |some b=>if iZ x=true then (if gb n (bN (bX (path::b.2.2)) x n [])=true then (bN (bX (path::b.2.2)) x n [],0) else (Nd.none,120)) else (Nd.none,2)
  else (Nd.none,122)
 else (Nd.none,4)
theorem DR{t:Nd}{p:List Int}{b:Pl}(h:b∈bI t p):∃s,b.p=p++s:=by
 rcases nY t p b h with rfl|⟨j,s,e⟩
 ·exact ⟨[],by simp⟩
 ·exact ⟨[j]++s,by rw[e];simp⟩
theorem DS:∀(l:List Nd),(∀t∈l,∀p,((bI t p).map (·.p)).Nodup)→∀(p:List Int)(i:Nat),((bZ l p i).map (·.p)).Nodup
 |[],_,_,_=>by simp[bZ]
 |t::r,h,p,i=>by
  simp only[bZ,List.map_append]
  refine List.nodup_append.2 ⟨h t (by simp) _,DS r (fun u hu=>h u (by simp[hu])) p (i+1),fun a ha b hb e=>?_⟩
  obtain ⟨x,hx,rfl⟩:=List.mem_map.1 ha
  obtain ⟨y,hy,rfl⟩:=List.mem_map.1 hb
  obtain ⟨s,h1⟩:=DR hx
  obtain ⟨j,u,⟨h2,_⟩,h3⟩:=eS _ _ _ _ hy
  obtain ⟨s',h4⟩:=DR h3
  rw[h1,h4] at e
  have:=(nX e).1
  omega
theorem Pw(t:Nd):∀p,((bI t p).map (·.p)).Nodup:=by
 induction t using Nd.ind with
 |_ t ih =>
  intro p
  rw[cR,List.map_cons,List.nodup_cons]
  refine ⟨fun h=>?_,DS _ ih p 0⟩
  obtain ⟨y,hy,e⟩:=List.mem_map.1 h
  obtain ⟨j,u,_,h3⟩:=eS _ _ _ _ hy
  obtain ⟨s',h4⟩:=DR h3
  rw[h4] at e
  have:=congrArg List.length e
  simp at this
theorem Ue{l:List Pl}{i:Nat}(h:i<l.length):au l i∈l:=by
 have:au l i=l[i]:=by simp[au,List.getD,h]
 rw[this]
 exact List.getElem_mem _
theorem AA{l:List Pl}{b:Pl}(h:b∈l):∃i,i<l.length∧au l i=b:=by
 obtain ⟨i,hi,e⟩:=List.getElem_of_mem h
 exact ⟨i,hi,by simp[au,List.getD,hi,e]⟩
theorem ab4{l:List Pl}(hn:(l.map (·.p)).Nodup){i j:Nat}(hi:i<l.length)(hj:j<l.length)(e:(au l i).p=(au l j).p):i=j:=by
 have hi':i<(l.map (·.p)).length:=by simpa using hi
 have hj':j<(l.map (·.p)).length:=by simpa using hj
 have e':(l.map (·.p))[i]=(l.map (·.p))[j]:=by simpa [au,List.getD,hi,hj] using e
 rcases Nat.lt_trichotomy i j with h1|h1|h1
 ·exact absurd e' (List.pairwise_iff_getElem.1 hn i j hi' hj' h1)
 ·exact h1
 ·exact absurd e'.symm (List.pairwise_iff_getElem.1 hn j i hj' hi' h1)
def tb(f:List Int→Bool)(x:ByteArray)(b:Pl):Pl:=⟨bN f x b.n b.p,b.p⟩
theorem pD{l:List Pl}(g:Pl→Pl){i:Nat}(h:i<l.length):au (l.map g) i=g (au l i):=by simp[au,List.getD,h]
section
variable {f:List Int→Bool}{x:ByteArray}{b:Pl}
theorem adh:(tb f x b).p=b.p:=rfl
theorem qf:(tb f x b).n.kind=b.n.kind:=by simp[tb,iB,Nd.kind]
theorem ze:(tb f x b).n.text=if f b.p=true then x else b.n.text:=by simp only[tb,iB,Nd.text]
theorem LF:(tb f x b).n.kids=dN f x b.n.kids b.p 0:=by
 simp only[tb]
 rw[iB]
 rfl
theorem qg{t:Nd}{p:List Int}:(bN f x t p).kind=t.kind:=by
 rw[iB]
 rfl
theorem wh{t:Nd}{p:List Int}:(bN f x t p).num=t.num:=by
 rw[iB]
 rfl
theorem r8{t:Nd}{p:List Int}:(bN f x t p).text=if f p=true then x else t.text:=by
 rw[iB]
 rfl
theorem n8{t:Nd}{p:List Int}:(bN f x t p).kids=dN f x t.kids p 0:=by
 rw[iB]
 rfl
theorem ab5:(tb f x b).n.kids.length=b.n.kids.length:=by rw[LF,eG]
theorem YE:(aE (tb f x b).n.kids 0).kids.length=(aE b.n.kids 0).kids.length:=by
 rw[LF]
 by_cases h:0<b.n.kids.length
 ·rw[qd f x b.n.kids b.p 0 0 h,n8,eG]
 ·have e:b.n.kids=[]:=List.length_eq_zero_iff.1 (by omega)
  rw[e]
  rfl
theorem Rp:fH (tb f x b)=fH b:=by simp only[fH,qf]
theorem Rq:gj (tb f x b)=gj b:=by simp only[gj,qf]
theorem Uf{q:List Int}:cM (tb f x b) q=cM b q:=by
 have h:(tb f x b).p=b.p:=rfl
 unfold cM
 rw[qf,h]
end
def lJ(P:Nat→Bool):Nat→Int
 |0=>-1
 |n+1=>if P n=true then n else lJ P n
def eO(P:Nat→Bool):Nat→Int
 |0=>-1
 |n+1=>if P n=true∧eO P n<0 then n else eO P n
section
variable {P Q:Nat→Bool}{i0:Nat}
theorem Bw:∀{n:Nat},(∀i,i<n→i≠i0→Q i=P i)→(i0<n→Q i0=false)→lJ P n≠i0→lJ Q n=lJ P n
 |0,_,_,_=>rfl
 |n+1,h,h0,hne=>by
  simp only[lJ] at hne ⊢
  by_cases c:P n=true
  ·rw[if_pos c] at hne ⊢
   have:n≠i0:=fun e=>hne (by rw[e])
   rw[if_pos (by rw[h n (by omega) this];exact c)]
  ·rw[if_neg c] at hne ⊢
   have hq:¬Q n=true:=by
    by_cases e:n=i0
    ·rw[e,h0 (by omega)];simp
    ·rw[h n (by omega) e];exact c
   rw[if_neg hq]
   exact Bw (fun i hi=>h i (by omega)) (fun hi=>h0 (by omega)) hne
theorem Bx:∀{n:Nat},i0<n→Q i0=true→(∀i,i<n→i≠i0→Q i=false)→lJ Q n=i0
 |0,h,_,_=>by omega
 |n+1,hi,h0,h=>by
  simp only[lJ]
  by_cases e:n=i0
  ·rw[e,if_pos h0]
  ·rw[if_neg (by rw[h n (by omega) e];simp)]
   exact Bx (by omega) h0 fun i hi=>h i (by omega)
theorem vt:∀{n:Nat}{i:Nat},lJ P n=i→i<n∧P i=true
 |0,i,h=>by simp only[lJ] at h;omega
 |n+1,i,h=>by
  simp only[lJ] at h
  split at h
  ·rename_i c
   have:n=i:=by omega
   subst this
   exact ⟨by omega,c⟩
  ·have:=vt h
   exact ⟨by omega,this.2⟩
theorem zf:∀{n:Nat},(∀i,i<n→i≠i0→Q i=P i)→(i0<n→Q i0=false)→eO P n≠i0→eO Q n=eO P n
 |0,_,_,_=>rfl
 |n+1,h,h0,hne=>by
  have hn:eO P n≠i0:=fun e=>hne (by
   simp only[eO]
   rw[if_neg (fun c=>by have:=c.2;omega)]
   exact e)
  have ih:=zf (n:=n) (fun i hi=>h i (by omega)) (fun hi=>h0 (by omega)) hn
  simp only[eO] at hne ⊢
  rw[ih]
  by_cases c:P n=true∧eO P n<0
  ·rw[if_pos c] at hne ⊢
   have:n≠i0:=fun e=>hne (by rw[e])
   rw[if_pos ⟨by rw[h n (by omega) this];exact c.1,c.2⟩]
  ·rw[if_neg c]
   refine if_neg fun c2=>c ⟨?_,c2.2⟩
   by_cases e:n=i0
   ·rw[e,h0 (by omega)] at c2;simp at c2
   ·rw[←h n (by omega) e];exact c2.1
theorem zg:∀{n:Nat},(∀i,i<n→Q i=false)→eO Q n=-1
 |0,_=>rfl
 |n+1,h=>by
  simp only[eO]
  rw[if_neg (by rw[h n (by omega)];simp)]
  exact zg fun i hi=>h i (by omega)
theorem zh:∀{n:Nat},i0<n→Q i0=true→(∀i,i<n→i≠i0→Q i=false)→eO Q n=i0
 |0,h,_,_=>by omega
 |n+1,hi,h0,h=>by
  simp only[eO]
  by_cases e:n=i0
  ·subst e
   rw[zg (n:=n) fun i hi=>h i (by omega) (by omega)]
   rw[if_pos ⟨h0,by omega⟩]
  ·rw[if_neg (by rw[h n (by omega) e];simp)]
   exact zh (by omega) h0 fun i hi=>h i (by omega)
theorem td:∀{n:Nat}{i:Nat},eO P n=i→i<n∧P i=true
 |0,i,h=>by simp only[eO] at h;omega
 |n+1,i,h=>by
  simp only[eO] at h
  split at h
  ·rename_i c
   have:n=i:=by omega
   subst this
   exact ⟨by omega,c.1⟩
  ·have:=td h
   exact ⟨by omega,this.2⟩
end
def tf(l:List Pl)(x:ByteArray)(q:List Int)(i:Nat):Bool:=decide ((au l i).n.text=x) && (fH (au l i) && cM (au l i) q)
def oC(l:List Pl)(x:ByteArray)(i:Nat):Bool:=decide ((au l i).n.text=x) && decide ((au l i).n.kind=2)
theorem Ug{l:List Pl}{x:ByteArray}{q:List Int}:jV x q l 0 (-1)=lJ (tf l x q) l.length:=by
 have key:∀k,k≤l.length→jV x q (l.take k) 0 (-1)=lJ (tf l x q) k:=by
  intro k
  induction k with
  |zero=>intro _;simp[jV,lJ]
  |succ k ih =>
   intro hk
   have h:k<l.length:=by omega
   rw[List.take_add_one,List.getElem?_eq_getElem h,fE]
   have e:au l k=l[k]:=by simp[au,List.getD,h]
   simp only[Option.toList_some,jV,Nat.zero_add,List.length_take,Nat.min_eq_left (Nat.le_of_lt h),lJ,tf,e]
   rw[ih (by omega)]
   by_cases c:l[k].n.text=x∧fH l[k]=true∧cM l[k] q=true
   ·rw[if_pos c,if_pos (by simp[c])]
   ·rw[if_neg c,if_neg (by simpa using c)]
 have:=key l.length (Nat.le_refl _)
 rwa [List.take_length] at this
theorem Px{l:List Pl}{x:ByteArray}:iz x l 0 (-1)=eO (oC l x) l.length:=by
 have key:∀k,k≤l.length→iz x (l.take k) 0 (-1)=eO (oC l x) k:=by
  intro k
  induction k with
  |zero=>intro _;simp[iz,eO]
  |succ k ih =>
   intro hk
   have h:k<l.length:=by omega
   rw[List.take_add_one,List.getElem?_eq_getElem h,nZ]
   have e:au l k=l[k]:=by simp[au,List.getD,h]
   simp only[Option.toList_some,iz,Nat.zero_add,List.length_take,Nat.min_eq_left (Nat.le_of_lt h),eO,oC,e]
   rw[ih (by omega)]
   by_cases c:l[k].n.text=x∧l[k].n.kind=2∧eO (oC l x) k<0
   ·rw[if_pos c,if_pos (by simp[oC,c])]
   ·rw[if_neg c]
    refine (if_neg fun c2=>c ?_).symm
    simp only[oC,Bool.and_eq_true,decide_eq_true_eq] at c2
    exact ⟨c2.1.1,c2.1.2,c2.2⟩
 have:=key l.length (Nat.le_refl _)
 rwa [List.take_length] at this
theorem qh{l:List Pl}{u:Pl}:bW l u=if u.n.kind=25 then eO (oC l u.n.text) l.length else lJ (tf l u.n.text u.p) l.length:=by
 unfold bW
 rw[Ug,Px]
structure Ren(l:List Pl)(i0:Nat)(f:List Int→Bool):Prop where
 lt:i0<l.length
 YF:ga (au l i0)=true
 iff:∀i,i<l.length→(f (au l i).p=true↔i=i0∨(gj (au l i)=true∧bW l (au l i)=i0))
theorem YG{b:Pl}(h:ga b=true):gj b=false:=by
 simp only[ga,Bool.or_eq_true,decide_eq_true_eq] at h
 simp only[gj]
 rcases h with h|h|h<;>rw[h]<;>decide
theorem DT{b:Pl}(h:ga b=true):eM b.n.kind=true:=by
 simp only[ga,Bool.or_eq_true,decide_eq_true_eq] at h
 rcases h with h|h|h<;>rw[h]<;>decide
theorem DU{b:Pl}(h:gj b=true):eM b.n.kind=true:=by
 simp only[gj,Bool.or_eq_true,decide_eq_true_eq] at h
 rcases h with h|h<;>rw[h]<;>decide
theorem IV{b:Pl}(h:fH b=true):ga b=true:=by
 simp only[fH,Bool.or_eq_true,decide_eq_true_eq] at h
 simp only[ga,Bool.or_eq_true,decide_eq_true_eq]
 exact .inr h
theorem Rr{b:Pl}(h:b.n.kind=2):ga b=true:=by simp[ga,h]
theorem DV{l:List Pl}{u:Pl}{i:Nat}(h:bW l u=i):i<l.length∧(au l i).n.text=u.n.text∧ga (au l i)=true:=by
 rw[qh] at h
 split at h
 ·obtain ⟨h1,h2⟩:=td h
  simp only[oC,Bool.and_eq_true,decide_eq_true_eq] at h2
  exact ⟨h1,h2.1,Rr h2.2⟩
 ·obtain ⟨h1,h2⟩:=vt h
  simp only[tf,Bool.and_eq_true,decide_eq_true_eq] at h2
  exact ⟨h1,h2.1,IV h2.2.1⟩
section
variable {l:List Pl}{i0:Nat}{f:List Int→Bool}{x:ByteArray}
theorem Ren.f_D(h:Ren l i0 f){i:Nat}(hi:i<l.length)(hd:ga (au l i)=true):f (au l i).p=true↔i=i0:=by
 rw[h.iff i hi,YG hd]
 simp
def zi(l:List Pl)(x:ByteArray):Prop:=∀i,i<l.length→eM (au l i).n.kind=true→(au l i).n.text≠x
theorem Ren.ph(h:Ren l i0 f)(hx:zi l x){i:Nat}(hi:i<l.length)(hd:ga (au l i)=true):(tb f x (au l i)).n.text=x↔i=i0:=by
 rw[ze]
 by_cases c:f (au l i).p=true
 ·rw[if_pos c]
  simp[(h.f_D hi hd).1 c]
 ·rw[if_neg c]
  exact ⟨fun e=>absurd e (hx i hi (DT hd)),fun e=>absurd ((h.f_D hi hd).2 e) c⟩
theorem Ren.Cj(h:Ren l i0 f){i:Nat}(hi:i<l.length)(hd:ga (au l i)=true)(hne:i≠i0):(tb f x (au l i)).n.text=(au l i).n.text:=by
 rw[ze,if_neg fun c=>hne ((h.f_D hi hd).1 c)]
theorem Ren.stands(h:Ren l i0 f)(hx:zi l x){i:Nat}(hi:i<l.length)(hu:gj (au l i)=true):bW (l.map (tb f x)) (tb f x (au l i))=bW l (au l i):=by
 have LG:i≠i0:=fun e=>by
  have:=YG h.YF
  rw[←e,hu] at this
  cases this
 have hN:=hx i hi (DU hu)
 have adi:=h.iff i hi
 rw[qh,qh,qf,adh,List.length_map]
 have hcF:∀(y:ByteArray) j,j<l.length→oC (l.map (tb f x)) y j=(decide ((tb f x (au l j)).n.text=y) && decide ((au l j).n.kind=2)):=fun y j hj=>by
  unfold oC
  rw[pD _ hj,qf]
 have BQ:∀(y:ByteArray)(q:List Int) j,j<l.length→tf (l.map (tb f x)) y q j=(decide ((tb f x (au l j)).n.text=y) && (fH (au l j) && cM (au l j) q)):=fun y q j hj=>by
  unfold tf
  rw[pD _ hj,Rp,Uf]
 by_cases hf:f (au l i).p=true
 ·have hst:bW l (au l i)=i0:=by
   rcases adi.1 hf with e|⟨_,e⟩
   ·exact absurd e LG
   ·exact e
  have ht:(tb f x (au l i)).n.text=x:=by rw[ze,if_pos hf]
  rw[ht]
  rw[qh] at hst
  split at hst
  ·rename_i ua
   rw[if_pos ua,if_pos ua,hst]
   obtain ⟨_,h2⟩:=td hst
   simp only[oC,Bool.and_eq_true,decide_eq_true_eq] at h2
   refine zh h.lt ?_ fun j hj hne=>?_
   ·rw[hcF x i0 h.lt,(h.ph hx h.lt h.YF).2 rfl]
    simp[h2.2]
   ·rw[hcF x j hj]
    by_cases k2:(au l j).n.kind=2
    ·have:¬(tb f x (au l j)).n.text=x:=fun e=>hne ((h.ph hx hj (Rr k2)).1 e)
     simp[this]
    ·simp[k2]
  ·rename_i ua
   rw[if_neg ua,if_neg ua,hst]
   obtain ⟨_,h2⟩:=vt hst
   simp only[tf,Bool.and_eq_true,decide_eq_true_eq] at h2
   refine Bx h.lt ?_ fun j hj hne=>?_
   ·rw[BQ x _ i0 h.lt,(h.ph hx h.lt h.YF).2 rfl]
    simp[h2.2]
   ·rw[BQ x _ j hj]
    by_cases kB:fH (au l j)=true
    ·have:¬(tb f x (au l j)).n.text=x:=fun e=>hne ((h.ph hx hj (IV kB)).1 e)
     simp[this]
    ·simp[kB]
 ·have hst:bW l (au l i)≠i0:=fun e=>hf (adi.2 (.inr ⟨hu,e⟩))
  have ht:(tb f x (au l i)).n.text=(au l i).n.text:=by rw[ze,if_neg hf]
  rw[ht]
  rw[qh] at hst
  have h0:¬(tb f x (au l i0)).n.text=(au l i).n.text:=by
   rw[(h.ph hx h.lt h.YF).2 rfl]
   exact fun e=>hN e.symm
  split at hst
  ·rename_i ua
   rw[if_pos ua,if_pos ua]
   refine zf (fun j hj hne=>?_) (fun hj=>?_) hst
   ·rw[hcF _ j hj]
    unfold oC
    by_cases k2:(au l j).n.kind=2
    ·rw[h.Cj hj (Rr k2) hne]
    ·simp[k2]
   ·rw[hcF _ i0 hj]
    simp[h0]
  ·rename_i ua
   rw[if_neg ua,if_neg ua]
   refine Bw (fun j hj hne=>?_) (fun hj=>?_) hst
   ·rw[BQ _ _ j hj]
    unfold tf
    by_cases kB:fH (au l j)=true
    ·rw[h.Cj hj (IV kB) hne]
    ·simp[kB]
   ·rw[BQ _ _ i0 hj]
    simp[h0]
theorem DW{i:Nat}(hi:i<l.length):dm l i=true↔∃j,j<i∧twin (au l j) (au l i)=true:=by
 unfold dm
 rw[List.any_eq_true]
 constructor
 ·rintro ⟨a,ha,h⟩
  obtain ⟨j,hj,e⟩:=List.getElem_of_mem ha
  rw[List.getElem_take] at e
  simp only[List.length_take] at hj
  refine ⟨j,by omega,?_⟩
  have:au l j=a:=by rw[←e];simp[au,List.getD,show j<l.length by omega]
  rw[this]
  exact h
 ·rintro ⟨j,hj,h⟩
  refine ⟨_,?_,h⟩
  have:au l j=(l.take i)[j]'(by simp;omega):=by simp[au,List.getD,show j<l.length by omega]
  rw[this]
  exact List.getElem_mem _
theorem Ren.YH(h:Ren l i0 f)(hx:zi l x){i:Nat}(hi:i<l.length)(hd:ga (au l i)=true)(h0:dm l i=false):dm (l.map (tb f x)) i=false:=by
 cases c:dm (l.map (tb f x)) i with
 |false=>rfl
 |true =>
  exfalso
  obtain ⟨j,hj,ht⟩:=(DW (by simpa using hi)).1 c
  have rP:j<l.length:=by omega
  rw[pD _ hi,pD _ rP] at ht
  simp only[twin,Bool.and_eq_true,decide_eq_true_eq,qf,adh] at ht
  obtain ⟨t1,t2,t3,t4⟩:=ht
  have hdj:ga (au l j)=true:=by simp only[ga] at hd ⊢;rw[t1];exact hd
  have hno:¬(au l j).n.text=(au l i).n.text:=fun e=>by
   have:dm l i=true:=(DW hi).2 ⟨j,hj,by simp[twin,t1,e,of_decide_eq_true t3,t4]⟩
   rw[h0] at this
   cases this
  by_cases ci:i=i0
  ·have e:=(h.ph hx hi hd).2 ci
   rw[e] at t2
   have:=(h.ph hx rP hdj).1 t2
   omega
  ·by_cases cj:j=i0
   ·have e:=(h.ph hx rP hdj).2 cj
    rw[e] at t2
    exact ci ((h.ph hx hi hd).1 t2.symm)
   ·rw[h.Cj hi hd ci,h.Cj rP hdj cj] at t2
    exact hno t2
theorem Ren.steps(h:Ren l i0 f)(hx:zi l x)(h0:∀i,i<l.length→eD l i=none∧cN l i=none):∀i,i<(l.map (tb f x)).length→eD (l.map (tb f x)) i=none∧cN (l.map (tb f x)) i=none:=by
 intro i hi
 rw[List.length_map] at hi
 obtain ⟨g1,g2⟩:=h0 i hi
 unfold eD at g1 ⊢
 unfold cN at g2 ⊢
 rw[pD _ hi,qf,Rp,Rq]
 constructor
 ·refine if_neg fun ⟨c1,c2⟩=>?_
  cases c:dm l i with
  |true=>rw[if_pos ⟨c1,c⟩] at g1;cases g1
  |false=>rw[h.YH hx hi (Rr c1) c] at c2;cases c2
 ·have hB:¬(fH (au l i)=true∧dm l i=true):=fun c=>by rw[if_pos c] at g2;cases g2
  rw[if_neg hB] at g2
  have hB':¬(fH (au l i)=true∧dm (l.map (tb f x)) i=true):=fun ⟨c1,c2⟩=>by
   cases c:dm l i with
   |true=>exact hB ⟨c1,c⟩
   |false=>rw[h.YH hx hi (IV c1) c] at c2;cases c2
  rw[if_neg hB']
  by_cases hu:gj (au l i)=false
  ·rw[if_pos hu]
  ·have SG:gj (au l i)=true:=by simpa using hu
   rw[if_neg hu] at g2 ⊢
   rw[h.stands hx hi SG,ab5]
   by_cases hs:bW l (au l i)<0
   ·rw[if_pos hs] at g2;cases g2
   ·rw[if_neg hs] at g2 ⊢
    have hj:bW l (au l i)=((bW l (au l i)).toNat:Nat):=by omega
    obtain ⟨j1,_,_⟩:=DV hj
    rw[pD _ j1,YE]
    exact g2
theorem Ren.cZ(h:Ren l i0 f)(hx:zi l x)(i:Nat):e8 (l.map (tb f x)) (l.map (tb f x)) i=e8 l l i:=by
 unfold e8
 rw[List.filter_map,List.map_map]
 have e:(fun u:Pl=>u.p)∘tb f x=fun u=>u.p:=rfl
 rw[e]
 congr 1
 refine List.filter_congr fun u hu=>?_
 obtain ⟨j,hj,rfl⟩:=AA hu
 simp only[Function.comp,Rq]
 by_cases c:gj (au l j)=true
 ·rw[h.stands hx hj c]
 ·simp[c]
end
theorem Uh(t:Nd)(p:List Int):(⟨t,p⟩:Pl)∈bI t p:=by rw[cR];simp
def adj(l:List Pl)(i:Nat):ky:=((au l i).p,(au l i).n.text,e8 l l i)
def dIx(l:List Pl):List Nat:=(List.range l.length).filter fun i=>ga (au l i)
theorem LH{l:List Pl}{i:Nat}:i∈dIx l↔i<l.length∧ga (au l i)=true:=by simp[dIx]
theorem Bz{n:Nd}(h:iA n=true):bQ n=(dIx (bI n [])).map (adj (bI n [])):=by
 rw[ju]
 unfold iA at h
 rw[vp] at h
 simp only[Bool.and_eq_true,decide_eq_true_eq] at h
 unfold eC
 rw[if_pos h.2]
 rfl
theorem Ren.named{l:List Pl}{i0:Nat}{f:List Int→Bool}(h:Ren l i0 f):∀b∈l,f b.p=true→eM b.n.kind=true:=fun b hb hf=>by
 obtain ⟨i,hi,rfl⟩:=AA hb
 rcases (h.iff i hi).1 hf with e|⟨e,_⟩
 ·rw[e];exact DT h.YF
 ·exact DU e
theorem Ren.text{l:List Pl}{i0:Nat}{f:List Int→Bool}(h:Ren l i0 f):∀b∈l,f b.p=true→b.n.text=(au l i0).n.text:=fun b hb hf=>by
 obtain ⟨i,hi,rfl⟩:=AA hb
 rcases (h.iff i hi).1 hf with e|⟨_,e⟩
 ·rw[e]
 ·exact (DV e).2.1.symm
section
variable {n:Nd}{i0:Nat}{x:ByteArray}
theorem LI(f:List Int→Bool)(y:ByteArray)(t:Nd):∀p,(∀b∈bI t p,f b.p=true→b.n.text=y)→bN f y t p=t:=by
 induction t using Nd.ind with
 |_ t ih =>
  intro p h
  have hs:=h _ (Uh t p)
  simp only at hs
  have key:∀(l:List Nd),(∀k∈l,∀p,(∀b∈bI k p,f b.p=true→b.n.text=y)→bN f y k p=k)→∀i,(∀b∈bZ l p i,f b.p=true→b.n.text=y)→dN f y l p i=l:=by
   intro l
   induction l with
   |nil=>intro _ _ _;rfl
   |cons k r fC =>
    intro hk i hb
    simp only[dN]
    rw[hk k (by simp) _ fun b hb'=>hb b (by simp[bZ,hb']),fC (fun k' hk'=>hk k' (by simp[hk'])) _ fun b hb'=>hb b (by simp[bZ,hb'])]
  refine Nd.ext' qg ?_ wh (by rw[n8,key t.kids ih 0 fun b hb=>h b (by rw[cR];simp[hb])])
  rw[r8]
  split
  ·rename_i c;exact (hs c).symm
  ·rfl
end
def adk:IC:=(.seq (.ops [iP 2 (.mv (.k bG))]) (.seq (.ops [iM 7 0,iP 8 (xL 7),iP 9 (.aN .add (.t 8) (kI 12)),⟨(some 10),none,(.h (.jM 4 25 (.agg [(.sc (.int .u8 0)),(.sc (.string ⟨#[]⟩)),(.sc (.int .i64 0)),bG]) (kI 0) (.t 9)))⟩,iM 3 10]) (.seq (.seq (.ops [iP 4 (xI 0)]) (.block 0 (.loop (.seq (.seq (.ops [iM 11 4,iM 12 0,iP 13 (xL 12),iP 14 (xB .lss 11 13)]) (.cond (.t 14) .skip (.exit 0))) (.seq (.block 1 (.seq (.ops [iM 17 0,iM 18 4,iP 19 (xA 4 17 18),iH 20 (yA 4 19),iH 21 (.call 9 [(.t 20)]),⟨(some 5),none,(.h (.alloc (.agg [(.sc (.int .u8 0)),(.sc (.string ⟨#[]⟩)),(.sc (.int .i64 0)),bG]) 25))⟩,iS 4 5 21]) (.ops [iM 22 3,iH 23 (yA 4 5),⟨(some 24),none,(.h (.ep 4 25 (.agg [(.sc (.int .u8 0)),(.sc (.string ⟨#[]⟩)),(.sc (.int .i64 0)),bG]) 1 [(0,(.t 23))]))⟩,iH 25 (.ez 4 25 (.t 22) (.t 24)),iM 3 25]))) (.ops [iM 15 4,iP 16 (.aN .add (.t 15) (kI 1)),iM 4 16])))))) (.seq (.seq (.ops [iP 6 (xI 0)]) (.block 2 (.loop (.seq (.seq (.ops [iM 26 6,iP 27 (.aN .lss (.t 26) (kI 12))]) (.cond (.t 27) .skip (.exit 2))) (.seq (.block 3 (.ops [iM 30 3,iM 31 6,iH 32 (.call 62 [(kI 1),(.t 31)]),⟨(some 33),none,(.h (.ep 4 25 (.agg [(.sc (.int .u8 0)),(.sc (.string ⟨#[]⟩)),(.sc (.int .i64 0)),bG]) 1 [(0,(.t 32))]))⟩,iH 34 (.ez 4 25 (.t 30) (.t 33)),iM 3 34])) (.ops [iM 28 6,iP 29 (.aN .add (.t 28) (kI 1)),iM 6 29])))))) (.seq (.ops [iM 35 3,iM 36 0,iP 37 (xL 36),iP 38 (.qB 4 (.t 35) none (some (.t 37)) none),iM 2 38]) .ret)))))
theorem ahJ:Dk Tryz.prog 29 adk [(.t 2)] 39:=aV Tryz.func29
def ic9:IC:=(.seq (.ops [iH 1 (.box 4 25 (.t 0)),⟨(some 2),none,(.h (.alloc (.agg [(.sc (.int .u8 0)),(.sc (.string ⟨#[]⟩)),(.sc (.int .i64 0)),bG]) 25))⟩]) (.seq (.ops [iP 3 (.an 3 (.t 1)),iH 4 (yD 1 3),iH 5 (.call 29 [(.t 4)]),iP 6 (.an 3 (.t 1)),iS 1 6 5]) (.seq (.ops [iH 7 (yA 4 1),iS 4 2 7]) .ret)))
theorem dk9:Dk Tryz.prog 9 ic9 [(.c 2 4 true)] 8:=aV Tryz.func9
def adl:IC:=(.seq (.ops [iP 4 (.mv kF)]) (.seq (.seq (.ops [iM 7 0,iP 8 (xL 7),iM 9 1,iP 10 (xL 9),iP 11 (xB .neq 8 10)]) (.cond (.t 11) (.seq (.ops [iP 4 (.mv kF)]) .ret) .skip)) (.seq (.ops [iM 12 0,iM 13 1,iP 14 (xL 13),iP 15 (.aN .add (.t 14) (kI 12)),iP 16 (.qB 4 (.t 12) none (some (.t 15)) none),iM 5 16]) (.seq (.seq (.ops [iP 6 (xI 0)]) (.block 0 (.loop (.seq (.seq (.ops [iM 17 6,iM 18 5,iP 19 (xL 18),iP 20 (xB .lss 17 19)]) (.cond (.t 20) .skip (.exit 0))) (.seq (.block 1 (.seq (.di [iM 23 6,iM 24 1,iP 25 (xL 24),iP 26 (xB .lss 23 25),iM 27 26,gM 28 27 true 5,gM 29 27 true 6,gP 30 27 true (xA 4 28 29),gH 31 27 true (yA 4 30),gM 32 27 true 1,gM 33 27 true 6,gP 34 27 true (xA 4 32 33),gH 35 27 true (yA 4 34),gH 36 27 true (yC 12 31 35),gP 37 27 true (xN 36),iP 38 (.pick (.t 27) (.t 37) kF),iM 39 38,gM 40 39 false 6,gM 41 39 false 1,gP 42 39 false (xL 41),gP 43 39 false (xB .geq 40 42),gM 44 39 false 43,gM 45 44 true 5,gM 46 44 true 6,gP 47 44 true (xA 4 45 46),gH 48 44 true (yA 4 47),gM 49 44 true 6,gM 50 44 true 1,gP 51 44 true (xL 50),gP 52 44 true (xB .sub 49 51),gH 53 44 true (.call 62 [(kI 1),(.t 52)]),gH 54 44 true (yC 16 48 53),gP 55 44 true (xN 54),gP 56 39 false (.pick (.t 44) (.t 55) kF),iP 57 (.pick (.t 39) kT (.t 56))] [[],[],[1],[0,2,1],[3,0,2,1],[4,3,0,2,1],[4,3,0,2,1],[5,4,3,0,2,1,6],[7,5,4,3,0,2,1,6],[4,3,0,2,1],[4,3,0,2,1],[9,4,3,0,2,1,10],[11,9,4,3,0,2,1,10],[8,7,5,4,3,0,2,1,6,12,11,9,10],[13,8,7,5,4,3,0,2,1,6,12,11,9,10],[4,3,0,2,1,14,13,8,7,5,6,12,11,9,10],[15,4,3,0,2,1,14,13,8,7,5,6,12,11,9,10],[16,15,4,3,0,2,1,14,13,8,7,5,6,12,11,9,10],[16,15,4,3,0,2,1,14,13,8,7,5,6,12,11,9,10],[18,16,15,4,3,0,2,1,14,13,8,7,5,6,12,11,9,10],[17,16,15,4,3,0,2,1,14,13,8,7,5,6,12,11,9,10,19,18],[20,17,16,15,4,3,0,2,1,14,13,8,7,5,6,12,11,9,10,19,18],[21,20,17,16,15,4,3,0,2,1,14,13,8,7,5,6,12,11,9,10,19,18],[21,20,17,16,15,4,3,0,2,1,14,13,8,7,5,6,12,11,9,10,19,18],[22,21,20,17,16,15,4,3,0,2,1,14,13,8,7,5,6,12,11,9,10,19,18,23],[24,22,21,20,17,16,15,4,3,0,2,1,14,13,8,7,5,6,12,11,9,10,19,18,23],[21,20,17,16,15,4,3,0,2,1,14,13,8,7,5,6,12,11,9,10,19,18],[21,20,17,16,15,4,3,0,2,1,14,13,8,7,5,6,12,11,9,10,19,18],[27,21,20,17,16,15,4,3,0,2,1,14,13,8,7,5,6,12,11,9,10,19,18],[26,21,20,17,16,15,4,3,0,2,1,14,13,8,7,5,6,12,11,9,10,19,18,28,27],[29,26,21,20,17,16,15,4,3,0,2,1,14,13,8,7,5,6,12,11,9,10,19,18,28,27],[25,24,22,21,20,17,16,15,4,3,0,2,1,14,13,8,7,5,6,12,11,9,10,19,18,23,30,29,26,28,27],[31,25,24,22,21,20,17,16,15,4,3,0,2,1,14,13,8,7,5,6,12,11,9,10,19,18,23,30,29,26,28,27],[21,20,17,16,15,4,3,0,2,1,14,13,8,7,5,6,12,11,9,10,19,18,32,31,25,24,22,23,30,29,26,28,27],[16,15,4,3,0,2,1,14,13,8,7,5,6,12,11,9,10,33,21,20,17,19,18,32,31,25,24,22,23,30,29,26,28,27]]) (.cond (.t 57) (.seq (.ops [iP 4 (.mv kF)]) .ret) .skip))) (.ops [iM 21 6,iP 22 (.aN .add (.t 21) (kI 1)),iM 6 22])))))) (.seq (.ops [iP 4 (.mv kT)]) .ret)))))
theorem ahK:Dk Tryz.prog 38 adl [(.t 4)] 58:=aV Tryz.func38
def adm:IC:=(.seq (.ops [iH 2 (.box 4 25 (.t 0)),iH 3 (.box 4 25 (.t 1)),iP 4 (.mv kF)]) (.seq (.ops [iH 5 (yA 4 2),iH 6 (yA 4 3),iH 7 (yC 16 5 6),iM 8 7,gP 9 8 true (.an 3 (.t 2)),gH 10 8 true (yD 1 9),gP 11 8 true (.an 3 (.t 3)),gH 12 8 true (yD 1 11),gH 13 8 true (yC 38 10 12),iP 14 (.pick (.t 8) (.t 13) kF),iM 4 14]) .ret))
theorem ahL:Dk Tryz.prog 12 adm [(.t 4)] 15:=aV Tryz.func12
def adn:IC:=(.seq (.ops [⟨(some 4),none,(.h (.alloc (.agg [(.sc (.int .u8 0)),(.sc (.string ⟨#[]⟩)),(.sc (.int .i64 0)),bG]) 25))⟩]) (.seq (.ops [iM 5 0,iM 6 1,iH 7 (yC 39 5 6),⟨(some 8),none,(.p (.build [(.sc (.int .u8 0)),(.sc (.string ⟨#[]⟩)),(.sc (.int .i64 0)),bG] [(2,1,(.t 7))]))⟩,iS 4 4 8]) .ret))
theorem ahM:Dk Tryz.prog 62 adn [(.c 4 4 true)] 9:=aV Tryz.func62
def ado:IC:=(.seq (.ops [iH 2 (.box 4 25 (.t 0)),iH 3 (.box 4 25 (.t 1)),iP 4 (.mv kF)]) (.seq (.ops [iP 5 (.an 0 (.t 2)),iH 6 (yD 1 5),iP 7 (.an 0 (.t 3)),iH 8 (yD 1 7),iP 9 (xB .eql 6 8),iM 10 9,gP 11 10 true (.an 1 (.t 2)),gH 12 10 true (yD 1 11),gP 13 10 true (.an 1 (.t 3)),gH 14 10 true (yD 1 13),gP 15 10 true (xB .eql 12 14),iP 16 (.pick (.t 10) (.t 15) kF),iM 17 16,gP 18 17 true (.an 2 (.t 2)),gH 19 17 true (yD 1 18),gP 20 17 true (.an 2 (.t 3)),gH 21 17 true (yD 1 20),gP 22 17 true (xB .eql 19 21),iP 23 (.pick (.t 17) (.t 22) kF),iM 24 23,gP 25 24 true (.an 3 (.t 2)),gH 26 24 true (yD 1 25),gP 27 24 true (.an 3 (.t 3)),gH 28 24 true (yD 1 27),gH 29 24 true (yC 49 26 28),iP 30 (.pick (.t 24) (.t 29) kF),iM 4 30]) .ret))
theorem ahN:Dk Tryz.prog 16 ado [(.t 4)] 31:=aV Tryz.func16
def adp:IC:=(.seq (.ops [iP 4 (.mv kF)]) (.seq (.seq (.ops [iM 6 0,iP 7 (xL 6),iM 8 1,iP 9 (xL 8),iP 10 (xB .neq 7 9)]) (.cond (.t 10) (.seq (.ops [iP 4 (.mv kF)]) .ret) .skip)) (.seq (.seq (.ops [iP 5 (xI 0)]) (.block 0 (.loop (.seq (.seq (.ops [iM 11 5,iM 12 0,iP 13 (xL 12),iP 14 (xB .lss 11 13)]) (.cond (.t 14) .skip (.exit 0))) (.seq (.block 1 (.seq (.di [iM 17 0,iM 18 5,iP 19 (xA 4 17 18),iH 20 (yA 4 19),iM 21 1,iM 22 5,iP 23 (xA 4 21 22),iH 24 (yA 4 23),iH 25 (yC 16 20 24),iP 26 (xN 25)] [[],[],[0,1],[2,0,1],[],[],[4,5],[6,4,5],[3,2,0,1,7,6,4,5],[8,3,2,0,1,7,6,4,5]]) (.cond (.t 26) (.seq (.ops [iP 4 (.mv kF)]) .ret) .skip))) (.ops [iM 15 5,iP 16 (.aN .add (.t 15) (kI 1)),iM 5 16])))))) (.seq (.ops [iP 4 (.mv kT)]) .ret))))
theorem ahO:Dk Tryz.prog 49 adp [(.t 4)] 27:=aV Tryz.func49
def ic7:IC:=(.seq (.ops [iH 2 (.box 4 25 (.t 0)),iP 4 (xI 0)]) (.seq (.ops [iP 7 (.an 1 (.t 2)),iH 8 (yD 1 7),iP 9 (.nN (.t 8)),iP 10 (.aN .quo (.t 9) (kI 8)),iP 11 (.aN .add (kI 1) (.t 10)),iM 5 11]) (.seq (.seq (.ops [iP 6 (xI 0)]) (.block 0 (.loop (.seq (.seq (.ops [iM 12 6,iP 13 (.an 3 (.t 2)),iH 14 (yD 1 13),iP 15 (xL 14),iP 16 (xB .lss 12 15),iM 17 16,gM 18 17 true 5,gM 19 17 true 1,gP 20 17 true (xB .leq 18 19),iP 21 (.pick (.t 17) (.t 20) kF)]) (.cond (.t 21) .skip (.exit 0))) (.seq (.block 1 (.ops [iM 24 5,iP 25 (.an 3 (.t 2)),iH 26 (yD 1 25),iM 27 6,iP 28 (xA 4 26 27),iH 29 (yA 4 28),iM 30 1,iM 31 5,iP 32 (xB .sub 30 31),iH 33 (yC 7 29 32),iP 34 (xB .add 24 33),iM 5 34])) (.ops [iM 22 6,iP 23 (.aN .add (.t 22) (kI 1)),iM 6 23])))))) (.seq (.ops [iM 35 5,iM 4 35]) .ret))))
theorem dk7:Dk Tryz.prog 7 ic7 [(.t 4)] 36:=aV Tryz.func7
def adq:IC:=(.seq (.ops [iH 1 (.box 4 25 (.t 0)),⟨(some 2),none,(.h (.alloc (.agg [(.sc (.int .u8 0)),(.sc (.string ⟨#[]⟩)),(.sc (.int .i64 0)),bG]) 25))⟩]) (.seq (.ops [iP 3 (.an 3 (.t 1)),iH 4 (yD 1 3),iH 5 (.call 61 [(.t 4)]),iP 6 (.an 3 (.t 1)),iS 1 6 5]) (.seq (.ops [iH 7 (yA 4 1),iS 4 2 7]) .ret)))
theorem ahP:Dk Tryz.prog 28 adq [(.c 2 4 true)] 8:=aV Tryz.func28
def adr:IC:=(.seq (.ops [iP 2 (.mv (.k bG))]) (.seq (.ops [iP 3 (.mv (.k bG))]) (.seq (.seq (.ops [iP 4 (xI 0)]) (.block 0 (.loop (.seq (.seq (.ops [iM 6 4,iM 7 0,iP 8 (xL 7),iP 9 (xB .lss 6 8)]) (.cond (.t 9) .skip (.exit 0))) (.seq (.block 1 (.seq (.ops [iM 12 0,iM 13 4,iP 14 (xA 4 12 13),iH 15 (yA 4 14),iH 16 (.call 28 [(.t 15)]),⟨(some 5),none,(.h (.alloc (.agg [(.sc (.int .u8 0)),(.sc (.string ⟨#[]⟩)),(.sc (.int .i64 0)),bG]) 25))⟩,iS 4 5 16]) (.ops [iM 17 3,iH 18 (yA 4 5),⟨(some 19),none,(.h (.ep 4 25 (.agg [(.sc (.int .u8 0)),(.sc (.string ⟨#[]⟩)),(.sc (.int .i64 0)),bG]) 1 [(0,(.t 18))]))⟩,iH 20 (.ez 4 25 (.t 17) (.t 19)),iM 3 20]))) (.ops [iM 10 4,iP 11 (.aN .add (.t 10) (kI 1)),iM 4 11])))))) (.seq (.ops [iM 21 3,iM 2 21]) .ret))))
theorem ahQ:Dk Tryz.prog 61 adr [(.t 2)] 22:=aV Tryz.func61
theorem GS{H G:Y}{id:Nat}{k:aP}{x y:AV}(hid:id<H.length)(hk:AV.cV (· < H.length) k.es)(h:Over (Y.set H id (some k)) G)(hz:Fz G H.length x y):eB H (.ret x) G (.ret y) (Y.set H id (some k)):=by
 obtain ⟨A,rfl⟩:=h.split
 have hl:(Y.set H id (some k)).length=H.length:=Y.af ..
 refine Gk (by rw[hl];exact Nat.le_refl _) (fun i b hb=>?_) (by rw[hl];exact hz)
 by_cases e:i=id
 ·subst e
  rw[Y.aC hid] at hb
  cases hb
  exact .inr (by rw[hl];exact hk)
 ·rw[Y.aj e] at hb
  exact .inl ⟨Y.ax hb,hb⟩
theorem Over.set{H G:Y}(h:Over H G){i:Nat}(hi:i<H.length)(x:Option aP):Over (Y.set H i x) (Y.set G i x):=by
 induction h with
 |refl=>exact .refl
 |@cons b G hG ih =>
  rw[vY (Nat.lt_of_lt_of_le hi hG.len)]
  exact .cons ih
def wO(n:Int):aP:=⟨1,[.sc (.int .i64 n)],true,3⟩
theorem YI(t:Nd)(ro:Option (List AV))(id:Nat)(c:Int)(hc:0≤c∧c≤1000000)(H:Y)(hf:Y.find H id=some (wO c)):D Tryz.prog 171 [dZ t ro,.ptr 1 id 0 0] H (.ret (.aO [])) (Y.set H id (some (wO (c+1)))):=by
 have hid:=Y.ax hf
 unfold wO at hf
 rw[aQ]
 refine aG (by rw[Y.af];exact Nat.le_refl _) (afz (aA ?_))
 simp only[XY,ux]
 refine Z fun L hL=>?_
 refine aI hf ?_
 refine hL _ _ ?_
 clear hL
 refine aI hf ?_
 exact GS hid ⟨trivial,trivial⟩ (.cons .refl) (.same trivial)
theorem iJ{l:List Nd}{k:Nat}(h:k<l.length):Nd.ay (l.take (k+1))=Nd.ay (l.take k)+(aE l k).size:=by
 rw[List.take_succ_eq_append_getElem h,Nd.wL,eH h]
 simp[Nd.ay]
theorem pE(l:List Nd)(k:Nat):Nd.ay (l.take k)≤Nd.ay l:=by
 have:=Nd.wL (l.take k) (l.drop k)
 rw[List.take_append_drop] at this
 omega
theorem Ui{H:Y}{id:Nat}{b:aP}(h:Y.find H id=some b):Y.set H id (some b)=H:=by
 induction H with
 |nil=>rfl
 |cons x r ih =>
  by_cases e:id=r.length
  ·subst e
   rw[Y.iv] at h
   rw[yP rfl,h]
  ·have hl:id<r.length:=by have:=Y.ax h;simp at this;omega
   rw[Y.bA hl] at h
   rw[vY hl,ih h]
def DX(l:List Nd):Prop:=∀(ro:Option (List AV))(c:Int)(id:Nat)(H:Y),0≤c→c+Nd.ay l≤1000000→Y.find H id=some (wO c)→D Tryz.prog 115 [.fn (.func 171) [] [.ptr 1 id 0 0],.am 4 (bh l) ro] H (.ret (.aO [])) (Y.set H id (some (wO (c+Nd.ay l))))
theorem GU(l:List Nd)(ih:∀a∈l,DX a.kids):DX l:=by
 intro ro c id H hc0 hc hf
 have hid:=Y.ax hf
 have hl:=Nd.fZ l
 have cl:cr Tryz.prog 171=true:=by kernel_rfl
 refine aG (by rw[Y.af];exact Nat.le_refl _) (afy (aA ?_))
 simp only[XX,ux]
 refine Z fun L hL=>?_
 refine aI @aH ?_
 refine hL _ _ ?_
 clear hL
 refine aI @aH ?_
 refine aZ (fun ts F=>∃k:Nat,k≤l.length∧Over (Y.set H id (some (wO (c+Nd.ay (l.take k))))) F∧Fr (some (.fn (.func 171) [] [.ptr 1 id 0 0])::none::fg (some (.am 4 (bh l) ro)::some (.sc (.int .i64 l.length))::some (.sc (.int .i64 k))::none::none::none::ir [])) ts) (fun ts _=>l.length-(aM (ts.getD 8 .top)).toNat) ?_ ?_
 ·refine ⟨0,Nat.zero_le _,?_,by simp[Fr]⟩
  rw[List.take_zero,show c+((Nd.ay []:Nat):Int)=c by simp[Nd.ay],Ui hf]
  exact .refl
 rintro ts F ⟨k,hk,hF,aX⟩ L2 bM
 obtain ⟨js,rfl⟩:=aX.opened
 clear aX
 have pQ:(Y.set H id (some (wO (c+Nd.ay (l.take k))))).length=H.length:=Y.af ..
 have qi:=hF.len
 rw[pQ] at qi
 by_cases hd:k<l.length
 ·have d1:(k:Int)<l.length:=by omega
  have hg:=dG hd
  have dW:=eJ hd
  have htk:=iJ hd
  have hle:=pE l (k+1)
  have zX:=Nd.size_eq (aE l k)
  have hfF:Y.find F id=some (wO (c+Nd.ay (l.take k))):=by
   rw[hF.find (by rw[pQ];exact hid),Y.aC hid]
  have hs1:=YI (aE l k) none id (c+Nd.ay (l.take k)) (by omega)
  rw[aQ] at hs1
  refine df (gq d1 hg @aH) ?_
  refine ⟨by omega,cl,ae (hs1 _ (by rw[ai (by omega),hfF])) ?_⟩
  refine aw ?_
  refine ae (ih _ dW none (c+Nd.ay (l.take k)+1) id _ (by omega) (by omega) (by rw[ai (by rw[Y.af];omega),Y.aC (by omega)])) ?_
  refine aw ?_
  refine bM _ _ ⟨k+1,by omega,?_,by simp[Fr]⟩ (by simp[aM,mk];omega)
  rw[htk]
  refine .cons ?_
  have:=hF.set (i:=id) (by rw[pQ];exact hid) (some (wO (c+Nd.ay (l.take k)+1+Nd.ay (aE l k).kids)))
  rw[set_set] at this
  rw[zX,show c+((Nd.ay (l.take k)+(1+Nd.ay (aE l k).kids):Nat):Int)=c+Nd.ay (l.take k)+1+Nd.ay (aE l k).kids by omega,set_set]
  exact this
 ·have d1:¬(k:Int)<l.length:=by omega
  have e:l.take k=l:=List.take_of_length_le (by omega)
  rw[e] at hF
  refine df d1 ?_
  exact GS hid ⟨trivial,trivial⟩ hF (.same trivial)
theorem Py(l:List Nd):DX l:=by
 have key:∀t:Nd,DX t.kids:=fun t=>by
  induction t using Nd.ind with
  |_ t ih=>exact GU _ ih
 exact GU l fun a _=>key a
theorem ab6(t:Nd)(hz:t.size≤1000000)(H:Y):D Tryz.prog 112 [dZ t none] H (.ret (.sc (.int .i64 t.size))) H:=by
 have hE:=Py [⟨t.kind,t.text,t.num,t.kids⟩]
 unfold DX at hE
 have hs:Nd.ay [⟨t.kind,t.text,t.num,t.kids⟩]=t.size:=by simp[Nd.ay,Nd.size,Nd.size_eq t]
 have hL:bh [⟨t.kind,t.text,t.num,t.kids⟩]=[.agg [.sc (.int .u8 t.kind),.sc (.string t.text),.sc (.int .i64 t.num),.am 4 (bh t.kids) none]]:=by simp[bh,eu]
 rw[hs,hL] at hE
 unfold wO at hE
 rw[aQ]
 refine aG (Nat.le_refl _) (afx (aA ?_))
 simp only[XW,ux]
 refine Z fun L hL=>?_
 refine aw ?_
 refine hL _ _ ?_
 clear hL
 refine Z fun L hL=>?_
 refine aw ?_
 refine hL _ _ ?_
 clear hL
 refine Z fun L hL=>?_
 refine aw ?_
 refine ae (hE (some []) 0 (H.length+1) _ (by omega) (by omega) (aJ (by simp))) ?_
 refine aw ?_
 refine hL _ _ ?_
 clear hL
 refine aI @Int.zero_add ?_
 exact bL (.cons (.cons .refl))
mutual
def bulk:Nd→Int→Int
 |⟨_,s,_,l⟩,most=>ig l most (1+((s.size / 8:Nat):Int))
def ig:List Nd→Int→Int→Int
 |[],_,c=>c
 |t::r,most,c=>if c≤most then ig r most (c+bulk t (most-c)) else c
end
theorem zj(t:Nd)(most:Int):bulk t most=ig t.kids most (1+((t.text.size / 8:Nat):Int)):=by
 cases t;simp only[bulk,Nd.kids,Nd.text]
theorem LJ(t:Nd):∀most,1≤bulk t most:=by
 induction t using Nd.ind with
 |_ t ih =>
  intro most
  rw[zj]
  have key:∀(l:List Nd)(c:Int),(∀k∈l,∀m,1≤bulk k m)→1≤c→1≤ig l most c:=by
   intro l
   induction l with
   |nil=>intro c _ h;simpa [ig] using h
   |cons x r fC =>
    intro c hx hc
    unfold ig
    split
    ·exact fC _ (fun k hk=>hx k (by simp[hk])) (by have:=hx x (by simp) (most-c);omega)
    ·exact hc
  exact key _ _ ih (by omega)
mutual
def Nd.wt:Nd→Nat
 |⟨_,s,_,l⟩=>1+s.size+Nd.mA l
def Nd.mA:List Nd→Nat
 |[]=>0
 |t::r=>t.wt+Nd.mA r
end
theorem Nd.oD(t:Nd):t.wt=1+t.text.size+Nd.mA t.kids:=by cases t;simp[Nd.wt,Nd.kids,Nd.text]
theorem Nd.DZ{l:List Nd}{t:Nd}(h:t∈l):t.wt≤Nd.mA l:=by
 induction l with
 |nil=>cases h
 |cons x r ih =>
  rcases List.mem_cons.1 h with rfl|h
  ·simp only[Nd.mA];omega
  ·have:=ih h;simp only[Nd.mA];omega
theorem Nd.ab7(t:Nd):0<t.wt:=by rw[Nd.oD];omega
theorem Nd.YJ(l:List Nd):l.length≤Nd.mA l:=by
 induction l with
 |nil=>simp[Nd.mA]
 |cons x r ih=>have:=x.ab7;simp only[List.length_cons,Nd.mA];omega
theorem YK(t:Nd):∀most,bulk t most≤t.wt:=by
 induction t using Nd.ind with
 |_ t ih =>
  intro most
  rw[zj,Nd.oD]
  have key:∀(l:List Nd)(c:Int),(∀k∈l,∀m,bulk k m≤k.wt)→ig l most c≤c+Nd.mA l:=by
   intro l
   induction l with
   |nil=>intro c _;simp[ig,Nd.mA]
   |cons x r fC =>
    intro c hx
    unfold ig
    simp only[Nd.mA]
    split
    ·have:=fC (c+bulk x (most-c)) (fun k hk=>hx k (by simp[hk]))
     have:=hx x (by simp) (most-c)
     omega
    ·omega
  have:=key t.kids (1+((t.text.size / 8:Nat):Int)) ih
  omega
theorem GV(most:Int):∀(l:List Nd)(c:Int),c≤ig l most c
 |[],c=>by simp[ig]
 |t::r,c=>by
  unfold ig
  split
  ·have:=GV most r (c+bulk t (most-c))
   have:=LJ t (most-c)
   omega
  ·omega
theorem LK{l:List Nd}{k:Nat}(h:k<l.length)(most c:Int):ig (l.drop k) most c=if c≤most then ig (l.drop (k+1)) most (c+bulk (aE l k) (most-c)) else c:=by
 rw[List.drop_eq_getElem_cons h,eH h]
 simp only[ig]
theorem Uj{l:List Nd}{k:Nat}(h:k<l.length):Nd.mA (l.drop k)=(aE l k).wt+Nd.mA (l.drop (k+1)):=by
 rw[List.drop_eq_getElem_cons h,eH h]
 simp only[Nd.mA]
theorem Pz(t:Nd):∀(ro:Option (List AV))(most:Int)(hm:0≤most∧most≤1000000)(hz:t.wt≤2000000)(H:Y),D Tryz.prog 7 [dZ t ro,.sc (.int .i64 most)] H (.ret (.sc (.int .i64 (bulk t most)))) H:=by
 induction t using Nd.ind with
 |_ t ih =>
  intro ro most hm hz H
  have hwe:=Nd.oD t
  have mN:=Nd.YJ t.kids
  have hq:((t.text.size:Int)).tdiv 8=((t.text.size / 8:Nat):Int):=by
   rw[Int.tdiv_eq_ediv_of_nonneg (by omega)]
   omega
  rw[aQ]
  refine aG (Nat.le_refl _) (dk7 (aA ?_))
  simp only[ic7,ux]
  refine Z fun L hL=>?_
  refine aw ?_
  refine hL _ _ ?_
  clear hL
  refine Z fun L hL=>?_
  refine aI hq ?_
  refine hL _ _ ?_
  clear hL
  refine Z fun L hL=>?_
  refine aw ?_
  refine aZ (fun ts F=>∃(k:Nat)(c:Int),(k≤t.kids.length∧0≤c∧c+Nd.mA (t.kids.drop k)≤t.wt∧ig (t.kids.drop k) most c=bulk t most)∧F=some ⟨4,[.agg [.sc (.int .u8 t.kind),.sc (.string t.text),.sc (.int .i64 t.num),.am 4 (bh t.kids) ro]],true,25⟩::H∧Fr (none::some (.sc (.int .i64 most))::some (.ptr 4 H.length 0 0)::none::none::some (.sc (.int .i64 c))::some (.sc (.int .i64 k))::none::fg (ir (dL []))) ts) (fun ts _=>t.kids.length-(aM (ts.getD 6 .top)).toNat) ?_ ?_
  ·refine ⟨0,1+((t.text.size / 8:Nat):Int),⟨Nat.zero_le _,by omega,?_,(zj t most).symm⟩,rfl,by simp[Fr]⟩
   rw[List.drop_zero]
   omega
  rintro ts F ⟨k,c,⟨hk,hc0,hc1,hb⟩,rfl,aX⟩ L2 bM
  obtain ⟨js,rfl⟩:=aX.opened
  clear aX
  by_cases hd:k<t.kids.length
  ·have d1:(k:Int)<t.kids.length:=by omega
   have hg:=dG hd
   have dW:=eJ hd
   have hwm:=Nd.DZ dW
   rw[LK hd] at hb
   rw[Uj hd] at hc1
   by_cases d2:c≤most
   ·rw[if_pos d2] at hb
    have hi:=fun H=>ih _ dW none (most-c) (by omega) (by omega) H
    have hhi:=YK (aE t.kids k) (most-c)
    have hlo:=LJ (aE t.kids k) (most-c)
    rw[aQ] at hi
    refine df (ei d1 d2 hg @aH) ?_
    refine ⟨by omega,ae (hi _) ?_⟩
    refine aw ?_
    exact bM _ _ ⟨k+1,_,⟨by omega,by omega,by omega,hb⟩,rfl,by simp[Fr]⟩ (by simp[aM,mk];omega)
   ·rw[if_neg d2] at hb
    refine df (gq d1 d2 @aH) ?_
    refine hL _ _ ?_
    clear hL
    refine fh ?_
    rw[hb]
    exact bL (.cons .refl)
  ·have d1:¬(k:Int)<t.kids.length:=by omega
   have e:t.kids.drop k=[]:=List.drop_of_length_le (by omega)
   rw[e] at hb
   simp only[ig] at hb
   refine df (ak d1 @aH) ?_
   refine hL _ _ ?_
   clear hL
   refine fh ?_
   rw[hb]
   exact bL (.cons .refl)
mutual
def AV.up(n:Nat):AV→AV
 |.aD k id off m c=>.aD k (n+id) off m c
 |.ptr k id j f=>.ptr k (n+id) j f
 |.agg cs=>.agg (AV.mO n cs)
 |.aO cs=>.aO (AV.mO n cs)
 |x=>x
def AV.mO(n:Nat):List AV→List AV
 |[]=>[]
 |x::r=>AV.up n x::AV.mO n r
end
def aP.up(n:Nat)(b:aP):aP:={ b with es:=AV.mO n b.es }
def Y.up(n:Nat)(G:Y):Y:=G.map fun b=>b.map (aP.up n)
mutual
def AV.op:AV→Bool
 |.sc _=>true
 |.ub=>true
 |.top=>true
 |.am _ [] none=>true
 |.am _ [] (some [])=>true
 |.aD _ _ _ _ _=>true
 |.ptr _ _ _ _=>true
 |.agg cs=>AV.qj cs
 |.aO cs=>AV.qj cs
 |_=>false
def AV.qj:List AV→Bool
 |[]=>true
 |x::r=>AV.op x && AV.qj r
end
def Y.op(G:Y):Prop:=∀id b,Y.find G id=some b→AV.qj b.es=true
theorem AV.jZ{n:Nat}:∀{l:List AV},(AV.mO n l).length=l.length
 |[]=>rfl
 |_::r=>by simp[AV.mO,AV.jZ (l:=r)]
theorem AV.GW{n:Nat}(x:AV):(x.up n).isAgg=x.isAgg:=by cases x<;>simp[AV.up,AV.isAgg]
theorem AV.PA{n:Nat}(x:AV):(x.up n).az=x.az:=by cases x<;>simp[AV.up,AV.az,AV.jZ]
theorem AV.Ck{n:Nat}{x:AV}{u:Value}(h:kU x u):kU (x.up n) u:=by
 cases x<;>first|exact h|skip
 obtain ⟨us,h1,h2⟩:=h
 exact ⟨us,h1,by rw[h2,AV.jZ]⟩
section
variable {φ ψ:aU}{O O':Nat→Prop}{w:World}{n:Nat}
mutual
theorem GY(hm:∀id b,φ id=some b→ψ (n+id)=some b):∀{x:AV}{g:Nat→Option Value},x.op=true→R φ O w x g→R ψ O' w (x.up n) g
 |.sc _,_,_,h=>h
 |.ub,_,_,h=>h
 |.top,_,_,_=>trivial
 |.am _ [] none,_,_,h=>by
  obtain ⟨a,c,h1,h2,h3,h4,h5,h6⟩:=h
  exact ⟨a,c,h1,h2,h3,h4,fun hp=>by simp at hp,trivial⟩
 |.am _ [] (some []),_,_,h=>by
  obtain ⟨a,c,h1,h2,h3,h4,h5,h6⟩:=h
  exact ⟨a,c,h1,h2,h3,h4,fun hp=>by simp at hp,⟨h6.1,fun hp=>by simp at hp⟩⟩
 |.am _ [] (some (_::_)),_,ho,_=>by simp[AV.op] at ho
 |.am _ (_::_) _,_,ho,_=>by simp[AV.op] at ho
 |.lp _ _,_,ho,_=>by simp[AV.op] at ho
 |.fn _ _ _,_,ho,_=>by simp[AV.op] at ho
 |.eP _ _,_,ho,_=>by simp[AV.op] at ho
 |.HM _,_,ho,_=>by simp[AV.op] at ho
 |.aD k id off m c,_,_,h=>by
  obtain ⟨b,c',cur,e,fr,v1,v2⟩:=h
  exact ⟨b,c',cur,e,fr,hm _ _ v1,v2⟩
 |.ptr k id j f,_,_,h=>by
  obtain ⟨b,g1,g2⟩:=h
  exact ⟨b,hm _ _ g1,g2⟩
 |.agg cs,_,ho,h=>YL hm (by simpa [AV.op] using ho) h
 |.aO cs,_,ho,h=>by
  obtain ⟨us,h1,h2⟩:=h
  exact ⟨us,h1,PB hm (by simpa [AV.op] using ho) h2⟩
theorem YL(hm:∀id b,φ id=some b→ψ (n+id)=some b):∀{l:List AV}{g:Nat→Option Value},AV.qj l=true→Rs φ O w l g→Rs ψ O' w (AV.mO n l) g
 |[],_,_,_=>trivial
 |x::r,_,ho,h=>by
  simp only[AV.qj,Bool.and_eq_true] at ho
  exact ⟨by rw[AV.GW];exact h.1,GY hm ho.1 h.2.1,h.2.2.1,YL hm ho.2 h.2.2.2⟩
theorem PB(hm:∀id b,φ id=some b→ψ (n+id)=some b):∀{l:List AV}{us:List Value},AV.qj l=true→Rt φ O w l us→Rt ψ O' w (AV.mO n l) us
 |[],_,_,h=>h
 |x::r,us,ho,h=>by
  simp only[AV.qj,Bool.and_eq_true] at ho
  obtain ⟨v,s,h1,h2,h3,h4⟩:=h
  exact ⟨v,s,h1,AV.Ck h2,GY hm ho.1 h3,PB hm ho.2 h4⟩
end
theorem YM(hm:∀id b,φ id=some b→ψ (n+id)=some b){b k:Nat}:∀{l:List AV}{off:Nat},AV.qj l=true→Rl φ O w b k l off→Rl ψ O' w b k (AV.mO n l) off
 |[],_,_,_=>trivial
 |x::r,off,ho,h=>by
  simp only[AV.qj,Bool.and_eq_true] at ho
  exact ⟨by rw[AV.PA];exact h.1,by rw[AV.GW];exact h.2.1,GY hm ho.1 h.2.2.1,YM hm ho.2 h.2.2.2⟩
end
theorem PC{φ ψ:aU}{O O':Nat→Prop}{w:World}{n:Nat}(hm:∀id b,φ id=some b→ψ (n+id)=some b):∀{l:List AV}{es:List MapEntry},AV.qj l=true→RE φ O w l es→RE ψ O' w (AV.mO n l) es
 |[],_,_,h=>h
 |x::r,_,ho,h=>by
  simp only[AV.qj,Bool.and_eq_true] at ho
  obtain ⟨e,s,h1,h2,h3⟩:=h
  exact ⟨e,s,h1,⟨AV.Ck h2.1,GY hm ho.1 h2.2⟩,PC hm ho.2 h3⟩
theorem Y.D0{A H:Y}{i:Nat}:Y.find (A++H) (H.length+i)=Y.find A i:=by
 induction A with
 |nil=>rw[List.nil_append,Y.xZ (by omega)];rfl
 |cons b r ih =>
  simp only[List.cons_append,Y.find,List.length_append]
  by_cases e:i=r.length
  ·rw[if_pos e,if_pos (by omega)]
  ·rw[if_neg e,if_neg (by omega),ih]
theorem Y.D1{n:Nat}{G:Y}:(Y.up n G).length=G.length:=by simp[Y.up]
theorem Y.LL{n:Nat}{G:Y}{i:Nat}:Y.find (Y.up n G) i=(Y.find G i).map (aP.up n):=by
 induction G with
 |nil=>rfl
 |cons b r ih =>
  show Y.find (b.map (aP.up n)::Y.up n r) i=_
  simp only[Y.find,Y.D1]
  split
  ·rfl
  ·exact ih
theorem LM{P:Program}{f:FuncId}{args args':List AV}{v:AV}{H G:Y}(hv:cJ H args args')(hp:v.op=true)(hg:Y.op G)(h:D P f args' [] (.ret v) G):D P f args H (.ret (v.up H.length)) (Y.up H.length G++H):=by
 refine ⟨by simp,fun φ w vs hR ha=>(h.2 gR w vs (Rb (hR.jB.less fun b ho=>(tN ho).elim)) (hv.Rt hR ha)).mono fun en w' ⟨χ,h1,h2,h3⟩=>?_⟩
 have hblk:∀b,b<w.heap.size→w'.heap[b]? = w.heap[b]?:=fun b hb=>h3.same b hb tN
 have hown:∀b,b<w.heap.size→¬Own χ G b:=fun b hb=>h3.own b hb tN
 let ψ:aU:=fun id=>if id<H.length then φ id else χ (id-H.length)
 have p1:∀id,id<H.length→ψ id=φ id:=fun id hi=>if_pos hi
 have p2:∀id,ψ (H.length+id)=χ id:=fun id=>by
  show (if _ then _ else _)=_
  rw[if_neg (by omega),show H.length+id-H.length=id from by omega]
 have q1:∀id,id<H.length→Y.find (Y.up H.length G++H) id=Y.find H id:=fun id hi=>Y.bF hi
 have q2:∀id,Y.find (Y.up H.length G++H) (H.length+id)=(Y.find G id).map (aP.up H.length):=fun id=>by rw[Y.D0,Y.LL]
 have o1:∀b,Own ψ (Y.up H.length G++H) b→Own φ H b∨Own χ G b:=by
  rintro b ⟨id,blk,e1,e2⟩
  by_cases hi:id<H.length
  ·rw[p1 id hi] at e1
   rw[q1 id hi] at e2
   exact .inl ⟨id,blk,e1,e2⟩
  ·obtain ⟨j,rfl⟩:∃j,id=H.length+j:=⟨id-H.length,by omega⟩
   rw[p2] at e1
   rw[q2] at e2
   cases hf:Y.find G j with
   |none=>rw[hf] at e2;simp at e2
   |some k=>exact .inr ⟨j,k,e1,hf⟩
 have hm:∀id b,φ id=some b→ψ id=some b:=fun id b e=>by rw[p1 id (hR.dom id b e).1];exact e
 have hl:Later (fun _=>True) φ ψ (Own φ H) (Own ψ (Y.up H.length G++H)) w w':=by
  refine ⟨fun id b _ e=>hm id b e,h3.size,fun b hb hn ho=>?_,fun b hb _=>hblk b hb,fun b hb=>h3.shape b hb⟩
  rcases o1 b ho with e|e
  ·exact hn e
  ·exact hown b hb e
 have hu:∀id b,χ id=some b→ψ (H.length+id)=some b:=fun id b e=>by rw[p2];exact e
 refine ⟨ψ,?_,⟨hR.jB.later hl,fun id b e=>?_,fun i j b e1 e2 s1 s2=>?_,fun id b k e1 e2=>?_⟩,⟨hl,h3.os,h3.tape,h3.output,by simp,fun id hi=>p1 id hi⟩⟩
 ·cases en with
  |returned u=>exact ⟨AV.Ck h1.1,GY hu hp h1.2⟩
  |_=>exact h1.elim
 ·by_cases hi:id<H.length
  ·rw[p1 id hi] at e
   have:=hR.dom id b e
   have h9:=h3.size
   exact ⟨by simp;omega,by omega⟩
  ·obtain ⟨j,rfl⟩:∃j,id=H.length+j:=⟨id-H.length,by omega⟩
   rw[p2] at e
   have:=h2.dom j b e
   exact ⟨by simp[Y.D1];omega,this.2⟩
 ·by_cases hi:i<H.length
  ·rw[p1 i hi] at e1
   rw[q1 i hi] at s1
   have hb:=(hR.dom i b e1).2
   by_cases hj:j<H.length
   ·rw[p1 j hj] at e2
    rw[q1 j hj] at s2
    exact hR.inj i j b e1 e2 s1 s2
   ·obtain ⟨t,rfl⟩:∃t,j=H.length+t:=⟨j-H.length,by omega⟩
    rw[p2] at e2
    rw[q2] at s2
    cases hf:Y.find G t with
    |none=>rw[hf] at s2;simp at s2
    |some k=>exact (hown b hb ⟨t,k,e2,hf⟩).elim
  ·obtain ⟨s,rfl⟩:∃s,i=H.length+s:=⟨i-H.length,by omega⟩
   rw[p2] at e1
   rw[q2] at s1
   by_cases hj:j<H.length
   ·rw[p1 j hj] at e2
    have hb:=(hR.dom j b e2).2
    cases hf:Y.find G s with
    |none=>rw[hf] at s1;simp at s1
    |some k=>exact (hown b hb ⟨s,k,e1,hf⟩).elim
   ·obtain ⟨t,rfl⟩:∃t,j=H.length+t:=⟨j-H.length,by omega⟩
    rw[p2] at e2
    rw[q2] at s2
    have:=h2.inj s t b e1 e2 (by simpa using s1) (by simpa using s2)
    omega
 ·by_cases hi:id<H.length
  ·rw[p1 id hi] at e1
   rw[q1 id hi] at e2
   have hb:=(hR.dom id b e1).2
   exact (hR.blk id b k e1 e2).on hl (hblk b hb)
  ·obtain ⟨j,rfl⟩:∃j,id=H.length+j:=⟨id-H.length,by omega⟩
   rw[p2] at e1
   rw[q2] at e2
   cases hf:Y.find G j with
   |none=>rw[hf] at e2;simp at e2
   |some k0 =>
    rw[hf] at e2
    simp at e2
    subst e2
    rcases h2.blk j b k0 e1 hf with ⟨h0,cur,cap,a1,a2,a3,a4,a5,a6⟩|⟨h0,hty,bU,clock,a1,a2,a3,a4⟩|⟨h0,hty,r,ts,tm,e,_⟩|⟨h0,hty,bU,clock,x,r,e,a1,a2,a3,a4,a5⟩|⟨h0,hty,bm,clock,seen,a1,a2⟩
    ·exact .inl ⟨h0,cur,cap,a1,a2,by simpa [aP.up,AV.jZ] using a3,by simpa [aP.up,AV.jZ] using a4,a5,YM hu (hg j k0 hf) a6⟩
    ·exact .inr (.inl ⟨h0,hty,bU,clock,a1,a2,a3,PC hu (hg j k0 hf) a4⟩)
    ·have:=hg j k0 hf;rw[e] at this;simp[AV.qj,AV.op] at this
    ·have ho:=hg j k0 hf
     rw[e] at ho
     simp only[AV.qj,Bool.and_eq_true] at ho
     exact .inr (.inr (.inr (.inl ⟨h0,hty,bU,clock,x.up H.length,AV.mO H.length r,by simp[aP.up,e,AV.mO],a1,a2,a3,⟨AV.Ck a4.1,GY hu ho.1 a4.2⟩,PC hu ho.2 a5⟩)))
    ·exact .inr (.inr (.inr (.inr ⟨h0,hty,bm,clock,seen,a1,PB hu (hg j k0 hf) a2⟩)))
theorem Uk{P:Program}{f:FuncId}{args:List AV}{H H':Y}{e:cH}(S:Y→Prop)(hl:H.length≤H'.length)
  (hS:∀φ w,Rel φ H w→∃H2,S H2∧Rel φ H2 w∧H2.length=H.length∧∀b,Own φ H2 b↔Own φ H b)(h:∀H2,S H2→D P f args H2 e H'):D P f args H e H':=by
 refine ⟨hl,fun φ w vs hR ha=>?_⟩
 obtain ⟨H2,h1,h2,h3,h4⟩:=hS φ w hR
 have ho:Own φ H2=Own φ H:=funext fun b=>propext (h4 b)
 refine ((h H2 h1).2 φ w vs h2 (by rw[ho];exact ha)).mono fun en w' ⟨φ',g1,g2,g3⟩=>⟨φ',g1,g2,?_⟩
 refine ⟨?_,g3.os,g3.tape,g3.output,hl,fun id hid=>g3.old id (by rw[h3];exact hid)⟩
 have:=g3.toLater
 rwa [ho] at this
def IW:AV→AV→Prop
 |.aD k i off n none,y=>∃c,n≤c∧y = .aD k i off n (some c)
 |x,y=>y=x
inductive gT:List AV→List AV→Prop where
 | nil:gT [] []
 | cons {x y:AV}{r s:List AV}:IW x y→gT r s→gT (x::r) (y::s)
theorem gT.len:∀{xs ys:List AV},gT xs ys→ys.length=xs.length
 |_,_,.nil=>rfl
 |_,_,.cons _ h=>by simp[h.len]
theorem gT.get:∀{xs ys:List AV},gT xs ys→∀{j:Nat},j<xs.length→IW (xs.getD j .top) (ys.getD j .top)
 |_,_,.nil,j,h=>by simp at h
 |_,_,.cons hx hr,0,_=>hx
 |_,_,.cons hx hr,j+1,h=>by
  simp only[List.getD_cons_succ]
  exact hr.get (by simpa using h)
theorem Ul{φ:aU}{O:Nat→Prop}{w:World}(x:AV)(g:Nat→Option Value)(h:R φ O w x g):∃y,IW x y∧R φ O w y g∧y.az=x.az∧y.isAgg=x.isAgg:=by
 cases x with
 |aD k id off n c =>
  cases c with
  |some c=>exact ⟨_,rfl,h,rfl,rfl⟩
  |none =>
   obtain ⟨b,c',cur,e,fr,v1,v2,v3,v4,v5,v6,v7⟩:=h
   exact ⟨_,⟨c',v3,rfl⟩,⟨b,c',cur,e,fr,v1,v2,v3,v4,fun m hm=>by simpa using hm,v6,v7⟩,rfl,rfl⟩
 |_=>exact ⟨_,rfl,h,rfl,rfl⟩
theorem open_row{φ:aU}{O:Nat→Prop}{w:World}{b k:Nat}:∀(xs:List AV)(off:Nat),Rl φ O w b k xs off→∃ys,gT xs ys∧Rl φ O w b k ys off
 |[],off,_=>⟨[],.nil,trivial⟩
 |x::r,off,h=>by
  obtain ⟨y,h1,h2,h3,h4⟩:=Ul x _ h.2.2.1
  obtain ⟨ys,h5,h6⟩:=open_row r (off+k) h.2.2.2
  exact ⟨y::ys,.cons h1 h5,by rw[h3];exact h.1,by rw[h4];exact h.2.1,h2,h6⟩
theorem wP:∀(xs:List AV),∃ys,gT xs ys
 |[]=>⟨[],.nil⟩
 |x::r=>by
  obtain ⟨ys,h⟩:=wP r
  cases x with
  |aD k id off n c =>
   cases c with
   |none=>exact ⟨_,.cons ⟨n,Nat.le_refl _,rfl⟩ h⟩
   |some c=>exact ⟨_,.cons rfl h⟩
  |_=>exact ⟨_,.cons rfl h⟩
theorem ab8{P:Program}{f:FuncId}{args:List AV}{H H':Y}{e:cH}{id:Nat}{blk:aP}(hf:Y.find H id=some blk)(hl:H.length≤H'.length)
  (h:∀es,gT blk.es es→D P f args (Y.set H id (some { blk with es:=es })) e H')(cE:0<blk.k:=by first|exact Nat.zero_lt_one|simp):D P f args H e H':=by
 have hid:=Y.ax hf
 have hown:∀{φ:aU}{es:List AV}{b:Nat},Own φ (Y.set H id (some { blk with es:=es })) b↔Own φ H b:=by
  intro φ es b
  constructor
  ·rintro ⟨i,k,h1,h2⟩
   by_cases e:i=id
   ·subst e;exact ⟨i,blk,h1,hf⟩
   ·rw[Y.aj e] at h2;exact ⟨i,k,h1,h2⟩
  ·rintro ⟨i,k,h1,h2⟩
   by_cases e:i=id
   ·subst e;exact ⟨i,_,h1,Y.aC hid⟩
   ·exact ⟨i,k,h1,by rw[Y.aj e];exact h2⟩
 refine Uk (fun H2=>∃es,gT blk.es es∧H2=Y.set H id (some { blk with es:=es })) hl (fun φ w hR=>?_) (fun H2 ⟨es,h1,h2⟩=>h2▸h es h1)
 have hex:∃es,gT blk.es es∧∀b,φ id=some b→Rl φ (Own φ H) w b blk.k es 0:=by
  cases hm:φ id with
  |none =>
   obtain ⟨es,h1⟩:=wP blk.es
   exact ⟨es,h1,fun b hb=>by simp at hb⟩
  |some b =>
   obtain ⟨cur,cap,a1,a2,a3,a4,a5,a6⟩:=(hR.blk id b blk hm hf).cells cE
   obtain ⟨es,h1,h2⟩:=open_row _ _ a6
   exact ⟨es,h1,fun b' hb=>by cases hb;exact h2⟩
 obtain ⟨es,h1,h2⟩:=hex
 refine ⟨_,⟨es,h1,rfl⟩,⟨hR.jB.less (fun b ho=>hown.1 ho),fun i b hi=>?_,fun i j b hi hj fi fj=>?_,fun i b k hi hk=>?_⟩,by rw[Y.af],fun b=>hown⟩
 ·have:=hR.dom i b hi
  rw[Y.af];exact this
 ·have key:∀i,(Y.find (Y.set H id (some { blk with es:=es })) i).isSome→(Y.find H i).isSome:=by
   intro i hi
   by_cases e:i=id
   ·subst e;rw[hf];rfl
   ·rwa [Y.aj e] at hi
  exact hR.inj i j b hi hj (key i fi) (key j fj)
 ·have ho:Own φ (Y.set H id (some { blk with es:=es }))=Own φ H:=funext fun b=>propext hown
  rw[ho]
  by_cases e:i=id
  ·subst e
   rw[Y.aC hid] at hk
   cases hk
   obtain ⟨cur,cap,a1,a2,a3,a4,a5,a6⟩:=(hR.blk i b blk hi hf).cells cE
   have hlen:=h1.len
   exact .inl ⟨cE,cur,cap,a1,a2,by simp only[hlen];exact a3,fun hx=>by simp only[hlen];exact a4 hx,a5,h2 b hi⟩
  ·rw[Y.aj e] at hk
   exact hR.blk i b k hi hk
structure ct where
 nil:Bool
 n:Nat
 id:Nat
 c:Nat
instance:Inhabited ct:=⟨⟨true,0,0,0⟩⟩
def ct.av(k:Nat)(r:ct):AV:=if r.nil then .am 0 [] (some []) else .aD k r.id 0 r.n (some r.c)
theorem ct.tg{k:Nat}{r:ct}(h:r.nil=true):r.av k = .am 0 [] (some []):=by simp[ct.av,h]
theorem ct.nJ{k:Nat}{r:ct}(h:r.nil=false):r.av k = .aD k r.id 0 r.n (some r.c):=by simp[ct.av,h]
theorem ct.IX{k:Nat}{r:ct}:(r.av k).bT=false:=by unfold ct.av;split<;>rfl
theorem ct.xz{k:Nat}{r:ct}:(r.av k).az=1:=by unfold ct.av;split<;>rfl
theorem ct.AB{k:Nat}{r:ct}:(r.av k).isAgg=false:=by unfold ct.av;split<;>rfl
theorem ct.AC{k:Nat}{r:ct}:(r.av k).cells=[r.av k]:=by unfold ct.av;split<;>rfl
theorem ct.AD{k:Nat}{r:ct}:oy (r.av k)=True:=by unfold ct.av;split<;>rfl
theorem ct.D2{k:Nat}{r:ct}(h:r.nil=true→r.n=0):pR (r.av k)=r.n:=by
 cases e:r.nil with
 |true=>rw[ct.tg e,h e];rfl
 |false=>rw[ct.nJ e];rfl
def nw(k:Nat)(rs:List ct):List AV:=rs.map (ct.av k)
theorem Ft{k:Nat}{rs:List ct}:(nw k rs).length=rs.length:=by simp[nw]
def aR(rs:List ct)(i:Nat):ct:=rs.getD i default
theorem ql{k:Nat}{rs:List ct}{i:Nat}(h:i<rs.length):(nw k rs).getD i .top=(aR rs i).av k:=by
 simp[nw,aR,List.getD,h]
def qm(n c:Nat)(es:List AV)(ex:Bool):Prop:=(ex=true∧c=es.length∧n≤c)∨(ex=false∧n≤es.length)
structure Shape where
 k:Nat
 ty:TypeId
 ag:Bool
def Shape.is(s:Shape)(x:AV):Prop:=x.bT=false∧x.az=s.k∧x.isAgg=s.ag
def ik(s:Shape)(mk:Nat→AV)(F:Y)(id n c m:Nat):Prop :=
 ∃es ex,Y.find F id=some ⟨s.k,es,ex,s.ty⟩∧qm n c es ex∧(∀x∈es,s.is x)∧∀i,i<m→es[i]? = some (mk i)
def Reads(k:Nat)(mk:Nat→AV)(F:Y)(id m:Nat):Prop:=∃blk,Y.find F id=some blk∧blk.k=k∧m≤blk.es.length∧∀i,i<m→blk.es.getD i .top=mk i
section
variable {s:Shape}{mk:Nat→AV}{F G:Y}{id n c m:Nat}
theorem kG{es:List AV}{ex:Bool}(h:qm n c es ex):n≤es.length:=by
 rcases h with ⟨_,h1,h2⟩|⟨_,h⟩
 ·omega
 ·exact h
theorem rD{l:List AV}{i:Nat}{x:AV}(h:l[i]? = some x):l.getD i .top=x:=by simp[List.getD,h]
theorem ik.keep(h:ik s mk F id n c m)(e:Y.find G id=Y.find F id):ik s mk G id n c m:=by
 unfold ik at h ⊢
 rw[e]
 exact h
theorem Reads.keep{k:Nat}(h:Reads k mk F id m)(e:Y.find G id=Y.find F id):Reads k mk G id m:=by
 unfold Reads at h ⊢
 rw[e]
 exact h
theorem ik.less{m':Nat}(h:ik s mk F id n c m)(hm:m'≤m):ik s mk F id n c m':=by
 obtain ⟨es,ex,h1,h2,h3,h4⟩:=h
 exact ⟨es,ex,h1,h2,h3,fun i hi=>h4 i (by omega)⟩
theorem ik.shrink{n':Nat}(h:ik s mk F id n c m)(hn:n'≤n):ik s mk F id n' c m:=by
 obtain ⟨es,ex,h1,h2,h3,h4⟩:=h
 refine ⟨es,ex,h1,?_,h3,h4⟩
 rcases h2 with ⟨e1,e2,e3⟩|⟨e1,e2⟩
 ·exact .inl ⟨e1,e2,by omega⟩
 ·exact .inr ⟨e1,by omega⟩
theorem ik.reads(h:ik s mk F id n c m)(hm:m≤n):Reads s.k mk F id m:=by
 obtain ⟨es,ex,h1,h2,h3,h4⟩:=h
 have:=kG h2
 exact ⟨_,h1,rfl,by simp only;omega,fun i hi=>rD (h4 i hi)⟩
theorem Reads.less{k m':Nat}(h:Reads k mk F id m)(hm:m'≤m):Reads k mk F id m':=by
 obtain ⟨blk,h1,h2,h3,h4⟩:=h
 exact ⟨blk,h1,h2,by omega,fun i hi=>h4 i (by omega)⟩
theorem ik.store{es:List AV}{ex:Bool}(hf:Y.find F id=some ⟨s.k,es,ex,s.ty⟩)(h2:qm n c es ex)(h3:∀x∈es,s.is x)(h4:∀i,i<m→es[i]? = some (mk i))(hm:m<n)(hs:s.is (mk m)) :
  ik s mk (Y.set F id (some ⟨s.k,es.set m (mk m),ex,s.ty⟩)) id n c (m+1):=by
 have hlt:=Y.ax hf
 have hle:=kG h2
 refine ⟨_,_,Y.aC hlt,?_,fun x hx=>?_,fun i hi=>?_⟩
 ·simpa [qm] using h2
 ·rcases List.mem_or_eq_of_mem_set hx with h|rfl
  ·exact h3 x h
  ·exact hs
 ·rw[List.getElem?_set]
  by_cases e:m=i
  ·subst e;simp;omega
  ·rw[if_neg e];exact h4 i (by omega)
theorem ik.ez{es ys:List AV}{ex:Bool}(hf:Y.find F id=some ⟨s.k,es,ex,s.ty⟩)(h2:qm n c es ex)(h3:∀x∈es,s.is x)(h4:∀i,i<n→es[i]? = some (mk i))(hr:n+ys.length≤c)(hs:∀x∈ys,s.is x)(hy:∀i,i<ys.length→ys[i]? = some (mk (n+i))) :
  ik s mk (Y.set F id (some ⟨s.k,es.take n++ys++es.drop (n+ys.length),ex,s.ty⟩)) id (n+ys.length) c (n+ys.length):=by
 have hlt:=Y.ax hf
 have hle:=kG h2
 have hl:(es.take n++ys).length=n+ys.length:=by simp;omega
 refine ⟨_,_,Y.aC hlt,?_,fun x hx=>?_,fun i hi=>?_⟩
 ·rcases h2 with ⟨e1,e2,e3⟩|⟨e1,e2⟩
  ·refine .inl ⟨e1,?_,hr⟩
   simp;omega
  ·refine .inr ⟨e1,?_⟩
   rw[List.length_append,hl];omega
 ·rcases List.mem_append.1 hx with hx|hx
  ·rcases List.mem_append.1 hx with hx|hx
   ·exact h3 x (List.mem_of_mem_take hx)
   ·exact hs x hx
  ·exact h3 x (List.mem_of_mem_drop hx)
 ·rw[List.getElem?_append_left (by omega)]
  by_cases e:i<n
  ·rw[List.getElem?_append_left (by simp;omega),List.getElem?_take_of_lt e]
   exact h4 i e
  ·rw[List.getElem?_append_right (by simp;omega)]
   have:i-(es.take n).length=i-n:=by simp;omega
   rw[this,hy _ (by omega)]
   congr 2
   omega
theorem ik.ahR{es ys:List AV}{ex:Bool}(hf:Y.find F id=some ⟨s.k,es,ex,s.ty⟩)(h2:qm n c es ex)(h3:∀x∈es,s.is x)(h4:∀i,i<n→es[i]? = some (mk i))(hr:n+ys.length≤c)(hs:∀x∈ys,s.is x) :
  ik s mk (Y.set F id (some ⟨s.k,es.take n++ys++es.drop (n+ys.length),ex,s.ty⟩)) id n c n:=by
 have hlt:=Y.ax hf
 have hle:=kG h2
 refine ⟨_,_,Y.aC hlt,?_,fun x hx=>?_,fun i hi=>?_⟩
 ·rcases h2 with ⟨e1,e2,e3⟩|⟨e1,e2⟩
  ·refine .inl ⟨e1,?_,by omega⟩
   simp;omega
  ·refine .inr ⟨e1,?_⟩
   simp;omega
 ·rcases List.mem_append.1 hx with hx|hx
  ·rcases List.mem_append.1 hx with hx|hx
   ·exact h3 x (List.mem_of_mem_take hx)
   ·exact hs x hx
  ·exact h3 x (List.mem_of_mem_drop hx)
 ·rw[List.append_assoc,List.getElem?_append_left (by simp;omega),List.getElem?_take_of_lt hi]
  exact h4 i hi
theorem LN{es:List AV}(hl:n≤es.length)(h4:∀i,i<n→es[i]? = some (mk i)):es.take n=(List.range n).map mk:=by
 apply List.ext_getElem?
 intro i
 by_cases e:i<n
 ·rw[List.getElem?_take_of_lt e,h4 i e];simp[e]
 ·rw[List.getElem?_eq_none (by simp;omega),List.getElem?_eq_none (by simp;omega)]
end
def th(rs:List ct):List Nat:=(rs.filter fun r=>!r.nil).map (·.id)
theorem LO{rs:List ct}{k:Nat}(h:k<rs.length)(hn:(aR rs k).nil=false):(aR rs k).id∈th rs:=by
 refine List.mem_map.2 ⟨aR rs k,List.mem_filter.2 ⟨?_,by simp[hn]⟩,rfl⟩
 unfold aR
 rw[List.getD_eq_getElem?_getD,List.getElem?_eq_getElem h]
 exact List.getElem_mem h
structure tj(s:Shape)(F:Y)(rs:List ct):Prop where
 nil:∀k,k<rs.length→(aR rs k).nil=true→(aR rs k).n=0
 blk:∀k,k<rs.length→(aR rs k).nil=false→∃es ex,Y.find F (aR rs k).id=some ⟨s.k,es,ex,s.ty⟩∧qm (aR rs k).n (aR rs k).c es ex∧∀x∈es,s.is x
 apart:∀k l,k<rs.length→l<rs.length→(aR rs k).nil=false→(aR rs l).nil=false→(aR rs k).id=(aR rs l).id→k=l
 rE:∀k,k<rs.length→(aR rs k).n≤10000000
def ij(s:Shape)(mk:Nat→Nat→AV)(F:Y)(rs:List ct)(m:Nat→Nat):Prop :=
 ∀k,k<rs.length→(aR rs k).nil=false→ik s (mk k) F (aR rs k).id (aR rs k).n (aR rs k).c (m k)
def gU(H F:Y)(rs:List ct):Prop:=∀id,id<H.length→id∉th rs→Y.find F id=Y.find H id
def dH(k0:Nat)(mk:Nat→Nat→AV)(F:Y)(rs:List ct)(g0 B:Nat)(jk:List AV)(K:Nat)(x:Nat→Nat):Prop :=
 ∀k,k<K→∃gid gc,jk.getD k .top = .aD k0 gid 0 ((aR rs k).n+64) gc∧Reads k0 (mk k) F gid (x k)∧((gid=(aR rs k).id∧(aR rs k).nil=false)∨g0<gid)∧gid<B
section
variable {s:Shape}{mk:Nat→Nat→AV}{H F G:Y}{rs:List ct}{m m':Nat→Nat}
theorem tj.start(h:tj s H rs):ij s mk H rs (fun _=>0):=fun k hk hn=>by
 obtain ⟨es,ex,h1,h2,h3⟩:=h.blk k hk hn
 exact ⟨es,ex,h1,h2,h3,fun i hi=>absurd hi (Nat.not_lt_zero _)⟩
theorem gU.refl:gU H H rs:=fun _ _ _=>rfl
theorem gU.set(h:gU H F rs){K:Nat}{b:Option aP}(hK:K<rs.length)(hn:(aR rs K).nil=false):gU H (Y.set F (aR rs K).id b) rs:=fun id hid hni=>by
 have hne:id≠(aR rs K).id:=fun e=>hni (by rw[e];exact LO hK hn)
 rw[Y.aj hne]
 exact h id hid hni
theorem gU.LP(h:gU H F rs){i:Nat}{b:Option aP}(hi:H.length≤i):gU H (Y.set F i b) rs:=fun id hid hni=>by
 rw[Y.aj (by omega)]
 exact h id hid hni
theorem gU.cons(h:gU H F rs)(hl:H.length≤F.length){b:Option aP}:gU H (b::F) rs:=fun id hid hni=>by
 rw[Y.bA (by omega)]
 exact h id hid hni
theorem ij.put(h:ij s mk F rs m)(ok:tj s H rs){K:Nat}{b:Option aP}(hK:K<rs.length)(hn:(aR rs K).nil=false)(hr:ik s (mk K) (Y.set F (aR rs K).id b) (aR rs K).id (aR rs K).n (aR rs K).c (m' K))(hm:∀k,k≠K→m' k≤m k) :
  ij s mk (Y.set F (aR rs K).id b) rs m':=fun k hk hkn=>by
 by_cases e:k=K
 ·subst e;exact hr
 ·exact ((h k hk hkn).less (hm k e)).keep (Y.aj (fun e'=>e (ok.apart k K hk hK hkn hn e')))
theorem ij.less(h:ij s mk F rs m)(hm:∀k,k<rs.length→m' k≤m k):ij s mk F rs m':=fun k hk hkn=>(h k hk hkn).less (hm k hk)
theorem ij.zk(h:ij s mk F rs m)(ok:tj s H rs){i:Nat}{b:Option aP}(hi:H.length≤i):ij s mk (Y.set F i b) rs m:=fun k hk hkn=>by
 obtain ⟨es,ex,h1,_⟩:=ok.blk k hk hkn
 have:=Y.ax h1
 exact (h k hk hkn).keep (Y.aj (by omega))
theorem ij.cons(h:ij s mk F rs m){b:Option aP}:ij s mk (b::F) rs m:=fun k hk hkn=>by
 obtain ⟨es,ex,h1,_⟩:=h k hk hkn
 exact (h k hk hkn).keep (Y.bA (Y.ax h1))
theorem dH.keep{k0 g0 B K:Nat}{jk:List AV}{x:Nat→Nat}(h:dH k0 mk F rs g0 B jk K x)(h1:∀id,g0<id→id<B→Y.find G id=Y.find F id)(h2:∀k,k<K→(aR rs k).nil=false→Y.find G (aR rs k).id=Y.find F (aR rs k).id):dH k0 mk G rs g0 B jk K x:=fun k hk=>by
 obtain ⟨gid,gc,a1,a2,a3,a4⟩:=h k hk
 refine ⟨gid,gc,a1,a2.keep ?_,a3,a4⟩
 rcases a3 with ⟨rfl,hn⟩|h
 ·exact h2 k hk hn
 ·exact h1 gid h a4
theorem dH.more{k0 g0 B B' K:Nat}{jk:List AV}{x:Nat→Nat}(h:dH k0 mk F rs g0 B jk K x)(hB:B≤B'):dH k0 mk F rs g0 B' jk K x:=fun k hk=>by
 obtain ⟨gid,gc,a1,a2,a3,a4⟩:=h k hk
 exact ⟨gid,gc,a1,a2,a3,by omega⟩
theorem dH.less{k0 g0 B K:Nat}{jk:List AV}{x y:Nat→Nat}(h:dH k0 mk F rs g0 B jk K x)(hy:∀k,k<K→y k≤x k):dH k0 mk F rs g0 B jk K y:=fun k hk=>by
 obtain ⟨gid,gc,a1,a2,a3,a4⟩:=h k hk
 exact ⟨gid,gc,a1,a2.less (hy k hk),a3,a4⟩
theorem dH.next{k0 g0 B B' K:Nat}{jk:List AV}{x:Nat→Nat}{gid:Nat}{gc:Option Nat}(h:dH k0 mk F rs g0 B jk K x)(hB:B≤B')(hK:K<jk.length)(hr:Reads k0 (mk K) F gid (x K))(ho:(gid=(aR rs K).id∧(aR rs K).nil=false)∨g0<gid)(hb:gid<B') :
  dH k0 mk F rs g0 B' (jk.set K (.aD k0 gid 0 ((aR rs K).n+64) gc)) (K+1) x:=fun k hk=>by
 by_cases e:k=K
 ·subst e
  exact ⟨gid,gc,by simp[List.getD,hK],hr,ho,hb⟩
 ·obtain ⟨gid',gc',a1,a2,a3,a4⟩:=h k (by omega)
  refine ⟨gid',gc',?_,a2,a3,by omega⟩
  rw[←a1]
  simp only[List.getD_eq_getElem?_getD]
  rw[List.getElem?_set_ne (by omega)]
theorem dH.zero{k0 g0 B:Nat}{jk:List AV}{x:Nat→Nat}:dH k0 mk F rs g0 B jk 0 x:=fun k hk=>by omega
end
theorem LQ{n:Nat→Nat}{K j:Nat}(hj:n K≤j)(k:Nat):(if k<K+1 then n k else 0)≤(if k<K then n k else if k=K then j else 0):=by
 by_cases e:k<K
 ·rw[if_pos e,if_pos (by omega)];exact Nat.le_refl _
 ·by_cases e2:k=K
  ·subst e2;rw[if_neg e,if_pos rfl,if_pos (by omega)];exact hj
  ·rw[if_neg (by omega)];exact Nat.zero_le _
theorem mk_zero{n:Nat→Nat}{K:Nat}(k:Nat):(if k<K then n k else if k=K then 0 else 0)≤(if k<K then n k else 0):=by
 by_cases e:k<K<;>simp[e]
theorem afX{n:Nat→Nat}{K j:Nat}(k:Nat)(e:k≠K):(if k<K then n k else if k=K then j+1 else 0)≤(if k<K then n k else if k=K then j else 0):=by
 by_cases e1:k<K<;>simp[e,e1]
theorem Um{e x:AV}{f:Nat}(h:e.isAgg=false):AV.lq e f x=x:=by
 cases e<;>first|rfl|(simp[AV.isAgg] at h)
theorem GZ{e x:AV}{n:Nat}(h:e.az=n)(hx:x.az=n)(y8:x.isAgg=true):AV.lq e 0 x=x:=by
 cases x with
 |agg xs =>
  cases e with
  |agg cs =>
   simp only[AV.az] at h hx
   have:cs.drop (0+xs.length)=[]:=List.drop_of_length_le (by omega)
   simp only[AV.lq,AV.cells,AV.az,List.take_zero,List.nil_append,this,List.append_nil]
  |_=>rfl
 |_=>simp[AV.isAgg] at y8
inductive Grow(s:Shape)(mk:Nat→AV)(F:Y)(r:ct)(B j:Nat):AV→Prop where
 | nil:r.nil=true→j=0→Grow s mk F r B j (.am 0 [] (some []))
 | room:r.nil=false→ik s mk F r.id (r.n+j) r.c (r.n+j)→Grow s mk F r B j (.aD s.k r.id 0 (r.n+j) (some r.c))
 | new {gid:Nat}:B≤gid→gid<F.length→Y.find F gid=some ⟨s.k,(List.range (r.n+j)).map mk,false,s.ty⟩→Grow s mk F r B j (.aD s.k gid 0 (r.n+j) none)
theorem BA{mk:Nat→AV}{n:Nat}:(List.range n).map mk++[mk n]=(List.range (n+1)).map mk:=by simp[List.range_succ]
theorem PD{mk:Nat→AV}{n:Nat}:((List.range n).map mk).length=n:=by simp
theorem Reads.marks{k:Nat}{mk:Nat→AV}{F:Y}{gid n:Nat}{ex:Bool}{ty:TypeId}(h:Y.find F gid=some ⟨k,(List.range n).map mk,ex,ty⟩):Reads k mk F gid n :=
 ⟨_,h,rfl,by simp,fun i hi=>by simp[List.getD,hi]⟩
def zl(l:List AV):Prop:=∀x∈l,x.az=1∧x.isAgg=false
theorem zl.get{l:List AV}(h:zl l){i:Nat}(hi:i<l.length):(l.getD i .top).az=1∧∀f x,AV.lq (l.getD i .top) f x=x:=by
 have e:l.getD i .top=l[i]:=by simp[List.getD,hi]
 have:=h _ (List.getElem_mem hi)
 rw[e]
 exact ⟨this.1,fun f x=>Um this.2⟩
theorem zl.set{l:List AV}(h:zl l){i:Nat}{x:AV}(hx:x.az=1∧x.isAgg=false):zl (l.set i x):=fun y hy=>by
 rcases List.mem_or_eq_of_mem_set hy with hy|rfl
 ·exact h y hy
 ·exact hx
theorem zl.rep{n:Nat}{x:AV}(hx:x.az=1∧x.isAgg=false):zl (List.replicate n x):=fun y hy=>by rw[List.eq_of_mem_replicate hy];exact hx
def lC(ids:List Nat)(H:Y):Y:=ids.foldl (fun G i=>Y.set G i none) H
theorem fQ:∀(ids:List Nat)(H:Y),(lC ids H).length=H.length
 |[],H=>rfl
 |i::r,H=>by
  have:=fQ r (Y.set H i none)
  rw[Y.af] at this
  exact this
theorem rF{i:Nat}{k:aP}:∀{ids:List Nat}{H:Y},Y.find (lC ids H) i=some k→i∉ids∧Y.find H i=some k
 |[],H,h=>⟨by simp,h⟩
 |j::r,H,h=>by
  obtain ⟨h1,h2⟩:=rF (ids:=r) (H:=Y.set H j none) h
  obtain ⟨h3,h4⟩:=iV h2
  exact ⟨by simp;exact ⟨h3,h1⟩,h4⟩
theorem qn{i:Nat}:∀{ids:List Nat}{H:Y},i∉ids→Y.find (lC ids H) i=Y.find H i
 |[],H,h=>rfl
 |j::r,H,h=>by
  have:=qn (ids:=r) (H:=Y.set H j none) (i:=i) (by simp at h;exact h.2)
  have e:Y.find (Y.set H j none) i=Y.find H i:=Y.aj (by simp at h;exact h.1)
  exact this.trans e
theorem Fv{H F:Y}{ids:List Nat}{v:Value}(h:∀id,id<H.length→id∉ids→Y.find F id=Y.find H id):eB H (.ret (.sc v)) F (.ret (.sc v)) (lC ids H):=by
 refine ku [] (by simp[fQ]) (by simp) (by simp) (fun id k hid hk=>.inl ?_) (fun i s k hs=>by simp at hs) (.same trivial)
 obtain ⟨h1,h2⟩:=rF hk
 exact ⟨h2,by rw[h id hid h1];exact h2⟩
theorem zm{xs:List AV}{id i:Nat}{H:Y}(h:xs≠[]→i≠id):Y.find (jR xs id H) i=Y.find H i:=by
 cases xs with
 |nil=>rfl
 |cons x r=>exact Y.aj (h (by simp))
theorem ads{n m:Nat}(h:n≤m){l:List AV}(hl:AV.cV (· < n) l):AV.cV (· < m) l:=AV.eU (fun i hi=>Nat.lt_of_lt_of_le hi h) l hl
def lays:List (Option aP)→Y→Y
 |[],H=>H
 |b::r,H=>lays r (b::H)
theorem zn:∀{bs:List (Option aP)}{H:Y},(lays bs H).length=H.length+bs.length
 |[],H=>rfl
 |b::r,H=>by simp only[lays,zn (bs:=r),List.length_cons];omega
theorem AE:∀{bs:List (Option aP)}{H:Y}{i:Nat},i<H.length→Y.find (lays bs H) i=Y.find H i
 |[],H,i,h=>rfl
 |b::r,H,i,h=>by
  simp only[lays]
  rw[AE (by simp;omega),Y.bA h]
theorem r9:∀{bs:List (Option aP)}{H:Y}{i:Nat}{b:Option aP},bs[i]? = some b→Y.find (lays bs H) (H.length+i)=b
 |[],H,i,b,h=>by simp at h
 |x::r,H,0,b,h=>by
  simp at h
  subst h
  simp only[lays]
  rw[Nat.add_zero,AE (by simp),Y.iv]
 |x::r,H,i+1,b,h=>by
  simp only[lays]
  have:=r9 (bs:=r) (H:=x::H) (i:=i) (by simpa using h)
  rw[List.length_cons,show H.length+1+i=H.length+(i+1) from by omega] at this
  exact this
theorem nx{H F:Y}(bs:List (Option aP))(src:List Nat){x y:AV}(hl:src.length=bs.length)(hn:src.Nodup)(ha:∀s∈src,H.length≤s)(h1:∀id,id<H.length→Y.find F id=Y.find H id)
  (h2:∀(i:Nat)(k:aP)(s:Nat),bs[i]? = some (some k)→src[i]? = some s→∃k1,Y.find F s=some k1∧Gu F H.length src k1 k)(hz:Gz F H.length src x y):eB H (.ret x) F (.ret y) (lays bs H):=by
 refine ku src (by rw[zn,hl]) hn ha (fun id k hid hk=>?_) (fun i s k hs hk=>?_) hz
 ·rw[AE hid] at hk
  exact .inl ⟨hk,by rw[h1 id hid];exact hk⟩
 ·have hi:i<bs.length:=by
   have:=(List.getElem?_eq_some_iff.1 hs).1
   omega
  have hr:bs[i]? = some bs[i]:=by simp[hi]
  rw[r9 hr] at hk
  exact h2 i k s (by rw[hr,hk]) hs
theorem D3{n:Nat}{f:Nat→Nat}(h:∀i j,i<j→f i<f j):((List.range n).map f).Nodup:=by
 rw[List.nodup_iff_pairwise_ne,List.pairwise_map]
 exact List.pairwise_lt_range.imp fun hab=>Nat.ne_of_lt (h _ _ hab)
theorem dt.append{H1:Y}{n0:Nat}{src:List Nat}:∀{a b c d:List AV},dt H1 n0 src a c→dt H1 n0 src b d→dt H1 n0 src (a++b) (c++d)
 |_,_,_,_,.nil,h=>h
 |_,_,_,_,.cons hx hr,h=>.cons hx (dt.append hr h)
theorem dt.map{H1:Y}{n0:Nat}{src:List Nat}{α:Type}{f g:α→AV}:∀{l:List α},(∀x∈l,Gz H1 n0 src (f x) (g x))→dt H1 n0 src (l.map f) (l.map g)
 |[],_=>.nil
 |x::r,h=>.cons (h x (by simp)) (dt.map fun y hy=>h y (by simp[hy]))
theorem tq{H:Y}{k:Nat}{ty:TypeId}{xs ys:List AV}{id:Nat}(hf:xs≠[]→Y.find H id=bS k ty xs)(hl:xs.length+ys.length≤100000000) :
  ∃(id':Nat)(H':Y),gN H k ty ys (aW k xs id)∧lB H k ys (aW k xs id)=aW k (xs++ys) id'∧jx H k ty ys (aW k xs id)=H'∧(xs++ys≠[]→Y.find H' id'=bS k ty (xs++ys)∧id'=H.length)∧H.length≤H'.length∧(∀i,i<H.length→(xs≠[]→i≠id)→Y.find H' i=Y.find H i):=by
 obtain ⟨h1,h2,h3⟩:=Xx hf hl
 by_cases e:ys≠[]∨xs≠[]
 ·obtain ⟨g1,g2⟩:=h2 e
  refine ⟨_,_,h1,g1,g2,fun _=>⟨?_,rfl⟩,by simp[bz],fun i hi hne=>?_⟩
  ·have:=Y.iv (H:=jR xs id H) (b:=bS k ty (xs++ys))
   rwa [bz] at this
  ·rw[Y.bA (by rw[bz];exact hi),zm hne]
 ·have e1:ys=[]:=Classical.byContradiction fun h=>e (.inl h)
  have e2:xs=[]:=Classical.byContradiction fun h=>e (.inr h)
  obtain ⟨g1,g2⟩:=h3 e1 e2
  refine ⟨0,H,h1,by rw[g1,e1,e2];rfl,g2,fun h=>by rw[e1,e2] at h;exact (h rfl).elim,Nat.le_refl _,fun _ _ _=>rfl⟩
theorem ny{H F:Y}{x y:AV}(h:∀id,id<H.length→Y.find F id=Y.find H id)(hz:Gz F H.length [] x y):eB H (.ret x) F (.ret y) H :=
 ku [] (by simp) (by simp) (by simp) (fun id k hid hk=>.inl ⟨hk,by rw[h id hid];exact hk⟩) (fun i s k hs=>by simp at hs) hz
section
variable {P:Program}{ro:Option Nat}{n:Nat}
def Mk(m:Nat):Deferred:={ target:=.collected m,args:=#[] }
def MD(n0:Nat)(φ:aU)(H:Y)(w:World)(ds:List Deferred):Prop:=∃ms:List Nat,ds=ms.map Mk∧ms.Nodup∧∀m∈ms,n0≤m∧w.heap[m]? = some (.deferred (some []))∧¬Own φ H m
theorem MD.nil(n0:Nat)(φ:aU)(H:Y)(w:World):MD n0 φ H w []:=⟨[],rfl,.nil,fun m h=>by cases h⟩
theorem MD.step{n0:Nat}{φ φ':aU}{H H':Y}{w w':World}{ds:List Deferred}(hs:Step φ H w φ' H' w')(h:MD n0 φ H w ds):MD n0 φ' H' w' ds:=by
 obtain ⟨ms,h1,h2,h3⟩:=h
 refine ⟨ms,h1,h2,fun m hm=>?_⟩
 obtain ⟨g1,g2,g3⟩:=h3 m hm
 exact ⟨g1,(hs.same m (jH g2) g3).trans g2,hs.own m (jH g2) g3⟩
def YN(n0:Nat)(K:Post)(φ:aU)(H:Y)(w:World):Exit→Act→World→Prop:=fun e a' w' =>
 ∃x ts' H' φ',XR φ' (Own φ' H') w' x e∧K x ts' H'∧FR φ' (Own φ' H') w' ts' a'∧Rel φ' H' w'∧Step φ H w φ' H' w'∧MD n0 φ' H' w' a'.defers
theorem YN.step{n0:Nat}{K:Post}{φ φ':aU}{H H':Y}{w w':World}{e:Exit}{a:Act}{w2:World}(hs:Step φ H w φ' H' w')(h:YN n0 K φ' H' w' e a w2):YN n0 K φ H w e a w2:=by
 obtain ⟨x,ts,H2,dJ,h1,h2,h3,h4,h5,h6⟩:=h
 exact ⟨x,ts,H2,dJ,h1,h2,h3,h4,hs.trans h5,h6⟩
theorem YN.stays{n0:Nat}{K:Post}{φ:aU}{H:Y}{w:World}:¬LetsOut (YN n0 K φ H w):=by
 rintro ⟨a,w',x,ts,H2,dJ,h1,_⟩
 cases x<;>exact h1.elim
end
section
variable {φ:aU}{O:Nat→Prop}{w w':World}
end
section
variable {P:Program}{K:Post}{ts:List AV}{H:Y}
end
theorem Fw(s:ByteArray):oY (bO s)=s:=by
 apply ByteArray.ext
 simp only[oY,bO,List.map_map]
 apply Array.ext'
 simp only[List.toList_toArray]
 have:∀l:List UInt8,l.map ((fun x=>(pF x).getD 0)∘fun b=>AV.sc (.int .u8 (b.toNat:Int)))=l:=by
  intro l
  induction l with
  |nil=>rfl
  |cons c r ih =>
   rw[List.map_cons,ih]
   congr 1
   simp[Function.comp,pF]
 exact this _
theorem LR{s:ByteArray}(h:s.size=0):s=⟨#[]⟩:=by
 apply ByteArray.ext
 exact Array.eq_empty_of_size_eq_zero h
theorem LS(s:ByteArray):(bO s).take s.size=bO s:=List.take_of_length_le (by rw[jP];exact Nat.le_refl _)
theorem PE(s:ByteArray)(x:AV):(List.replicate s.size x).drop s.size=[]:=List.drop_of_length_le (by simp)
theorem D4(s:ByteArray)(H:Y)(hs:s.size≤100000000):D Tryz.prog 175 [.sc (.string s)] H (.ret (.sc (.string s))) H:=by
 refine aG (Nat.le_refl _) (afK (aA ?_))
 simp -implicitDefEqProofs (maxSteps:=99999999) (disch:=omega) only[vu,Yb,va,vg,vs,vh,vk,simprocAttr]
 refine dz (fun h=>?_) (fun h=>?_)
 ·have:=LR (s:=s) (by omega)
  subst this
  refine zE0 ?_
  exact bL .refl
 have h0:0<s.size:=by omega
 simp -implicitDefEqProofs (maxSteps:=99999999) (disch:=omega) only[vu,List.length_replicate,PE s,LS s,jP s,Fw s,va,vg,vs,vh,vk,simprocAttr]
 exact ⟨⟨by omega,by omega,by omega⟩,Nat.le_refl _,by omega,⟨⟨by omega,Nat.le_refl _⟩,⟨s,rfl⟩⟩,bL (by repeat constructor)⟩
theorem IY(s:ByteArray)(H:Y)(hs:s.size≤100000000):D Tryz.prog 118 [.sc (.string s)] H (.ret (.sc (.string s))) H:=by
 refine aG (Nat.le_refl _) (afJ (aA ?_))
 simp -implicitDefEqProofs (maxSteps:=99999999) (disch:=omega) only[vu,Ya,va,vg,vs,vh,vk,simprocAttr]
 refine ae (D4 s H hs) ?_
 refine zE0 ?_
 exact bL .refl
structure G0(F:Y)(lD:Nat)(xs:List ByteArray)(io:Nat):Prop where
 box:Y.find F lD=some ⟨1,[aW 1 (strs xs) io],true,41⟩
 own:xs≠[]→Y.find F io=bS 1 9 (strs xs)∧io≠lD
structure BB(F:Y)(lD:Nat)(xs:List ByteArray)(io:Nat)(ys:List ByteArray)(PF:Nat)(F':Y):Prop where
 out:G0 F' lD ys PF
 len:F.length≤F'.length
 at_:ys≠[]→(xs≠[]∧PF=io)∨F.length≤PF
 old:∀i,i<F.length→i≠lD→(xs≠[]→i≠io)→Y.find F' i=Y.find F i
theorem YO{xs:List ByteArray}(h:xs≠[]):strs xs≠[]:=fun e=>h (by simpa [strs] using e)
theorem BB.none{F:Y}{lD:Nat}{xs:List ByteArray}{io:Nat}(h:G0 F lD xs io):BB F lD xs io xs io F :=
 ⟨h,Nat.le_refl _,fun e=>.inl ⟨e,rfl⟩,fun _ _ _ _=>rfl⟩
theorem BB.trans{F G K:Y}{lD a b c:Nat}{xs ys zs:List ByteArray}(h:BB F lD xs a ys b G)(k:BB G lD ys b zs c K):BB F lD xs a zs c K:=by
 refine ⟨k.out,Nat.le_trans h.len k.len,fun e=>?_,fun i hi h1 h2=>?_⟩
 ·rcases k.at_ e with ⟨e1,e2⟩|h3
  ·rcases h.at_ e1 with ⟨g1,g2⟩|g3
   ·exact .inl ⟨g1,e2.trans g2⟩
   ·exact .inr (by omega)
  ·exact .inr (by have:=h.len;omega)
 ·rw[k.old i (by have:=h.len;omega) h1 (fun e=>?_),h.old i hi h1 h2]
  rcases h.at_ e with ⟨g1,g2⟩|g3
  ·rw[g2];exact h2 g1
  ·omega
theorem G0.cons{F:Y}{lD io:Nat}{xs:List ByteArray}(b:Option aP)(h:G0 F lD xs io):G0 (b::F) lD xs io:=by
 refine ⟨by rw[ai (Y.ax h.box)];exact h.box,fun e=>⟨?_,(h.own e).2⟩⟩
 have h1:=(h.own e).1
 rw[bj (YO e)] at h1 ⊢
 rw[ai (Y.ax h1),h1]
theorem BB.cons{F:Y}{lD io:Nat}{xs:List ByteArray}(b:Option aP)(h:G0 F lD xs io):BB F lD xs io xs io (b::F) :=
 ⟨h.cons b,by simp,fun e=>.inl ⟨e,rfl⟩,fun i hi _ _=>ai hi⟩
mutual
def fF:Nd→Nat→AV
 |⟨k,s,n,l⟩,a=>.agg [.sc (.int .u8 k),.sc (.string s),.sc (.int .i64 n),aW 4 (eT l (a+1)) a]
def eT:List Nd→Nat→List AV
 |[],_=>[]
 |t::r,a=>fF t a::eT r (a+t.size)
end
mutual
def gd:Nd→Nat→Y
 |⟨_,_,_,l⟩,a=>sg l (a+1)++[bS 4 25 (eT l (a+1))]
def sg:List Nd→Nat→Y
 |[],_=>[]
 |t::r,a=>sg r (a+t.size)++gd t a
end
theorem ey(t:Nd)(a:Nat):fF t a = .agg [.sc (.int .u8 t.kind),.sc (.string t.text),.sc (.int .i64 t.num),aW 4 (eT t.kids (a+1)) a]:=by cases t;simp[fF,Nd.kind,Nd.text,Nd.num,Nd.kids]
theorem zo(t:Nd)(a:Nat):gd t a=sg t.kids (a+1)++[bS 4 25 (eT t.kids (a+1))]:=by cases t;simp[gd,Nd.kids]
theorem gV(l:List Nd):∀a,(eT l a).length=l.length:=by
 induction l with
 |nil=>intro a;rfl
 |cons x r ih=>intro a;simp[eT,ih]
theorem iK(t:Nd):∀a,(gd t a).length=t.size:=by
 induction t using Nd.ind with
 |_ t ih =>
  intro a
  have key:∀(l:List Nd),(∀k∈l,∀a,(gd k a).length=k.size)→∀a,(sg l a).length=Nd.ay l:=by
   intro l
   induction l with
   |nil=>intro _ a;rfl
   |cons x r fC =>
    intro h a
    simp only[sg,List.length_append,Nd.ay,fC fun k hk=>h k (by simp[hk]),h x (by simp)]
    omega
  rw[zo,List.length_append,key _ ih,Nd.size_eq]
  simp
  omega
theorem ab9{H1:Y}{n0:Nat}{src:List Nat}(t:Nd):Gz H1 n0 src (eu t) (eu t):=by
 induction t using Nd.ind with
 |_ t ih =>
  have key:∀l:List Nd,(∀k∈l,Gz H1 n0 src (eu k) (eu k))→dt H1 n0 src (bh l) (bh l):=by
   intro l
   induction l with
   |nil=>intro _;exact .nil
   |cons x r fC=>intro h;exact .cons (h x (by simp)) (fC fun k hk=>h k (by simp[hk]))
  rw[ew]
  exact .agg (.cons (.same trivial) (.cons (.same trivial) (.cons (.same trivial) (.cons (.am (key _ ih)) .nil))))
theorem zq{H1:Y}{n0:Nat}{src:List Nat}(l:List Nd):dt H1 n0 src (bh l) (bh l):=by
 induction l with
 |nil=>exact .nil
 |cons x r ih=>exact .cons (ab9 x) ih
theorem LU(l:List Nd):∀(j a:Nat),j<l.length→(eT l a)[j]? = some (fF (aE l j) (a+Nd.ay (l.take j))):=by
 induction l with
 |nil=>intro j a h;simp at h
 |cons x r ih =>
  intro j a h
  cases j with
  |zero=>simp[eT,aE,Nd.ay]
  |succ j =>
   simp only[eT,List.getElem?_cons_succ,List.take_succ_cons,Nd.ay]
   rw[ih j (a+x.size) (by simpa using h)]
   simp[aE,Nat.add_assoc]
mutual
def AF:Nd→Nat→List (List AV)
 |⟨_,_,_,l⟩,a=>eT l (a+1)::lU l (a+1)
def lU:List Nd→Nat→List (List AV)
 |[],_=>[]
 |t::r,a=>AF t a++lU r (a+t.size)
end
theorem Cl(t:Nd)(a:Nat):AF t a=eT t.kids (a+1)::lU t.kids (a+1):=by cases t;simp[AF,Nd.kids]
theorem G3:∀(p q:List (Option aP))(H:Y),lays (p++q) H=lays q (lays p H)
 |[],_,_=>rfl
 |x::r,q,H=>by simp only[List.cons_append,lays,G3 r q]
def LV(l:List (List AV)):List (Option aP):=l.map (bS 4 25)
theorem G4(t:Nd):∀(a:Nat)(H:Y),gd t a++H=lays (LV (AF t a)) H:=by
 induction t using Nd.ind with
 |_ t ih =>
  intro a H
  have key:∀(l:List Nd),(∀k∈l,∀(a:Nat)(H:Y),gd k a++H=lays (LV (AF k a)) H)→∀(a:Nat)(H:Y),sg l a++H=lays (LV (lU l a)) H:=by
   intro l
   induction l with
   |nil=>intro _ a H;rfl
   |cons x r fC =>
    intro h a H
    simp only[sg,lU,LV,List.map_append,G3,List.append_assoc]
    have h1:=h x (by simp) a H
    have h2:=fC (fun k hk=>h k (by simp[hk])) (a+x.size) (lays (LV (AF x a)) H)
    rw[h1,h2]
    rfl
  rw[zo,Cl,List.append_assoc]
  have:=key t.kids ih (a+1) (bS 4 25 (eT t.kids (a+1))::H)
  rw[List.singleton_append,this]
  rfl
theorem G5{k id:Nat}{xs ys:List AV}(h:xs.length=ys.length):aW k xs id=aW k ys id:=by
 cases xs<;>cases ys<;>simp_all [aW]
theorem gW(t:Nd):∀a,(AF t a).length=t.size:=by
 induction t using Nd.ind with
 |_ t ih =>
  intro a
  have key:∀(l:List Nd),(∀k∈l,∀a,(AF k a).length=k.size)→∀a,(lU l a).length=Nd.ay l:=by
   intro l
   induction l with
   |nil=>intro _ a;rfl
   |cons x r fC =>
    intro h a
    simp only[lU,List.length_append,Nd.ay,fC fun k hk=>h k (by simp[hk]),h x (by simp)]
  rw[Cl,List.length_cons,key _ ih,Nd.size_eq]
  omega
theorem nA{n0:Nat}{src:List Nat}(hn:src.Nodup){i s:Nat}(h:src[i]? = some s)(hs:n0≤s):cP n0 src s=some (n0+i):=by
 unfold cP
 rw[if_neg (by omega),uZ hn h]
 rfl
def ahS(l:List Int):List AV:=l.map fun n=>.sc (.int .i64 n)
def lV:Nd→List Int→Option Nd
 |t,[]=>some t
 |t,k::r=>if 0≤k∧k<t.kids.length then lV (aE t.kids k.toNat) r else none
def dP(F:Y)(t:Nd)(a:Nat):Prop:=∀(i:Nat)(xs:List AV),(AF t a)[i]? = some xs→Y.find F (a+i)=bS 4 25 xs
def jc(F:Y)(l:List Nd)(a:Nat):Prop:=∀(i:Nat)(xs:List AV),(lU l a)[i]? = some xs→Y.find F (a+i)=bS 4 25 xs
theorem dP.head{F:Y}{t:Nd}{a:Nat}(h:dP F t a):Y.find F a=bS 4 25 (eT t.kids (a+1)):=h 0 _ (by rw[Cl];rfl)
theorem dP.kids{F:Y}{t:Nd}{a:Nat}(h:dP F t a):jc F t.kids (a+1):=fun i xs hx=>by
 rw[show a+1+i=a+(i+1) by omega]
 exact h (i+1) xs (by rw[Cl,List.getElem?_cons_succ];exact hx)
theorem jc.first{F:Y}{t:Nd}{r:List Nd}{a:Nat}(h:jc F (t::r) a):dP F t a:=fun i xs hx=>by
 refine h i xs ?_
 simp only[lU]
 rw[List.getElem?_append_left (List.getElem?_eq_some_iff.1 hx).1]
 exact hx
theorem jc.rest{F:Y}{t:Nd}{r:List Nd}{a:Nat}(h:jc F (t::r) a):jc F r (a+t.size):=fun i xs hx=>by
 rw[show a+t.size+i=a+(t.size+i) by omega]
 refine h (t.size+i) xs ?_
 simp only[lU]
 rw[List.getElem?_append_right (by rw[gW];omega),gW,Nat.add_sub_cancel_left]
 exact hx
theorem j5{t:Nd}{H:Y}:dP (gd t H.length++H) t H.length:=fun i xs hx=>by
 rw[G4]
 exact r9 (by simp[LV,hx])
theorem dP.of{F G:Y}{t:Nd}{a:Nat}(h:dP F t a)(hs:∀i,a≤i→i<a+t.size→Y.find G i=Y.find F i):dP G t a:=fun i xs hx=>by
 have hi:=(List.getElem?_eq_some_iff.1 hx).1
 rw[gW] at hi
 rw[hs _ (by omega) (by omega)]
 exact h i xs hx
theorem AG{F:Y}(t:Nd):∀{a:Nat},dP F t a→View F (fF t a) (eu t):=by
 induction t using Nd.ind with
 |_ t ih =>
  intro a h
  have key:∀(l:List Nd),(∀k∈l,∀{a:Nat},dP F k a→View F (fF k a) (eu k))→∀a,jc F l a→cJ F (eT l a) (bh l):=by
   intro l
   induction l with
   |nil=>intro _ a _;exact .nil
   |cons x r fC =>
    intro hx a hl
    exact .cons (hx x (by simp) hl.first) (fC (fun k hk=>hx k (by simp[hk])) _ hl.rest)
  rw[ey,ew]
  exact .agg (.cons .sc (.cons .sc (.cons .sc (.cons (cJ.own (fun _=>h.head) (key _ ih _ h.kids)) .nil))))
def D5(x:ByteArray):List Int→Nd→Nd
 |[],t=>⟨t.kind,x,t.num,t.kids⟩
 |q::r,t=>⟨t.kind,t.text,t.num,t.kids.set q.toNat (D5 x r (aE t.kids q.toNat))⟩
theorem YP(f g:List Int→Bool)(x:ByteArray)(t:Nd):∀p,bN f x (bN g x t p) p=bN (fun q=>g q|| f q) x t p:=by
 induction t using Nd.ind with
 |_ t ih =>
  intro p
  have key:∀(l:List Nd),(∀k∈l,∀p,bN f x (bN g x k p) p=bN (fun q=>g q|| f q) x k p)→∀i,dN f x (dN g x l p i) p i=dN (fun q=>g q|| f q) x l p i:=by
   intro l
   induction l with
   |nil=>intro _ _;rfl
   |cons k r fC =>
    intro hk i
    simp only[dN]
    rw[hk k (by simp),fC fun k' hk'=>hk k' (by simp[hk'])]
  refine Nd.ext' ?_ ?_ ?_ ?_
  ·rw[qg,qg,qg]
  ·rw[r8,r8,r8]
   cases f p<;>cases g p<;>rfl
  ·rw[wh,wh,wh]
  ·rw[n8,n8,n8,key t.kids ih 0]
theorem G6{l m:List Nd}(h:l.length=m.length)(k:∀j,j<l.length→aE l j=aE m j):l=m :=
 List.ext_getElem h fun j h1 h2=>by
  have:=k j h1
  rwa [eH h1,eH h2] at this
theorem tt(t:Nd):∀(p:List Int)(b:Pl),b∈bI t p→∃s,b.p=p++s∧(lV t s).isSome=true:=by
 induction t using Nd.ind with
 |_ t ih =>
  intro p b hb
  rw[cR] at hb
  rcases List.mem_cons.1 hb with rfl|hb
  ·exact ⟨[],by simp,rfl⟩
  ·obtain ⟨j,u,⟨h1,h2⟩,h3⟩:=eS _ _ _ _ hb
   rw[Nat.sub_zero] at h2
   obtain ⟨hl,he⟩:=List.getElem?_eq_some_iff.1 h2
   obtain ⟨s,e1,e2⟩:=ih u (List.mem_of_getElem? h2) _ b h3
   refine ⟨(j:Int)::s,by rw[e1];simp,?_⟩
   rw[lV,if_pos ⟨by omega,by omega⟩,Int.toNat_natCast,eH hl,he]
   exact e2
theorem vy(f:List Int→Bool)(x:ByteArray):∀(s:List Int)(t:Nd)(p:List Int),(lV (bN f x t p) s).isSome=(lV t s).isSome
 |[],_,_=>rfl
 |q::r,t,p=>by
  rw[lV,lV,n8,eG]
  split
  ·rename_i c
   have hl:q.toNat<t.kids.length:=by omega
   rw[qd f x _ _ _ _ hl,vy f x r]
  ·rfl
theorem D6(x:ByteArray):∀(s:List Int)(t:Nd)(p:List Int),(lV t s).isSome=true→bN (bX [p++s]) x t p=D5 x s t
 |[],t,p,_=>by
  refine Nd.ext' qg ?_ wh ?_
  ·rw[r8,if_pos (by simp[bX])]
   rfl
  ·rw[n8]
   show _=t.kids
   refine G6 (eG _ _ _ _ _) fun j hj=>?_
   rw[eG] at hj
   rw[qd _ _ _ _ _ _ hj]
   refine LI _ _ _ _ fun b hb hf=>?_
   obtain ⟨s,e1,_⟩:=tt _ _ _ hb
   simp[bX,e1] at hf
 |q::r,t,p,h=>by
  rw[lV] at h
  split at h
  ·rename_i c
   have hl:q.toNat<t.kids.length:=by omega
   obtain ⟨m,rfl⟩:∃m:Nat,q=m:=⟨q.toNat,by omega⟩
   rw[Int.toNat_natCast] at h hl
   refine Nd.ext' qg ?_ wh ?_
   ·rw[r8,if_neg (by simp[bX])]
    rfl
   ·rw[n8]
    show _=t.kids.set (Int.toNat (m:Int)) (D5 x r (aE t.kids (Int.toNat (m:Int))))
    rw[Int.toNat_natCast]
    refine G6 (by rw[eG,List.length_set]) fun j hj=>?_
    rw[eG] at hj
    rw[qd _ _ _ _ _ _ hj,Nat.zero_add]
    by_cases e:j=m
    ·subst e
     have e2:p++((j:Int)::r)=(p++[(j:Int)])++r:=by simp
     rw[e2,D6 x r _ _ h]
     rw[eH (l:=t.kids.set _ _) (by rw[List.length_set];exact hj),List.getElem_set_self]
    ·rw[eH (l:=t.kids.set _ _) (by rw[List.length_set];exact hj),List.getElem_set_ne (fun h=>e h.symm),←eH hj]
     refine LI _ _ _ _ fun b hb hf=>?_
     obtain ⟨s,e1,_⟩:=tt _ _ _ hb
     simp only[bX,e1,List.any_cons,List.any_nil,Bool.or_false,decide_eq_true_eq] at hf
     have hs:(m:Int)=(j:Int):=by
      have:=List.append_cancel_left (hf.trans (List.append_assoc p [(j:Int)] s))
      simpa using (List.cons.inj this).1
     omega
  ·simp at h
theorem LW{ps:List (List Int)}{q:List Int}:(fun z=>bX ps z|| bX [q] z)=bX (ps++[q]):=by
 funext z
 simp[bX]
theorem YQ{x:ByteArray}{n:Nd}{ps:List (List Int)}{q:List Int}(h:(lV n q).isSome=true):D5 x q (bN (bX ps) x n [])=bN (bX (ps++[q])) x n []:=by
 rw[←D6 x q _ [] (by rw[vy];exact h),List.nil_append,YP,LW]
theorem Un{x:ByteArray}{n:Nd}{q:List Int}(h:(lV n q).isSome=true):D5 x q n=bN (bX [q]) x n []:=(D6 x q n [] h).symm
theorem LX{n:Nd}{i:Nat}{q:List Int}(h:q∈e8 (bI n []) (bI n []) i):(lV n q).isSome=true:=by
 unfold e8 at h
 obtain ⟨b,hb,rfl⟩:=List.mem_map.1 h
 obtain ⟨s,e1,e2⟩:=tt _ _ _ ((List.mem_filter.1 hb).1)
 rw[List.nil_append] at e1
 rw[e1]
 exact e2
theorem Fx{n:Nd}(h:iA n=true){b:ky}(hb:b∈bQ n):(lV n b.1).isSome=true∧∀q∈b.2.2,(lV n q).isSome=true:=by
 rw[Bz h] at hb
 obtain ⟨i,hi,rfl⟩:=List.mem_map.1 hb
 refine ⟨?_,fun q hq=>LX hq⟩
 obtain ⟨s,e1,e2⟩:=tt _ _ _ (Ue (LH.1 hi).1)
 rw[List.nil_append] at e1
 show (lV n (au (bI n []) i).p).isSome=true
 rw[e1]
 exact e2
theorem PG{l:List Pl}:(dIx l).Nodup:=List.nodup_range.filter _
theorem LY{n:Nd}(h:iA n=true):((bQ n).map (·.1)).Nodup:=by
 rw[Bz h,List.map_map]
 have:∀(L:List Nat),L.Nodup→(∀i∈L,i<(bI n []).length)→(L.map ((·.1)∘adj (bI n []))).Nodup:=by
  intro L
  induction L with
  |nil=>intro _ _;simp
  |cons a r ih =>
   intro h1 h2
   rw[List.nodup_cons] at h1
   rw[List.map_cons,List.nodup_cons]
   refine ⟨fun hm=>?_,ih h1.2 fun i hi=>h2 i (by simp[hi])⟩
   obtain ⟨c,hc,e⟩:=List.mem_map.1 hm
   have:=ab4 (Pw n []) (h2 c (by simp[hc])) (h2 a (by simp)) e
   exact h1.1 (this▸hc)
 exact this _ PG fun i hi=>(LH.1 hi).1
theorem Uo{l:List ky}{path:List Int}(hn:(l.map (·.1)).Nodup){k:Nat}(hk:k<l.length)(e:(l[k]).1=path):l.find? (fun b=>decide (b.1=path))=some l[k]:=by
 induction l generalizing k with
 |nil=>simp at hk
 |cons a r ih =>
  rw[List.map_cons,List.nodup_cons] at hn
  cases k with
  |zero =>
   simp only[List.getElem_cons_zero] at e ⊢
   rw[List.find?_cons_of_pos (by simpa using e)]
  |succ k =>
   simp only[List.getElem_cons_succ] at e ⊢
   rw[List.find?_cons_of_neg (by
    simp only[decide_eq_true_eq]
    intro c
    exact hn.1 (List.mem_map.2 ⟨r[k]'(by simpa using hk),List.getElem_mem _,by rw[e,c]⟩))]
   exact ih hn.2 (by simpa using hk) e
theorem D7:∀(p:List Int)(t:Nd),(lV t p).isSome=true→p.length≤t.size
 |[],t,_=>by simp
 |q::r,t,h=>by
  rw[lV] at h
  split at h
  ·rename_i c
   have h1:=D7 r _ h
   have h2:=Nd.pf (eJ (l:=t.kids) (k:=q.toNat) (by omega))
   simp only[List.length_cons]
   omega
  ·simp at h
def adt:IC:=(.seq (.ops [iP 2 (.mv kF)]) (.seq (.ops [iM 3 0,iP 4 (.bV (.t 3)),iP 5 (.an 0 (.t 4)),iH 6 (yD 1 5),iH 7 (.call 83 [(.t 6)]),iM 8 7,gM 9 8 true 0,gP 10 8 true (.bV (.t 9)),gP 11 8 true (.an 1 (.t 10)),gH 12 8 true (yD 1 11),gH 13 8 true (.call 84 [(.t 12)]),iP 14 (.pick (.t 8) (.t 13) kF),iM 15 14,gM 16 15 true 0,gP 17 15 true (.bV (.t 16)),gP 18 15 true (.an 2 (.t 17)),gH 19 15 true (yD 1 18),gH 20 15 true (.call 85 [(.t 19)]),iP 21 (.pick (.t 15) (.t 20) kF),iM 22 21,gM 23 22 true 0,gP 24 22 true (.bV (.t 23)),gP 25 22 true (.an 3 (.t 24)),gH 26 22 true (yD 1 25),gH 27 22 true (.call 86 [(.t 26)]),iP 28 (.pick (.t 22) (.t 27) kF),iM 29 28,gM 30 29 true 0,gP 31 29 true (.bV (.t 30)),gP 32 29 true (.an 4 (.t 31)),gH 33 29 true (yD 1 32),gH 34 29 true (.call 87 [(.t 33)]),iP 35 (.pick (.t 29) (.t 34) kF),iM 36 35,gM 37 36 true 0,gP 38 36 true (.bV (.t 37)),gP 39 36 true (.an 5 (.t 38)),gH 40 36 true (yD 1 39),gH 41 36 true (.call 88 [(.t 40)]),iP 42 (.pick (.t 36) (.t 41) kF),iM 43 42,gM 44 43 true 0,gP 45 43 true (.bV (.t 44)),gP 46 43 true (.an 6 (.t 45)),gH 47 43 true (yD 1 46),gH 48 43 true (.call 89 [(.t 47)]),iP 49 (.pick (.t 43) (.t 48) kF),iM 50 49,gM 51 50 true 0,gP 52 50 true (.bV (.t 51)),gP 53 50 true (.an 7 (.t 52)),gH 54 50 true (yD 1 53),gH 55 50 true (.call 90 [(.t 54)]),iP 56 (.pick (.t 50) (.t 55) kF),iM 57 56,gM 58 57 true 0,gP 59 57 true (.bV (.t 58)),gP 60 57 true (.an 8 (.t 59)),gH 61 57 true (yD 1 60),gH 62 57 true (.call 91 [(.t 61)]),iP 63 (.pick (.t 57) (.t 62) kF),iM 64 63,gM 65 64 true 0,gP 66 64 true (.bV (.t 65)),gP 67 64 true (.an 9 (.t 66)),gH 68 64 true (yD 1 67),gH 69 64 true (.call 92 [(.t 68)]),iP 70 (.pick (.t 64) (.t 69) kF),iM 71 70,gM 72 71 true 0,gP 73 71 true (.bV (.t 72)),gP 74 71 true (.an 10 (.t 73)),gH 75 71 true (yD 1 74),gH 76 71 true (.call 93 [(.t 75)]),iP 77 (.pick (.t 71) (.t 76) kF),iM 78 77,gM 79 78 true 0,gP 80 78 true (.bV (.t 79)),gP 81 78 true (.an 11 (.t 80)),gH 82 78 true (yD 1 81),gH 83 78 true (.call 94 [(.t 82)]),iP 84 (.pick (.t 78) (.t 83) kF),iM 85 84,gM 86 85 true 0,gP 87 85 true (.bV (.t 86)),gP 88 85 true (.an 12 (.t 87)),gH 89 85 true (yD 1 88),gH 90 85 true (.call 95 [(.t 89)]),iP 91 (.pick (.t 85) (.t 90) kF),iM 92 91,gM 93 92 true 0,gP 94 92 true (.bV (.t 93)),gP 95 92 true (.an 13 (.t 94)),gH 96 92 true (yD 1 95),gH 97 92 true (.call 96 [(.t 96)]),iP 98 (.pick (.t 92) (.t 97) kF),iM 99 98,gM 100 99 true 0,gP 101 99 true (.bV (.t 100)),gP 102 99 true (.an 14 (.t 101)),gH 103 99 true (yD 1 102),gH 104 99 true (.call 97 [(.t 103)]),iP 105 (.pick (.t 99) (.t 104) kF),iM 106 105,gM 107 106 true 0,gP 108 106 true (.bV (.t 107)),gP 109 106 true (.an 15 (.t 108)),gH 110 106 true (yD 1 109),gH 111 106 true (.call 98 [(.t 110)]),iP 112 (.pick (.t 106) (.t 111) kF),iM 113 112,gM 114 113 true 0,gP 115 113 true (.bV (.t 114)),gP 116 113 true (.an 16 (.t 115)),gH 117 113 true (yD 1 116),gH 118 113 true (.call 99 [(.t 117)]),iP 119 (.pick (.t 113) (.t 118) kF),iM 120 119,gM 121 120 true 0,gP 122 120 true (.bV (.t 121)),gP 123 120 true (.an 17 (.t 122)),gH 124 120 true (yD 1 123),gH 125 120 true (.call 100 [(.t 124)]),iP 126 (.pick (.t 120) (.t 125) kF),iM 127 126,gM 128 127 true 0,gP 129 127 true (.bV (.t 128)),gP 130 127 true (.an 18 (.t 129)),gH 131 127 true (yD 1 130),gH 132 127 true (.call 101 [(.t 131)]),iP 133 (.pick (.t 127) (.t 132) kF),iM 134 133,gM 135 134 true 0,gP 136 134 true (.bV (.t 135)),gP 137 134 true (.an 19 (.t 136)),gH 138 134 true (yD 1 137),gH 139 134 true (.call 102 [(.t 138)]),iP 140 (.pick (.t 134) (.t 139) kF),iM 141 140,gM 142 141 true 0,gP 143 141 true (.bV (.t 142)),gP 144 141 true (.an 20 (.t 143)),gH 145 141 true (yD 1 144),gH 146 141 true (.call 103 [(.t 145)]),iP 147 (.pick (.t 141) (.t 146) kF),iM 2 147]) .ret))
theorem ahT:Dk Tryz.prog 52 adt [(.t 2)] 148:=aV Tryz.func52
def adu:IC:=(.seq (.ops [iP 4 (xI 0)]) (.seq (.ops [iM 5 0,iP 6 (.aN .add (.t 5) (kI 7)),iP 7 (.aN .mul (kI 1000003) (.t 6)),iM 8 1,iP 9 (xB .add 7 8),iM 4 9]) .ret))
theorem ahU:Dk Tryz.prog 39 adu [(.t 4)] 10:=aV Tryz.func39
def gr(k i:Int):Int:=IntKind.i64.wrap (IntKind.i64.wrap (1000003*IntKind.i64.wrap (k+7))+i)
theorem IZ(k i:Int)(H:Y):D Tryz.prog 39 [.sc (.int .i64 k),.sc (.int .i64 i)] H (.ret (.sc (.int .i64 (gr k i)))) H:=by
 refine aG (Nat.le_refl _) (ahU (aA ?_))
 unfold gr
 simp -implicitDefEqProofs (maxSteps:=99999999) only[adu,va,vs,vh,↓reduceIte]
 exact eB.refl _ _ _
def adw:IC:=(.seq (.ops [iP 2 (.mv (.k bG))]) (.seq (.ops [iM 5 0,iP 6 (xL 5),iP 7 (.aN .add (.t 6) (kI 12)),iH 8 (.jM 1 3 (.sc (.int .i64 0)) (kI 0) (.t 7)),iM 3 8]) (.seq (.ops [iM 9 3,iM 10 0,iH 11 (.ez 1 3 (.t 9) (.t 10)),iM 3 11]) (.seq (.seq (.ops [iP 4 (xI 0)]) (.block 0 (.loop (.seq (.seq (.ops [iM 12 4,iP 13 (.aN .lss (.t 12) (kI 12))]) (.cond (.t 13) .skip (.exit 0))) (.seq (.block 1 (.ops [iM 16 3,iM 17 4,iH 18 (.call 39 [(kI 1),(.t 17)]),iH 19 (.ep 1 3 (.sc (.int .i64 0)) 1 [(0,(.t 18))]),iH 20 (.ez 1 3 (.t 16) (.t 19)),iM 3 20])) (.ops [iM 14 4,iP 15 (.aN .add (.t 14) (kI 1)),iM 4 15])))))) (.seq (.ops [iM 21 3,iM 22 0,iP 23 (xL 22),iP 24 (.qB 1 (.t 21) none (some (.t 23)) none),iM 2 24]) .ret)))))
theorem ahV:Dk Tryz.prog 13 adw [(.t 2)] 25:=aV Tryz.func13
def adx:IC:=(.seq (.ops [iP 4 (.mv kF)]) (.seq (.seq (.ops [iM 6 0,iP 7 (xL 6),iM 8 1,iP 9 (xL 8),iP 10 (xB .neq 7 9)]) (.cond (.t 10) (.seq (.ops [iP 4 (.mv kF)]) .ret) .skip)) (.seq (.seq (.ops [iP 5 (xI 0)]) (.block 0 (.loop (.seq (.seq (.ops [iM 11 5,iM 12 0,iP 13 (xL 12),iP 14 (xB .lss 11 13)]) (.cond (.t 14) .skip (.exit 0))) (.seq (.block 1 (.seq (.di [iM 17 0,iM 18 5,iP 19 (xA 1 17 18),iH 20 (yD 1 19),iM 21 1,iM 22 5,iP 23 (xA 1 21 22),iH 24 (yD 1 23),iP 25 (xB .neq 20 24)] [[],[],[0,1],[2,0,1],[],[],[4,5],[6,4,5],[3,2,0,1,7,6,4,5]]) (.cond (.t 25) (.seq (.ops [iP 4 (.mv kF)]) .ret) .skip))) (.ops [iM 15 5,iP 16 (.aN .add (.t 15) (kI 1)),iM 5 16])))))) (.seq (.ops [iP 4 (.mv kT)]) .ret))))
theorem ahW:Dk Tryz.prog 26 adx [(.t 4)] 26:=aV Tryz.func26
def ady:IC:=(.seq (.ops [iP 4 (.mv kF)]) (.seq (.seq (.ops [iM 7 0,iP 8 (xL 7),iM 9 1,iP 10 (xL 9),iP 11 (xB .neq 8 10)]) (.cond (.t 11) (.seq (.ops [iP 4 (.mv kF)]) .ret) .skip)) (.seq (.ops [iM 12 0,iM 13 1,iP 14 (xL 13),iP 15 (.aN .add (.t 14) (kI 12)),iP 16 (.qB 1 (.t 12) none (some (.t 15)) none),iM 5 16]) (.seq (.seq (.ops [iP 6 (xI 0)]) (.block 0 (.loop (.seq (.seq (.ops [iM 17 6,iM 18 5,iP 19 (xL 18),iP 20 (xB .lss 17 19)]) (.cond (.t 20) .skip (.exit 0))) (.seq (.block 1 (.seq (.di [iM 23 6,iM 24 1,iP 25 (xL 24),iP 26 (xB .lss 23 25),iM 27 26,gM 28 27 true 5,gM 29 27 true 6,gP 30 27 true (xA 1 28 29),gH 31 27 true (yD 1 30),gM 32 27 true 1,gM 33 27 true 6,gP 34 27 true (xA 1 32 33),gH 35 27 true (yD 1 34),gP 36 27 true (xB .eql 31 35),gP 37 27 true (xN 36),iP 38 (.pick (.t 27) (.t 37) kF),iM 39 38,gM 40 39 false 6,gM 41 39 false 1,gP 42 39 false (xL 41),gP 43 39 false (xB .geq 40 42),gM 44 39 false 43,gM 45 44 true 5,gM 46 44 true 6,gP 47 44 true (xA 1 45 46),gH 48 44 true (yD 1 47),gM 49 44 true 6,gM 50 44 true 1,gP 51 44 true (xL 50),gP 52 44 true (xB .sub 49 51),gH 53 44 true (.call 39 [(kI 1),(.t 52)]),gP 54 44 true (xB .eql 48 53),gP 55 44 true (xN 54),gP 56 39 false (.pick (.t 44) (.t 55) kF),iP 57 (.pick (.t 39) kT (.t 56))] [[],[],[1],[0,2,1],[3,0,2,1],[4,3,0,2,1],[4,3,0,2,1],[5,4,3,0,2,1,6],[7,5,4,3,0,2,1,6],[4,3,0,2,1],[4,3,0,2,1],[9,4,3,0,2,1,10],[11,9,4,3,0,2,1,10],[8,7,5,4,3,0,2,1,6,12,11,9,10],[13,8,7,5,4,3,0,2,1,6,12,11,9,10],[4,3,0,2,1,14,13,8,7,5,6,12,11,9,10],[15,4,3,0,2,1,14,13,8,7,5,6,12,11,9,10],[16,15,4,3,0,2,1,14,13,8,7,5,6,12,11,9,10],[16,15,4,3,0,2,1,14,13,8,7,5,6,12,11,9,10],[18,16,15,4,3,0,2,1,14,13,8,7,5,6,12,11,9,10],[17,16,15,4,3,0,2,1,14,13,8,7,5,6,12,11,9,10,19,18],[20,17,16,15,4,3,0,2,1,14,13,8,7,5,6,12,11,9,10,19,18],[21,20,17,16,15,4,3,0,2,1,14,13,8,7,5,6,12,11,9,10,19,18],[21,20,17,16,15,4,3,0,2,1,14,13,8,7,5,6,12,11,9,10,19,18],[22,21,20,17,16,15,4,3,0,2,1,14,13,8,7,5,6,12,11,9,10,19,18,23],[24,22,21,20,17,16,15,4,3,0,2,1,14,13,8,7,5,6,12,11,9,10,19,18,23],[21,20,17,16,15,4,3,0,2,1,14,13,8,7,5,6,12,11,9,10,19,18],[21,20,17,16,15,4,3,0,2,1,14,13,8,7,5,6,12,11,9,10,19,18],[27,21,20,17,16,15,4,3,0,2,1,14,13,8,7,5,6,12,11,9,10,19,18],[26,21,20,17,16,15,4,3,0,2,1,14,13,8,7,5,6,12,11,9,10,19,18,28,27],[29,26,21,20,17,16,15,4,3,0,2,1,14,13,8,7,5,6,12,11,9,10,19,18,28,27],[25,24,22,21,20,17,16,15,4,3,0,2,1,14,13,8,7,5,6,12,11,9,10,19,18,23,30,29,26,28,27],[31,25,24,22,21,20,17,16,15,4,3,0,2,1,14,13,8,7,5,6,12,11,9,10,19,18,23,30,29,26,28,27],[21,20,17,16,15,4,3,0,2,1,14,13,8,7,5,6,12,11,9,10,19,18,32,31,25,24,22,23,30,29,26,28,27],[16,15,4,3,0,2,1,14,13,8,7,5,6,12,11,9,10,33,21,20,17,19,18,32,31,25,24,22,23,30,29,26,28,27]]) (.cond (.t 57) (.seq (.ops [iP 4 (.mv kF)]) .ret) .skip))) (.ops [iM 21 6,iP 22 (.aN .add (.t 21) (kI 1)),iM 6 22])))))) (.seq (.ops [iP 4 (.mv kT)]) .ret)))))
theorem ahX:Dk Tryz.prog 17 ady [(.t 4)] 58:=aV Tryz.func17
def aK(l:List Int):List AV:=l.map fun i=>.sc (.int .i64 i)
theorem aB(l:List Int):(aK l).length=l.length:=by simp[aK]
theorem G7:aK []=[]:=rfl
theorem xC(s:Int)(l:List Int):aK (s::l) = .sc (.int .i64 s)::aK l:=rfl
theorem zt(a b:List Int):aK (a++b)=aK a++aK b:=by simp[aK]
def n9(xs:List Int)(k:Nat):Int:=xs.getD k 0
theorem vz{xs:List Int}{k:Nat}(h:k<xs.length):n9 xs k=xs[k]:=by simp[n9,List.getD,h]
theorem lW{l:List Int}{k:Nat}(h:k<l.length):(aK l).getD k .top = .sc (.int .i64 (n9 l k)):=by
 simp[aK,n9,List.getD,h]
theorem G8{xs ys:List Int}(hl:xs.length=ys.length)(h:∀i,i<xs.length→n9 xs i=n9 ys i):xs=ys:=by
 apply List.ext_getElem hl
 intro i h1 h2
 have:=h i h1
 rwa [vz h1,vz h2] at this
theorem si{H:Y}{n:Nat}{src:List Nat}:∀{l:List Int},dt H n src (aK l) (aK l)
 |[]=>.nil
 |_::_=>.cons (.same trivial) si
theorem D8{H:Y}{l:List Int}{r:Option (List AV)}:View H (.am 1 (aK l) r) (.am 1 (aK l) none):=.am cJ.Tk
theorem oa(a b:List Int)(ra rb:Option (List AV))(H:Y)(hl:a.length≤100000000):D Tryz.prog 26 [.am 1 (aK a) ra,.am 1 (aK b) rb] H (.ret (.sc (.bool (decide (a=b))))) H:=by
 refine aG (Nat.le_refl _) (ahW (aA ?_))
 simp -implicitDefEqProofs (maxSteps:=99999999) (disch:=omega) only[aB,adx,va,vg,vs,vh,vk,simprocAttr]
 refine dz (fun h=>?_) (fun h=>?_)
 ·have hne:¬a=b:=fun e=>by simp[e] at h
  refine yT (ak @aB hne) ?_
  exact bL .refl
 have eK:a.length=b.length:=by omega
 refine yT @aB ?_
 refine Dh (fun ts H'=>H'=H∧∃k:Nat,(k≤a.length∧∀j,j<k→n9 a j=n9 b j)∧Fr (some (.am 1 (aK a) ra)::some (.am 1 (aK b) rb)::none::none::some (.sc (.bool false))::some (.sc (.int .i64 k))::fg (dL [])) ts) (fun ts _=>a.length-(aM (ts.getD 5 .top)).toNat) ?_ ?_
 ·exact ⟨rfl,0,⟨Nat.zero_le _,fun j h=>absurd h (Nat.not_lt_zero _)⟩,by simp[Fr]⟩
 rintro ts _ ⟨rfl,k,⟨hk,hp⟩,aX⟩
 obtain ⟨js,rfl⟩:=aX.opened
 clear aX
 refine zI1 @aB ?_
 refine dz (fun h=>?_) (fun h=>?_)
 ·have h1:k<a.length:=by omega
  have h2:k<b.length:=by omega
  simp -implicitDefEqProofs (maxSteps:=99999999) (disch:=omega) only[aB,lW h1,lW h2,va,vg,vs,vh,vk,simprocAttr]
  refine ⟨by omega,by omega,dz (fun h=>?_) (fun h=>?_)⟩
  ·have hne:¬a=b:=fun e=>by simp[e] at h
   refine yT (ak @aB hne) ?_
   exact bL .refl
  ·refine yT @aB ?_
   refine ⟨⟨k+1,⟨by omega,fun j hj=>?_⟩,by simp[Fr]⟩,by omega⟩
   rcases Nat.lt_succ_iff_lt_or_eq.1 hj with h'|rfl
   ·exact hp j h'
   ·exact Classical.not_not.1 h
 ·have hab:a=b:=G8 eK (fun i hi=>hp i (by omega))
  refine yT (ak @aB hab) ?_
  exact bL .refl
def mB(j:Nat):List Int:=(List.range j).map fun i:Nat=>gr 1 (i:Int)
theorem pn{j:Nat}:(mB j).length=j:=by simp[mB]
theorem PH{j:Nat}:mB (j+1)=mB j++[gr 1 j]:=by simp[mB,List.range_succ]
def nB(l:List Int)(j:Nat):List AV:=aK (l++mB j)++List.replicate (12-j) (.sc (.int .i64 0))
theorem Fy{l:List Int}{j:Nat}(h:j≤12):(nB l j).length=l.length+12:=by
 simp[nB,aB,pn];omega
theorem I0{l:List Int}:aK l++List.drop l.length (List.replicate (l.length+12) (.sc (.int .i64 0)))=nB l 0:=by
 simp[nB,mB]
theorem PI{l:List Int}{j:Nat}(h:j<12):(nB l j).take (l.length+j)++(.sc (.int .i64 (gr 1 j))::(nB l j).drop (l.length+(j+1)))=nB l (j+1):=by
 have h1:(aK (l++mB j)).length=l.length+j:=by simp[aB,pn]
 unfold nB
 rw[List.take_append_of_le_length (by omega),List.take_of_length_le (by omega),List.drop_append,List.drop_of_length_le (by omega),h1,PH,←List.append_assoc,zt]
 rw[show l.length+(j+1)-(l.length+j)=1 from by omega,List.drop_replicate,show 12-j-1=12-(j+1) from by omega]
 simp[aK]
theorem LZ(l:List Int)(ro:Option (List AV))(H:Y)(hl:l.length≤1000000):D Tryz.prog 13 [.am 1 (aK l) ro] H (.ret (.aD 1 H.length 0 l.length (some (l.length+12)))) (some ⟨1,aK (l++mB 12),true,3⟩::H):=by
 refine aG (by simp) (ahV (aA ?_))
 simp only[adw,ux]
 obtain ⟨m,hm⟩:∃m,m=l.length+12:=⟨_,rfl⟩
 have D9:((l.length:Int)+12).toNat=m:=by omega
 have cm:l.length≤m:=by omega
 have hS:aK l++List.drop l.length (List.replicate m (.sc (.int .i64 0)))=nB l 0:=by rw[hm];exact I0
 rw[←hm]
 refine Z fun L hL=>?_
 refine yT @aB ?_
 refine hL _ _ ?_
 clear hL
 refine Z fun L hL=>?_
 refine yT (ak @aB D9) ?_
 refine ⟨by omega,?_⟩
 refine hL _ _ ?_
 clear hL
 refine Z fun L hL=>?_
 simp -implicitDefEqProofs (maxSteps:=99999999) (disch:=omega) only[aB,D9,List.length_replicate,cm,hS,va,vg,vs,vh,vk,simprocAttr]
 refine ⟨by omega,?_⟩
 refine hL _ _ ?_
 clear hL
 refine Z fun L hL=>?_
 refine yT (ak @aB D9) ?_
 refine aZ (fun ts H'=>∃j:Nat,j≤12∧H'=some ⟨1,nB l j,true,3⟩::H∧Fr (some (.am 1 (aK l) ro)::none::none::some (.aD 1 H.length 0 (l.length+j) (some m))::some (.sc (.int .i64 j))::fg (dL [])) ts) (fun ts _=>12-(aM (ts.getD 4 .top)).toNat) ⟨0,by omega,rfl,by simp[Fr]⟩ ?_
 rintro ts _ ⟨j,hj,rfl,aX⟩ L2 bM
 obtain ⟨js,rfl⟩:=aX.opened
 clear aX
 refine zI1 @aB ?_
 refine dz (fun h=>?_) (fun h=>?_)
 ·have h1:j<12:=by omega
  have c1:l.length+(j+1)≤m:=by omega
  refine yT @aB ?_
  refine ae (IZ _ _ _) ?_
  have hlen:(nB l j).length=m:=by rw[Fy hj,hm]
  simp -implicitDefEqProofs (maxSteps:=99999999) (disch:=omega) only[aB,hlen,PI h1,c1,va,vg,vs,vh,vk,simprocAttr]
  exact ⟨by omega,bM _ _ ⟨j+1,by omega,rfl,by simp[Fr]⟩ (by simp[aM,mk];omega)⟩
 ·have h1:j=12:=by omega
  subst h1
  refine hL _ _ ?_
  clear hL
  have c2:0<m:=by omega
  have e2:nB l 12=aK (l++mB 12):=by simp[nB]
  refine yT (ei @aB c2 @Nat.sub_zero e2) ?_
  exact ⟨⟨by omega,rfl,by omega,by omega⟩,eB.refl _ _ _⟩
theorem Uq{l:List Int}{j n:Nat}(h:j<n):n9 (l++mB n) (l.length+j)=gr 1 j:=by
 rw[vz (by simp[pn];exact h)]
 rw[List.getElem_append_right (by omega)]
 simp[mB]
theorem Ur{l m:List Int}{k:Nat}(h:k<l.length):n9 (l++m) k=n9 l k:=by
 rw[vz (by simp;omega),vz h,List.getElem_append_left h]
theorem L0(l:List Int)(rl:Option (List AV))(H:Y)(id:Nat)(ty:TypeId)(hf:Y.find H id=some ⟨1,aK (l++mB 12),true,ty⟩)(hl:l.length≤1000000) :
  D Tryz.prog 17 [.aD 1 id 0 l.length (some (l.length+12)),.am 1 (aK l) rl] H (.ret (.sc (.bool true))) H:=by
 refine aG (Nat.le_refl _) (ahX (aA ?_))
 simp only[ady,ux]
 obtain ⟨m,hm⟩:∃m,m=l.length+12:=⟨_,rfl⟩
 have D9:((l.length:Int)+12).toNat=m:=by omega
 have c0:0<m:=by omega
 have hlen:(l++mB 12).length=m:=by simp[pn];omega
 rw[←hm]
 refine Z fun L hL=>?_
 refine eQ @aB ?_
 refine hL _ _ ?_
 clear hL
 refine Z fun L hL=>?_
 simp -implicitDefEqProofs (maxSteps:=99999999) (disch:=first|omega|(simp only[vl]<;>omega)) only[aB,ne_eq,va,vg,vs,vw,vk,simprocAttr]
 refine hL _ _ ?_
 clear hL
 refine Z fun L hL=>?_
 refine eQ (ei @aB D9 c0 @Nat.sub_zero) ?_
 refine ⟨⟨by omega,rfl,by omega,by omega⟩,?_⟩
 refine hL _ _ ?_
 clear hL
 refine Z fun L hL=>?_
 refine eQ @aB ?_
 refine aZ (fun ts H'=>∃j:Nat,j≤m∧H'=H∧Fr (some (.aD 1 id 0 l.length (some m))::some (.am 1 (aK l) rl)::none::none::some (.sc (.bool false))::some (.aD 1 id 0 m (some m))::some (.sc (.int .i64 j))::none::none::none::dL (bf [])) ts) (fun ts _=>m-(aM (ts.getD 6 .top)).toNat) ⟨0,by omega,rfl,by simp[Fr]⟩ ?_
 rintro ts _ ⟨j,hj,rfl,aX⟩ L2 bM
 obtain ⟨js,rfl⟩:=aX.opened
 clear aX
 refine df @aB ?_
 refine dz (fun h=>?_) (fun h=>?_)
 ·have h1:j<m:=by omega
  have hg:(aK (l++mB 12)).getD j .top = .sc (.int .i64 (n9 (l++mB 12) j)):=lW (by omega)
  by_cases c1:j<l.length
  ·have c2:(j:Int)<l.length:=by omega
   have c3:¬((j:Int)≥l.length):=by omega
   have e1:=Ur (m:=mB 12) c1
   simp -implicitDefEqProofs (maxSteps:=99999999) (disch:=first|omega|(simp only[vl]<;>omega)) only[aB,hf,aB,hlen,h1,c1,c2,c3,hg,lW c1,e1,va,vg,vs,vw,vk,simprocAttr]
   exact ⟨⟨by omega,by omega⟩,by omega,bM _ _ ⟨j+1,by omega,rfl,by simp[Fr]⟩ (by simp[aM,mk];omega)⟩
  ·obtain ⟨t,rfl⟩:∃t,j=l.length+t:=⟨j-l.length,by omega⟩
   have c2:¬(((l.length+t:Nat):Int)<l.length):=by omega
   have c3:((l.length+t:Nat):Int)≥l.length:=by omega
   have e1:=Uq (l:=l) (j:=t) (n:=12) (by omega)
   have e2:((l.length+t:Nat):Int)-l.length=t:=by omega
   refine eQ (yR @aB hf @aB hlen h1 c1 c2 c3 hg e1 e2) ?_
   refine ⟨⟨by omega,by omega⟩,aL (IZ _ _ _) ?_⟩
   refine eQ (yR @aB hf @aB hlen h1 c1 c2 c3 hg e1 e2) ?_
   exact bM _ _ ⟨l.length+t+1,by omega,rfl,by simp[Fr]⟩ (by simp[aM,mk];omega)
 ·have h1:j=m:=by omega
  refine hL _ _ ?_
  clear hL
  refine eQ @aB ?_
  exact eB.refl _ _ _
def adz:IC:=(.seq (.ops [iP 4 (.mv kF)]) (.seq (.seq (.ops [iM 6 0,iP 7 (xL 6),iM 8 1,iP 9 (xL 8),iP 10 (xB .neq 7 9)]) (.cond (.t 10) (.seq (.ops [iP 4 (.mv kF)]) .ret) .skip)) (.seq (.seq (.ops [iM 11 0,iP 12 (xL 11),iP 13 (xI 0)]) (.block 0 (.loop (.seq (.ops [iP 14 (xB .lss 13 12)]) (.seq (.cond (.t 14) .skip (.exit 0)) (.seq (.block 1 (.seq (.ops [iM 15 13,iM 5 15]) (.seq (.di [iM 16 0,iM 17 5,iP 18 (xA 1 16 17),iH 19 (yD 1 18),iM 20 1,iM 21 5,iP 22 (xA 1 20 21),iH 23 (yD 1 22),iP 24 (xB .neq 19 23)] [[],[],[0,1],[2,0,1],[],[],[4,5],[6,4,5],[3,2,0,1,7,6,4,5]]) (.cond (.t 24) (.seq (.ops [iP 4 (.mv kF)]) .ret) .skip)))) (.ops [iP 25 (.aN .add (.t 13) (kI 1)),iM 13 25]))))))) (.seq (.ops [iP 4 (.mv kT)]) .ret))))
theorem ahY:Dk Tryz.prog 31 adz [(.t 4)] 26:=aV Tryz.func31
def PJ:IC:=(.seq (.ops [iP 2 (.mv (.k bG))]) (.seq (.seq (.ops [iM 3 0,iP 4 (.yc true (.t 3))]) (.cond (.t 4) (.seq (.ops [iP 2 (.mv (.k bG))]) .ret) .skip)) (.seq (.ops [iH 5 (.ep 1 3 (.sc (.int .i64 0)) 0 []),iM 6 0,iH 7 (.ez 1 3 (.t 5) (.t 6)),iM 2 7]) .ret)))
theorem afY:Dk Tryz.prog 170 PJ [(.t 2)] 8:=aV Tryz.func170
theorem wi(a b:List Int)(ra rb:Option (List AV))(H:Y)(hl:a.length≤100000000):D Tryz.prog 31 [.am 1 (aK a) ra,.am 1 (aK b) rb] H (.ret (.sc (.bool (decide (a=b))))) H:=by
 refine aG (Nat.le_refl _) (ahY (aA ?_))
 simp -implicitDefEqProofs (maxSteps:=99999999) (disch:=omega) only[adz,aB,va,vg,vs,vh,vk,simprocAttr]
 refine dz (fun h=>?_) (fun h=>?_)
 ·have hne:¬a=b:=fun e=>by simp[e] at h
  refine yT hne ?_
  exact bL .refl
 have eK:a.length=b.length:=by omega
 refine yT @aB ?_
 refine Dh (fun ts H'=>H'=H∧∃k:Nat,(k≤a.length∧∀j,j<k→n9 a j=n9 b j)∧Fr (some (.am 1 (aK a) ra)::some (.am 1 (aK b) rb)::none::none::some (.sc (.bool false))::none::none::none::fg (some (.sc (.int .i64 a.length))::some (.sc (.int .i64 k))::fg (ir []))) ts) (fun ts _=>a.length-(aM (ts.getD 13 .top)).toNat) ?_ ?_
 ·exact ⟨rfl,0,⟨Nat.zero_le _,fun j h=>absurd h (Nat.not_lt_zero _)⟩,by simp[Fr]⟩
 rintro ts _ ⟨rfl,k,⟨hk,hp⟩,aX⟩
 obtain ⟨js,rfl⟩:=aX.opened
 clear aX
 refine zI0 ?_
 refine dz (fun h=>?_) (fun h=>?_)
 ·have h1:k<a.length:=by omega
  have h2:k<b.length:=by omega
  simp -implicitDefEqProofs (maxSteps:=99999999) (disch:=omega) only[lW h1,lW h2,aB,va,vg,vs,vh,vk,simprocAttr]
  refine ⟨by omega,by omega,dz (fun h=>?_) (fun h=>?_)⟩
  ·have hne:¬a=b:=fun e=>by simp[e] at h
   refine yT hne ?_
   exact bL .refl
  ·refine zD0 ?_
   refine ⟨⟨k+1,⟨by omega,fun j hj=>?_⟩,by simp[Fr]⟩,by omega⟩
   rcases Nat.lt_succ_iff_lt_or_eq.1 hj with h'|rfl
   ·exact hp j h'
   ·exact Classical.not_not.1 h
 ·have hab:a=b:=G8 eK (fun i hi=>hp i (by omega))
  refine yT hab ?_
  exact bL .refl
def adA:IC:=(.seq (.ops [iH 1 (.box 4 25 (.t 0)),iP 2 (.mv (.k bG))]) (.seq (.ops [iH 10 (yA 4 1),iH 11 (.call 54 [(.t 10)]),iH 3 (.alloc (.agg [(.sc (.int .i64 0)),(.sc (.int .i64 0))]) 93),iS 2 3 11]) (.seq (.seq (.ops [iP 12 (.an 0 (.t 3)),iH 13 (yD 1 12),iP 14 (.aN .neq (.t 13) (kI 0))]) (.cond (.t 14) (.seq (.ops [iP 2 (.mv (.k bG))]) .ret) .skip)) (.seq (.ops [iP 4 (.mv (.k bG))]) (.seq (.ops [iH 15 (yA 4 1),iH 16 (.call 55 [(.t 15)]),iM 5 16]) (.seq (.seq (.ops [iP 6 (xI 0)]) (.block 0 (.loop (.seq (.seq (.ops [iM 17 6,iM 18 5,iP 19 (xL 18),iP 20 (xB .lss 17 19)]) (.cond (.t 20) .skip (.exit 0))) (.seq (.block 1 (.seq (.ops [iM 23 5,iM 24 6,iP 25 (xA 5 23 24),iP 26 (.an 0 (.t 25)),iP 27 (.an 0 (.t 26)),iH 28 (yD 1 27),iM 7 28]) (.seq (.seq (.ops [iM 29 7,iP 30 (.aN .neq (.t 29) (.k (.sc (.int .u8 2)))),iM 31 30,gM 32 31 true 7,gP 33 31 true (.aN .neq (.t 32) (.k (.sc (.int .u8 4)))),iP 34 (.pick (.t 31) (.t 33) kF),iM 35 34,gM 36 35 true 7,gP 37 35 true (.aN .neq (.t 36) (.k (.sc (.int .u8 6)))),iP 38 (.pick (.t 35) (.t 37) kF)]) (.cond (.t 38) (.exit 1) .skip)) (.seq (.di [⟨(some 8),none,(.h (.alloc (.agg [bG,(.sc (.string ⟨#[]⟩)),bG]) 47))⟩,iH 39 (.ep 1 3 (.sc (.int .i64 0)) 0 []),iM 40 5,iM 41 6,iP 42 (xA 5 40 41),iP 43 (.an 4 (.t 42)),iH 44 (yD 1 43),iH 45 (.ez 1 3 (.t 39) (.t 44)),iM 46 5,iM 47 6,iP 48 (xA 5 46 47),iP 49 (.an 0 (.t 48)),iP 50 (.an 1 (.t 49)),iH 51 (yD 1 50),⟨(some 52),none,(.p (.build [bG,(.sc (.string ⟨#[]⟩)),bG] [(0,1,(.t 45)),(1,1,(.t 51))]))⟩,iS 3 8 52] [[],[],[],[],[2,3],[4,2,3],[5,4,2,3],[1,6,5,4,2,3],[],[],[8,9],[10,8,9],[11,10,8,9],[12,11,10,8,9],[7,1,6,5,4,2,3,13,12,11,10,8,9],[0,14,7,1,6,5,4,2,3,13,12,11,10,8,9]]) (.seq (.seq (.ops [iP 9 (xI 0)]) (.block 2 (.loop (.seq (.seq (.ops [iM 53 9,iM 54 5,iP 55 (xL 54),iP 56 (xB .lss 53 55)]) (.cond (.t 56) .skip (.exit 2))) (.seq (.block 3 (.seq (.ops [iM 59 5,iM 60 9,iP 61 (xA 5 59 60),iP 62 (.an 0 (.t 61)),iP 63 (.an 0 (.t 62)),iH 64 (yD 1 63),iP 65 (.aN .eql (.t 64) (.k (.sc (.int .u8 22)))),iM 66 65,gM 67 66 false 5,gM 68 66 false 9,gP 69 66 false (xA 5 67 68),gP 70 66 false (.an 0 (.t 69)),gP 71 66 false (.an 0 (.t 70)),gH 72 66 false (yD 1 71),gP 73 66 false (.aN .eql (.t 72) (.k (.sc (.int .u8 25)))),iP 74 (.pick (.t 66) kT (.t 73)),iM 75 74,gM 76 75 true 5,gM 77 75 true 9,gH 78 75 true (yC 56 76 77),gM 79 75 true 6,gP 80 75 true (xB .eql 78 79),iP 81 (.pick (.t 75) (.t 80) kF)]) (.cond (.t 81) (.di [iP 82 (.an 2 (.t 8)),iH 83 (yD 1 82),iH 84 (.ep 1 3 (.sc (.int .i64 0)) 0 []),iM 85 5,iM 86 9,iP 87 (xA 5 85 86),iP 88 (.an 4 (.t 87)),iH 89 (yD 1 88),iH 90 (.ez 1 3 (.t 84) (.t 89)),iH 91 (.ep 1 30 bG 1 [(0,(.t 90))]),iH 92 (.ez 1 30 (.t 83) (.t 91)),iP 93 (.an 2 (.t 8)),iS 1 93 92] [[],[0],[],[],[],[3,4],[5,3,4],[6,5,3,4],[2,7,6,5,3,4],[8,2,7,6,5,3,4],[1,0,9,8,2,7,6,5,3,4],[0,1,2,3,4,5,6,7,8,9,10],[11,0,1,2,3,4,5,6,7,8,9,10]]) .skip))) (.ops [iM 57 9,iP 58 (.aN .add (.t 57) (kI 1)),iM 9 58])))))) (.ops [iM 94 4,iH 95 (yA 3 8),⟨(some 96),none,(.h (.ep 3 47 (.agg [bG,(.sc (.string ⟨#[]⟩)),bG]) 1 [(0,(.t 95))]))⟩,iH 97 (.ez 3 47 (.t 94) (.t 96)),iM 4 97])))))) (.ops [iM 21 6,iP 22 (.aN .add (.t 21) (kI 1)),iM 6 22])))))) (.seq (.ops [iM 98 4,iM 2 98]) .ret)))))))
theorem ahZ:Dk Tryz.prog 21 adA [(.t 2)] 99:=aV Tryz.func21
def adB:IC:=(.seq (.ops [iH 1 (.box 4 25 (.t 0)),iH 2 (.alloc (.agg [(.sc (.int .i64 0)),(.sc (.int .i64 0))]) 93)]) (.seq (.seq (.ops [iP 8 (.an 0 (.t 1)),iH 9 (yD 1 8),iP 10 (.aN .neq (.t 9) (.k (.sc (.int .u8 1)))),iM 11 10,gH 12 11 false (yA 4 1),gH 13 11 false (.call 46 [(.t 12)]),gP 14 11 false (xN 13),iP 15 (.pick (.t 11) kT (.t 14))]) (.cond (.t 15) (.seq (.ops [iP 16 (.build [(.sc (.int .i64 0)),(.sc (.int .i64 0))] [(0,1,(kI 4))]),iS 2 2 16]) .ret) .skip)) (.seq (.ops [iH 17 (yA 4 1),iH 18 (.call 55 [(.t 17)]),iM 3 18]) (.seq (.seq (.ops [iP 4 (xI 0)]) (.block 0 (.loop (.seq (.seq (.ops [iM 19 4,iM 20 3,iP 21 (xL 20),iP 22 (xB .lss 19 21)]) (.cond (.t 22) .skip (.exit 0))) (.seq (.block 1 (.seq (.ops [iM 25 3,iM 26 4,iP 27 (xA 5 25 26),iP 28 (.an 0 (.t 27)),iP 29 (.an 0 (.t 28)),iH 30 (yD 1 29),iP 31 (.aN .eql (.t 30) (.k (.sc (.int .u8 2)))),iM 32 31,gM 33 32 true 3,gM 34 32 true 4,gH 35 32 true (yC 106 33 34),iP 36 (.pick (.t 32) (.t 35) kF)]) (.cond (.t 36) (.seq (.ops [iM 37 4,iP 38 (.build [(.sc (.int .i64 0)),(.sc (.int .i64 0))] [(0,1,(kI 110)),(1,1,(.t 37))]),iS 2 2 38]) .ret) .skip))) (.ops [iM 23 4,iP 24 (.aN .add (.t 23) (kI 1)),iM 4 24])))))) (.seq (.seq (.ops [iP 5 (xI 0)]) (.block 2 (.loop (.seq (.seq (.ops [iM 39 5,iM 40 3,iP 41 (xL 40),iP 42 (xB .lss 39 41)]) (.cond (.t 42) .skip (.exit 2))) (.seq (.block 3 (.seq (.ops [iM 45 3,iM 46 5,iP 47 (xA 5 45 46),iP 48 (.an 0 (.t 47)),iP 49 (.an 0 (.t 48)),iH 50 (yD 1 49),iM 6 50]) (.seq (.seq (.ops [iM 51 6,iP 52 (.aN .eql (.t 51) (.k (.sc (.int .u8 4)))),iM 53 52,gM 54 53 false 6,gP 55 53 false (.aN .eql (.t 54) (.k (.sc (.int .u8 6)))),iP 56 (.pick (.t 53) kT (.t 55)),iM 57 56,gM 58 57 true 3,gM 59 57 true 5,gH 60 57 true (yC 106 58 59),iP 61 (.pick (.t 57) (.t 60) kF)]) (.cond (.t 61) (.seq (.ops [iM 62 5,iP 63 (.build [(.sc (.int .i64 0)),(.sc (.int .i64 0))] [(0,1,(kI 110)),(1,1,(.t 62))]),iS 2 2 63]) .ret) .skip)) (.seq (.seq (.ops [iM 64 6,iP 65 (.aN .neq (.t 64) (.k (.sc (.int .u8 22)))),iM 66 65,gM 67 66 true 6,gP 68 66 true (.aN .neq (.t 67) (.k (.sc (.int .u8 25)))),iP 69 (.pick (.t 66) (.t 68) kF)]) (.cond (.t 69) (.exit 3) .skip)) (.seq (.ops [iM 70 3,iM 71 5,iH 72 (yC 56 70 71),iM 7 72]) (.seq (.seq (.ops [iM 73 7,iP 74 (.aN .lss (.t 73) (kI 0))]) (.cond (.t 74) (.seq (.ops [iM 75 5,iP 76 (.build [(.sc (.int .i64 0)),(.sc (.int .i64 0))] [(0,1,(kI 111)),(1,1,(.t 75))]),iS 2 2 76]) .ret) .skip)) (.seq (.di [iM 77 6,iP 78 (.aN .eql (.t 77) (.k (.sc (.int .u8 25)))),iM 79 78,gM 80 79 true 3,gM 81 79 true 7,gP 82 79 true (xA 5 80 81),gP 83 79 true (.an 0 (.t 82)),gP 84 79 true (.an 3 (.t 83)),gH 85 79 true (yD 1 84),gP 86 79 true (.gm 4 (.t 85) (kI 0)),gP 87 79 true (.an 3 (.t 86)),gH 88 79 true (yD 1 87),gP 89 79 true (xL 88),gM 90 79 true 3,gM 91 79 true 5,gP 92 79 true (xA 5 90 91),gP 93 79 true (.an 0 (.t 92)),gP 94 79 true (.an 3 (.t 93)),gH 95 79 true (yD 1 94),gP 96 79 true (xL 95),gP 97 79 true (xB .neq 89 96),iP 98 (.pick (.t 79) (.t 97) kF)] [[],[0],[1,0],[2,1,0],[2,1,0],[3,2,1,0,4],[5,3,2,1,0,4],[6,5,3,2,1,0,4],[7,6,5,3,2,1,0,4],[8,7,6,5,3,2,1,0,4],[9,8,7,6,5,3,2,1,0,4],[10,9,8,7,6,5,3,2,1,0,4],[11,10,9,8,7,6,5,3,2,1,0,4],[2,1,0],[2,1,0],[13,2,1,0,14],[15,13,2,1,0,14],[16,15,13,2,1,0,14],[17,16,15,13,2,1,0,14],[18,17,16,15,13,2,1,0,14],[12,11,10,9,8,7,6,5,3,2,1,0,4,19,18,17,16,15,13,14],[2,1,0,20,12,11,10,9,8,7,6,5,3,4,19,18,17,16,15,13,14]]) (.cond (.t 98) (.seq (.ops [iM 99 5,iP 100 (.build [(.sc (.int .i64 0)),(.sc (.int .i64 0))] [(0,1,(kI 112)),(1,1,(.t 99))]),iS 2 2 100]) .ret) .skip)))))))) (.ops [iM 43 5,iP 44 (.aN .add (.t 43) (kI 1)),iM 5 44])))))) (.seq (.ops [iP 101 (.build [(.sc (.int .i64 0)),(.sc (.int .i64 0))] []),iS 2 2 101]) .ret))))))
theorem ah0:Dk Tryz.prog 54 adB [(.c 2 2 true)] 102:=aV Tryz.func54
def adC:IC:=(.seq (.ops [iH 1 (.box 4 25 (.t 0)),iP 2 (.mv (.k bG))]) (.seq (.ops [iH 3 (yA 4 1),iH 4 (.call 107 [(.k bG),(.t 3),(.k bG)]),iM 2 4]) .ret))
theorem ah1:Dk Tryz.prog 55 adC [(.t 2)] 5:=aV Tryz.func55
def adD:IC:=(.seq (.ops [iP 4 (xI 0)]) (.seq (.ops [iP 5 (xI (-1))]) (.seq (.seq (.ops [iP 6 (xI 0)]) (.block 0 (.loop (.seq (.seq (.ops [iM 8 6,iM 9 0,iP 10 (xL 9),iP 11 (xB .lss 8 10)]) (.cond (.t 11) .skip (.exit 0))) (.seq (.block 1 (.seq (.ops [iM 14 0,iM 15 6,iP 16 (xA 5 14 15),iP 17 (.an 0 (.t 16)),iP 18 (.an 0 (.t 17)),iH 19 (yD 1 18),iM 7 19]) (.seq (.seq (.di [iM 20 0,iM 21 6,iP 22 (xA 5 20 21),iP 23 (.an 0 (.t 22)),iP 24 (.an 1 (.t 23)),iH 25 (yD 1 24),iM 26 0,iM 27 1,iP 28 (xA 5 26 27),iP 29 (.an 0 (.t 28)),iP 30 (.an 1 (.t 29)),iH 31 (yD 1 30),iP 32 (xB .neq 25 31)] [[],[],[0,1],[2,0,1],[3,2,0,1],[4,3,2,0,1],[],[],[6,7],[8,6,7],[9,8,6,7],[10,9,8,6,7],[5,4,3,2,0,1,11,10,9,8,6,7]]) (.cond (.t 32) (.exit 1) .skip)) (.seq (.seq (.ops [iM 33 0,iM 34 1,iP 35 (xA 5 33 34),iP 36 (.an 0 (.t 35)),iP 37 (.an 0 (.t 36)),iH 38 (yD 1 37),iP 39 (.aN .eql (.t 38) (.k (.sc (.int .u8 25))))]) (.cond (.t 39) (.seq (.seq (.ops [iM 40 7,iP 41 (.aN .eql (.t 40) (.k (.sc (.int .u8 2)))),iM 42 41,gM 43 42 true 5,gP 44 42 true (.aN .lss (.t 43) (kI 0)),iP 45 (.pick (.t 42) (.t 44) kF)]) (.cond (.t 45) (.ops [iM 46 6,iM 5 46]) .skip)) (.exit 1)) .skip)) (.seq (.di [iM 47 7,iP 48 (.aN .eql (.t 47) (.k (.sc (.int .u8 4)))),iM 49 48,gM 50 49 false 7,gP 51 49 false (.aN .eql (.t 50) (.k (.sc (.int .u8 6)))),iP 52 (.pick (.t 49) kT (.t 51)),iM 53 52,gM 54 53 true 0,gM 55 53 true 6,gP 56 53 true (xA 5 54 55),gH 57 53 true (yA 5 56),gM 58 53 true 0,gM 59 53 true 1,gP 60 53 true (xA 5 58 59),gP 61 53 true (.an 4 (.t 60)),gH 62 53 true (yD 1 61),gH 63 53 true (yC 108 57 62),iP 64 (.pick (.t 53) (.t 63) kF)] [[],[0],[1,0],[2,1,0],[3,2,1,0],[2,1,0,4,3],[5,2,1,0,4,3],[6,5,2,1,0,4,3],[6,5,2,1,0,4,3],[7,6,5,2,1,0,4,3,8],[9,7,6,5,2,1,0,4,3,8],[6,5,2,1,0,4,3],[6,5,2,1,0,4,3],[11,6,5,2,1,0,4,3,12],[13,11,6,5,2,1,0,4,3,12],[14,13,11,6,5,2,1,0,4,3,12],[10,9,7,6,5,2,1,0,4,3,8,15,14,13,11,12],[6,5,2,1,0,4,3,16,10,9,7,8,15,14,13,11,12]]) (.cond (.t 64) (.ops [iM 65 6,iM 5 65]) .skip)))))) (.ops [iM 12 6,iP 13 (.aN .add (.t 12) (kI 1)),iM 6 13])))))) (.seq (.ops [iM 66 5,iM 4 66]) .ret))))
theorem ah2:Dk Tryz.prog 56 adD [(.t 4)] 67:=aV Tryz.func56
def YR:IC:=(.seq (.ops [iP 4 (.mv kF)]) (.seq (.ops [iM 7 0,iM 8 1,iP 9 (xA 5 7 8),iP 10 (.an 4 (.t 9)),iH 11 (yD 1 10),iP 12 (xL 11),iM 5 12]) (.seq (.seq (.ops [iP 6 (xI 0)]) (.block 0 (.loop (.seq (.seq (.ops [iM 13 6,iM 14 1,iP 15 (xB .lss 13 14)]) (.cond (.t 15) .skip (.exit 0))) (.seq (.block 1 (.seq (.di [iM 18 0,iM 19 6,iP 20 (xA 5 18 19),iP 21 (.an 0 (.t 20)),iP 22 (.an 0 (.t 21)),iH 23 (yD 1 22),iM 24 0,iM 25 1,iP 26 (xA 5 24 25),iP 27 (.an 0 (.t 26)),iP 28 (.an 0 (.t 27)),iH 29 (yD 1 28),iP 30 (xB .eql 23 29),iM 31 30,gM 32 31 true 0,gM 33 31 true 6,gP 34 31 true (xA 5 32 33),gP 35 31 true (.an 0 (.t 34)),gP 36 31 true (.an 1 (.t 35)),gH 37 31 true (yD 1 36),gM 38 31 true 0,gM 39 31 true 1,gP 40 31 true (xA 5 38 39),gP 41 31 true (.an 0 (.t 40)),gP 42 31 true (.an 1 (.t 41)),gH 43 31 true (yD 1 42),gP 44 31 true (xB .eql 37 43),iP 45 (.pick (.t 31) (.t 44) kF),iM 46 45,gM 47 46 true 0,gM 48 46 true 6,gP 49 46 true (xA 5 47 48),gP 50 46 true (.an 4 (.t 49)),gH 51 46 true (yD 1 50),gP 52 46 true (xL 51),gM 53 46 true 5,gP 54 46 true (xB .eql 52 53),iP 55 (.pick (.t 46) (.t 54) kF),iM 56 55,gM 57 56 true 0,gM 58 56 true 6,gP 59 56 true (xA 5 57 58),gP 60 56 true (.an 4 (.t 59)),gH 61 56 true (yD 1 60),gM 62 56 true 0,gM 63 56 true 1,gP 64 56 true (xA 5 62 63),gP 65 56 true (.an 4 (.t 64)),gH 66 56 true (yD 1 65),gM 67 56 true 5,gP 68 56 true (.aN .sub (.t 67) (kI 1)),gP 69 56 true (.qB 1 (.t 66) none (some (.t 68)) none),gH 70 56 true (yC 168 61 69),iP 71 (.pick (.t 56) (.t 70) kF)] [[],[],[0,1],[2,0,1],[3,2,0,1],[4,3,2,0,1],[],[],[6,7],[8,6,7],[9,8,6,7],[10,9,8,6,7],[5,4,3,2,0,1,11,10,9,8,6,7],[12,5,4,3,2,0,1,11,10,9,8,6,7],[13,12,5,4,3,2,0,1,11,10,9,8,6,7],[13,12,5,4,3,2,0,1,11,10,9,8,6,7],[14,13,12,5,4,3,2,0,1,11,10,9,8,6,7,15],[16,14,13,12,5,4,3,2,0,1,11,10,9,8,6,7,15],[17,16,14,13,12,5,4,3,2,0,1,11,10,9,8,6,7,15],[18,17,16,14,13,12,5,4,3,2,0,1,11,10,9,8,6,7,15],[13,12,5,4,3,2,0,1,11,10,9,8,6,7],[13,12,5,4,3,2,0,1,11,10,9,8,6,7],[20,13,12,5,4,3,2,0,1,11,10,9,8,6,7,21],[22,20,13,12,5,4,3,2,0,1,11,10,9,8,6,7,21],[23,22,20,13,12,5,4,3,2,0,1,11,10,9,8,6,7,21],[24,23,22,20,13,12,5,4,3,2,0,1,11,10,9,8,6,7,21],[19,18,17,16,14,13,12,5,4,3,2,0,1,11,10,9,8,6,7,15,25,24,23,22,20,21],[13,12,5,4,3,2,0,1,11,10,9,8,6,7,26,19,18,17,16,14,15,25,24,23,22,20,21],[27,13,12,5,4,3,2,0,1,11,10,9,8,6,7,26,19,18,17,16,14,15,25,24,23,22,20,21],[28,27,13,12,5,4,3,2,0,1,11,10,9,8,6,7,26,19,18,17,16,14,15,25,24,23,22,20,21],[28,27,13,12,5,4,3,2,0,1,11,10,9,8,6,7,26,19,18,17,16,14,15,25,24,23,22,20,21],[29,28,27,13,12,5,4,3,2,0,1,11,10,9,8,6,7,26,19,18,17,16,14,15,25,24,23,22,20,21,30],[31,29,28,27,13,12,5,4,3,2,0,1,11,10,9,8,6,7,26,19,18,17,16,14,15,25,24,23,22,20,21,30],[32,31,29,28,27,13,12,5,4,3,2,0,1,11,10,9,8,6,7,26,19,18,17,16,14,15,25,24,23,22,20,21,30],[33,32,31,29,28,27,13,12,5,4,3,2,0,1,11,10,9,8,6,7,26,19,18,17,16,14,15,25,24,23,22,20,21,30],[28,27,13,12,5,4,3,2,0,1,11,10,9,8,6,7,26,19,18,17,16,14,15,25,24,23,22,20,21],[34,33,32,31,29,28,27,13,12,5,4,3,2,0,1,11,10,9,8,6,7,26,19,18,17,16,14,15,25,24,23,22,20,21,30,35],[28,27,13,12,5,4,3,2,0,1,11,10,9,8,6,7,26,19,18,17,16,14,15,25,24,23,22,20,21,36,34,33,32,31,29,30,35],[37,28,27,13,12,5,4,3,2,0,1,11,10,9,8,6,7,26,19,18,17,16,14,15,25,24,23,22,20,21,36,34,33,32,31,29,30,35],[38,37,28,27,13,12,5,4,3,2,0,1,11,10,9,8,6,7,26,19,18,17,16,14,15,25,24,23,22,20,21,36,34,33,32,31,29,30,35],[38,37,28,27,13,12,5,4,3,2,0,1,11,10,9,8,6,7,26,19,18,17,16,14,15,25,24,23,22,20,21,36,34,33,32,31,29,30,35],[39,38,37,28,27,13,12,5,4,3,2,0,1,11,10,9,8,6,7,26,19,18,17,16,14,15,25,24,23,22,20,21,36,34,33,32,31,29,30,35,40],[41,39,38,37,28,27,13,12,5,4,3,2,0,1,11,10,9,8,6,7,26,19,18,17,16,14,15,25,24,23,22,20,21,36,34,33,32,31,29,30,35,40],[42,41,39,38,37,28,27,13,12,5,4,3,2,0,1,11,10,9,8,6,7,26,19,18,17,16,14,15,25,24,23,22,20,21,36,34,33,32,31,29,30,35,40],[38,37,28,27,13,12,5,4,3,2,0,1,11,10,9,8,6,7,26,19,18,17,16,14,15,25,24,23,22,20,21,36,34,33,32,31,29,30,35],[38,37,28,27,13,12,5,4,3,2,0,1,11,10,9,8,6,7,26,19,18,17,16,14,15,25,24,23,22,20,21,36,34,33,32,31,29,30,35],[44,38,37,28,27,13,12,5,4,3,2,0,1,11,10,9,8,6,7,26,19,18,17,16,14,15,25,24,23,22,20,21,36,34,33,32,31,29,30,35,45],[46,44,38,37,28,27,13,12,5,4,3,2,0,1,11,10,9,8,6,7,26,19,18,17,16,14,15,25,24,23,22,20,21,36,34,33,32,31,29,30,35,45],[47,46,44,38,37,28,27,13,12,5,4,3,2,0,1,11,10,9,8,6,7,26,19,18,17,16,14,15,25,24,23,22,20,21,36,34,33,32,31,29,30,35,45],[38,37,28,27,13,12,5,4,3,2,0,1,11,10,9,8,6,7,26,19,18,17,16,14,15,25,24,23,22,20,21,36,34,33,32,31,29,30,35],[49,38,37,28,27,13,12,5,4,3,2,0,1,11,10,9,8,6,7,26,19,18,17,16,14,15,25,24,23,22,20,21,36,34,33,32,31,29,30,35],[48,47,46,44,38,37,28,27,13,12,5,4,3,2,0,1,11,10,9,8,6,7,26,19,18,17,16,14,15,25,24,23,22,20,21,36,34,33,32,31,29,30,35,45,50,49],[43,42,41,39,38,37,28,27,13,12,5,4,3,2,0,1,11,10,9,8,6,7,26,19,18,17,16,14,15,25,24,23,22,20,21,36,34,33,32,31,29,30,35,40,51,48,47,46,44,45,50,49],[38,37,28,27,13,12,5,4,3,2,0,1,11,10,9,8,6,7,26,19,18,17,16,14,15,25,24,23,22,20,21,36,34,33,32,31,29,30,35,52,43,42,41,39,40,51,48,47,46,44,45,50,49]]) (.cond (.t 71) (.seq (.ops [iP 4 (.mv kT)]) .ret) .skip))) (.ops [iM 16 6,iP 17 (.aN .add (.t 16) (kI 1)),iM 6 17])))))) (.seq (.ops [iP 4 (.mv kF)]) .ret))))
theorem afZ:Dk Tryz.prog 106 YR [(.t 4)] 72:=aV Tryz.func106
def YS:IC:=(.seq (.ops [iH 4 (.box 4 25 (.t 1)),iP 6 (.mv (.k bG))]) (.seq (.di [iM 8 0,iH 9 (yA 4 4),iH 10 (.ep 1 3 (.sc (.int .i64 0)) 0 []),iM 11 2,iH 12 (.ez 1 3 (.t 10) (.t 11)),⟨(some 13),none,(.p (.build [(.sc (.int .u8 0)),(.sc (.string ⟨#[]⟩)),(.sc (.int .i64 0)),bG,bG] [(0,4,(.t 9)),(4,1,(.t 12))]))⟩,⟨(some 14),none,(.h (.ep 5 100 (.agg [(.sc (.int .u8 0)),(.sc (.string ⟨#[]⟩)),(.sc (.int .i64 0)),bG,bG]) 1 [(0,(.t 13))]))⟩,iH 15 (.ez 5 100 (.t 8) (.t 14)),iM 0 15] [[],[],[],[],[2,3],[1,4,2,3],[5,1,4,2,3],[0,6,5,1,4,2,3],[7,0,6,5,1,4,2,3]]) (.seq (.seq (.ops [iP 7 (xI 0)]) (.block 0 (.loop (.seq (.seq (.ops [iM 16 7,iP 17 (.an 3 (.t 4)),iH 18 (yD 1 17),iP 19 (xL 18),iP 20 (xB .lss 16 19)]) (.cond (.t 20) .skip (.exit 0))) (.seq (.block 1 (.di [iM 23 0,iP 24 (.an 3 (.t 4)),iH 25 (yD 1 24),iM 26 7,iP 27 (xA 4 25 26),iH 28 (yA 4 27),iH 29 (.ep 1 3 (.sc (.int .i64 0)) 0 []),iM 30 2,iH 31 (.ez 1 3 (.t 29) (.t 30)),iM 32 7,iH 33 (.ep 1 3 (.sc (.int .i64 0)) 1 [(0,(.t 32))]),iH 34 (.ez 1 3 (.t 31) (.t 33)),iH 35 (.call 107 [(.t 23),(.t 28),(.t 34)]),iM 0 35] [[],[],[1],[],[2,1,3],[4,2,1,3],[],[],[6,7],[],[9],[8,6,7,10,9],[0,5,4,2,1,3,11,8,6,7,10,9],[12,0,5,4,2,1,3,11,8,6,7,10,9]])) (.ops [iM 21 7,iP 22 (.aN .add (.t 21) (kI 1)),iM 7 22])))))) (.seq (.ops [iM 36 0,iM 6 36]) .ret))))
theorem af0:Dk Tryz.prog 107 YS [(.t 6)] 37:=aV Tryz.func107
def PK:IC:=(.seq (.ops [iH 2 (.box 5 100 (.t 0)),iP 4 (.mv kF)]) (.seq (.ops [iP 7 (.an 4 (.t 2)),iH 8 (yD 1 7),iP 9 (xL 8),iM 5 9]) (.seq (.seq (.ops [iP 10 (.an 0 (.t 2)),iP 11 (.an 0 (.t 10)),iH 12 (yD 1 11),iP 13 (.aN .eql (.t 12) (.k (.sc (.int .u8 4))))]) (.cond (.t 13) (.seq (.ops [iH 14 (.ep 1 3 (.sc (.int .i64 0)) 0 []),iP 15 (.an 4 (.t 2)),iH 16 (yD 1 15),iM 17 5,iP 18 (.aN .sub (.t 17) (kI 2)),iP 19 (.qB 1 (.t 16) none (some (.t 18)) none),iH 20 (.ez 1 3 (.t 14) (.t 19)),iH 21 (.ep 1 3 (.sc (.int .i64 0)) 1 [(0,(kI 1))]),iH 22 (.ez 1 3 (.t 20) (.t 21)),iM 6 22]) (.seq (.ops [iM 23 1,iM 24 6,iH 25 (yC 168 23 24),iM 4 25]) .ret)) .skip)) (.seq (.di [iM 26 1,iP 27 (xL 26),iM 28 5,iP 29 (xB .geq 27 28),iM 30 29,gM 31 30 true 1,gP 32 30 true (.an 4 (.t 2)),gH 33 30 true (yD 1 32),gM 34 30 true 5,gP 35 30 true (.aN .sub (.t 34) (kI 1)),gP 36 30 true (.qB 1 (.t 33) none (some (.t 35)) none),gH 37 30 true (yC 168 31 36),iP 38 (.pick (.t 30) (.t 37) kF),iM 39 38,gM 40 39 true 1,gM 41 39 true 5,gP 42 39 true (.aN .sub (.t 41) (kI 1)),gP 43 39 true (xA 1 40 42),gH 44 39 true (yD 1 43),gP 45 39 true (.an 4 (.t 2)),gH 46 39 true (yD 1 45),gM 47 39 true 5,gP 48 39 true (.aN .sub (.t 47) (kI 1)),gP 49 39 true (xA 1 46 48),gH 50 39 true (yD 1 49),gP 51 39 true (xB .gtr 44 50),iP 52 (.pick (.t 39) (.t 51) kF),iM 4 52] [[],[0],[],[1,0,2],[3,1,0,2],[4,3,1,0,2],[4,3,1,0,2],[6,4,3,1,0,2],[4,3,1,0,2],[8,4,3,1,0,2],[7,6,4,3,1,0,2,9,8],[5,4,3,1,0,2,10,7,6,9,8],[4,3,1,0,2,11,5,10,7,6,9,8],[12,4,3,1,0,2,11,5,10,7,6,9,8],[13,12,4,3,1,0,2,11,5,10,7,6,9,8],[13,12,4,3,1,0,2,11,5,10,7,6,9,8],[15,13,12,4,3,1,0,2,11,5,10,7,6,9,8],[14,13,12,4,3,1,0,2,11,5,10,7,6,9,8,16,15],[17,14,13,12,4,3,1,0,2,11,5,10,7,6,9,8,16,15],[13,12,4,3,1,0,2,11,5,10,7,6,9,8],[19,13,12,4,3,1,0,2,11,5,10,7,6,9,8],[13,12,4,3,1,0,2,11,5,10,7,6,9,8],[21,13,12,4,3,1,0,2,11,5,10,7,6,9,8],[20,19,13,12,4,3,1,0,2,11,5,10,7,6,9,8,22,21],[23,20,19,13,12,4,3,1,0,2,11,5,10,7,6,9,8,22,21],[18,17,14,13,12,4,3,1,0,2,11,5,10,7,6,9,8,16,15,24,23,20,19,22,21],[13,12,4,3,1,0,2,11,5,10,7,6,9,8,25,18,17,14,16,15,24,23,20,19,22,21],[26,13,12,4,3,1,0,2,11,5,10,7,6,9,8,25,18,17,14,16,15,24,23,20,19,22,21]]) .ret))))
theorem YT:Dk Tryz.prog 108 PK [(.t 4)] 53:=aV Tryz.func108
def YU:IC:=(.seq (.ops [iP 4 (.mv kF)]) (.seq (.ops [iM 5 0,iP 6 (xL 5),iM 7 1,iP 8 (xL 7),iP 9 (xB .geq 6 8),iM 10 9,gM 11 10 true 0,gM 12 10 true 1,gP 13 10 true (xL 12),gP 14 10 true (.qB 1 (.t 11) none (some (.t 13)) none),gM 15 10 true 1,gH 16 10 true (yC 26 14 15),iP 17 (.pick (.t 10) (.t 16) kF),iM 4 17]) .ret))
theorem af1:Dk Tryz.prog 168 YU [(.t 4)] 18:=aV Tryz.func168
theorem AH(p w:List Int)(rp rw:Option (List AV))(hrp:rp=none∨rp=some [])(hp:p.length≤1000000)(hw:w.length≤1000000)(H:Y):D Tryz.prog 168 [.am 1 (aK p) rp,.am 1 (aK w) rw] H (.ret (.sc (.bool (jj p w)))) H:=by
 refine aG (Nat.le_refl _) (af1 (aA ?_))
 simp only[YU,ux]
 refine Z fun L hL=>?_
 refine aw ?_
 refine hL _ _ ?_
 clear hL
 by_cases c:w.length≤p.length
 ·have c1:decide (((p.length:Nat):Int)≥(w.length:Nat))=true:=by simp;omega
  have ht:(aK p).take w.length=aK (p.take w.length):=by simp[aK]
  have hb:jj p w=decide (p.take w.length=w):=by unfold jj;simp[c]
  rcases hrp with rfl|rfl
  ·refine aI (ei @aB c1 c ht) ?_
   refine ⟨by omega,ae (oa (p.take w.length) w none rw H (by simp;omega)) ?_⟩
   refine aw ?_
   rw[hb]
   exact bL .refl
  ·refine aI (ei @aB c1 c ht) ?_
   refine ⟨⟨by omega,by omega⟩,ae (oa (p.take w.length) w _ rw H (by simp;omega)) ?_⟩
   refine aw ?_
   rw[hb]
   exact bL .refl
 ·have c1:decide (((p.length:Nat):Int)≥(w.length:Nat))=false:=by simp;omega
  have hb:jj p w=false:=by unfold jj;simp[c]
  refine aI (gq @aB c1 c) ?_
  rw[hb]
  exact bL .refl
def fq(b:Pl):AV:=.agg [.sc (.int .u8 b.n.kind),.sc (.string b.n.text),.sc (.int .i64 b.n.num),.am 4 (bh b.n.kids) none,.am 1 (aK b.p) none]
theorem mC{l:List Pl}{k:Nat}(h:k<l.length):(l.map fq).getD k .top = .agg [.sc (.int .u8 (au l k).n.kind),.sc (.string (au l k).n.text),.sc (.int .i64 (au l k).n.num),.am 4 (bh (au l k).n.kids) none,.am 1 (aK (au l k).p) none]:=by
 simp[List.getD,h,au,fq]
theorem L1(l:List Pl)(ro:Option (List AV))(hl:l.length≤1000000)(hps:∀k,k<l.length→(au l k).p.length≤1000000)(j:Nat)(hj:j<l.length)(hne:(au l j).p≠[])(H:Y):D Tryz.prog 106 [.am 5 (l.map fq) ro,.sc (.int .i64 j)] H (.ret (.sc (.bool (dm l j)))) H:=by
 have wA:=mC hj
 have hpj:=hps j hj
 have hlen:(l.map fq).length=l.length:=by simp
 have hn0:0<(au l j).p.length:=List.length_pos_iff.2 hne
 refine aG (Nat.le_refl _) (afZ (aA ?_))
 simp only[YR,ux]
 refine Z fun L hL=>?_
 refine aw ?_
 refine hL _ _ ?_
 clear hL
 refine Z fun L hL=>?_
 refine aI (gq wA hlen @aB) ?_
 refine ⟨by omega,?_⟩
 refine hL _ _ ?_
 clear hL
 refine Z fun L hL=>?_
 refine Z fun L hL=>?_
 refine aw ?_
 refine hL _ _ ?_
 clear hL
 refine aZ (fun ts F=>F=H∧∃k:Nat,(k≤j∧((l.take k).any fun a=>twin a (au l j))=false)∧Fr (some (.am 5 (l.map fq) ro)::some (.sc (.int .i64 j))::none::none::some (.sc (.bool false))::some (.sc (.int .i64 (au l j).p.length))::some (.sc (.int .i64 k))::none::bf (bf [])) ts) (fun ts _=>j-(aM (ts.getD 6 .top)).toNat) ?_ ?_
 ·exact ⟨rfl,0,⟨Nat.zero_le _,rfl⟩,by simp[Fr]⟩
 rintro ts _ ⟨rfl,k,⟨hk,ha⟩,aX⟩ L2 bM
 obtain ⟨js,rfl⟩:=aX.opened
 clear aX
 by_cases hd:k<j
 ·have d1:(k:Int)<j:=by omega
  have mN:k<l.length:=by omega
  have hg:=mC mN
  have htk:(l.take (k+1)).any (fun a=>twin a (au l j))=twin (au l k) (au l j):=by
   rw[List.take_add_one,List.any_append,ha,List.getElem?_eq_getElem mN]
   simp[au,List.getD,mN]
  have YV:=fun H=>AH (au l k).p ((au l j).p.take ((au l j).p.length-1)) none none (.inl rfl) (hps k mN) (by simp;omega) H
  have ht:(aK (au l j).p).take ((au l j).p.length-1)=aK ((au l j).p.take ((au l j).p.length-1)):=by simp[aK]
  have i1:(k:Int)<l.length:=by omega
  have i2:(j:Int)<l.length:=by omega
  have hsub:(((au l j).p.length:Int)-1).toNat=(au l j).p.length-1:=by omega
  have hlt:(au l j).p.length<(au l j).p.length+1:=by omega
  have hno:twin (au l k) (au l j)=false→(l.take (k+1)).any (fun a=>twin a (au l j))=false:=fun h=>by rw[htk,h]
  by_cases c1:(au l k).n.kind=(au l j).n.kind
  ·by_cases c2:(au l k).n.text=(au l j).n.text
   ·by_cases c3:(au l k).p.length=(au l j).p.length
    ·have PL:((au l k).p.length:Int)=(au l j).p.length:=by omega
     refine fB (Rg d1 hg wA hlen @aB c1 c2 c3 PL i1 i2 ht hsub) ?_
     refine ⟨by omega,by omega,by omega,by omega,by omega,by omega,by omega,⟨by omega,by omega,by omega⟩,aL (YV _) ?_⟩
     have vn:twin (au l k) (au l j)=jj (au l k).p ((au l j).p.take ((au l j).p.length-1)):=by simp[twin,c1,c2,c3]
     cases hb:jj (au l k).p ((au l j).p.take ((au l j).p.length-1)) with
     |true =>
      rw[hb] at vn
      have htt:dm l j=true:=by
       unfold dm
       refine List.any_eq_true.2 ⟨au l k,?_,vn⟩
       have:au l k=(l.take j)[k]'(by simp;omega):=by simp[au,List.getD,mN]
       rw[this]
       exact List.getElem_mem _
      rw[htt]
      refine aw ?_
      exact bL .refl
     |false =>
      rw[hb] at vn
      refine aw ?_
      exact bM _ _ ⟨rfl,k+1,⟨by omega,hno vn⟩,by simp[Fr]⟩ (by simp[aM,mk];omega)
    ·have PL:¬((au l k).p.length:Int)=(au l j).p.length:=by omega
     have hf:twin (au l k) (au l j)=false:=by simp[twin,c3]
     refine fB (yR d1 hg wA hlen @aB c1 c2 c3 PL i1 i2) ?_
     exact ⟨by omega,by omega,by omega,by omega,by omega,bM _ _ ⟨rfl,k+1,⟨by omega,hno hf⟩,by simp[Fr]⟩ (by simp[aM,mk];omega)⟩
   ·have hf:twin (au l k) (au l j)=false:=by simp[twin,c2]
    refine fB (Fq d1 hg wA hlen @aB c1 c2 i1 i2) ?_
    exact ⟨by omega,by omega,by omega,by omega,bM _ _ ⟨rfl,k+1,⟨by omega,hno hf⟩,by simp[Fr]⟩ (by simp[aM,mk];omega)⟩
  ·have hf:twin (au l k) (au l j)=false:=by simp[twin,c1]
   refine fB (Dq d1 hg wA hlen @aB c1 i1 i2) ?_
   exact ⟨by omega,by omega,bM _ _ ⟨rfl,k+1,⟨by omega,hno hf⟩,by simp[Fr]⟩ (by simp[aM,mk];omega)⟩
 ·have d1:¬(k:Int)<j:=by omega
  have hkj:k=j:=by omega
  subst hkj
  refine fB d1 ?_
  clear bM
  refine hL _ _ ?_
  clear hL
  refine aw ?_
  have htt:dm l k=false:=ha
  rw[htt]
  exact bL .refl
theorem YW(b:Pl)(q:List Int)(hne:b.p≠[])(h4:¬b.n.kind=4)(hp:b.p.length≤1000000)(hq:q.length≤1000000)(H:Y):D Tryz.prog 108 [fq b,.am 1 (aK q) none] H (.ret (.sc (.bool (cM b q)))) H:=by
 have hn0:0<b.p.length:=List.length_pos_iff.2 hne
 have hsub:((b.p.length:Int)-1).toNat=b.p.length-1:=by omega
 have ht:(aK b.p).take (b.p.length-1)=aK (b.p.take (b.p.length-1)):=by simp[aK]
 have YV:=fun H=>AH q (b.p.take (b.p.length-1)) none none (.inl rfl) hq (by simp;omega) H
 have hr:cM b q=(decide (b.p.length≤q.length) && (jj q (b.p.take (b.p.length-1)) && decide (q.getD (b.p.length-1) 0 > b.p.getD (b.p.length-1) 0))):=by unfold cM;rw[if_neg h4]
 unfold fq
 refine aG (Nat.le_refl _) (YT (aA ?_))
 simp only[PK,ux]
 refine Z fun L hL=>?_
 refine aw ?_
 refine hL _ _ ?_
 clear hL
 refine Z fun L hL=>?_
 refine aI @aB ?_
 refine hL _ _ ?_
 clear hL
 refine Z fun L hL=>?_
 refine aI h4 ?_
 refine hL _ _ ?_
 clear hL
 by_cases c:b.p.length≤q.length
 ·have c1:decide (((q.length:Nat):Int)≥(b.p.length:Nat))=true:=by simp;omega
  have g1:=lW (l:=q) (k:=b.p.length-1) (by omega)
  have g2:=lW (l:=b.p) (k:=b.p.length-1) (by omega)
  have i1:((b.p.length:Int)-1)<q.length:=by omega
  refine aI (kY @aB c1 hsub ht c) ?_
  refine ⟨⟨by omega,by omega,by omega⟩,aL (YV _) ?_⟩
  cases hb:jj q (b.p.take (b.p.length-1)) with
  |true =>
   refine aI (kY @aB hsub g1 g2 i1) ?_
   have hf:cM b q=decide (n9 q (b.p.length-1) > n9 b.p (b.p.length-1)):=by rw[hr,hb];simp[c,n9]
   rw[hf]
   exact ⟨by omega,⟨by omega,by omega⟩,bL (.cons .refl)⟩
  |false =>
   have hf:cM b q=false:=by rw[hr,hb];simp
   rw[hf]
   refine aw ?_
   exact bL (.cons .refl)
 ·have c1:decide (((q.length:Nat):Int)≥(b.p.length:Nat))=false:=by simp;omega
  have hf:cM b q=false:=by rw[hr];simp[c]
  rw[hf]
  refine aI (gq @aB c1 c) ?_
  exact bL (.cons .refl)
theorem YX(b:Pl)(q:List Int)(hn:2≤b.p.length)(h4:b.n.kind=4)(hp:b.p.length≤1000000)(hq:q.length≤1000000)(H:Y):D Tryz.prog 108 [fq b,.am 1 (aK q) none] H (.ret (.sc (.bool (cM b q)))) H:=by
 have hsub:((b.p.length:Int)-2).toNat=b.p.length-2:=by omega
 have ht:(aK b.p).take (b.p.length-2)=aK (b.p.take (b.p.length-2)):=by simp[aK]
 have YV:=AH q (b.p.take (b.p.length-2)++[1]) none none (.inl rfl) hq (by simp;omega) []
 have hr:cM b q=jj q (b.p.take (b.p.length-2)++[1]):=by unfold cM;rw[if_pos h4]
 rw[hr]
 have key:∀(G:Y)(id:Nat),Y.find G id=some ⟨1,aK (b.p.take (b.p.length-2))++[.sc (.int .i64 1)],false,3⟩→D Tryz.prog 168 [.am 1 (aK q) none,.aD 1 id 0 (aK (b.p.take (b.p.length-2))++[AV.sc (.int .i64 1)]).length none] G (.ret (.sc (.bool (jj q (b.p.take (b.p.length-2)++[1]))))) G:=fun G id hG=>by
  have e:aK (b.p.take (b.p.length-2))++[AV.sc (.int .i64 1)]=aK (b.p.take (b.p.length-2)++[1]):=by simp[aK]
  rw[e] at hG ⊢
  have hne:aK (b.p.take (b.p.length-2)++[1])≠[]:=by simp[aK]
  have hv:View G (aW 1 (aK (b.p.take (b.p.length-2)++[1])) id) (.am 1 (aK (b.p.take (b.p.length-2)++[1])) none):=cJ.own (ty:=3) (fun _=>by rw[bj hne];exact hG) cJ.Tk
  rw[ji hne] at hv
  exact s9 (.cons D8 (.cons hv .nil)) .sc YV
 unfold fq
 refine aG (Nat.le_refl _) (YT (aA ?_))
 simp only[PK,ux]
 refine Z fun L hL=>?_
 refine aw ?_
 refine hL _ _ ?_
 clear hL
 refine Z fun L hL=>?_
 refine aI @aB ?_
 refine hL _ _ ?_
 clear hL
 refine Z fun L hL=>?_
 by_cases c:b.p.length=2
 ·have uy:(aK b.p).take 0=[]:=rfl
  have cE:b.p.take (b.p.length-2)=[]:=by rw[c];rfl
  rw[cE] at key ⊢
  refine aI (ei h4 @aB hsub c) ?_
  refine ae (key _ (H.length+1) (aJ (by simp only[List.length_cons]))) ?_
  refine aw ?_
  exact bL (.cons (.cons .refl))
 ·obtain ⟨x,r,hT⟩:∃x r,b.p.take (b.p.length-2)=x::r:=by
   cases hT:b.p.take (b.p.length-2) with
   |nil=>have:=congrArg List.length hT;simp at this;omega
   |cons x r=>exact ⟨x,r,rfl⟩
  have lv:r.length+1=b.p.length-2:=by have:=congrArg List.length hT;simp at this;omega
  rw[hT] at key ht ⊢
  rw[xC] at ht key
  have hnl:(aK r).length=r.length:=aB r
  refine aI (kY h4 @aB hsub ht hnl) ?_
  have fx:=fun G id hG=>key G id hG
  simp only[List.cons_append,List.length_cons,List.length_append,List.length_nil,hnl,Nat.zero_add,Nat.add_assoc,Nat.reduceAdd] at fx
  refine ⟨⟨by omega,by omega,by omega⟩,by omega,by omega,ae (fx _ (H.length+2) (aJ (by simp only[List.length_cons,Y.af]))) ?_⟩
  refine aw ?_
  exact bL (.cons (.cons (.cons .refl)))
theorem L4(b:Pl)(q:List Int)(hne:b.p≠[])(hn:b.n.kind=4→2≤b.p.length)(hp:b.p.length≤1000000)(hq:q.length≤1000000)(H:Y):D Tryz.prog 108 [fq b,.am 1 (aK q) none] H (.ret (.sc (.bool (cM b q)))) H:=by
 by_cases h4:b.n.kind=4
 ·exact YX b q (hn h4) h4 hp hq H
 ·exact YW b q hne h4 hp hq H
def adE(l:List Pl):Prop:=∀k,k<l.length→(au l k).p.length≤1000000∧(fH (au l k)=true→(au l k).p≠[])∧((au l k).n.kind=4→2≤(au l k).p.length)
theorem Ut{x:ByteArray}{q:List Int}{l:List Pl}{k:Nat}(h:k<l.length):jV x q (l.take (k+1)) 0 (-1)=if (au l k).n.text=x∧fH (au l k)=true∧cM (au l k) q=true then (k:Int) else jV x q (l.take k) 0 (-1):=by
 rw[List.take_add_one,List.getElem?_eq_getElem h,fE]
 have:au l k=l[k]:=by simp[au,List.getD,h]
 simp only[Option.toList_some,jV,this,Nat.zero_add,List.length_take,Nat.min_eq_left (Nat.le_of_lt h)]
theorem Uu{x:ByteArray}{l:List Pl}{k:Nat}(h:k<l.length):iz x (l.take (k+1)) 0 (-1)=if (au l k).n.text=x∧(au l k).n.kind=2∧iz x (l.take k) 0 (-1)<0 then (k:Int) else iz x (l.take k) 0 (-1):=by
 rw[List.take_add_one,List.getElem?_eq_getElem h,nZ]
 have:au l k=l[k]:=by simp[au,List.getD,h]
 simp only[Option.toList_some,iz,this,Nat.zero_add,List.length_take,Nat.min_eq_left (Nat.le_of_lt h)]
def BX(l:List Pl)(u:Pl)(k:Nat):Int:=if u.n.kind=25 then iz u.n.text (l.take k) 0 (-1) else jV u.n.text u.p (l.take k) 0 (-1)
theorem G9(l:List Pl)(ro:Option (List AV))(hl:l.length≤1000000)(hok:adE l)(j:Nat)(hj:j<l.length)(H:Y):D Tryz.prog 56 [.am 5 (l.map fq) ro,.sc (.int .i64 j)] H (.ret (.sc (.int .i64 (bW l (au l j))))) H:=by
 have wA:=mC hj
 have hlen:(l.map fq).length=l.length:=by simp
 have i2:(j:Int)<l.length:=by omega
 refine aG (Nat.le_refl _) (ah2 (aA ?_))
 simp only[adD,ux]
 refine Z fun L hL=>?_
 refine aw ?_
 refine hL _ _ ?_
 clear hL
 refine Z fun L hL=>?_
 refine aw ?_
 refine hL _ _ ?_
 clear hL
 refine Z fun L hL=>?_
 refine Z fun L hL=>?_
 refine aw ?_
 refine hL _ _ ?_
 clear hL
 refine aZ (fun ts F=>F=H∧∃k:Nat,k≤l.length∧Fr (some (.am 5 (l.map fq) ro)::some (.sc (.int .i64 j))::none::none::none::some (.sc (.int .i64 (BX l (au l j) k)))::some (.sc (.int .i64 k))::fg (ir (dL (bf [])))) ts) (fun ts _=>l.length-(aM (ts.getD 6 .top)).toNat) ?_ ?_
 ·exact ⟨rfl,0,Nat.zero_le _,by simp[Fr,BX,jV,iz]⟩
 rintro ts F ⟨rfl,k,hk,aX⟩ L2 bM
 obtain ⟨js,rfl⟩:=aX.opened
 clear aX
 by_cases hd:k<l.length
 ·have d1:(k:Int)<l.length:=by omega
  have hg:=mC hd
  obtain ⟨o1,o2,o3⟩:=hok k hd
  obtain ⟨u1,-,-⟩:=hok j hj
  have hst:BX l (au l j) (k+1)=if (au l k).n.text=(au l j).n.text then (if (au l j).n.kind=25 then (if (au l k).n.kind=2∧BX l (au l j) k<0 then (k:Int) else BX l (au l j) k) else (if fH (au l k)=true∧cM (au l k) (au l j).p=true then (k:Int) else BX l (au l j) k)) else BX l (au l j) k:=by
   unfold BX
   rw[Ut hd,Uu hd]
   by_cases c:(au l k).n.text=(au l j).n.text<;>by_cases c2:(au l j).n.kind=25<;>simp[c,c2]
  have fin:∀f,BX l (au l j) (k+1)=f→∀ts',Fr (some (.am 5 (l.map fq) ro)::some (.sc (.int .i64 j))::none::none::none::some (.sc (.int .i64 f))::some (.sc (.int .i64 ((k+1:Nat):Int)))::fg (ir (dL (bf [])))) ts'→l.length-(aM (ts'.getD 6 .top)).toNat<l.length-k→L2 ts' F:=fun f hf ts' h1 h2=>bM _ _ ⟨rfl,k+1,by omega,by rw[hf];exact h1⟩ (by simpa [aM,mk] using h2)
  by_cases c1:(au l k).n.text=(au l j).n.text
  ·rw[if_pos c1] at hst
   by_cases c2:(au l j).n.kind=25
   ·rw[if_pos c2] at hst
    by_cases c3:(au l k).n.kind=2
    ·by_cases c4:BX l (au l j) k<0
     ·rw[if_pos ⟨c3,c4⟩] at hst
      refine fB (Fq d1 i2 hlen hg wA c1 c2 c3 c4) ?_
      exact ⟨by omega,by omega,by omega,by omega,fin _ hst _ (by simp[Fr]) (by simp[aM,mk];omega)⟩
     ·rw[if_neg (fun h=>c4 h.2)] at hst
      refine fB (Fq d1 i2 hlen hg wA c1 c2 c3 c4) ?_
      exact ⟨by omega,by omega,by omega,by omega,fin _ hst _ (by simp[Fr]) (by simp[aM,mk];omega)⟩
    ·rw[if_neg (fun h=>c3 h.1)] at hst
     refine fB (Dq d1 i2 hlen hg wA c1 c2 c3) ?_
     exact ⟨by omega,by omega,by omega,by omega,fin _ hst _ (by simp[Fr]) (by simp[aM,mk];omega)⟩
   ·rw[if_neg c2] at hst
    by_cases c5:(au l k).n.kind=4
    ·skip
     have hB:fH (au l k)=true:=by simp[fH,c5]
     have hrd:=fun H=>L4 (au l k) (au l j).p (o2 hB) o3 o1 u1 H
     unfold fq at hrd
     rw[c5,c1] at hrd
     refine fB (Fq d1 i2 hlen hg wA c1 c2 c5 c5) ?_
     first
      | refine ⟨by omega,by omega,by omega,by omega,by omega,by omega,aL (hrd _) ?_⟩
      | refine ⟨by omega,by omega,by omega,by omega,by omega,aL (hrd _) ?_⟩
     cases hb:cM (au l k) (au l j).p with
     |true =>
      rw[if_pos ⟨hB,hb⟩] at hst
      refine aw ?_
      exact fin _ hst _ (by simp[Fr]) (by simp[aM,mk];omega)
     |false =>
      rw[if_neg (fun h=>by rw[hb] at h;simp at h)] at hst
      refine aw ?_
      exact fin _ hst _ (by simp[Fr]) (by simp[aM,mk];omega)
    ·by_cases c6:(au l k).n.kind=6
     ·skip
      have hB:fH (au l k)=true:=by simp[fH,c6]
      have hrd:=fun H=>L4 (au l k) (au l j).p (o2 hB) o3 o1 u1 H
      unfold fq at hrd
      rw[c6,c1] at hrd
      refine fB (Fq d1 i2 hlen hg wA c1 c2 c5 c6) ?_
      first
       | refine ⟨by omega,by omega,by omega,by omega,by omega,by omega,aL (hrd _) ?_⟩
       | refine ⟨by omega,by omega,by omega,by omega,by omega,aL (hrd _) ?_⟩
      cases hb:cM (au l k) (au l j).p with
      |true =>
       rw[if_pos ⟨hB,hb⟩] at hst
       refine aw ?_
       exact fin _ hst _ (by simp[Fr]) (by simp[aM,mk];omega)
      |false =>
       rw[if_neg (fun h=>by rw[hb] at h;simp at h)] at hst
       refine aw ?_
       exact fin _ hst _ (by simp[Fr]) (by simp[aM,mk];omega)
     ·have hB:fH (au l k)=false:=by simp[fH,c5,c6]
      rw[if_neg (fun h=>by rw[hB] at h;simp at h)] at hst
      refine fB (Fq d1 i2 hlen hg wA c1 c2 c5 c6) ?_
      exact ⟨by omega,by omega,by omega,by omega,fin _ hst _ (by simp[Fr]) (by simp[aM,mk];omega)⟩
  ·rw[if_neg c1] at hst
   refine fB (yQ d1 i2 hlen hg wA c1) ?_
   exact ⟨by omega,by omega,by omega,fin _ hst _ (by simp[Fr]) (by simp[aM,mk];omega)⟩
 ·have d1:¬(k:Int)<l.length:=by omega
  have FA:l.take k=l:=List.take_of_length_le (by omega)
  have hs:BX l (au l j) k=bW l (au l j):=by unfold BX bW;rw[FA]
  rw[hs]
  refine fB (ak d1 hlen) ?_
  clear bM
  refine hL _ _ ?_
  clear hL
  refine aw ?_
  exact bL .refl
def Ea:List cy:=[iM 2 3]
def zu:IC:=(.seq (.ops [iM 4 2,iP 5 (.HP false (.t 4))]) (.cond (.t 5) (.di [iM 6 2,iP 7 (.wD 159 (.t 6)),iP 8 (.field 0 2 true (.t 7)),⟨none,none,(.h (.store 1 (.t 0) (.k bG)))⟩,iS 2 1 8] [[],[0],[1,0],[],[2,1,0,3]]) .skip))
theorem acd:yO Tryz.prog [] (Tryz.f109.body.getD .skip)=some (3,Ea,zu):=by kernel_rfl
def adF:IC:=(.seq (.ops [iH 1 (.box 4 25 (.t 0)),iH 2 (.alloc bG 102),iH 3 (.alloc (.agg [(.sc (.int .i64 0)),(.sc (.int .i64 0))]) 93)]) (.ops [iP 8 (.oP (.func 109) [] [(.t 2),(.t 3)])]))
def YY:IC:=(.seq (.ops [iH 9 (.gx .oh []),iP 10 (.build [(.sc (.pointer none)),(.sc (.map none))] [(1,1,(.t 9))]),iP 11 (.build [(.sc (.pointer none)),(.sc (.map none)),bG,(.sc (.int .i64 0)),(.sc .nilFunc)] [(0,2,(.t 10)),(4,1,(.k (.fn (.func 110) [] [])))]),iH 12 (.box 5 167 (.t 11)),iM 4 12]) (.seq (.ops [iP 5 (xI 1)]) (.seq (.seq (.ops [iP 13 (.an 3 (.t 1)),iH 14 (yD 1 13),iP 15 (xL 14),iP 16 (xI 0)]) (.block 0 (.loop (.seq (.ops [iP 17 (xB .lss 16 15)]) (.seq (.cond (.t 17) .skip (.exit 0)) (.seq (.block 1 (.seq (.ops [iM 18 16,iP 19 (xA 4 14 16),iH 20 (yA 4 19),⟨(some 7),none,(.h (.alloc (.agg [(.sc (.int .u8 0)),(.sc (.string ⟨#[]⟩)),(.sc (.int .i64 0)),bG]) 25))⟩,iM 6 18,iS 4 7 20]) (.seq (.seq (.di [iM 21 4,iM 22 4,iP 23 (.bV (.t 22)),iP 24 (.an 0 (.t 23)),iH 25 (yA 2 24),iH 26 (yA 4 7),iM 27 6,iH 28 (.ep 1 3 (.sc (.int .i64 0)) 1 [(0,(.t 27))]),iM 29 5] [[],[],[1],[2,1],[3,2,1],[],[],[6],[],[0,4,3,2,1,5,7,6,8]]) (.ops [iH 30 (.call 111 [(.t 21),(.t 25),(.t 26),(.t 28),(.t 29)])])) (.seq (.seq (.di [iM 31 4,iP 32 (.bV (.t 31)),iP 33 (.an 0 (.t 32)),iP 34 (.an 1 (.t 33)),iH 35 (yD 1 34),iP 36 (.an 1 (.t 7)),iH 37 (yD 1 36),iH 38 (.gx (.pK none (.sc (.pointer none)) false) [(.t 35),(.t 37)]),iP 39 (.an 3 (.t 7)),iH 40 (yD 1 39),iP 41 (.gm 4 (.t 40) (kI 0)),iP 42 (.an 3 (.t 41)),iH 43 (yD 1 42),iP 44 (xL 43),iP 45 (.bV (.t 38)),iP 46 (.an 3 (.t 45))] [[],[0],[1,0],[2,1,0],[3,2,1,0],[],[5],[4,3,2,1,0,6,5],[],[8],[9,8],[10,9,8],[11,10,9,8],[12,11,10,9,8],[7,4,3,2,1,0,6,5,8,9,10,11,12,13],[14,7,4,3,2,1,0,6,5,8,9,10,11,12,13],[15,14,7,4,3,2,1,0,6,5,8,9,10,11,12,13]]) (.ops [iS 1 46 44])) (.ops [iM 47 5,iH 48 (yA 4 7),iH 49 (.call 112 [(.t 48)]),iP 50 (xB .add 47 49),iM 5 50]))))) (.ops [iP 51 (.aN .add (.t 16) (kI 1)),iM 16 51]))))))) (.seq (.ops [iM 52 4,iP 53 (.bV (.t 52)),iP 54 (.an 2 (.t 53)),⟨none,none,(.h (.store 1 (.t 54) (.k bG)))⟩]) (.seq (.ops [iM 55 4,iH 56 (.gx .oh []),iP 57 (.build [(.sc (.pointer none)),(.sc (.map none))] [(1,1,(.t 56))]),iH 58 (yA 4 1),iH 59 (.call 113 [(.t 55),(.t 57),(.t 58),(.k bG)])]) (.seq (.seq (.di [iM 60 4,iP 61 (.bV (.t 60)),iP 62 (.an 2 (.t 61)),iH 63 (yD 1 62),iH 64 (yA 2 3),iS 1 2 63] [[],[0],[1,0],[2,1,0],[],[3,2,1,0],[4,5,3,2,1,0]]) (.ops [iS 2 3 64])) .ret))))))
theorem ah3{args:List AV}{H:Y}{Kr:cH→Y→Prop}(h:ES Tryz.prog adF (Gs Tryz.prog 109 8 YY (Am Tryz.prog 3 Ea zu 9 [(.c 2 1 false),(.c 3 2 true)] Kr) (sY [(.c 2 1 false),(.c 3 2 true)] Kr)) (args++List.replicate (65-args.length) (.aO [])) H):DK Tryz.prog 58 args H Kr :=
 II (fn:=Tryz.f58) (c:=Tryz.f58.body.getD .skip) (bx:=((List.range 200).map (·+1000))) (Xu:=[]) Tryz.func58 (by kernel_rfl) (by kernel_rfl) (by kernel_rfl) (gn:=Tryz.f109) (gc:=Tryz.f109.body.getD .skip) Tryz.func109 (by kernel_rfl) acd (by kernel_rfl) (by kernel_rfl) h
def YZ:IC:=(.seq (.ops [iH 1 (.box 2 93 (.t 0))]) (.ops [iH 2 (yA 2 1),iP 3 (.build [(.sc (.int .i64 0)),(.sc (.int .i64 0))] [(0,2,(.t 2))]),iP 4 (.A9 159 (.t 3)),⟨none,none,(.h (.bP (.t 4)))⟩]))
theorem af2:Dk Tryz.prog 110 YZ [] 5:=aV Tryz.func110
def adG:IC:=(.seq (.ops [iH 1 (.box 4 25 (.t 0)),iH 2 (.alloc (.agg [(.sc (.int .i64 0)),(.sc (.int .i64 0))]) 93)]) (.seq (.seq (.ops [iP 5 (.an 0 (.t 1)),iH 6 (yD 1 5),iP 7 (.aN .neq (.t 6) (.k (.sc (.int .u8 1)))),iM 8 7,gH 9 8 false (yA 4 1),gH 10 8 false (.call 40 [(.t 9)]),gP 11 8 false (xN 10),iP 12 (.pick (.t 8) kT (.t 11))]) (.cond (.t 12) (.seq (.ops [iP 13 (.build [(.sc (.int .i64 0)),(.sc (.int .i64 0))] [(0,1,(kI 4))]),iS 2 2 13]) .ret) .skip)) (.seq (.ops [iH 15 (yA 4 1),iH 16 (.call 58 [(.t 15)]),iM 14 16,iP 17 (.ext (.t 14) 0),iP 18 (.ext (.t 14) 1),iH 4 (.alloc (.agg [(.sc (.int .i64 0)),(.sc (.int .i64 0))]) 93),iM 3 17,iS 2 4 18]) (.seq (.ops [iH 19 (yA 2 4),iS 2 2 19]) .ret))))
theorem ah4:Dk Tryz.prog 57 adG [(.c 2 2 true)] 20:=aV Tryz.func57
def adH:IC:=(.seq (.ops [iH 1 (.box 4 25 (.t 0)),iP 2 (.mv (.k bG))]) (.seq (.seq (.ops [iH 8 (yA 4 1),iH 9 (.call 57 [(.t 8)]),iP 10 (.field 0 1 false (.t 9)),iP 11 (.aN .neq (.t 10) (kI 0))]) (.cond (.t 11) (.seq (.ops [iP 2 (.mv (.k bG))]) .ret) .skip)) (.seq (.ops [iP 3 (.mv (.k bG))]) (.seq (.ops [iH 13 (yA 4 1),iH 14 (.call 58 [(.t 13)]),iM 12 14,iP 15 (.ext (.t 12) 0),iP 16 (.ext (.t 12) 1),iH 5 (.alloc (.agg [(.sc (.int .i64 0)),(.sc (.int .i64 0))]) 93),iM 4 15,iS 2 5 16]) (.seq (.seq (.ops [iM 17 4,iP 18 (xL 17),iP 19 (xI 0)]) (.block 0 (.loop (.seq (.ops [iP 20 (xB .lss 19 18)]) (.seq (.cond (.t 20) .skip (.exit 0)) (.seq (.block 1 (.seq (.ops [iP 21 (xA 1 17 19),iH 22 (yD 1 21),iM 7 22]) (.ops [iM 23 3,iM 24 7,iP 25 (.bV (.t 24)),iP 26 (.an 0 (.t 25)),iH 27 (yA 3 26),⟨(some 28),none,(.h (.ep 3 47 (.agg [bG,(.sc (.string ⟨#[]⟩)),bG]) 1 [(0,(.t 27))]))⟩,iH 29 (.ez 3 47 (.t 23) (.t 28)),iM 3 29]))) (.ops [iP 30 (.aN .add (.t 19) (kI 1)),iM 19 30]))))))) (.seq (.ops [iM 31 3,iM 2 31]) .ret))))))
theorem ah5:Dk Tryz.prog 23 adH [(.t 2)] 32:=aV Tryz.func23
def Y0:IC:=(.seq (.ops [iH 4 (.box 1 160 (.t 0)),iH 5 (.box 2 164 (.t 1)),iH 6 (.box 4 25 (.t 2)),iH 7 (.box 1 30 (.t 3))]) (.seq (.ops [iH 12 (yD 1 4),iP 13 (.bV (.t 12)),iP 14 (.an 3 (.t 13)),iH 15 (yD 1 14),iH 8 (.alloc (.sc (.int .i64 0)) 3),iS 1 8 15]) (.seq (.ops [iH 16 (yD 1 4),iP 17 (.bV (.t 16)),iP 18 (.an 3 (.t 17)),iH 19 (yD 1 18),iP 20 (.aN .add (.t 19) (kI 1)),iP 21 (.bV (.t 16)),iP 22 (.an 3 (.t 21)),iS 1 22 20]) (.seq (.ops [iP 9 (.mv (.k (.sc .nilFunc)))]) (.seq (.seq (.ops [iP 23 (.an 0 (.t 6)),iH 24 (yD 1 23)]) (.block 0 (.seq (.ops [iP 26 (.aN .eql (.t 24) (.k (.sc (.int .u8 2)))),iM 25 26]) (.cond (.t 25) (.seq (.seq (.di [iH 27 (yD 1 4),iH 28 (yD 1 4),iP 29 (.bV (.t 28)),iP 30 (.an 2 (.t 29)),iH 31 (yD 1 30),iH 32 (yD 1 4),iP 33 (.bV (.t 32)),iP 34 (.an 0 (.t 33)),iP 35 (.an 1 (.t 34)),iH 36 (yD 1 35),iP 37 (.an 1 (.t 6)),iH 38 (yD 1 37),iH 39 (.gx (.pK none (.sc (.pointer none)) false) [(.t 36),(.t 38)]),iH 40 (.ep 1 105 (.sc (.pointer none)) 1 [(0,(.t 39))]),iH 41 (.ez 1 105 (.t 31) (.t 40)),iP 42 (.bV (.t 27)),iP 43 (.an 2 (.t 42))] [[],[],[1],[2,1],[3,2,1],[],[5],[6,5],[7,6,5],[8,7,6,5],[],[10],[9,8,7,6,5,11,10],[12,9,8,7,6,5,11,10],[4,3,2,1,13,12,9,8,7,6,5,11,10],[0,1,2,3,4,5,6,7,8,9,10,11,12,13,14],[15,0,1,2,3,4,5,6,7,8,9,10,11,12,13,14],[16,15,0,1,2,3,4,5,6,7,8,9,10,11,12,13,14]]) (.ops [iS 1 43 41])) (.ops [iH 44 (yA 2 5),iH 45 (.call 172 [(.t 44)]),iS 2 5 45])) (.seq (.ops [iP 47 (.aN .eql (.t 24) (.k (.sc (.int .u8 4)))),iM 46 47]) (.cond (.t 46) (.ops [iH 48 (yD 1 4),iH 49 (yA 2 5),iH 50 (yA 4 6),iH 51 (yD 1 7),iH 52 (yD 1 8),iH 53 (.call 111 [(.t 48),(.t 49),(.t 50),(.t 51),(.t 52)])]) (.seq (.ops [iP 55 (.aN .eql (.t 24) (.k (.sc (.int .u8 5)))),iM 54 55]) (.cond (.t 54) (.ops [iH 56 (yA 2 5),iH 57 (.call 172 [(.t 56)]),iS 2 5 57]) (.seq (.ops [iP 59 (.aN .eql (.t 24) (.k (.sc (.int .u8 6)))),iM 58 59]) (.cond (.t 58) (.seq (.seq (.ops [iP 60 (.an 1 (.t 5)),iH 61 (yD 1 60),iP 62 (.an 1 (.t 6)),iH 63 (yD 1 62),iH 64 (.gx (.pK none (.sc (.pointer none)) false) [(.t 61),(.t 63)]),iH 65 (.gx (.qI false) [(.t 64)])]) (.cond (.t 65) (.ops [iH 66 (yD 1 4),iH 67 (yD 1 8),iH 68 (.call 169 [(.t 66),(kI 110),(.t 67)])]) .skip)) (.ops [iP 69 (.oP (.func 173) [] [(.t 4),(.t 5),(.t 6),(.t 7),(.t 8)]),iM 9 69])) (.seq (.ops [iP 71 (.aN .eql (.t 24) (.k (.sc (.int .u8 22)))),iM 70 71]) (.cond (.t 70) (.ops [iH 72 (yD 1 4),iH 73 (yA 2 5),iH 74 (yA 4 6),iH 75 (yD 1 7),iH 76 (yD 1 8),iH 77 (.call 174 [(.t 72),(.t 73),(.t 74),(.t 75),(.t 76)])]) (.seq (.ops [iP 79 (.aN .eql (.t 24) (.k (.sc (.int .u8 25)))),iM 78 79]) (.cond (.t 78) (.seq (.di [iH 80 (yD 1 4),iH 81 (yD 1 4),iP 82 (.bV (.t 81)),iP 83 (.an 0 (.t 82)),iH 84 (yA 2 83),iH 85 (yA 4 6),iH 86 (yD 1 7),iH 87 (yD 1 8)] [[],[],[1],[2,1],[3,2,1],[],[],[],[0,4,3,2,1,5,6,7]]) (.ops [iH 88 (.call 174 [(.t 80),(.t 84),(.t 85),(.t 86),(.t 87)])])) .skip)))))))))))))) (.seq (.seq (.ops [iP 89 (.an 3 (.t 6)),iH 90 (yD 1 89),iP 91 (xL 90),iP 92 (xI 0)]) (.block 1 (.loop (.seq (.ops [iP 93 (xB .lss 92 91)]) (.seq (.cond (.t 93) .skip (.exit 1)) (.seq (.block 2 (.seq (.ops [iM 94 92,iP 95 (xA 4 90 92),iH 96 (yA 4 95),⟨(some 11),none,(.h (.alloc (.agg [(.sc (.int .u8 0)),(.sc (.string ⟨#[]⟩)),(.sc (.int .i64 0)),bG]) 25))⟩,iM 10 94,iS 4 11 96]) (.seq (.di [iH 97 (yD 1 4),iH 98 (yA 2 5),iH 99 (yA 4 11),iH 100 (yD 1 7),iH 101 (yD 1 7),iP 102 (xL 101),iH 103 (yD 1 7),iP 104 (xL 103),iP 105 (.qB 1 (.t 100) none (some (.t 102)) (some (.t 104))),iM 106 10,iH 107 (.ep 1 3 (.sc (.int .i64 0)) 1 [(0,(.t 106))]),iH 108 (.ez 1 3 (.t 105) (.t 107))] [[],[],[],[],[],[4],[],[6],[3,5,4,7,6],[],[9],[8,3,5,4,7,6,10,9],[0,1,2,11,8,3,5,4,7,6,10,9]]) (.ops [iH 109 (.call 113 [(.t 97),(.t 98),(.t 99),(.t 108)])])))) (.ops [iP 110 (.aN .add (.t 92) (kI 1)),iM 92 110]))))))) (.seq (.ops [iM 111 9,iP 112 (.uf false (.t 111))]) (.cond (.t 112) (.ops [iM 113 9,iH 114 (.cq (.t 113) [])]) .skip))))))))
theorem af3:Dk Tryz.prog 113 Y0 [] 115:=fun h=>qN (fn:=Tryz.f113) (c:=Tryz.f113.body.getD .skip) (bx:=(List.range 200).map (·+1000)) Tryz.func113 (by kernel_rfl) (by kernel_rfl) (by kernel_rfl) h
def Y1:IC:=(.ops [iH 5 (yD 1 0),iH 6 (yA 2 1),iH 7 (yA 4 2),iH 8 (yD 1 3),iH 9 (yD 1 4),iH 10 (.call 111 [(.t 5),(.t 6),(.t 7),(.t 8),(.t 9)])])
theorem af4:Dk Tryz.prog 173 Y1 [] 11:=aV Tryz.func173
def Y2:IC:=(.seq (.ops [iH 6 (.box 2 164 (.t 1)),iH 7 (.box 4 25 (.t 2))]) (.seq (.seq (.ops [iP 11 (.an 1 (.t 6)),iH 12 (yD 1 11),iP 13 (.an 1 (.t 7)),iH 14 (yD 1 13),iH 15 (.gx (.pK none (.sc (.pointer none)) false) [(.t 12),(.t 14)]),iH 16 (.gx (.qI false) [(.t 15)])]) (.cond (.t 16) (.seq (.ops [iM 17 0,iM 18 4,iH 19 (.call 169 [(.t 17),(kI 110),(.t 18)])]) .ret) .skip)) (.seq (.di [iM 20 3,iH 21 (.call 170 [(.t 20)]),iP 22 (.an 1 (.t 7)),iH 23 (yD 1 22),iH 24 (.call 118 [(.t 23)]),⟨(some 25),none,(.p (.build [bG,(.sc (.string ⟨#[]⟩)),bG] [(0,1,(.t 21)),(1,1,(.t 24))]))⟩,⟨(some 26),none,(.p (.build [bG,(.sc (.string ⟨#[]⟩)),bG,(.sc (.int .i64 0))] [(0,3,(.t 25))]))⟩,iH 27 (.box 4 107 (.t 26)),iM 10 27] [[],[0],[],[2],[3,2,1,0],[1,0,4,3,2],[5,1,0,4,3,2],[6,5,1,0,4,3,2],[7,6,5,1,0,4,3,2]]) (.seq (.ops [iP 28 (.an 1 (.t 6)),iH 29 (yD 1 28),iP 30 (.an 1 (.t 7)),iH 31 (yD 1 30),iM 32 10,⟨none,none,(.h (.gx (.gi none) [(.t 29),(.t 31),(.t 32)]))⟩]) (.ops [iM 33 0,iM 34 0,iP 35 (.bV (.t 34)),iP 36 (.an 2 (.t 35)),iH 37 (yD 1 36),iM 38 10,iH 39 (.ep 1 105 (.sc (.pointer none)) 1 [(0,(.t 38))]),iH 40 (.ez 1 105 (.t 37) (.t 39)),iP 41 (.bV (.t 33)),iP 42 (.an 2 (.t 41)),iS 1 42 40])))))
theorem af5:Dk Tryz.prog 111 Y2 [] 43:=aV Tryz.func111
def Y3:IC:=(.seq (.ops [iH 6 (.box 2 164 (.t 1)),iH 7 (.box 4 25 (.t 2))]) (.seq (.ops [iH 11 (yA 2 6),iP 12 (.an 1 (.t 7)),iH 13 (yD 1 12),iH 14 (yC 191 11 13),iM 10 14]) (.block 0 (.seq (.ops [iM 29 10,iH 30 (.gx (.qI true) [(.t 29)]),iM 28 30]) (.cond (.t 28) (.ops [iM 31 0,iM 32 4,iH 33 (.call 169 [(.t 31),(kI 111),(.t 32)])]) (.seq (.di [iP 35 (.an 0 (.t 7)),iH 36 (yD 1 35),iP 37 (.aN .eql (.t 36) (.k (.sc (.int .u8 25)))),iM 38 37,gM 39 38 true 10,gP 40 38 true (.bV (.t 39)),gP 41 38 true (.an 3 (.t 40)),gH 42 38 true (yD 1 41),gP 43 38 true (.an 3 (.t 7)),gH 44 38 true (yD 1 43),gP 45 38 true (xL 44),gP 46 38 true (xB .neq 42 45),iP 47 (.pick (.t 38) (.t 46) kF),iM 34 47] [[],[0],[1,0],[2,1,0],[3,2,1,0],[4,3,2,1,0],[5,4,3,2,1,0],[6,5,4,3,2,1,0],[3,2,1,0],[8,3,2,1,0],[9,8,3,2,1,0],[7,6,5,4,3,2,1,0,10,9,8],[3,2,1,0,11,7,6,5,4,10,9,8],[12,3,2,1,0,11,7,6,5,4,10,9,8]]) (.cond (.t 34) (.ops [iM 48 0,iM 49 4,iH 50 (.call 169 [(.t 48),(kI 112),(.t 49)])]) (.di [iM 15 10,iM 16 10,iP 17 (.bV (.t 16)),iP 18 (.an 0 (.t 17)),iP 19 (.an 2 (.t 18)),iH 20 (yD 1 19),iM 21 3,iH 22 (.call 170 [(.t 21)]),iH 23 (.ep 1 30 bG 1 [(0,(.t 22))]),iH 24 (.ez 1 30 (.t 20) (.t 23)),iP 25 (.bV (.t 15)),iP 26 (.an 0 (.t 25)),iP 27 (.an 2 (.t 26)),iS 1 27 24] [[],[],[1],[2,1],[3,2,1],[4,3,2,1],[],[6],[7,6],[5,4,3,2,1,8,7,6],[0,1,2,3,4,5,6,7,8,9],[10,0,1,2,3,4,5,6,7,8,9],[11,10,0,1,2,3,4,5,6,7,8,9],[12,11,10,0,1,2,3,4,5,6,7,8,9]]))))))))
theorem af6:Dk Tryz.prog 174 Y3 [] 51:=aV Tryz.func174
def Y4:IC:=(.ops [iM 6 0,iP 7 (.bV (.t 6)),iP 8 (.an 4 (.t 7)),iH 9 (yD 1 8),iM 10 1,iM 11 2,iP 12 (.build [(.sc (.int .i64 0)),(.sc (.int .i64 0))] [(0,1,(.t 10)),(1,1,(.t 11))]),iH 13 (.cq (.t 9) [(.t 12)])])
theorem af7:Dk Tryz.prog 169 Y4 [] 14:=aV Tryz.func169
def PM:IC:=(.seq (.ops [iH 2 (.box 2 164 (.t 0)),iP 4 (.mv (.k (.sc (.pointer none))))]) (.seq (.seq (.ops [iP 6 (.an 1 (.t 2)),iH 7 (yD 1 6),iM 8 1,iH 9 (.gx (.pK none (.sc (.pointer none)) false) [(.t 7),(.t 8)]),iM 5 9]) (.seq (.ops [iM 10 5,iH 11 (.gx (.qI false) [(.t 10)]),iM 12 11,gP 13 12 false (.an 0 (.t 2)),gH 14 12 false (yD 1 13),gH 15 12 false (.gx (.qI true) [(.t 14)]),iP 16 (.pick (.t 12) kT (.t 15))]) (.cond (.t 16) (.seq (.ops [iM 17 5,iM 4 17]) .ret) .skip))) (.seq (.ops [iP 18 (.an 0 (.t 2)),iH 19 (yD 1 18),iP 20 (.bV (.t 19)),iP 21 (.an 0 (.t 20)),iH 22 (yA 2 21),iM 23 1,iH 24 (yC 191 22 23),iM 4 24]) .ret)))
theorem Y5:Dk Tryz.prog 191 PM [(.t 4)] 25:=aV Tryz.func191
def Y6:IC:=(.seq (.ops [iH 1 (.box 2 164 (.t 0)),iH 2 (.alloc (.agg [(.sc (.pointer none)),(.sc (.map none))]) 164)]) (.seq (.ops [iH 3 (yA 2 1),iP 4 (.build [(.sc (.pointer none)),(.sc (.map none))] [(0,2,(.t 3))]),iH 5 (.box 2 275 (.t 4)),iH 6 (.gx .oh []),iP 7 (.build [(.sc (.pointer none)),(.sc (.map none))] [(0,1,(.t 5)),(1,1,(.t 6))]),iS 2 2 7]) .ret))
theorem af8:Dk Tryz.prog 172 Y6 [(.c 2 2 true)] 8:=aV Tryz.func172
def bp(B:List Nat)(j:Nat):AV:=.ptr 4 (B.getD j 0) 0 0
def lE:AV:=.sc (.pointer none)
def eE(a:AV)(m:Nat):AV:=.agg [a,.ptr 0 m 0 0]
def tQ(s:AV):aP:=⟨2,[s],true,275⟩
def j6(B:List Nat)(f:bn):aP:=⟨0,mE (bp B) f,true,0⟩
def k8(n:Nat)(f:bn):Prop:=∀p∈f,p.2<n
def gu(B:List Nat)(H:Y):List bn→AV→List Nat→Prop
 |[],_,_=>False
 |[f],s,ms=>∃m,ms=[m]∧Y.find H m=some (j6 B f)∧s=eE lE m
 |f::g::r,s,ms=>∃m uc a s',ms=m::uc∧Y.find H m=some (j6 B f)∧s=eE (.ptr 2 a 0 0) m∧Y.find H a=some (tQ s')∧gu B H (g::r) s' uc
theorem gu.keep{B:List Nat}{H G:Y}:∀{env:List bn}{s:AV}{ms:List Nat},gu B H env s ms→(∀id b,Y.find H id=some b→((id∈ms∧b.k=0)∨(b.ty=275∧b.k=2))→Y.find G id=some b)→gu B G env s ms
 |[],_,_,h,_=>h.elim
 |[f],s,ms,h,k=>by
  obtain ⟨m,rfl,h1,h2⟩:=h
  exact ⟨m,rfl,k m _ h1 (.inl ⟨by simp,rfl⟩),h2⟩
 |f::g::r,s,ms,h,k=>by
  obtain ⟨m,uc,a,s',rfl,h1,h2,h3,h4⟩:=h
  exact ⟨m,uc,a,s',rfl,k m _ h1 (.inl ⟨by simp,rfl⟩),h2,k a _ h3 (.inr ⟨rfl,rfl⟩),h4.keep fun id b hb hc=>k id b hb (hc.imp (fun h=>⟨by simp[h.1],h.2⟩) (fun h=>h))⟩
theorem gu.form{B:List Nat}{H:Y}{env:List bn}{s:AV}{ms:List Nat}(h:gu B H env s ms):∃a m uc,s=eE a m∧ms=m::uc∧Y.find H m=some (j6 B (env.headD [])):=by
 match env,h with
 |[f],h=>obtain ⟨m,e,h1,h2⟩:=h;exact ⟨_,m,_,h2,e,h1⟩
 |f::g::r,h=>obtain ⟨m,uc,a,s',e,h1,h2,h3,h4⟩:=h;exact ⟨_,m,_,h2,e,h1⟩
theorem sj{B:List Nat}{f:bn}{x:ByteArray}:nQ (.string x) lE (mE (bp B) f)=match cL x f with
  |some j=>bp B j
  |none=>lE:=by
 rw[Lo]
 cases cL x f<;>rfl
theorem AJ(B:List Nat)(f:bn):fM none (mE (bp B) f)=True:=ab0 (bp B) f
theorem AK(l:List Int)(ro:Option (List AV))(H:Y)(hl:l.length≤100000000):D Tryz.prog 170 [.am 1 (aK l) ro] H (.ret (.am 1 (aK l) none)) H:=by
 refine aG (Nat.le_refl _) (afY (aA ?_))
 cases l with
 |nil =>
  simp -implicitDefEqProofs (maxSteps:=99999999) (disch:=omega) only[PJ,G7,va,vg,vs,vh,vk,simprocAttr]
  refine ⟨?_,?_⟩
  ·refine zD0 ?_
   exact dD .refl .nil
  ·refine zD0 ?_
   exact dD .refl .nil
 |cons x r =>
  simp only[List.length_cons] at hl
  simp -implicitDefEqProofs (maxSteps:=99999999) (disch:=omega) only[PJ,xC,aB,va,vg,vs,vh,vk,simprocAttr]
  refine ⟨by omega,ny (fun i hi=>by rw[ai hi]) (.aD (by unfold cP;rw[if_neg (by omega)];rfl) (aJ rfl) rfl (by simp[aB]) ?_)⟩
  simp only[List.drop_zero]
  rw[List.take_of_length_le (by simp[aB])]
  exact si (l:=x::r)
def fdV(B:List Nat):Option Nat→AV
 |some j=>bp B j
 |none=>lE
def tu(f:jT):AV:=.eP 159 (.agg [.sc (.int .i64 f.1),.sc (.int .i64 f.2)])
def fG(cf bB:Nat)(B:List Nat)(ws:WS):aP:=⟨5,[.agg [.sc (.pointer none),.ptr 0 cf 0 0,aW 1 (ws.all.map (bp B)) bB,.sc (.int .i64 ws.at_),.fn (.func 110) [] []]],true,167⟩
def bc(l:List (List Int)):List AV:=l.map fun p=>.am 1 (aK p) none
def jl(u:Nat)(b:Bd):aP:=⟨4,[.agg [.am 1 (aK b.path) none,.sc (.string b.name),aW 1 (bc b.cZ) u,.sc (.int .i64 b.many)]],true,107⟩
theorem Hf(s:AV)(hs:s.cells.length=2∧s.isAgg=true)(H:Y):DK Tryz.prog 172 [s] H (fun e H'=>∃v,e = .ret v∧∃a m,v=eE (.ptr 2 a 0 0) m∧(H.length≤a∧H.length≤m)∧Y.find H' a=some (tQ s)∧Y.find H' m=some (j6 [] [])∧H.length≤H'.length∧∀id,id<H.length→Y.find H' id=Y.find H id):=by
 obtain ⟨c1,c2⟩:=hs
 match s,c1,c2 with
 |.agg [x,y],_,_ =>
  refine af8 (aA ?_)
  simp only[Y6,ux]
  refine Z fun L hL=>?_
  refine aw ?_
  refine hL _ _ ?_
  clear hL
  refine Z fun L hL=>?_
  refine aw ?_
  refine hL _ _ ?_
  clear hL
  refine aw ?_
  refine ⟨_,rfl,H.length+2,H.length+3,rfl,⟨by omega,by omega⟩,?_,?_,by omega,fun id hid=>?_⟩
  ·rw[ai (by simp only[List.length_cons];omega),aJ (by simp only[List.length_cons])]
   rfl
  ·rw[aJ (by simp only[List.length_cons])]
   rfl
  ·rw[ai (by simp;omega),ai (by simp;omega),ai (by simp;omega),ai hid]
theorem Eb{H G:Y}{x y:AV}(h:Over H G)(hz:Gz G H.length [] x y):eB H (.bP x) G (.bP y) H:=by
 obtain ⟨A,rfl⟩:=h.split
 exact ku [] (by simp) (by simp) (by simp) (fun id k hid hk=>.inl ⟨hk,by rw[Y.bF hid];exact hk⟩) (fun i s k hs=>by simp at hs) hz
theorem Y7(f:jT)(H:Y):D Tryz.prog 110 [.agg [.sc (.int .i64 f.1),.sc (.int .i64 f.2)]] H (.bP (tu f)) H:=by
 refine aG (Nat.le_refl _) (af2 (aA ?_))
 simp only[YZ,ux]
 refine aw ?_
 exact Eb (by repeat constructor) (.eP (.agg (.cons (.same trivial) (.cons (.same trivial) .nil))))
theorem zw(f:jT)(wid cf bB:Nat)(B:List Nat)(ws:WS)(H:Y)(hw:Y.find H wid=some (fG cf bB B ws)):D Tryz.prog 169 [.ptr 5 wid 0 0,.sc (.int .i64 f.1),.sc (.int .i64 f.2)] H (.bP (tu f)) H:=by
 have hw':=hw
 unfold fG at hw'
 have hl:=Y7 f H
 refine aG (Nat.le_refl _) (af7 (aA ?_))
 simp only[Y4,ux]
 refine aI hw' ?_
 refine ⟨rfl,pU hl ?_⟩
 exact Eb .refl (.eP (.agg (.cons (.same trivial) (.cons (.same trivial) .nil))))
theorem Ru(B:List Nat)(x:ByteArray):∀(env:List bn)(s:AV)(ms:List Nat)(H:Y),gu B H env s ms→DK Tryz.prog 191 [s,.sc (.string x)] H (fun e H'=>∃v,e = .ret v∧v=fdV B (cF env x)∧H.length≤H'.length∧∀id,id<H.length→Y.find H' id=Y.find H id)
 |[],_,_,_,h=>h.elim
 |[f],s,ms,H,h=>by
  obtain ⟨m,rfl,h1,rfl⟩:=h
  have o7:=Y.ax h1
  have ki:=h1
  unfold j6 at ki
  have hok:=AJ B f
  have iG:=sj (B:=B) (f:=f) (x:=x)
  unfold lE at iG
  refine Y5 (aA ?_)
  simp only[PM,ux]
  unfold eE lE
  cases hg:cL x f with
  |some j =>
   have PN:cF [f] x=some j:=by rw[cF];rw[hg]
   rw[PN]
   simp only[hg] at iG
   unfold bp at iG hok ki
   refine Z fun L hL=>?_
   refine aw ?_
   refine hL _ _ ?_
   clear hL
   refine Z fun L hL=>?_
   refine aI (gq ki hok iG) ?_
   exact ⟨_,rfl,rfl,by omega,fun id hid=>ai hid⟩
  |none =>
   have PN:cF [f] x=none:=by rw[cF];rw[hg];rfl
   rw[PN]
   simp only[hg] at iG
   unfold bp at iG hok ki
   refine Z fun L hL=>?_
   refine aw ?_
   refine hL _ _ ?_
   clear hL
   refine Z fun L hL=>?_
   refine aI (gq ki hok iG) ?_
   exact ⟨_,rfl,rfl,by omega,fun id hid=>ai hid⟩
 |f::g::r,s,ms,H,h=>by
  obtain ⟨m,uc,a,s',rfl,h1,rfl,h3,h4⟩:=h
  have o7:=Y.ax h1
  have hal:=Y.ax h3
  have ki:=h1
  unfold j6 at ki
  have Vt:=h3
  unfold tQ at Vt
  have hok:=AJ B f
  have iG:=sj (B:=B) (f:=f) (x:=x)
  unfold lE at iG
  refine Y5 (aA ?_)
  simp only[PM,ux]
  unfold eE
  cases hg:cL x f with
  |some j =>
   have PN:cF (f::g::r) x=some j:=by rw[cF];rw[hg]
   rw[PN]
   simp only[hg] at iG
   unfold bp at iG hok ki
   refine Z fun L hL=>?_
   refine aw ?_
   refine hL _ _ ?_
   clear hL
   refine Z fun L hL=>?_
   refine aI (gq ki hok iG) ?_
   exact ⟨_,rfl,rfl,by omega,fun id hid=>ai hid⟩
  |none =>
   have PN:cF (f::g::r) x=cF (g::r) x:=by conv=>lhs;rw[cF];simp only[hg]
   rw[PN]
   simp only[hg] at iG
   unfold bp at iG hok ki
   have JL:∀b,gu B (b::H) (g::r) s' uc:=fun b=>h4.keep fun id k hk _=>by rw[ai (Y.ax hk)];exact hk
   refine Z fun L hL=>?_
   refine aw ?_
   refine hL _ _ ?_
   clear hL
   refine Z fun L hL=>?_
   refine aI (gq ki hok iG) ?_
   refine hL _ _ ?_
   clear hL
   obtain ⟨a',m',ms2,rfl,-,-⟩:=h4.form
   unfold eE at Vt JL
   refine aI Vt ?_
   refine gp (Ru B x (g::r) _ uc _ (JL _)) ?_
   rintro v H' hle ⟨rfl,q1,q2⟩
   refine aw ?_
   simp only[List.length_cons] at q1 q2
   exact ⟨_,rfl,rfl,by omega,fun id hid=>by rw[q2 id (by omega),ai hid]⟩
theorem Hg{k:ByteArray}{a:Nat}:∀{M:bn}{p:ByteArray×Nat},p∈fD k a M→p=(k,a)∨p∈M
 |[],p,h=>by simp only[fD,List.mem_singleton] at h;exact .inl h
 |q::r,p,h=>by
  simp only[fD] at h
  split at h
  ·rcases List.mem_cons.1 h with h|h
   ·exact .inl h
   ·exact .inr (by simp[h])
  ·rcases List.mem_cons.1 h with h|h
   ·exact .inr (by simp[h])
   ·rcases Hg h with h|h
    ·exact .inl h
    ·exact .inr (by simp[h])
theorem k8.set{n m:Nat}{f:bn}(h:k8 n f)(hm:n≤m){k:ByteArray}{a:Nat}(ha:a<m):k8 m (fD k a f):=fun p hp=>by
 rcases Hg hp with rfl|h1
 ·exact ha
 ·have:=h p h1;omega
theorem k8.le{n m:Nat}{f:bn}(h:k8 n f)(hm:n≤m):k8 m f:=fun p hp=>by have:=h p hp;omega
theorem Rv{B C:List Nat}{j:Nat}(h:j<B.length):bp (B++C) j=bp B j:=by unfold bp;rw[List.getD,List.getD,List.getElem?_append_left h]
theorem wj{B C:List Nat}{f:bn}(h:k8 B.length f):j6 (B++C) f=j6 B f:=by
 unfold j6
 congr 1
 unfold mE
 apply List.map_congr_left
 intro p hp
 rw[Rv (h p hp)]
theorem Y8{B C:List Nat}{l:List Nat}(h:∀j∈l,j<B.length):l.map (bp (B++C))=l.map (bp B):=List.map_congr_left fun j hj=>Rv (h j hj)
theorem gu.ext{B C:List Nat}{H:Y}:∀{env:List bn}{s:AV}{ms:List Nat},gu B H env s ms→(∀f∈env,k8 B.length f)→gu (B++C) H env s ms
 |[],_,_,h,_=>h.elim
 |[f],s,ms,h,k=>by
  obtain ⟨m,rfl,h1,h2⟩:=h
  exact ⟨m,rfl,by rw[wj (k f (by simp))];exact h1,h2⟩
 |f::g::r,s,ms,h,k=>by
  obtain ⟨m,uc,a,s',rfl,h1,h2,h3,h4⟩:=h
  exact ⟨m,uc,a,s',rfl,by rw[wj (k f (by simp))];exact h1,h2,h3,h4.ext fun x hx=>k x (by simp[hx])⟩
def tv(b:aP):Prop:=b.k≠0∧b.k≠5∧b.ty≠107∧(b.k=1→b.exact=true)
def dr(m:Nat)(H G:Y):Prop:=H.length≤G.length∧∀id b,Y.find H id=some b→(tv b∨(b.k=0∧id≠m))→Y.find G id=some b
theorem dr.refl{m:Nat}{H:Y}:dr m H H:=⟨Nat.le_refl _,fun _ _ h _=>h⟩
theorem dr.trans{m:Nat}{H G K:Y}(h:dr m H G)(k:dr m G K):dr m H K:=⟨Nat.le_trans h.1 k.1,fun id b hb hs=>k.2 id b (h.2 id b hb hs) hs⟩
theorem dr.cons{m:Nat}{H G:Y}(h:dr m H G)(b:Option aP):dr m H (b::G):=⟨by simp only[List.length_cons];have:=h.1;omega,fun id k hk hs=>by
 have:=h.2 id k hk hs
 rw[ai (Y.ax this)];exact this⟩
theorem dr.all{m:Nat}{H G:Y}(hl:H.length≤G.length)(h:∀id,id<H.length→Y.find G id=Y.find H id):dr m H G:=⟨hl,fun id b hb _=>by rw[h id (Y.ax hb)];exact hb⟩
structure BS(wid cf bB:Nat)(B U:List Nat)(ws:WS)(H:Y):Prop where
 w:Y.find H wid=some (fG cf bB B ws)
 al:ws.all≠[]→Y.find H bB=some ⟨1,ws.all.map (bp B),false,105⟩
 bl:B.length=ws.bs.length
 ul:U.length=ws.bs.length
 bd:∀j,j<ws.bs.length→Y.find H (B.getD j 0)=some (jl (U.getD j 0) (bq ws.bs j))
 us:∀j,j<ws.bs.length→(bq ws.bs j).cZ≠[]→Y.find H (U.getD j 0)=some ⟨1,bc (bq ws.bs j).cZ,false,30⟩
 nd:∀i j,i<ws.bs.length→j<ws.bs.length→B.getD i 0=B.getD j 0→i=j
 ud:∀i j,i<ws.bs.length→j<ws.bs.length→(bq ws.bs i).cZ≠[]→(bq ws.bs j).cZ≠[]→U.getD i 0=U.getD j 0→i=j
 ao:∀j∈ws.all,j<ws.bs.length
theorem BS.keep{wid cf bB:Nat}{B U:List Nat}{ws:WS}{H G:Y}(h:BS wid cf bB B U ws H)(k:∀id b,Y.find H id=some b→(b.k=5∨b.k=1∨b.k=4)→Y.find G id=some b):BS wid cf bB B U ws G :=
 ⟨k _ _ h.w (.inl rfl),fun e=>k _ _ (h.al e) (.inr (.inl rfl)),h.bl,h.ul,fun j hj=>k _ _ (h.bd j hj) (.inr (.inr rfl)),fun j hj e=>k _ _ (h.us j hj e) (.inr (.inl rfl)),h.nd,h.ud,h.ao⟩
theorem BS.cons{wid cf bB:Nat}{B U:List Nat}{ws:WS}{H:Y}(h:BS wid cf bB B U ws H)(b:Option aP):BS wid cf bB B U ws (b::H):=h.keep fun id k hk _=>by rw[ai (Y.ax hk)];exact hk
theorem gu.cons{B:List Nat}{H:Y}{env:List bn}{s:AV}{ms:List Nat}(h:gu B H env s ms)(b:Option aP):gu B (b::H) env s ms:=h.keep fun id k hk _=>by rw[ai (Y.ax hk)];exact hk
theorem gu.top{B:List Nat}{H G:Y}{env:List bn}{s:AV}{m:Nat}{ms:List Nat}(h:gu B H env s (m::ms))(hnd:m∉ms){f:bn}(hm:Y.find G m=some (j6 B f))(k:∀id b,Y.find H id=some b→id≠m→(b.k=0∨(b.ty=275∧b.k=2))→Y.find G id=some b):gu B G (f::env.tail) s (m::ms):=by
 match env,h with
 |[g],h =>
  obtain ⟨m',e,h1,h2⟩:=h
  cases e
  exact ⟨m,rfl,hm,h2⟩
 |g::g'::r,h =>
  obtain ⟨m',uc,a,s',e,h1,h2,h3,h4⟩:=h
  cases e
  refine ⟨m,ms,a,s',rfl,hm,h2,k a _ h3 (fun e=>?_) (.inr ⟨rfl,rfl⟩),h4.keep fun id b hb hc=>?_⟩
  rotate_left
  ·rcases hc with ⟨h5,h6⟩|h5
   ·exact k id b hb (fun e=>hnd (e▸h5)) (.inl h6)
   ·refine k id b hb (fun e=>?_) (.inr h5)
    rw[e,h1] at hb
    cases hb
    simp[j6] at h5
  rw[e] at h3
  rw[h3] at h1
  cases h1
def PP(wid cf:Nat)(s:AV)(m:Nat)(ms:List Nat)(B:List Nat)(H:Y)(r:Except jT (List bn×WS))(e:cH)(H':Y):Prop:=match r with
 |.error f=>e = .bP (tu f)∧dr m H H'
 |.ok q=>e = .ret (.aO [])∧dr m H H'∧∃bB C U,BS wid cf bB (B++C) U q.2 H'∧gu (B++C) H' q.1 s (m::ms)∧∀f∈q.1,k8 q.2.bs.length f
theorem Rx(wid cf bB:Nat)(B U:List Nat)(ws:WS)(H:Y)(env:List bn)(s:AV)(m:Nat)(ms:List Nat)(hB:BS wid cf bB B U ws H)(hE:gu B H env s (m::ms))(hnd:m∉ms)(hfo:∀f∈env,k8 ws.bs.length f)
  (t:Nd)(ro:Option (List AV))(p:List Int)(hp:p.length≤1000000)(hts:t.text.size≤100000000)(hal:ws.all.length≤90000000)(a:Nat) :
  DK Tryz.prog 111 [.ptr 5 wid 0 0,s,dZ t ro,.am 1 (aK p) none,.sc (.int .i64 a)] H (PP wid cf s m ms B H (dx env ws t.text p a)):=by
 obtain ⟨a0,m',ms2,rfl,e1,hm⟩:=hE.form
 cases e1
 have o7:=Y.ax hm
 have hwl:=Y.ax hB.w
 have hw:=hB.w
 have hm':=hm
 have hok:=AJ B (env.headD [])
 have iG:=sj (B:=B) (f:=env.headD []) (x:=t.text)
 unfold lE at iG
 unfold fG at hw
 unfold j6 at hm'
 rw[aQ]
 refine af5 (aA ?_)
 simp only[Y2,ux]
 unfold eE
 cases hg:cL t.text (env.headD []) with
 |some j =>
  have hb:dx env ws t.text p a = .error (110,a):=by unfold dx;rw[hg]
  rw[hb]
  simp only[hg] at iG
  unfold bp at iG hok hm'
  refine Z fun L hL=>?_
  refine aw ?_
  refine hL _ _ ?_
  clear hL
  refine Z fun L hL=>?_
  refine aI (gq hm' hok iG) ?_
  have hc:=(hB.cons (some ⟨2,[.agg [a0,.ptr 0 m 0 0]],true,164⟩)).cons (some ⟨4,[.agg [.sc (.int .u8 t.kind),.sc (.string t.text),.sc (.int .i64 t.num),.am 4 (bh t.kids) ro]],true,25⟩)
  refine pU (zw (110,a) wid cf bB B ws _ hc.w) ?_
  exact ⟨rfl,(dr.refl.cons _).cons _⟩
 |none =>
  have hb:dx env ws t.text p a = .ok (fD t.text ws.bs.length (env.headD [])::env.tail,{ ws with bs:=ws.bs++[⟨p,t.text,[],0⟩],all:=ws.all++[ws.bs.length] }):=by unfold dx;rw[hg]
  rw[hb]
  simp only[hg] at iG
  refine Z fun L hL=>?_
  refine aw ?_
  refine hL _ _ ?_
  clear hL
  refine Z fun L hL=>?_
  refine aI (gq hm' hok iG) ?_
  have adI:k8 B.length (env.headD []):=by
   rw[hB.bl]
   cases env with
   |nil=>exact fun p hp=>by simp at hp
   |cons f r=>exact hfo f (by simp)
  have ob:bp (B++[H.length+2]) B.length = .ptr 4 (H.length+2) 0 0:=by simp[bp,List.getD]
  have hmp:qJ (.string t.text) (.ptr 4 (H.length+2) 0 0) (mE (bp B) (env.headD []))=mE (bp (B++[H.length+2])) (fD t.text B.length (env.headD [])):=by
   have h1:mE (bp B) (env.headD [])=mE (bp (B++[H.length+2])) (env.headD []):=by
    have:=wj (C:=[H.length+2]) adI
    unfold j6 at this
    simp only[aP.mk.injEq,true_and,and_true] at this
    exact this.symm
   rw[h1,←ob]
   exact Lp
  refine hL _ _ ?_
  clear hL
  refine Z fun L hL=>?_
  refine aw ?_
  refine aL (AK p none _ (by omega)) ?_
  refine aw ?_
  refine aL (IY _ _ hts) ?_
  refine aw ?_
  refine hL _ _ ?_
  clear hL
  refine Z fun L hL=>?_
  refine aI (gq hm' hok hmp) ?_
  refine hL _ _ ?_
  clear hL
  have hwm:wid≠m:=fun e=>by rw[e,hm] at hw;simp[j6] at hw
  have adJ:ws.all≠[]→bB<H.length:=fun e=>Y.ax (hB.al e)
  have ham:ws.all≠[]→bB≠m:=fun e e2=>by
   have:=hB.al e
   rw[e2,hm] at this
   simp[j6] at this
  have rh:ws.all.map (bp B)≠[]→ws.all≠[]:=fun e e2=>e (by rw[e2];rfl)
  obtain ⟨tR,F,p1,p2,p3,p4,p5,p6⟩:=tq (H:=some ⟨4,[.agg [.am 1 (aK p) none,.sc (.string t.text),.am 0 [] (some []),.sc (.int .i64 0)]],true,107⟩::some ⟨4,[.agg [.sc (.int .u8 t.kind),.sc (.string t.text),.sc (.int .i64 t.num),.am 4 (bh t.kids) ro]],true,25⟩::some ⟨2,[.agg [a0,.ptr 0 m 0 0]],true,164⟩::Y.set H m (some ⟨0,mE (bp (B++[H.length+2])) (fD t.text B.length (env.headD [])),true,0⟩)) (k:=1) (ty:=105) (xs:=ws.all.map (bp B)) (ys:=[.ptr 4 (H.length+2) 0 0]) (id:=bB)
   (fun e=>by
    have e:=rh e
    have:=adJ e
    rw[ai (by simp only[List.length_cons,Y.af];omega),ai (by simp only[List.length_cons,Y.af];omega),ai (by rw[Y.af];omega),Y.aj (ham e),hB.al e,bj (by simpa using e)]) (by simp only[List.length_map,List.length_cons,List.length_nil];omega)
  have hne:ws.all.map (bp B)++[AV.ptr 4 (H.length+2) 0 0]≠[]:=by simp
  obtain ⟨vC,L5⟩:=p4 hne
  simp only[List.length_cons,Y.af] at L5 p5 p6
  have cE:∀id b,Y.find H id=some b→id≠m→(ws.all≠[]→id≠bB)→Y.find F id=some b:=fun id b hb h1 h2=>by
   have:=Y.ax hb
   rw[p6 id (by omega) (fun e=>h2 (rh e)),ai (by simp only[List.length_cons,Y.af];omega),ai (by simp only[List.length_cons,Y.af];omega),ai (by rw[Y.af];omega),Y.aj h1,hb]
  have jO:=cE wid _ hw hwm (fun e e2=>by have:=hB.al e;rw[←e2,hw] at this;simp at this)
  refine aI (kY hw p1 p2 p3 jO) ?_
  have hwF:wid<F.length:=by omega
  have hk:∀(x:Option aP) id b,Y.find H id=some b→id≠m→id≠wid→(ws.all≠[]→id≠bB)→Y.find (Y.set F wid x) id=some b:=fun x id b hb h1 h2 h3=>by
   rw[Y.aj h2]
   exact cE id b hb h1 h3
  have Aw:∀id b,Y.find H id=some b→(b.k≠5→id≠wid)∧((b.k≠1∨b.ty≠105∨b.exact=true)→ws.all≠[]→id≠bB)∧(b.k≠0→id≠m):=fun id b hb=>by
   refine ⟨fun h e=>?_,fun h e1 e=>?_,fun h e=>?_⟩
   ·rw[e,hw] at hb;cases hb;simp at h
   ·rw[e,hB.al e1] at hb;cases hb;simp at h
   ·rw[e,hm] at hb;cases hb;simp[j6] at h
  have uh:Y.find F (H.length+2)=some ⟨4,[.agg [.am 1 (aK p) none,.sc (.string t.text),.am 0 [] (some []),.sc (.int .i64 0)]],true,107⟩:=by
   rw[p6 (H.length+2) (by omega) (fun e=>by have:=adJ (rh e);omega),aJ (by simp only[List.length_cons,Y.af])]
  have hmF:Y.find F m=some (j6 (B++[H.length+2]) (fD t.text B.length (env.headD []))):=by
   rw[p6 m (by omega) (fun e=>(ham (rh e)).symm),ai (by simp only[List.length_cons,Y.af];omega),ai (by simp only[List.length_cons,Y.af];omega),ai (by rw[Y.af];omega),Y.aC o7]
   rfl
  have iq:=hB.bl
  have tZ:=hB.ul
  have Ry:∀j,j<ws.bs.length→bq (ws.bs++[(⟨p,t.text,[],0⟩:Bd)]) j=bq ws.bs j:=fun j hj=>by simp[bq,List.getD,List.getElem?_append_left hj]
  have Rz:bq (ws.bs++[(⟨p,t.text,[],0⟩:Bd)]) ws.bs.length=⟨p,t.text,[],0⟩:=by simp[bq,List.getD]
  have Y9:∀j,j<ws.bs.length→(B++[H.length+2]).getD j 0=B.getD j 0:=fun j hj=>by rw[List.getD,List.getD,List.getElem?_append_left (by omega)]
  have hUo:∀j,j<ws.bs.length→(U++[0]).getD j 0=U.getD j 0:=fun j hj=>by rw[List.getD,List.getD,List.getElem?_append_left (by omega)]
  have Lv:(B++[H.length+2]).getD ws.bs.length 0=H.length+2:=by simp[List.getD,←iq]
  have adK:∀j,j<ws.bs.length→B.getD j 0<H.length:=fun j hj=>Y.ax (hB.bd j hj)
  have hall:ws.all.map (bp B)++[AV.ptr 4 (H.length+2) 0 0]=(ws.all++[ws.bs.length]).map (bp (B++[H.length+2])):=by
   rw[List.map_append,Y8 fun j hj=>by rw[iq];exact hB.ao j hj]
   simp only[List.map_cons,List.map_nil]
   rw[←iq,ob]
  refine ⟨rfl,⟨by rw[Y.af];omega,fun id b hb hs=>?_⟩,tR,[H.length+2],U++[0],⟨?_,fun _=>?_,?_,?_,fun j hj=>?_,fun j hj e=>?_,fun i j hi hj e=>?_,fun i j hi hj e1 e2 e=>?_,fun j hj=>?_⟩,?_,fun f hf=>?_⟩
  ·obtain ⟨g1,g2,g3⟩:=Aw id b hb
   rcases hs with hs|⟨h0,hs⟩
   ·exact hk _ id b hb (g3 hs.1) (g1 hs.2.1) (g2 (by
     by_cases c:b.k=1
     ·exact .inr (.inr (hs.2.2.2 c))
     ·exact .inl c))
   ·exact hk _ id b hb hs (g1 (by omega)) (g2 (.inl (by omega)))
  ·rw[Y.aC hwF]
   unfold fG
   rw[hall]
  ·rw[Y.aj (by omega),vC,bj hne,hall]
  ·simp[iq]
  ·simp[tZ]
  ·simp only[List.length_append,List.length_cons,List.length_nil] at hj
   by_cases c:j<ws.bs.length
   ·have hb:=hB.bd j c
    obtain ⟨g1,g2,g3⟩:=Aw _ _ hb
    simp only[Ry j c,Y9 j c,hUo j c]
    exact hk _ _ _ hb (g3 (by simp[jl])) (g1 (by simp[jl])) (g2 (.inl (by simp[jl])))
   ·have e:j=ws.bs.length:=by omega
    subst e
    simp only[Rz,Lv]
    rw[Y.aj (by omega),uh]
    rfl
  ·simp only[List.length_append,List.length_cons,List.length_nil] at hj
   by_cases c:j<ws.bs.length
   ·simp only[Ry j c] at e ⊢
    simp only[hUo j c]
    have hb:=hB.us j c e
    obtain ⟨g1,g2,g3⟩:=Aw _ _ hb
    exact hk _ _ _ hb (g3 (by simp)) (g1 (by simp)) (g2 (.inr (.inl (by simp))))
   ·have e2:j=ws.bs.length:=by omega
    subst e2
    simp only[Rz] at e
    exact absurd rfl e
  ·simp only[List.length_append,List.length_cons,List.length_nil] at hi hj
   by_cases c:i<ws.bs.length<;>by_cases c2:j<ws.bs.length
   ·rw[Y9 i c,Y9 j c2] at e
    exact hB.nd i j c c2 e
   ·have e2:j=ws.bs.length:=by omega
    subst e2
    rw[Y9 i c,Lv] at e
    have:=adK i c
    omega
   ·have e2:i=ws.bs.length:=by omega
    subst e2
    rw[Y9 j c2,Lv] at e
    have:=adK j c2
    omega
   ·omega
  ·simp only[List.length_append,List.length_cons,List.length_nil] at hi hj
   by_cases c:i<ws.bs.length<;>by_cases c2:j<ws.bs.length
   ·simp only[Ry i c] at e1
    simp only[Ry j c2] at e2
    rw[hUo i c,hUo j c2] at e
    exact hB.ud i j c c2 e1 e2 e
   ·have e3:j=ws.bs.length:=by omega
    subst e3
    simp only[Rz] at e2
    exact absurd rfl e2
   ·have e3:i=ws.bs.length:=by omega
    subst e3
    simp only[Rz] at e1
    exact absurd rfl e1
   ·omega
  ·simp only[List.length_append,List.length_cons,List.length_nil]
   rcases List.mem_append.1 hj with h|h
   ·have:=hB.ao j h;omega
   ·rw[List.mem_singleton] at h;omega
  ·refine (hE.ext (C:=[H.length+2]) (by rw[iq];exact hfo)).top hnd ?_ (fun id b hb h1 h2=>?_)
   ·rw[Y.aj hwm.symm,hmF,iq]
   ·obtain ⟨g1,g2,g3⟩:=Aw id b hb
    have h3:b.k≠5∧b.k≠1:=by rcases h2 with h|⟨_,h⟩<;>omega
    exact hk _ id b hb h1 (g1 h3.1) (g2 (.inl h3.2))
  ·simp only[List.length_append,List.length_cons,List.length_nil]
   rcases List.mem_cons.1 hf with rfl|h
   ·exact (iq▸adI).set (by omega) (by omega)
   ·exact (hfo f (List.mem_of_mem_tail h)).le (by omega)
def dQ(H G:Y):Prop:=H.length≤G.length∧∀id b,Y.find H id=some b→(tv b∨b.k=0)→Y.find G id=some b
theorem dQ.m{H G:Y}(h:dQ H G)(m:Nat):dr m H G:=⟨h.1,fun id b hb hs=>h.2 id b hb (hs.imp (fun h=>h) fun h=>h.1)⟩
theorem dQ.refl{H:Y}:dQ H H:=⟨Nat.le_refl _,fun _ _ h _=>h⟩
theorem dQ.trans{H G K:Y}(h:dQ H G)(k:dQ G K):dQ H K:=⟨Nat.le_trans h.1 k.1,fun id b hb hs=>k.2 id b (h.2 id b hb hs) hs⟩
theorem dQ.cons{H G:Y}(h:dQ H G)(b:Option aP):dQ H (b::G):=⟨by simp only[List.length_cons];have:=h.1;omega,fun id k hk hs=>by
 have:=h.2 id k hk hs
 rw[ai (Y.ax this)];exact this⟩
theorem dQ.all{H G:Y}(hl:H.length≤G.length)(h:∀id,id<H.length→Y.find G id=Y.find H id):dQ H G:=⟨hl,fun id b hb _=>by rw[h id (Y.ax hb)];exact hb⟩
theorem gu.AL{B:List Nat}{H G:Y}{env:List bn}{s:AV}{ms:List Nat}(h:gu B H env s ms)(k:dQ H G):gu B G env s ms:=h.keep fun id b hb hc=>k.2 id b hb (hc.elim (fun h=>.inr h.2) fun h=>.inl ⟨by omega,by omega,by rw[h.1];decide,by omega⟩)
theorem BS.same{wid cf bB:Nat}{B U:List Nat}{ws:WS}{H G:Y}(h:BS wid cf bB B U ws H)(k:∀id,id<H.length→Y.find G id=Y.find H id):BS wid cf bB B U ws G:=h.keep fun id b hb _=>by rw[k id (Y.ax hb)];exact hb
def PQ(wid cf:Nat)(B:List Nat)(H:Y)(r:Except jT WS)(e:cH)(H':Y):Prop:=match r with
 |.error f=>e = .bP (tu f)∧dQ H H'
 |.ok ws=>e = .ret (.aO [])∧dQ H H'∧∃bB U,BS wid cf bB B U ws H'
theorem qo(a:List (List Int))(p:List Int):bc (a++[p])=bc a++[.am 1 (aK p) none]:=by simp[bc]
theorem BS.used{wid cf bB:Nat}{B U:List Nat}{ws:WS}{G:Y}(hB:BS wid cf bB B U ws G){j:Nat}(hj:j<ws.bs.length)(p:List Int)(yN:(bq ws.bs j).cZ.length≤90000000) :
  ∃u' F,gN G 1 30 [.am 1 (aK p) none] (aW 1 (bc (bq ws.bs j).cZ) (U.getD j 0))∧lB G 1 [.am 1 (aK p) none] (aW 1 (bc (bq ws.bs j).cZ) (U.getD j 0))=aW 1 (bc (bq ws.bs j).cZ++[.am 1 (aK p) none]) u'∧
   jx G 1 30 [.am 1 (aK p) none] (aW 1 (bc (bq ws.bs j).cZ) (U.getD j 0))=F∧Y.find F (B.getD j 0)=some (jl (U.getD j 0) (bq ws.bs j))∧
   dQ G (Y.set F (B.getD j 0) (some (jl u' { bq ws.bs j with cZ:=(bq ws.bs j).cZ++[p] })))∧
   BS wid cf bB B (U.set j u') { ws with bs:=ws.bs.set j { bq ws.bs j with cZ:=(bq ws.bs j).cZ++[p] } } (Y.set F (B.getD j 0) (some (jl u' { bq ws.bs j with cZ:=(bq ws.bs j).cZ++[p] }))):=by
 have LG:bc (bq ws.bs j).cZ≠[]→(bq ws.bs j).cZ≠[]:=fun e e2=>e (by rw[e2];rfl)
 obtain ⟨u',F,p1,p2,p3,p4,p5,p6⟩:=tq (H:=G) (k:=1) (ty:=30) (xs:=bc (bq ws.bs j).cZ) (ys:=[.am 1 (aK p) none]) (id:=U.getD j 0) (fun e=>by rw[hB.us j hj (LG e),bj e]) (by simp only[bc,List.length_map,List.length_cons,List.length_nil];omega)
 have hne:bc (bq ws.bs j).cZ++[AV.am 1 (aK p) none]≠[]:=by simp
 obtain ⟨vC,L5⟩:=p4 hne
 rw[bj hne] at vC
 have hbd:=hB.bd j hj
 have iq:=Y.ax hbd
 have cE:∀id b,Y.find G id=some b→(b.k≠1∨b.ty≠30∨b.exact=true∨id≠U.getD j 0)→Y.find F id=some b:=fun id b hb h=>by
  rw[p6 id (Y.ax hb) fun e e2=>?_]
  ·exact hb
  ·rw[e2,hB.us j hj (LG e)] at hb
   cases hb
   rcases h with h|h|h|h
   ·simp at h
   ·simp at h
   ·simp at h
   ·exact h e2
 have jO:Y.find F (B.getD j 0)=some (jl (U.getD j 0) (bq ws.bs j)):=cE _ _ hbd (.inl (by simp[jl]))
 have hk:∀(x:Option aP) id b,Y.find G id=some b→(b.k≠1∨b.ty≠30∨b.exact=true∨id≠U.getD j 0)→id≠B.getD j 0→Y.find (Y.set F (B.getD j 0) x) id=some b:=fun x id b hb h h2=>by
  rw[Y.aj h2];exact cE id b hb h
 have ob:∀id b,Y.find G id=some b→(b.k≠4∨b.ty≠107)→id≠B.getD j 0:=fun id b hb h e=>by
  rw[e,hbd] at hb;cases hb;simp[jl] at h
 have xD:∀i,bq (ws.bs.set j { bq ws.bs j with cZ:=(bq ws.bs j).cZ++[p] }) i=if i=j then { bq ws.bs j with cZ:=(bq ws.bs j).cZ++[p] } else bq ws.bs i:=fun i=>by
  by_cases e:i=j
  ·subst e;simp[bq,List.getD,hj]
  ·rw[if_neg e];simp[bq,List.getD,List.getElem?_set_ne (Ne.symm e)]
 have hUs:∀i,i<ws.bs.length→(U.set j u').getD i 0=if i=j then u' else U.getD i 0:=fun i hi=>by
  have:=hB.ul
  by_cases e:i=j
  ·subst e
   have h:i<U.length:=by omega
   simp[List.getD,h]
  ·rw[if_neg e];simp[List.getD,List.getElem?_set_ne (Ne.symm e)]
 refine ⟨u',F,p1,p2,p3,jO,⟨by rw[Y.af];exact p5,fun id b hb hs=>?_⟩,⟨?_,fun e=>?_,?_,?_,fun i hi=>?_,fun i hi e=>?_,fun i i' hi hi' e=>?_,fun i i' hi hi' e1 e2 e=>?_,fun i hi=>?_⟩⟩
 ·refine hk _ id b hb ?_ (ob id b hb ?_)
  ·rcases hs with hs|hs
   ·by_cases c:b.k=1
    ·exact .inr (.inr (.inl (hs.2.2.2 c)))
    ·exact .inl c
   ·exact .inl (by omega)
  ·rcases hs with hs|hs
   ·exact .inr hs.2.2.1
   ·exact .inl (by omega)
 ·exact hk _ _ _ hB.w (.inl (by simp[fG])) (ob _ _ hB.w (.inl (by simp[fG])))
 ·exact hk _ _ _ (hB.al e) (.inr (.inl (by simp))) (ob _ _ (hB.al e) (.inl (by simp)))
 ·rw[List.length_set];exact hB.bl
 ·rw[List.length_set,List.length_set];exact hB.ul
 ·simp only[List.length_set] at hi
  simp only[xD,hUs i hi]
  by_cases e:i=j
  ·subst e
   simp only[if_true]
   rw[Y.aC (by omega)]
  ·simp only[if_neg e]
   exact hk _ _ _ (hB.bd i hi) (.inl (by simp[jl])) (fun h=>e (hB.nd i j hi hj h))
 ·simp only[List.length_set] at hi
  simp only[xD] at e
  simp only[xD,hUs i hi]
  by_cases c:i=j
  ·subst c
   simp only[if_true]
   rw[Y.aj (by omega),vC,qo]
  ·simp only[if_neg c] at e ⊢
   have hb:=hB.us i hi e
   by_cases c2:(bq ws.bs j).cZ=[]
   ·have h3:Y.find F (U.getD i 0)=some ⟨1,bc (bq ws.bs i).cZ,false,30⟩:=by
     rw[p6 _ (Y.ax hb) fun h=>absurd c2 (LG h)];exact hb
    rw[Y.aj (ob _ _ hb (.inl (by simp)))]
    exact h3
   ·exact hk _ _ _ hb (.inr (.inr (.inr fun h=>c (hB.ud i j hi hj e c2 h)))) (ob _ _ hb (.inl (by simp)))
 ·simp only[List.length_set] at hi hi'
  exact hB.nd i i' hi hi' e
 ·simp only[List.length_set] at hi hi'
  simp only[xD] at e1 e2
  rw[hUs i hi,hUs i' hi'] at e
  by_cases c:i=j<;>by_cases c2:i'=j
  ·omega
  ·rw[if_pos c,if_neg c2] at e
   rw[if_neg c2] at e2
   have:=Y.ax (hB.us i' hi' e2)
   omega
  ·rw[if_neg c,if_pos c2] at e
   rw[if_neg c] at e1
   have:=Y.ax (hB.us i hi e1)
   omega
  ·rw[if_neg c,if_neg c2] at e
   rw[if_neg c] at e1
   rw[if_neg c2] at e2
   exact hB.ud i i' hi hi' e1 e2 e
 ·simp only[List.length_set]
  exact hB.ao i hi
theorem Za(wid cf bB:Nat)(B U:List Nat)(ws:WS)(H:Y)(env:List bn)(s:AV)(ms:List Nat)(hB:BS wid cf bB B U ws H)(hE:gu B H env s ms)(hfo:∀x j,cF env x=some j→j<ws.bs.length)
  (t:Nd)(ro:Option (List AV))(hk:t.kind=22∨t.kind=25)(p:List Int)(hp:p.length≤1000000)(yN:∀j,(bq ws.bs j).cZ.length≤90000000)(a:Nat) :
  DK Tryz.prog 174 [.ptr 5 wid 0 0,s,dZ t ro,.am 1 (aK p) none,.sc (.int .i64 a)] H (PQ wid cf B H (jU env ws t.kind t.text t.kids.length p a)):=by
 obtain ⟨a0,m,ms2,rfl,e1,hm⟩:=hE.form
 have hnm:dQ H (some ⟨4,[.agg [.sc (.int .u8 t.kind),.sc (.string t.text),.sc (.int .i64 t.num),.am 4 (bh t.kids) ro]],true,25⟩::some ⟨2,[.agg [a0,.ptr 0 m 0 0]],true,164⟩::H):=(dQ.refl.cons _).cons _
 have hBc:=(hB.cons (some ⟨2,[.agg [a0,.ptr 0 m 0 0]],true,164⟩)).cons (some ⟨4,[.agg [.sc (.int .u8 t.kind),.sc (.string t.text),.sc (.int .i64 t.num),.am 4 (bh t.kids) ro]],true,25⟩)
 have hEc:=(hE.cons (some ⟨2,[.agg [a0,.ptr 0 m 0 0]],true,164⟩)).cons (some ⟨4,[.agg [.sc (.int .u8 t.kind),.sc (.string t.text),.sc (.int .i64 t.num),.am 4 (bh t.kids) ro]],true,25⟩)
 rw[aQ]
 refine af6 (aA ?_)
 simp only[Y3,ux]
 unfold eE
 unfold eE at hEc
 refine Z fun L hL=>?_
 refine aw ?_
 refine hL _ _ ?_
 clear hL
 refine Z fun L hL=>?_
 refine aw ?_
 refine gp (Ru B t.text env _ ms _ hEc) ?_
 rintro v G hle ⟨rfl,q1,q2⟩
 simp only[List.length_cons] at q1 q2
 have Zb:=hBc.same q2
 have hKG:dQ H G:=hnm.trans (.all q1 q2)
 have hnb:Y.find G (H.length+1)=some ⟨4,[.agg [.sc (.int .u8 t.kind),.sc (.string t.text),.sc (.int .i64 t.num),.am 4 (bh t.kids) ro]],true,25⟩:=by
  rw[q2 _ (by omega),aJ (by simp only[List.length_cons])]
 refine aw ?_
 refine hL _ _ ?_
 clear hL
 cases hf:cF env t.text with
 |none =>
  have hu:jU env ws t.kind t.text t.kids.length p a = .error (111,a):=by unfold jU;rw[hf]
  rw[hu]
  unfold fdV
  unfold lE
  refine aw ?_
  refine pU (zw (111,a) wid cf bB B ws _ Zb.w) ?_
  exact ⟨rfl,hKG⟩
 |some j =>
  have hj:=hfo _ _ hf
  unfold fdV bp
  have hbd:=Zb.bd j hj
  unfold jl at hbd
  have hwG:=Zb.w
  obtain ⟨u',F,p1,p2,p3,jO,T6,Ec⟩:=Zb.used hj p (yN j)
  have Zc:=jO
  unfold jl at Zc T6
  rw[qo] at T6
  rcases hk with hk|hk
  ·have hu:jU env ws t.kind t.text t.kids.length p a = .ok { ws with bs:=ws.bs.set j { bq ws.bs j with cZ:=(bq ws.bs j).cZ++[p] } }:=by unfold jU;rw[hf,hk];rfl
   rw[hu]
   rw[hk] at hnb
   simp -implicitDefEqProofs (maxSteps:=99999999) (disch:=first|omega|(simp only[vl]<;>omega)) only[vu,vg,hbd,hnb,aH,hk,va,vg,vs,vw,vk,simprocAttr]
   refine aL (AK p none _ (by omega)) ?_
   refine aI (ei p1 p2 p3 Zc) ?_
   refine ⟨rfl,hKG.trans T6,bB,U.set j u',?_⟩
   unfold jl at Ec
   rw[qo] at Ec
   exact Ec
  ·rw[hk] at hnb
   by_cases c:(bq ws.bs j).many=t.kids.length
   ·have hu:jU env ws t.kind t.text t.kids.length p a = .ok { ws with bs:=ws.bs.set j { bq ws.bs j with cZ:=(bq ws.bs j).cZ++[p] } }:=by
     unfold jU
     rw[hf,hk]
     simp only
     rw[if_neg (fun h=>h.2 c)]
    rw[hu]
    have hc:(decide ¬(bq ws.bs j).many=(t.kids.length:Int))=false:=by simp[c]
    simp -implicitDefEqProofs (maxSteps:=99999999) (disch:=first|omega|(simp only[vl]<;>omega)) only[vu,vg,hbd,hnb,aH,hk,hc,va,vg,vs,vw,vk,simprocAttr]
    refine aL (AK p none _ (by omega)) ?_
    refine aI (ei p1 p2 p3 Zc) ?_
    refine ⟨rfl,hKG.trans T6,bB,U.set j u',?_⟩
    unfold jl at Ec
    rw[qo] at Ec
    exact Ec
   ·have hu:jU env ws t.kind t.text t.kids.length p a = .error (112,a):=by
     unfold jU
     rw[hf,hk]
     simp only
     rw[if_pos ⟨trivial,c⟩]
    rw[hu]
    simp -implicitDefEqProofs (maxSteps:=99999999) (disch:=first|omega|(simp only[vl]<;>omega)) only[vu,vg,hbd,hnb,aH,hk,c,va,vg,vs,vw,vk,simprocAttr]
    refine pU (zw (112,a) wid cf bB B ws _ Zb.w) ?_
    exact ⟨rfl,hKG⟩
theorem L6{fu:bn}{p:List Int}:∀{l:List Nd}{env:List bn}{ws:WS}{i k:Nat},k<l.length→bJ fu (l.take (k+1)) env ws p i=match bJ fu (l.take k) env ws p i with
  |.error e=>.error e
  |.ok q=>bR fu (aE l k) q.1 q.2 (p++[((i+k:Nat):Int)]):=by
 intro l
 induction l with
 |nil=>intro env ws i k h;simp at h
 |cons t r ih =>
  intro env ws i k h
  cases k with
  |zero =>
   have hn:aE (t::r) 0=t:=by simp[aE]
   simp only[List.take_succ_cons,List.take_zero,bJ,hn,Nat.add_zero]
   cases bR fu t env ws (p++[(i:Int)])<;>rfl
  |succ k =>
   have hn:aE (t::r) (k+1)=aE r k:=by simp[aE]
   rw[List.take_succ_cons]
   rw[List.take_succ_cons (i:=k)]
   simp only[bJ,hn]
   cases bR fu t env ws (p++[(i:Int)]) with
   |error e=>rfl
   |ok q =>
    simp only
    rw[ih (by simpa using h)]
    rw[show i+(k+1)=i+1+k by omega]
theorem L7{fu:bn}{p:List Int}{e:jT}:∀{l:List Nd}{env:List bn}{ws:WS}{i k:Nat},bJ fu (l.take k) env ws p i = .error e→bJ fu l env ws p i = .error e:=by
 intro l
 induction l with
 |nil=>intro env ws i k h;simpa using h
 |cons t r ih =>
  intro env ws i k h
  cases k with
  |zero=>simp[bJ] at h
  |succ k =>
   rw[List.take_succ_cons] at h
   simp only[bJ] at h ⊢
   cases hn:bR fu t env ws (p++[(i:Int)]) with
   |error e'=>rw[hn] at h;simpa using h
   |ok q =>
    rw[hn] at h
    simp only at h ⊢
    exact ih h
theorem Ed{env:List bn}{ws:WS}{s:ByteArray}{p:List Int}{a:Nat}{r:List bn×WS}(h:dx env ws s p a = .ok r):r.1.tail=env.tail∧r.1≠[]:=by
 unfold dx at h
 split at h
 ·cases h
 ·cases h
  exact ⟨rfl,by simp⟩
theorem xE{fu:bn}{p:List Int}:∀(l:List Nd),(∀u∈l,∀(env:List bn)(ws:WS)(p:List Int)(r:List bn×WS),env≠[]→bR fu u env ws p = .ok r→r.1.tail=env.tail∧r.1≠[])→
  ∀(env:List bn)(ws:WS)(i:Nat)(r:List bn×WS),env≠[]→bJ fu l env ws p i = .ok r→r.1.tail=env.tail∧r.1≠[]
 |[],_,env,ws,i,r,he,h=>by
  simp only[bJ] at h
  cases h
  exact ⟨rfl,he⟩
 |t::l,hc,env,ws,i,r,he,h=>by
  simp only[bJ] at h
  cases hn:bR fu t env ws (p++[(i:Int)]) with
  |error e=>rw[hn] at h;cases h
  |ok q =>
   rw[hn] at h
   obtain ⟨h1,h2⟩:=hc t (by simp) env ws _ q he hn
   obtain ⟨h3,h4⟩:=xE l (fun u hu=>hc u (by simp[hu])) q.1 q.2 (i+1) r h2 h
   exact ⟨h3.trans h1,h4⟩
theorem PR{fu:bn}(t:Nd):∀(env:List bn)(ws:WS)(p:List Int)(r:List bn×WS),env≠[]→bR fu t env ws p = .ok r→r.1.tail=env.tail∧r.1≠[]:=by
 induction t using Nd.ind with
 |_ t ih =>
  intro env ws p r he h
  have hk:=fun (p:List Int)=>xE (fu:=fu) (p:=p) t.kids ih
  obtain ⟨k,s,m,l⟩:=t
  simp only[Nd.kids] at hk
  simp only[bR] at h
  split at h
  ·split at h
   ·cases h
   ·cases h;exact ⟨rfl,he⟩
  split at h
  ·split at h
   ·cases h
   ·rename_i q hb
    obtain ⟨h1,h2⟩:=Ed hb
    obtain ⟨h3,h4⟩:=hk p q.1 q.2 0 r h2 h
    exact ⟨h3.trans h1,h4⟩
  split at h
  ·split at h
   ·cases h
   ·cases h;exact ⟨rfl,he⟩
  split at h
  ·split at h
   ·cases h
   split at h
   ·cases h
   ·rename_i q hb
    obtain ⟨h1,h2⟩:=hk p _ _ 0 q he hb
    obtain ⟨h3,h4⟩:=Ed h
    exact ⟨h3.trans h1,h4⟩
  split at h
  ·split at h
   ·cases h
   ·exact hk p _ _ 0 r he h
  split at h
  ·split at h
   ·cases h
   ·exact hk p _ _ 0 r he h
  ·exact hk p _ _ 0 r he h
theorem L8{fu:bn}{p:List Int}(l:List Nd)(env:List bn)(ws:WS)(i:Nat)(r:List bn×WS)(he:env≠[])(h:bJ fu l env ws p i = .ok r):r.1.tail=env.tail∧r.1≠[]:=xE l (fun u _=>PR u) env ws i r he h
def SZ(ws:WS)(N:Nat):Prop:=ws.all.length≤N∧∀j,(bq ws.bs j).cZ.length≤N
theorem SZ.le{ws:WS}{N M:Nat}(h:SZ ws N)(k:N≤M):SZ ws M:=⟨Nat.le_trans h.1 k,fun j=>Nat.le_trans (h.2 j) k⟩
theorem SZ.at_{ws:WS}{N a:Nat}(h:SZ ws N):SZ { ws with at_:=a } N:=h
theorem Uv{bs:List Bd}{b:Bd}{j:Nat}:bq (bs++[b]) j=bq bs j∨bq (bs++[b]) j=b:=by
 by_cases h:j<bs.length
 ·left;simp[bq,List.getD,List.getElem?_append_left h]
 ·by_cases h2:j=bs.length
  ·right;subst h2;simp[bq,List.getD]
  ·left
   have h3:bs.length+1≤j:=by omega
   simp[bq,List.getD,List.getElem?_eq_none (show (bs++[b]).length≤j by simp;omega),List.getElem?_eq_none (show bs.length≤j by omega)]
theorem Hj{bs:List Bd}{b:Bd}{i j:Nat}:bq (bs.set i b) j=bq bs j∨bq (bs.set i b) j=b:=by
 by_cases h:i=j
 ·subst h
  by_cases h2:i<bs.length
  ·right;simp[bq,List.getD,h2]
  ·left;simp[bq,List.getD,List.getElem?_eq_none (show (bs.set i b).length≤i by simp;omega),List.getElem?_eq_none (show bs.length≤i by omega)]
 ·left;simp[bq,List.getD,List.getElem?_set_ne h]
theorem zy{env:List bn}{ws:WS}{s:ByteArray}{p:List Int}{a N:Nat}{r:List bn×WS}(hz:SZ ws N)(h:dx env ws s p a = .ok r):SZ r.2 (N+1):=by
 unfold dx at h
 split at h
 ·cases h
 ·cases h
  refine ⟨by simp only[List.length_append,List.length_cons,List.length_nil];have:=hz.1;omega,fun j=>?_⟩
  simp only
  rcases Uv (bs:=ws.bs) (b:=⟨p,s,[],0⟩) (j:=j) with h|h<;>rw[h]
  ·have:=hz.2 j;omega
  ·simp
theorem Cm{env:List bn}{ws BZ:WS}{k:Int}{s:ByteArray}{n:Nat}{p:List Int}{a N:Nat}(hz:SZ ws N)(h:jU env ws k s n p a = .ok BZ):SZ BZ (N+1):=by
 unfold jU at h
 split at h
 ·cases h
 split at h
 ·cases h
 cases h
 refine ⟨by have:=hz.1;simp only;omega,fun j=>?_⟩
 simp only
 rename_i i _ _
 rcases Hj (bs:=ws.bs) (b:={ bq ws.bs i with cZ:=(bq ws.bs i).cZ++[p] }) (i:=i) (j:=j) with h|h<;>rw[h]
 ·have:=hz.2 j;omega
 ·have:=hz.2 i;simp;omega
theorem Ee{fu:bn}{p:List Int}:∀(l:List Nd),(∀u∈l,∀(env:List bn)(ws:WS)(p:List Int)(r:List bn×WS)(N:Nat),SZ ws N→bR fu u env ws p = .ok r→SZ r.2 (N+u.size))→
  ∀(env:List bn)(ws:WS)(i:Nat)(r:List bn×WS)(N:Nat),SZ ws N→bJ fu l env ws p i = .ok r→SZ r.2 (N+Nd.ay l)
 |[],_,env,ws,i,r,N,hz,h=>by
  simp only[bJ] at h
  cases h
  exact hz.le (by omega)
 |t::l,hc,env,ws,i,r,N,hz,h=>by
  simp only[bJ] at h
  cases hn:bR fu t env ws (p++[(i:Int)]) with
  |error e=>rw[hn] at h;cases h
  |ok q =>
   rw[hn] at h
   have h1:=hc t (by simp) env ws _ q N hz hn
   have h2:=Ee l (fun u hu=>hc u (by simp[hu])) q.1 q.2 (i+1) r _ h1 h
   exact h2.le (by simp[Nd.ay];omega)
theorem L9{fu:bn}(t:Nd):∀(env:List bn)(ws:WS)(p:List Int)(r:List bn×WS)(N:Nat),SZ ws N→bR fu t env ws p = .ok r→SZ r.2 (N+t.size):=by
 induction t using Nd.ind with
 |_ t ih =>
  intro env ws p r N hz h
  have hk:=fun (p:List Int)=>Ee (fu:=fu) (p:=p) t.kids ih
  have hs:t.size=1+Nd.ay t.kids:=by rw[Nd.size_eq]
  obtain ⟨k,s,m,l⟩:=t
  simp only[Nd.kids] at hk hs
  simp only[bR] at h
  have hA:∀j,SZ { ws with at_:=ws.at_+1,all:=ws.all++[j] } (N+1):=fun j=>⟨by simp;exact hz.1,fun j=>by have:=hz.2 j;simp only;omega⟩
  split at h
  ·split at h
   ·cases h
   ·rename_i q hb
    cases h
    exact (hk p _ _ 0 q _ (hA _) hb).le (by omega)
  split at h
  ·split at h
   ·cases h
   ·rename_i q hb
    exact (hk p _ _ 0 r _ (zy hz.at_ hb) h).le (by omega)
  split at h
  ·split at h
   ·cases h
   ·rename_i q hb
    cases h
    exact (hk p _ _ 0 q _ hz.at_ hb).le (by omega)
  split at h
  ·split at h
   ·cases h
   split at h
   ·cases h
   ·rename_i q hb
    exact (zy (hk p _ _ 0 q _ hz.at_ hb) h).le (by omega)
  split at h
  ·split at h
   ·cases h
   ·rename_i w hu
    exact (hk p _ _ 0 r _ (Cm hz.at_ hu) h).le (by omega)
  split at h
  ·split at h
   ·cases h
   ·rename_i w hu
    exact (hk p _ _ 0 r _ (Cm hz.at_ hu) h).le (by omega)
  ·exact (hk p _ _ 0 r _ hz.at_ h).le (by omega)
theorem Hl{fu:bn}{p:List Int}(l:List Nd)(env:List bn)(ws:WS)(i:Nat)(r:List bn×WS)(N:Nat)(hz:SZ ws N)(h:bJ fu l env ws p i = .ok r):SZ r.2 (N+Nd.ay l):=Ee l (fun u _=>L9 u) env ws i r N hz h
theorem I1(l:List Nd)(k:Nat):Nd.ay (l.take k)≤Nd.ay l:=by
 induction l generalizing k with
 |nil=>simp
 |cons t r ih =>
  cases k with
  |zero=>simp[Nd.ay]
  |succ k=>simp only[List.take_succ_cons,Nd.ay];have:=ih k;omega
theorem Ef{env:List bn}{ws:WS}{s:ByteArray}{p:List Int}{a:Nat}{r:List bn×WS}(h:dx env ws s p a = .ok r):r.2.at_=ws.at_:=by
 unfold dx at h
 split at h
 ·cases h
 ·cases h;rfl
theorem Cn{env:List bn}{ws BZ:WS}{k:Int}{s:ByteArray}{n:Nat}{p:List Int}{a:Nat}(h:jU env ws k s n p a = .ok BZ):BZ.at_=ws.at_:=by
 unfold jU at h
 split at h
 ·cases h
 split at h
 ·cases h
 cases h
 rfl
theorem Eg{fu:bn}{p:List Int}:∀(l:List Nd),(∀u∈l,∀(env:List bn)(ws:WS)(p:List Int)(r:List bn×WS),bR fu u env ws p = .ok r→r.2.at_=ws.at_+u.size)→
  ∀(env:List bn)(ws:WS)(i:Nat)(r:List bn×WS),bJ fu l env ws p i = .ok r→r.2.at_=ws.at_+Nd.ay l
 |[],_,env,ws,i,r,h=>by
  simp only[bJ] at h
  cases h
  simp[Nd.ay]
 |t::l,hc,env,ws,i,r,h=>by
  simp only[bJ] at h
  cases hn:bR fu t env ws (p++[(i:Int)]) with
  |error e=>rw[hn] at h;cases h
  |ok q =>
   rw[hn] at h
   have h1:=hc t (by simp) env ws _ q hn
   have h2:=Eg l (fun u hu=>hc u (by simp[hu])) q.1 q.2 (i+1) r h
   simp only[Nd.ay]
   omega
theorem Zd{fu:bn}(t:Nd):∀(env:List bn)(ws:WS)(p:List Int)(r:List bn×WS),bR fu t env ws p = .ok r→r.2.at_=ws.at_+t.size:=by
 induction t using Nd.ind with
 |_ t ih =>
  intro env ws p r h
  have hk:=fun (p:List Int)=>Eg (fu:=fu) (p:=p) t.kids ih
  have hs:t.size=1+Nd.ay t.kids:=by rw[Nd.size_eq]
  obtain ⟨k,s,m,l⟩:=t
  simp only[Nd.kids] at hk hs
  rw[hs]
  simp only[bR] at h
  split at h
  ·split at h
   ·cases h
   ·rename_i q hb
    cases h
    have:=hk p _ _ 0 q hb
    simp only at this ⊢;omega
  split at h
  ·split at h
   ·cases h
   ·rename_i q hb
    have h1:=Ef hb
    have:=hk p _ _ 0 r h
    simp only at h1;omega
  split at h
  ·split at h
   ·cases h
   ·rename_i q hb
    cases h
    have:=hk p _ _ 0 q hb
    simp only at this ⊢;omega
  split at h
  ·split at h
   ·cases h
   split at h
   ·cases h
   ·rename_i q hb
    have h1:=Ef h
    have:=hk p _ _ 0 q hb
    simp only at this;omega
  split at h
  ·split at h
   ·cases h
   ·rename_i w hu
    have h1:=Cn hu
    have:=hk p _ _ 0 r h
    simp only at h1;omega
  split at h
  ·split at h
   ·cases h
   ·rename_i w hu
    have h1:=Cn hu
    have:=hk p _ _ 0 r h
    simp only at h1;omega
  ·have:=hk p _ _ 0 r h
   simp only at this;omega
theorem Uw{fu:bn}{p:List Int}(l:List Nd)(env:List bn)(ws:WS)(i:Nat)(r:List bn×WS)(h:bJ fu l env ws p i = .ok r):r.2.at_=ws.at_+Nd.ay l:=Eg l (fun u _=>Zd u) env ws i r h
section
variable {fu:bn}{t:Nd}{env:List bn}{ws:WS}{p:List Int}
theorem Ze(h:t.kind=2):bR fu t env ws p=match bJ fu t.kids ([]::env) { ws with at_:=ws.at_+1,all:=ws.all++[(cL t.text fu).getD 0] } p 0 with
  |.error e=>.error e
  |.ok r=>.ok (env,r.2):=by
 obtain ⟨k,s,m,l⟩:=t
 have h:k=2:=h
 subst h
 simp only[bR]
 rw[if_pos trivial]
 rfl
theorem Zf(h:t.kind=4):bR fu t env ws p=match dx env { ws with at_:=ws.at_+1 } t.text p ws.at_ with
  |.error e=>.error e
  |.ok r=>bJ fu t.kids r.1 r.2 p 0:=by
 obtain ⟨k,s,m,l⟩:=t
 have h:k=4:=h
 subst h
 simp only[bR]
 rw[if_neg (by decide),if_pos trivial]
 rfl
theorem Zg(h:t.kind=5):bR fu t env ws p=match bJ fu t.kids ([]::env) { ws with at_:=ws.at_+1 } p 0 with
  |.error e=>.error e
  |.ok r=>.ok (env,r.2):=by
 obtain ⟨k,s,m,l⟩:=t
 have h:k=5:=h
 subst h
 simp only[bR]
 rw[if_neg (by decide),if_neg (by decide),if_pos trivial]
 rfl
theorem Zh(h:t.kind=6):bR fu t env ws p=if (cL t.text (env.headD [])).isSome=true then .error (110,ws.at_)
   else match bJ fu t.kids env { ws with at_:=ws.at_+1 } p 0 with
    |.error e=>.error e
    |.ok r=>dx r.1 r.2 t.text p ws.at_:=by
 obtain ⟨k,s,m,l⟩:=t
 have h:k=6:=h
 subst h
 simp only[bR]
 rw[if_neg (by decide),if_neg (by decide),if_neg (by decide),if_pos trivial]
 rfl
theorem Ux(h:t.kind=22):bR fu t env ws p=match jU env { ws with at_:=ws.at_+1 } t.kind t.text t.kids.length p ws.at_ with
  |.error e=>.error e
  |.ok w=>bJ fu t.kids env w p 0:=by
 obtain ⟨k,s,m,l⟩:=t
 have h:k=22:=h
 subst h
 simp only[bR]
 rw[if_neg (by decide),if_neg (by decide),if_neg (by decide),if_neg (by decide),if_pos trivial]
 rfl
theorem Uy(h:t.kind=25):bR fu t env ws p=match jU [fu] { ws with at_:=ws.at_+1 } t.kind t.text t.kids.length p ws.at_ with
  |.error e=>.error e
  |.ok w=>bJ fu t.kids env w p 0:=by
 obtain ⟨k,s,m,l⟩:=t
 have h:k=25:=h
 subst h
 simp only[bR]
 rw[if_neg (by decide),if_neg (by decide),if_neg (by decide),if_neg (by decide),if_neg (by decide),if_pos trivial]
 rfl
theorem Zi(h2:¬t.kind=2)(h4:¬t.kind=4)(h5:¬t.kind=5)(h6:¬t.kind=6)(BV:¬t.kind=22)(BU:¬t.kind=25):bR fu t env ws p=bJ fu t.kids env { ws with at_:=ws.at_+1 } p 0:=by
 obtain ⟨k,s,m,l⟩:=t
 simp only[Nd.kind] at h2 h4 h5 h6 BV BU
 simp only[bR]
 rw[if_neg h2,if_neg h4,if_neg h5,if_neg h6,if_neg BV,if_neg BU]
 rfl
end
end Go.Proofs.YtnoplgongieehaaGreatDoor
