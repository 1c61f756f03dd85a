import Derived.Test.YtnoplgongieehaaGreatDoorM3
import Derived.Test.YtnoplgongieehaaGreatDoorProg
import Derived.KernelRfl
import Derived.RangeFuncRecord
import Derived.OrdersIn
namespace Go.Proofs.YtnoplgongieehaaGreatDoor
open Go.RowKit
set_option linter.unusedVariables false
set_option linter.unusedSimpArgs false
section
variable {α:Type}
def mE(f:α→AV)(M:List (ByteArray×α)):List AV:=M.map fun p=>.aG [.Z (.string p.1),f p.2]
theorem Am(f:α→AV)(M:List (ByteArray×α)):(mE f M).length=M.length:=by simp[mE]
theorem abQ(f:α→AV)(M:List (ByteArray×α)):ez none (mE f M):=fun x hx=>by
 obtain ⟨p,_,rfl⟩:=List.mem_map.1 hx
 rfl
theorem XX(f:α→AV)(M:List (ByteArray×α)):ez none (mE f M)=True:=by simp[abQ]
def G0(k:ByteArray):List (ByteArray×α)→Nat
 | []=>0
 | p::r=>if k=p.1 then 0 else G0 k r+1
def cm(k:ByteArray):List (ByteArray×α)→Option α
 | []=>none
 | p::r=>if k=p.1 then some p.2 else cm k r
def ep(k:ByteArray)(a:α):List (ByteArray×α)→List (ByteArray×α)
 | []=>[(k,a)]
 | p::r=>if k=p.1 then (k,a)::r else p::ep k a r
theorem An{f:α→AV}{k:ByteArray}:∀{M:List (ByteArray×α)},ek (.string k) (mE f M)=G0 k M
 | []=>rfl
 | p::r=>by
  show (if pM _ _=true then 0 else ek _ (mE f r)+1)=_
  rw[An (M:=r)]
  simp[pM,l3,G0]
theorem G3{f:α→AV}{k:ByteArray}{z:AV}:∀{M:List (ByteArray×α)},lM (.string k) z (mE f M)=((cm k M).map f).getD z
 | []=>rfl
 | p::r=>by
  have ih:=G3 (f:=f) (k:=k) (z:=z) (M:=r)
  unfold lM at ih ⊢
  rw[An,Am] at ih ⊢
  unfold G0 cm
  by_cases h:k=p.1
  ·simp[h,mE,QV]
  ·simp only[if_neg h,List.length_cons,Nat.add_lt_add_iff_right] at ih ⊢
   rw[←ih]
   rfl
theorem G4{f:α→AV}{k:ByteArray}{a:α}:∀{M:List (ByteArray×α)},n9 (.string k) (f a) (mE f M)=mE f (ep k a M)
 | []=>rfl
 | p::r=>by
  have ih:=G4 (f:=f) (k:=k) (a:=a) (M:=r)
  unfold n9 at ih ⊢
  rw[An,Am] at ih ⊢
  unfold G0 ep
  by_cases h:k=p.1
  ·simp[h,mE]
  ·simp only[if_neg h,List.length_cons,Nat.add_lt_add_iff_right]
   split
   ·rename_i hlt
    rw[if_pos hlt] at ih
    show _::(mE f r).set _ _=_::mE f _
    rw[←ih]
   ·rename_i hlt
    rw[if_neg hlt] at ih
    show _::(mE f r++_)=_::mE f _
    rw[←ih]
theorem gF{k k':ByteArray}{a:α}:∀{M:List (ByteArray×α)},cm k' (ep k a M)=if k'=k then some a else cm k' M
 | []=>by by_cases h:k'=k<;>simp[ep,cm,h]
 | p::r=>by
  have ih:=gF (k:=k) (k':=k') (a:=a) (M:=r)
  unfold ep
  by_cases h:k=p.1
  ·by_cases h2:k'=k
   ·simp[h,cm,h2]
   ·have h3:¬k'=p.1:=fun e=>h2 (e.trans h.symm)
    simp[h,cm,h2,h3,if_neg]
  ·rw[if_neg h]
   by_cases h2:k'=p.1
   ·have h3:¬k'=k:=fun e=>h (e.symm.trans h2)
    simp only[cm,if_pos h2,if_neg h3]
   ·simp only[cm,if_neg h2,ih]
end
set_option maxRecDepth 100000
structure Bd where
 path:List Int
 name:ByteArray
 cI:List (List Int)
 many:Int
def Bd.none:Bd:=⟨[],⟨#[]⟩,[],0⟩
def bh(bs:List Bd)(i:Nat):Bd:=bs.getD i Bd.none
abbrev bc:=List (ByteArray×Nat)
structure WS where
 bs:List Bd
 all:List Nat
 at_:Nat
abbrev iB:=Int×Nat
def cW(env:List bc)(ws:WS)(s:ByteArray)(p:List Int)(at_:Nat):Except iB (List bc×WS) :=
 match cm s (env.headD []) with
 | some _=>.error (110,at_)
 | none=>.ok (ep s ws.bs.length (env.headD [])::env.tail,{ ws with bs:=ws.bs++[⟨p,s,[],0⟩],all:=ws.all++[ws.bs.length] })
def bU:List bc→ByteArray→Option Nat
 | [],_=>none
 | f::r,x=>match cm x f with
  | some i=>some i
  | none=>bU r x
def iC(env:List bc)(ws:WS)(k:Int)(s:ByteArray)(n:Nat)(p:List Int)(at_:Nat):Except iB WS :=
 match bU env s with
 | none=>.error (111,at_)
 | some i=>if k=25∧¬(bh ws.bs i).many=n then .error (112,at_) else .ok { ws with bs:=ws.bs.set i { bh ws.bs i with cI:=(bh ws.bs i).cI++[p] } }
mutual
def bG(fu:bc):Nd→List bc→WS→List Int→Except iB (List bc×WS)
 | ⟨k,s,_,l⟩,env,ws,p =>
  if k=2 then
   match bz fu l ([]::env) { ws with at_:=ws.at_+1,all:=ws.all++[(cm s fu).getD 0] } p 0 with
   | .error e=>.error e
   | .ok r=>.ok (env,r.2)
  else if k=4 then
   match cW env { ws with at_:=ws.at_+1 } s p ws.at_ with
   | .error e=>.error e
   | .ok r=>bz fu l r.1 r.2 p 0
  else if k=5 then
   match bz fu l ([]::env) { ws with at_:=ws.at_+1 } p 0 with
   | .error e=>.error e
   | .ok r=>.ok (env,r.2)
  else if k=6 then
   if (cm s (env.headD [])).isSome=true then .error (110,ws.at_)
   else match bz fu l env { ws with at_:=ws.at_+1 } p 0 with
    | .error e=>.error e
    | .ok r=>cW r.1 r.2 s p ws.at_
  else if k=22 then
   match iC env { ws with at_:=ws.at_+1 } k s l.length p ws.at_ with
   | .error e=>.error e
   | .ok w=>bz fu l env w p 0
  else if k=25 then
   match iC [fu] { ws with at_:=ws.at_+1 } k s l.length p ws.at_ with
   | .error e=>.error e
   | .ok w=>bz fu l env w p 0
  else bz fu l env { ws with at_:=ws.at_+1 } p 0
def bz(fu:bc):List Nd→List bc→WS→List Int→Nat→Except iB (List bc×WS)
 | [],env,ws,_,_=>.ok (env,ws)
 | t::r,env,ws,p,i =>
  match bG fu t env ws (p++[(i:Int)]) with
  | .error e=>.error e
  | .ok q=>bz fu r q.1 q.2 p (i+1)
end
def eY:List Nd→Nat→bc→WS→Nat→Except iB (bc×WS)
 | [],_,fu,ws,_=>.ok (fu,ws)
 | f::r,k,fu,ws,at_ =>
  match cW [fu] ws f.text [(k:Int)] at_ with
  | .error e=>.error e
  | .ok q=>eY r (k+1) (q.1.headD []) { q.2 with bs:=q.2.bs.set ws.bs.length { bh q.2.bs ws.bs.length with many:=(aC f.kids 0).kids.length } } (at_+f.size)
def jn(n:Nd):Except iB WS :=
 match eY n.kids 0 [] ⟨[],[],0⟩ 1 with
 | .error e=>.error e
 | .ok q=>match bG q.1 n [[]] { q.2 with all:=[] } [] with
  | .error e=>.error e
  | .ok r=>.ok r.2
def gh(n:Nd):iB:=if n.kind=1∧bB n 40=true then (match jn n with
 | .error e=>e
 | .ok _=>(0,0)) else (4,0)
abbrev jE:=List Int×ByteArray×List (List Int)
def cf(n:Nd):List jE:=if (gh n).1=0 then (match jn n with
 | .error _=>[]
 | .ok ws=>ws.all.map fun j=>((bh ws.bs j).path,(bh ws.bs j).name,(bh ws.bs j).cI)) else []
structure Pl where
 n:Nd
 p:List Int
mutual
def bJ:Nd→List Int→List Pl
 | ⟨k,s,m,l⟩,p=>⟨⟨k,s,m,l⟩,p⟩::bO l p 0
def bO:List Nd→List Int→Nat→List Pl
 | [],_,_=>[]
 | t::r,p,i=>bJ t (p++[(i:Int)])++bO r p (i+1)
end
theorem cO(t:Nd)(p:List Int):bJ t p=⟨t,p⟩::bO t.kids p 0:=by cases t;simp[bJ,Nd.kids]
def gw(p w:List Int):Bool:=decide (w.length≤p.length) && decide (p.take w.length=w)
def cP(b:Pl)(q:List Int):Bool:=if b.n.kind=4 then gw q (b.p.take (b.p.length - 2)++[1]) else decide (b.p.length≤q.length) && (gw q (b.p.take (b.p.length - 1)) && decide (q.getD (b.p.length - 1) 0 > b.p.getD (b.p.length - 1) 0))
def fS(b:Pl):Bool:=decide (b.n.kind=4) || decide (b.n.kind=6)
def gV(b:Pl):Bool:=decide (b.n.kind=22) || decide (b.n.kind=25)
def jF(x:ByteArray)(q:List Int):List Pl→Nat→Int→Int
 | [],_,f=>f
 | b::r,i,f=>jF x q r (i+1) (if b.n.text=x∧fS b=true∧cP b q=true then i else f)
def gN(x:ByteArray):List Pl→Nat→Int→Int
 | [],_,f=>f
 | b::r,i,f=>gN x r (i+1) (if b.n.text=x∧b.n.kind=2∧f<0 then i else f)
def cL(l:List Pl)(u:Pl):Int:=if u.n.kind=25 then gN u.n.text l 0 (-1) else jF u.n.text u.p l 0 (-1)
def aq(l:List Pl)(i:Nat):Pl:=l.getD i ⟨Nd.none,[]⟩
def twin(a b:Pl):Bool:=decide (a.n.kind=b.n.kind) && (decide (a.n.text=b.n.text) && (decide (a.p.length=b.p.length) && gw a.p (b.p.take (b.p.length - 1))))
def ef(l:List Pl)(i:Nat):Bool:=(l.take i).any fun a=>twin a (aq l i)
def eg(l:List Pl)(i:Nat):Option iB:=if (aq l i).n.kind=2∧ef l i=true then some (110,i) else none
def cG(l:List Pl)(i:Nat):Option iB :=
 if fS (aq l i)=true∧ef l i=true then some (110,i)
 else if gV (aq l i)=false then none
 else if cL l (aq l i)<0 then some (111,i)
 else if (aq l i).n.kind=25∧¬(aC (aq l (cL l (aq l i)).toNat).n.kids 0).kids.length=(aq l i).n.kids.length then some (112,i)
 else none
def mL(g:Nat→Option iB):Nat→Nat→Option iB
 | 0,_=>none
 | n+1,i=>match g i with
  | some e=>some e
  | none=>mL g n (i+1)
def gU(l:List Pl):iB:=match mL (eg l) l.length 0 with
 | some e=>e
 | none=>match mL (cG l) l.length 0 with
  | some e=>e
  | none=>(0,0)
def eh(n:Nd):iB:=if n.kind=1∧bB n 40=true then gU (bJ n []) else (4,0)
def jG(b:Pl):Bool:=decide (b.n.kind=2) || (decide (b.n.kind=4) || decide (b.n.kind=6))
def fJ(l pre:List Pl)(i:Nat):List (List Int):=(pre.filter fun u=>gV u && decide (cL l u=(i:Int))).map (·.p)
def dM(n:Nd):List jE:=if (eh n).1=0 then ((List.range (bJ n []).length).filter fun i=>jG (aq (bJ n []) i)).map fun i=>((aq (bJ n []) i).p,(aq (bJ n []) i).n.text,fJ (bJ n []) (bJ n []) i) else []
theorem ja{q w:List Int}:gw q w=true↔w <+: q:=by
 unfold gw
 simp only[Bool.and_eq_true,decide_eq_true_eq]
 constructor
 ·rintro ⟨_,h⟩
  rw[←h]
  exact List.take_prefix _ _
 ·rintro ⟨s,rfl⟩
  exact ⟨by simp,by simp⟩
theorem nC{p s s':List Int}{j k:Int}(h:p++[j]++s=p++[k]++s'):j=k∧s=s':=by
 simp only[List.append_assoc,List.append_cancel_left_eq,List.singleton_append,List.cons.injEq] at h
 exact h
theorem CT{p w s':List Int}{j k:Int}(h:p++[j]++w <+: p++[k]++s'):j=k:=by
 obtain ⟨z,hz⟩:=h
 rw[List.append_assoc (p++[j])] at hz
 exact (nC hz).1
theorem mS{b:Pl}{p q s s':List Int}{j k:Int}(hb:b.p=p++[j]++s)(hq:q=p++[k]++s')(hne:j≠k)(hs:s≠[])(h4:b.n.kind=4→2≤s.length):cP b q=false:=by
 cases hr:cP b q with
 | false=>rfl
 | true =>
  exfalso
  have hl:0<s.length:=List.length_pos_iff.2 hs
  unfold cP at hr
  split at hr
  ·rename_i hk
   have h2:=h4 hk
   rw[ja,hb,hq] at hr
   have e:(p++[j]++s).take ((p++[j]++s).length - 2)=p++[j]++s.take (s.length - 2):=by
    rw[List.take_append,List.take_of_length_le (by simp;omega)]
    congr 2
    simp
    omega
   rw[e,List.append_assoc (p++[j])] at hr
   exact hne (CT hr)
  ·simp only[Bool.and_eq_true] at hr
   have h2:=hr.2.1
   rw[ja,hb,hq] at h2
   have e:(p++[j]++s).take ((p++[j]++s).length - 1)=p++[j]++s.take (s.length - 1):=by
    rw[List.take_append,List.take_of_length_le (by simp;omega)]
    congr 2
    simp
    omega
   rw[e] at h2
   exact hne (CT h2)
theorem uc{b:Pl}{p q s':List Int}{j k:Int}(hb:b.p=p++[j])(hq:q=p++[k]++s')(h4:¬b.n.kind=4):cP b q=decide (j<k):=by
 unfold cP
 rw[if_neg h4,hb,hq]
 have e1:(p++[j]).length - 1=p.length:=by simp
 rw[e1]
 have e2:(p++[j]).take p.length=p:=by simp
 rw[e2]
 have e3:gw (p++[k]++s') p=true:=ja.2 ⟨[k]++s',by simp⟩
 rw[e3]
 have e4:(p++[k]++s').getD p.length 0=k:=by simp[List.getD]
 have e5:(p++[j]).getD p.length 0=j:=by simp[List.getD]
 rw[e4,e5]
 simp
theorem G5{b:Pl}{f s:List Int}{j:Int}(hb:b.p=f++[j])(h4:¬b.n.kind=4):cP b (b.p++s)=false:=by
 rw[uc (p:=f) (j:=j) (k:=j) (s':=s) hb (by rw[hb]) h4]
 simp
theorem KH{b:Pl}{f q s:List Int}{i:Int}(hb:b.p=f++[0]++[i])(hq:q=f++[1]++s)(h4:b.n.kind=4):cP b q=true:=by
 unfold cP
 rw[if_pos h4,ja,hb,hq]
 have e:(f++[0]++[i]).take ((f++[0]++[i]).length - 2)=f:=by simp
 rw[e]
 exact ⟨s,rfl⟩
theorem eO:∀(l:List Nd)(p:List Int)(i:Nat)(b:Pl),b∈bO l p i→∃(j:Nat)(t:Nd),(i≤j∧l[j - i]? = some t)∧b∈bJ t (p++[(j:Int)])
 | [],_,_,b,h=>by simp[bO] at h
 | t::r,p,i,b,h=>by
  simp only[bO,List.mem_append] at h
  rcases h with h | h
  ·exact ⟨i,t,⟨Nat.le_refl _,by simp⟩,h⟩
  ·obtain ⟨j,u,⟨h1,h2⟩,h3⟩:=eO r p (i+1) b h
   refine ⟨j,u,⟨by omega,?_⟩,h3⟩
   rw[show j - i=(j - (i+1))+1 by omega,List.getElem?_cons_succ]
   exact h2
theorem nD(t:Nd):∀(p:List Int)(b:Pl),b∈bJ t p→(b=⟨t,p⟩∨∃j s,b.p=p++[j]++s):=by
 induction t using Nd.ind with
 | _ t ih =>
  intro p b hb
  rw[cO] at hb
  rcases List.mem_cons.1 hb with rfl | hb
  ·exact .inl rfl
  ·obtain ⟨j,u,⟨h1,h2⟩,h3⟩:=eO _ _ _ _ hb
   rcases ih u (List.mem_of_getElem? h2) _ b h3 with rfl | ⟨j',s,h⟩
   ·exact .inr ⟨j,[],by simp⟩
   ·exact .inr ⟨j,[j']++s,by rw[h];simp⟩
theorem dN(t:Nd):∀p,(bJ t p).length=t.size:=by
 induction t using Nd.ind with
 | _ t ih =>
  intro p
  rw[cO,Nd.size_eq]
  have key:∀(l:List Nd),(∀k∈l,∀p,(bJ k p).length=k.size)→∀p i,(bO l p i).length=Nd.aw l:=by
   intro l
   induction l with
   | nil=>intro _ p i;rfl
   | cons x r fI =>
    intro h p i
    simp only[bO,List.length_append,Nd.aw,h x (by simp),fI (fun k hk=>h k (by simp[hk]))]
  simp only[List.length_cons,key _ ih]
  omega
theorem jP(l:List Nd)(p:List Int)(i:Nat):(bO l p i).length=Nd.aw l:=by
 induction l generalizing i with
 | nil=>rfl
 | cons x r ih=>simp only[bO,List.length_append,Nd.aw,dN,ih]
theorem eK{x:ByteArray}{q:List Int}:∀(a b:List Pl)(i:Nat)(f:Int),jF x q (a++b) i f=jF x q b (i+a.length) (jF x q a i f)
 | [],b,i,f=>by simp[jF]
 | c::a,b,i,f=>by
  simp only[List.cons_append,jF,List.length_cons]
  rw[eK a b]
  congr 1
  omega
theorem yS{x:ByteArray}{q:List Int}:∀(a:List Pl)(i:Nat)(f:Int),(∀b∈a,fS b=true→cP b q=false)→jF x q a i f=f
 | [],_,_,_=>rfl
 | b::a,i,f,h=>by
  have:¬(b.n.text=x∧fS b=true∧cP b q=true):=fun ⟨_,h1,h2⟩=>by
   rw[h b (by simp) h1] at h2
   cases h2
  simp only[jF,if_neg this]
  exact yS a (i+1) f fun c hc=>h c (by simp[hc])
inductive nE:Nd→Prop where
 | mk {t:Nd}(h1:t.kind=5∨6≤t.kind)(h2:t.kind≠5→∀k∈t.kids,¬k.kind=6)(h3:t.kind=22→t.kids=[])(h5:t.kind=6→∀p i,∀b∈bO t.kids p i,jG b=false)(h4:∀k∈t.kids,nE k):nE t
theorem nE.kind{t:Nd}(h:nE t):t.kind=5∨6≤t.kind:=by cases h;assumption
theorem nE.abR{t:Nd}(h:nE t):t.kind≠5→∀k∈t.kids,¬k.kind=6:=by cases h;assumption
theorem nE.name{t:Nd}(h:nE t):t.kind=22→t.kids=[]:=by cases h;assumption
theorem nE.var{t:Nd}(h:nE t):t.kind=6→∀p i,∀b∈bO t.kids p i,jG b=false:=by cases h;assumption
theorem nE.rS{t:Nd}(h:nE t):∀k∈t.kids,nE k:=by cases h;assumption
theorem vF(t:Nd):nE t→∀(p:List Int)(b:Pl),b∈bJ t p→nE b.n:=by
 induction t using Nd.ind with
 | _ t ih =>
  intro hg p b hb
  rw[cO] at hb
  rcases List.mem_cons.1 hb with rfl | hb
  ·exact hg
  ·obtain ⟨j,u,⟨h1,h2⟩,h3⟩:=eO _ _ _ _ hb
   have hu:=List.mem_of_getElem? h2
   exact ih u hu (hg.rS u hu) _ b h3
theorem Pp{t:Nd}(hg:nE t){p q s':List Int}{j k:Int}(hq:q=p++[k]++s')(hne:j≠k)(x:ByteArray)(i:Nat)(f:Int):jF x q (bJ t (p++[j])) i f=if t.kind=6∧t.text=x∧j<k then (i:Int) else f:=by
 rw[cO]
 simp only[jF]
 rw[yS]
 ·have h4:¬t.kind=4:=by have:=hg.kind;omega
  have hr:=uc (b:=⟨t,p++[j]⟩) (p:=p) rfl hq h4
  rw[hr]
  have e:fS ⟨t,p++[j]⟩=decide (t.kind=6):=by simp[fS,h4]
  rw[e]
  by_cases c1:t.kind=6<;>by_cases c2:t.text=x<;>by_cases c3:j<k<;>simp[c1,c2,c3]
 ·intro b hb _
  obtain ⟨j',u,⟨_,h2⟩,h3⟩:=eO _ _ _ _ hb
  have Pq:=hg.rS u (List.mem_of_getElem? h2)
  have hgb:=vF u Pq _ b h3
  have h4:¬b.n.kind=4:=by have:=hgb.kind;omega
  rcases nD u _ b h3 with rfl | ⟨j2,s,h⟩
  ·exact mS (p:=p) (j:=j) (s:=[(j':Int)]) rfl hq hne (by simp) fun h=>absurd h h4
  ·exact mS (p:=p) (j:=j) (s:=[(j':Int)]++([j2]++s)) (by rw[h];simp) hq hne (by simp) fun h=>absurd h h4
theorem KI{t:Nd}(hg:nE t){p q s':List Int}{j k:Int}(hq:q=p++[k]++s')(hlt:k<j):∀b∈bJ t (p++[j]),fS b=true→cP b q=false:=by
 intro b hb _
 have hgb:=vF t hg _ b hb
 have h4:¬b.n.kind=4:=by have:=hgb.kind;omega
 rcases nD t _ b hb with rfl | ⟨j2,s,h⟩
 ·rw[uc (p:=p) rfl hq h4]
  simp
  omega
 ·exact mS (p:=p) (j:=j) (s:=[j2]++s) (by rw[h];simp) hq (by omega) (by simp) fun h=>absurd h h4
def enc(ix:List Nat):Option Nat→Int
 | none=>-1
 | some j=>((ix.getD j 0:Nat):Int)
def rT(l:List Pl)(i:Nat):Int:=if (aq l i).n.kind=2 then ((aC (aq l i).n.kids 0).kids.length:Nat) else 0
def vG(l pre:List Pl)(ix:List Nat):List Bd:=ix.map fun i=>⟨(aq l i).p,(aq l i).n.text,fJ l pre i,rT l i⟩
def dI:List Pl→Nat→List Nat
 | [],_=>[]
 | b::r,i=>(if jG b=true then [i] else [])++dI r (i+1)
theorem iE:∀(a b:List Pl)(i:Nat),dI (a++b) i=dI a i++dI b (i+a.length)
 | [],b,i=>by simp[dI]
 | c::a,b,i=>by
  simp only[List.cons_append,dI,List.length_cons,iE a b,List.append_assoc]
  rw[show i+1+a.length=i+(a.length+1) by omega]
theorem G6:∀(a:List Pl)(i:Nat),(∀b∈a,jG b=false)→dI a i=[]
 | [],_,_=>rfl
 | b::a,i,h=>by simp[dI,h b (by simp),G6 a (i+1) fun c hc=>h c (by simp[hc])]
structure mg(l pre:List Pl)(ix A:List Nat)(ws:WS):Prop where
 at_:ws.at_=pre.length
 bs:ws.bs=vG l pre ix
 all:ws.all.map (fun j=>ix.getD j 0)=A
 lt:∀j∈ws.all,j<ix.length
 nd:ix.Nodup
 old:∀i∈ix,(aq l i).n.kind=2∨i<pre.length
 cI:∀u∈pre,gV u=true→∃i∈ix,cL l u=(i:Int)
def lq(l:List Pl)(a n:Nat):Prop:=∀i,a≤i→i<a+n→cG l i=none
def jb(l:List Pl)(a n:Nat)(e:iB):Prop:=∃i,(a≤i∧i<a+n)∧cG l i=some e∧∀i',a≤i'→i'<i→cG l i'=none
theorem lq.dD{l:List Pl}{a n m:Nat}(h:lq l a n)(k:lq l (a+n) m):lq l a (n+m):=fun i h1 h2=>by
 by_cases c:i<a+n
 ·exact h i h1 c
 ·exact k i (by omega) (by omega)
theorem jb.left{l:List Pl}{a n m:Nat}{e:iB}(h:jb l a n e):jb l a (n+m) e:=by
 obtain ⟨i,⟨h1,h2⟩,h3,h4⟩:=h
 exact ⟨i,⟨h1,by omega⟩,h3,h4⟩
theorem jb.right{l:List Pl}{a n m:Nat}{e:iB}(k:lq l a n)(h:jb l (a+n) m e):jb l a (n+m) e:=by
 obtain ⟨i,⟨h1,h2⟩,h3,h4⟩:=h
 refine ⟨i,⟨by omega,by omega⟩,h3,fun i' g1 g2=>?_⟩
 by_cases c:i'<a+n
 ·exact k i' g1 c
 ·exact h4 i' (by omega) g2
theorem lq.one{l:List Pl}{a:Nat}(h:cG l a=none):lq l a 1:=fun i h1 h2=>by
 have:i=a:=by omega
 rw[this];exact h
theorem jb.one{l:List Pl}{a:Nat}{e:iB}(h:cG l a=some e):jb l a 1 e:=⟨a,⟨Nat.le_refl _,by omega⟩,h,fun i' h1 h2=>by omega⟩
theorem lq.nil{l:List Pl}{a:Nat}:lq l a 0:=fun i h1 h2=>by omega
theorem pg{pre r:List Pl}{u:Pl}:aq (pre++u::r) pre.length=u:=by simp[aq,List.getD]
theorem vH{ix more:List Nat}{o:Option Nat}(h:∀j,o=some j→j<ix.length):enc (ix++more) o=enc ix o:=by
 cases o with
 | none=>rfl
 | some j =>
  have:=h j rfl
  simp[enc,List.getD,List.getElem?_append_left this]
theorem sJ{ix more:List Nat}{j:Nat}(h:j<ix.length):(ix++more).getD j 0=ix.getD j 0:=by simp[List.getD,List.getElem?_append_left h]
theorem rU(l pre:List Pl)(u:Pl)(i:Nat):fJ l (pre++[u]) i=fJ l pre i++if gV u=true∧cL l u=(i:Int) then [u.p] else []:=by
 unfold fJ
 rw[List.filter_append,List.map_append]
 congr 1
 by_cases h1:gV u=true<;>by_cases h2:cL l u=(i:Int)<;>simp[h1,h2]
theorem mg.skip{l pre:List Pl}{ix A:List Nat}{ws:WS}(h:mg l pre ix A ws){u:Pl}(hu:gV u=false):mg l (pre++[u]) ix A { ws with at_:=ws.at_+1 } where
 at_:=by simp[h.at_]
 bs:=by
  rw[h.bs]
  unfold vG
  congr 1
  funext i
  rw[rU]
  simp[hu]
 all:=h.all
 lt:=h.lt
 nd:=h.nd
 old:=fun i hi=>by
  rcases h.old i hi with h1 | h1
  ·exact .inl h1
  ·exact .inr (by simp;omega)
 cI:=fun v hv hi=>by
  rcases List.mem_append.1 hv with h1 | h1
  ·exact h.cI v h1 hi
  ·rw[List.mem_singleton] at h1
   subst h1
   rw[hu] at hi
   cases hi
theorem Ao{l pre:List Pl}{ix:List Nat}{j:Nat}(h:j<ix.length):bh (vG l pre ix) j=⟨(aq l (ix.getD j 0)).p,(aq l (ix.getD j 0)).n.text,fJ l pre (ix.getD j 0),rT l (ix.getD j 0)⟩:=by
 simp[bh,vG,List.getD,h]
theorem XY{ix:List Nat}(h:ix.Nodup){j m:Nat}(hj:j<ix.length)(hm:m<ix.length)(e:ix[j]=ix[m]):j=m:=by
 rcases Nat.lt_trichotomy j m with h1 | h1 | h1
 ·exact absurd e (List.pairwise_iff_getElem.1 h j m hj hm h1)
 ·exact h1
 ·exact absurd e.symm (List.pairwise_iff_getElem.1 h m j hm hj h1)
theorem mg.use{l pre:List Pl}{ix A:List Nat}{ws:WS}(h:mg l pre ix A ws){u:Pl}(hu:gV u=true){j:Nat}(hj:j<ix.length)(hs:cL l u=((ix.getD j 0:Nat):Int)) :
  mg l (pre++[u]) ix A { ws with at_:=ws.at_+1,bs:=ws.bs.set j { bh ws.bs j with cI:=(bh ws.bs j).cI++[u.p] } } where
 at_:=by simp[h.at_]
 bs:=by
  simp only
  rw[h.bs,Ao hj]
  apply List.ext_getElem
  ·simp[vG]
  intro m h1 h2
  have hm:m<ix.length:=by simpa [vG] using h2
  rw[List.getElem_set]
  simp only[vG,List.getElem_map,rU,hu,hs,true_and]
  have sX:ix.getD j 0=ix[j]:=by simp[List.getD,hj]
  split
  ·rename_i e
   subst e
   simp only[sX,if_true]
  ·rename_i e
   have hne:¬(ix[j]:Int)=(ix[m]:Nat):=fun h'=>by
    have h3:ix[j]=ix[m]:=by omega
    exact e (XY h.nd hj hm h3)
   simp only[sX,hne,if_false,List.append_nil]
 all:=h.all
 lt:=h.lt
 nd:=h.nd
 old:=fun i hi=>by
  rcases h.old i hi with h1 | h1
  ·exact .inl h1
  ·exact .inr (by simp;omega)
 cI:=fun v hv hi=>by
  rcases List.mem_append.1 hv with h1 | h1
  ·exact h.cI v h1 hi
  ·rw[List.mem_singleton] at h1
   subst h1
   exact ⟨ix.getD j 0,by simp[List.getD,hj],hs⟩
theorem mg.bind{l pre:List Pl}{ix A:List Nat}{ws:WS}(h:mg l pre ix A ws){m:Nat}(hm:m<pre.length)(hk:¬(aq l m).n.kind=2)(hni:m∉ix) :
  mg l pre (ix++[m]) (A++[m]) { ws with bs:=ws.bs++[⟨(aq l m).p,(aq l m).n.text,[],0⟩],all:=ws.all++[ws.bs.length] } where
 at_:=h.at_
 bs:=by
  have hu:fJ l pre m=[]:=by
   unfold fJ
   rw[List.map_eq_nil_iff,List.filter_eq_nil_iff]
   intro u hu hc
   simp only[Bool.and_eq_true,decide_eq_true_eq] at hc
   obtain ⟨i,hi,hs⟩:=h.cI u hu hc.1
   rw[hc.2] at hs
   have:m=i:=by omega
   exact hni (this▸hi)
  have hy:rT l m=0:=by unfold rT;rw[if_neg hk]
  simp only[h.bs,vG,List.map_append,List.map_cons,List.map_nil,hu,hy]
 all:=by
  have hl:ws.bs.length=ix.length:=by rw[h.bs];simp[vG]
  simp only[List.map_append,List.map_cons,List.map_nil,hl]
  congr 1
  ·rw[←h.all]
   apply List.map_congr_left
   intro j hj
   exact sJ (h.lt j hj)
  ·simp[List.getD]
 lt:=fun j hj=>by
  have hl:ws.bs.length=ix.length:=by rw[h.bs];simp[vG]
  rcases List.mem_append.1 hj with h1 | h1
  ·have:=h.lt j h1
   simp;omega
  ·rw[List.mem_singleton] at h1
   simp;omega
 nd:=by
  rw[List.nodup_append]
  refine ⟨h.nd,by simp,fun a ha b hb e=>?_⟩
  rw[List.mem_singleton] at hb
  subst hb e
  exact hni ha
 old:=fun i hi=>by
  rcases List.mem_append.1 hi with h1 | h1
  ·exact h.old i h1
  ·rw[List.mem_singleton] at h1
   subst h1
   exact .inr hm
 cI:=fun u hu hi=>by
  obtain ⟨i,h1,h2⟩:=h.cI u hu hi
  exact ⟨i,List.mem_append_left _ h1,h2⟩
structure xT(l:List Pl)(ix:List Nat)(fu:bc):Prop where
 fa:∀x,gN x l 0 (-1)=enc ix (cm x fu)
 fl:∀x j,cm x fu=some j→j<ix.length∧(aq l (ix.getD j 0)).n.kind=2
theorem xT.more{l:List Pl}{ix:List Nat}{fu:bc}(h:xT l ix fu)(more:List Nat):xT l (ix++more) fu where
 fa:=fun x=>by rw[h.fa,vH fun j hj=>(h.fl x j hj).1]
 fl:=fun x j hj=>by
  obtain ⟨h1,h2⟩:=h.fl x j hj
  exact ⟨by simp;omega,by rw[sJ h1];exact h2⟩
structure XZ(l pre post:List Pl)(t:Nd)(p:List Int)(ix:List Nat)(env:List bc):Prop where
 eq:l=pre++(bJ t p++post)
 pne:∃f j,p=f++[j]
 ne:env≠[]
 ag:∀x s,jF x (p++s) pre 0 (-1)=enc ix (bU env x)
 lt:∀x j,bU env x=some j→j<ix.length
 po:∀b∈post,fS b=true→∀s,cP b (p++s)=false
 fr:∀b∈pre,∀s,s≠[]→b.p≠p++s
 hv:t.kind=6→∀x,(cm x (env.headD [])).isSome=pre.any fun b=>decide (b.n.kind=6) && (decide (b.n.text=x) && (decide (b.p.length=p.length) && gw b.p (p.take (p.length - 1))))
def Ex(l pre:List Pl)(t:Nd)(p:List Int)(ix A:List Nat)(env:List bc):Except iB (List bc×WS)→Prop
 | .error e=>jb l pre.length t.size e
 | .ok r=>lq l pre.length t.size∧∃more,mg l (pre++bJ t p) (ix++more) (A++dI (bJ t p) pre.length) r.2∧(∀i∈more,pre.length≤i)∧
   (if t.kind=6 then ∃j,j<(ix++more).length∧(ix++more).getD j 0=pre.length∧r.1=ep t.text j (env.headD [])::env.tail else r.1=env)
def KJ(t:Nd):Prop:=∀(l pre post:List Pl)(p:List Int)(ix A:List Nat)(env:List bc)(ws:WS)(fu:bc),xT l ix fu→XZ l pre post t p ix env→mg l pre ix A ws→Ex l pre t p ix A env (bG fu t env ws p)
structure T0(l pre post:List Pl)(r:List Nd)(p:List Int)(i:Nat)(ix:List Nat)(env:List bc):Prop where
 eq:l=pre++(bO r p i++post)
 ne:env≠[]
 ag:∀x (k:Nat) s,i≤k→jF x (p++[(k:Int)]++s) pre 0 (-1)=enc ix (bU env x)
 lt:∀x j,bU env x=some j→j<ix.length
 po:∀b∈post,fS b=true→∀(k:Nat) s,i≤k→cP b (p++[(k:Int)]++s)=false
 fr:∀b∈pre,∀(k:Nat) s,i≤k→b.p≠p++[(k:Int)]++s
 hv:(∃u∈r,u.kind=6)→∀x,(cm x (env.headD [])).isSome=pre.any fun b=>decide (b.n.kind=6) && (decide (b.n.text=x) && (decide (b.p.length=p.length+1) && gw b.p p))
def Ap(l pre:List Pl)(r:List Nd)(p:List Int)(i:Nat)(ix A:List Nat)(env:List bc):Except iB (List bc×WS)→Prop
 | .error e=>jb l pre.length (Nd.aw r) e
 | .ok q=>lq l pre.length (Nd.aw r)∧∃more,mg l (pre++bO r p i) (ix++more) (A++dI (bO r p i) pre.length) q.2∧(∀i∈more,pre.length≤i)∧
   q.1.tail=env.tail∧((∀u∈r,¬u.kind=6)→q.1=env)
theorem rV{f:bc}{r:List bc}{x:ByteArray}:bU (f::r) x=match cm x f with
 | some i=>some i
 | none=>bU r x:=rfl
theorem Pr{env:List bc}(h:env≠[]):env=env.headD []::env.tail:=by
 cases env with
 | nil=>exact absurd rfl h
 | cons a r=>rfl
theorem G7{env:List bc}(h:env≠[]){x:ByteArray}:bU env x=match cm x (env.headD []) with
 | some i=>some i
 | none=>bU env.tail x:=by
 cases env with
 | nil=>exact absurd rfl h
 | cons a r=>rfl
theorem Ps(r:List Nd)(hg:∀u∈r,nE u)(hc:∀u∈r,KJ u):∀(l pre post:List Pl)(p:List Int)(i:Nat)(ix A:List Nat)(env:List bc)(ws:WS)(fu:bc),xT l ix fu→T0 l pre post r p i ix env→mg l pre ix A ws→Ap l pre r p i ix A env (bz fu r env ws p i):=by
 induction r with
 | nil =>
  intro l pre post p i ix A env ws fu hF hK hW
  refine ⟨lq.nil,[],?_,by simp,rfl,fun _=>rfl⟩
  simpa [bO,dI] using hW
 | cons t r ih =>
  intro l pre post p i ix A env ws fu hF hK hW
  have hgt:=hg t (by simp)
  have Xa:∀u∈r,nE u:=fun u hu=>hg u (by simp[hu])
  have hC:XZ l pre (bO r p (i+1)++post) t (p++[(i:Int)]) ix env:=by
   refine ⟨by rw[hK.eq];simp[bO],⟨p,_,rfl⟩,hK.ne,fun x s=>hK.ag x i s (Nat.le_refl _),hK.lt,?_,fun b hb s _=>hK.fr b hb i s (Nat.le_refl _),?_⟩
   ·intro b hb hB s
    rcases List.mem_append.1 hb with h | h
    ·obtain ⟨j,u,⟨h1,h2⟩,h3⟩:=eO _ _ _ _ h
     exact KI (Xa u (List.mem_of_getElem? h2)) rfl (by omega) b h3 hB
    ·exact hK.po b h hB i s (Nat.le_refl _)
   ·intro h6 x
    rw[hK.hv ⟨t,by simp,h6⟩ x]
    simp
  have hN:=hc t (by simp) l pre _ _ ix A env ws fu hF hC hW
  simp only[bz]
  cases hn:bG fu t env ws (p++[(i:Int)]) with
  | error e =>
   rw[hn] at hN
   exact jb.left hN
  | ok q =>
   rw[hn] at hN
   obtain ⟨ho,more,Ey,hm,Aq⟩:=hN
   simp only
   have dH:(pre++bJ t (p++[(i:Int)])).length=pre.length+t.size:=by rw[List.length_append,dN]
   have adH:∀x,enc (ix++more) (bU env x)=enc ix (bU env x):=fun x=>vH fun j hj=>hK.lt x j hj
   have hef:=Pr hK.ne
   have hE:(∀x,bU q.1 x=if t.kind=6∧t.text=x then bU q.1 x else bU env x)∧q.1≠[]∧q.1.tail=env.tail∧(¬t.kind=6→q.1=env)∧(t.kind=6→∃j,j<(ix++more).length∧(ix++more).getD j 0=pre.length∧bU q.1 t.text=some j∧∀x,cm x (q.1.headD [])=if x=t.text then some j else cm x (env.headD [])):=by
    by_cases h6:t.kind=6
    ·rw[if_pos h6] at Aq
     obtain ⟨j,hj,hj2,he⟩:=Aq
     have hf:∀x,bU q.1 x=if x=t.text then some j else bU env x:=fun x=>by
      rw[he,rV,gF]
      by_cases hx:x=t.text
      ·simp[hx]
      ·rw[if_neg hx,if_neg hx]
       exact (G7 hK.ne).symm
     refine ⟨fun x=>?_,by rw[he];simp,by rw[he];rfl,fun h=>absurd h6 h,fun _=>⟨j,hj,hj2,by rw[hf];simp,fun x=>by rw[he];exact gF⟩⟩
     by_cases hx:t.text=x
     ·simp[h6,hx]
     ·rw[if_neg (fun h=>hx h.2),hf,if_neg (fun h=>hx h.symm)]
    ·rw[if_neg h6] at Aq
     exact ⟨fun x=>by simp[h6,Aq],by rw[Aq];exact hK.ne,by rw[Aq],fun _=>Aq,fun h=>absurd h h6⟩
   obtain ⟨hE1,X0,hE3,hE4,hE5⟩:=hE
   have Pt:T0 l (pre++bJ t (p++[(i:Int)])) post r p (i+1) (ix++more) q.1:=by
    refine ⟨by rw[hK.eq];simp[bO],X0,?_,?_,fun b hb hB k s hk=>hK.po b hb hB k s (by omega),?_,?_⟩
    ·intro x k s hk
     rw[eK,hK.ag x k s (by omega),Nat.zero_add,Pp hgt (k:=(k:Int)) (s':=s) rfl (by omega)]
     by_cases h6:t.kind=6∧t.text=x
     ·obtain ⟨j,hj,hj2,hj3,-⟩:=hE5 h6.1
      rw[if_pos ⟨h6.1,h6.2,by omega⟩,←h6.2,hj3]
      simp only[enc,hj2]
     ·rw[if_neg (fun h=>h6 ⟨h.1,h.2.1⟩),hE1 x,if_neg h6,adH]
    ·intro x j hj
     rw[hE1 x] at hj
     by_cases h6:t.kind=6∧t.text=x
     ·obtain ⟨j',hj',-,hj3,-⟩:=hE5 h6.1
      rw[if_pos h6,←h6.2,hj3] at hj
      cases hj
      exact hj'
     ·rw[if_neg h6] at hj
      have:=hK.lt x j hj
      simp;omega
    ·intro b hb k s hk he
     rcases List.mem_append.1 hb with h | h
     ·exact hK.fr b h k s (by omega) he
     ·rcases nD t _ b h with rfl | ⟨j2,s2,h2⟩
      ·have e1:p++[(i:Int)]++[]=p++[(k:Int)]++s:=by simpa using he
       have:=(nC e1).1
       omega
      ·rw[h2] at he
       have e1:p++[(i:Int)]++([j2]++s2)=p++[(k:Int)]++s:=by rw[←he];simp
       have:=(nC e1).1
       omega
    ·rintro ⟨u,hu,T1⟩ x
     have h0:=hK.hv ⟨u,by simp[hu],T1⟩ x
     rw[List.any_append]
     have hx:(bJ t (p++[(i:Int)])).any (fun b=>decide (b.n.kind=6) && (decide (b.n.text=x) && (decide (b.p.length=p.length+1) && gw b.p p)))=(decide (t.kind=6) && decide (t.text=x)):=by
      rw[cO,List.any_cons]
      have hno:(bO t.kids (p++[(i:Int)]) 0).any (fun b=>decide (b.n.kind=6) && (decide (b.n.text=x) && (decide (b.p.length=p.length+1) && gw b.p p)))=false:=by
       rw[List.any_eq_false]
       intro b hb
       have hlen:¬b.p.length=p.length+1:=by
        obtain ⟨j',u',⟨_,_⟩,h3⟩:=eO _ _ _ _ hb
        rcases nD u' _ b h3 with rfl | ⟨j2,s2,h2⟩
        ·simp
        ·rw[h2];simp
       simp[hlen]
      rw[hno,Bool.or_false]
      have il:gw (p++[(i:Int)]) p=true:=ja.2 ⟨[(i:Int)],rfl⟩
      simp[il]
     rw[hx,←h0]
     by_cases h6:t.kind=6
     ·obtain ⟨j,-,-,-,hj4⟩:=hE5 h6
      rw[hj4 x]
      by_cases BQ:x=t.text
      ·simp[BQ,h6]
      ·have hx3:¬t.text=x:=fun h=>BQ h.symm
       simp[BQ,hx3]
     ·rw[hE4 h6]
      simp[h6]
   have hR:=ih Xa (fun u hu=>hc u (by simp[hu])) l _ post p (i+1) (ix++more) _ q.1 q.2 fu (hF.more more) Pt Ey
   cases hk:bz fu r q.1 q.2 p (i+1) with
   | error e =>
    rw[hk] at hR
    unfold Ap at hR
    rw[dH] at hR
    exact jb.right ho hR
   | ok q2 =>
    rw[hk] at hR
    obtain ⟨sS,Ar,hW3,hm2,Pu,Pv⟩:=hR
    rw[dH] at sS hW3 hm2
    refine ⟨ho.dD sS,more++Ar,?_,?_,Pu.trans hE3,fun hall=>?_⟩
    ·have e1:pre++bO (t::r) p i=pre++bJ t (p++[(i:Int)])++bO r p (i+1):=by simp[bO]
     have e2:A++dI (bO (t::r) p i) pre.length=A++dI (bJ t (p++[(i:Int)])) pre.length++dI (bO r p (i+1)) (pre.length+t.size):=by simp only[bO];rw[iE,dN];simp
     rw[e1,e2,←List.append_assoc]
     exact hW3
    ·intro z hz
     rcases List.mem_append.1 hz with h | h
     ·exact hm z h
     ·have:=hm2 z h;omega
    ·rw[Pv fun u hu=>hall u (by simp[hu]),hE4 (hall t (by simp))]
theorem G8{t:Nd}{p:List Int}(hp:∃f j,p=f++[j])(h4:¬t.kind=4)(x:ByteArray)(s:List Int)(i:Nat)(f:Int):jF x (p++s) [⟨t,p⟩] i f=f:=by
 obtain ⟨g,j,hg⟩:=hp
 have h:=G5 (b:=⟨t,p⟩) (s:=s) hg h4
 simp only at h
 simp[jF,h]
theorem Au{l pre post:List Pl}{t:Nd}{p:List Int}{ix:List Nat}{env env':List bc}(hC:XZ l pre post t p ix env)(h4:¬t.kind=4)(he:∀x,bU env' x=bU env x)(hne:env'≠[])
  (hv:(∃u∈t.kids,u.kind=6)→∀x,(cm x (env'.headD [])).isSome=(pre++[(⟨t,p⟩:Pl)]).any fun b=>decide (b.n.kind=6) && (decide (b.n.text=x) && (decide (b.p.length=p.length+1) && gw b.p p))) :
  T0 l (pre++[⟨t,p⟩]) post t.kids p 0 ix env' where
 eq:=by rw[hC.eq,cO];simp
 ne:=hne
 ag:=fun x k s _=>by
  rw[eK]
  have e:p++[(k:Int)]++s=p++([(k:Int)]++s):=by simp
  rw[e,G8 hC.pne h4,hC.ag,he]
 lt:=fun x j hj=>hC.lt x j (by rw[←he];exact hj)
 po:=fun b hb hB k s _=>by
  have e:p++[(k:Int)]++s=p++([(k:Int)]++s):=by simp
  rw[e]
  exact hC.po b hb hB _
 fr:=fun b hb k s _ h=>by
  have e:p++[(k:Int)]++s=p++([(k:Int)]++s):=by simp
  rw[e] at h
  rcases List.mem_append.1 hb with h1 | h1
  ·exact hC.fr b h1 _ (by simp) h
  ·rw[List.mem_singleton] at h1
   subst h1
   have:=congrArg List.length h
   simp at this
 hv:=hv
def Zw(g:List bc→List bc):Except iB (List bc×WS)→Except iB (List bc×WS)
 | .error e=>.error e
 | .ok q=>.ok (g q.1,q.2)
theorem oL{l pre:List Pl}{t:Nd}{p:List Int}{ix A:List Nat}{env env':List bc}(h6:¬t.kind=6)(hD:jG ⟨t,p⟩=false)(hs:cG l pre.length=none){r:Except iB (List bc×WS)}(hk:Ap l (pre++[⟨t,p⟩]) t.kids p 0 ix A env' r)(g:List bc→List bc)(hg:∀q,r = .ok q→g q.1=env) :
  Ex l pre t p ix A env (Zw g r):=by
 have hl:(pre++[(⟨t,p⟩:Pl)]).length=pre.length+1:=by simp
 cases r with
 | error e =>
  unfold Ap at hk
  rw[hl] at hk
  show jb l pre.length t.size e
  rw[Nd.size_eq]
  exact jb.right (lq.one hs) hk
 | ok q =>
  obtain ⟨h1,more,h2,h3,h4,h5⟩:=hk
  rw[hl] at h1 h2 h3
  refine ⟨by rw[Nd.size_eq];exact (lq.one hs).dD h1,more,?_,fun i hi=>by have:=h3 i hi;omega,?_⟩
  ·have e1:pre++bJ t p=pre++[⟨t,p⟩]++bO t.kids p 0:=by rw[cO];simp
   have e2:A++dI (bJ t p) pre.length=A++dI (bO t.kids p 0) (pre.length+1):=by rw[cO];simp[dI,hD]
   rw[e1,e2]
   exact h2
  ·rw[if_neg h6]
   exact hg q rfl
theorem Pw(t:Nd):nE t→KJ t:=by
 induction t using Nd.ind with
 | _ t ih =>
  intro hg l pre post p ix A env ws fu hF hC hW
  have hkg:=hg.rS
  have hkc:∀u∈t.kids,KJ u:=fun u hu=>ih u hu (hkg u hu)
  have Px:=Ps t.kids hkg hkc
  have wX:=hg.kind
  have h2:¬t.kind=2:=by omega
  have h4:¬t.kind=4:=by omega
  have dy:=hW.at_
  have dH:aq l pre.length=⟨t,p⟩:=by rw[hC.eq,cO];exact pg
  obtain ⟨k,s,m,kids⟩:=t
  simp only[Nd.kind,Nd.kids] at wX h2 h4 Px hkg hkc
  simp only[bG,if_neg h2,if_neg h4]
  have G9:∀h5:¬k=5,∀u∈kids,¬u.kind=6:=fun h5=>hg.abR h5
  by_cases h5:k=5
  ·-- a Block
   rw[if_pos h5]
   have hU:gV ⟨⟨k,s,m,kids⟩,p⟩=false:=by simp[gV,Nd.kind,h5]
   have hD:jG ⟨⟨k,s,m,kids⟩,p⟩=false:=by simp[jG,Nd.kind,h5]
   have hs:cG l pre.length=none:=by
    unfold cG
    rw[dH,if_neg (by simp[fS,Nd.kind,h5]),if_pos hU]
   have hK:=Au (env':=[]::env) hC (by simp[Nd.kind,h5]) (fun x=>by simp[bU,cm]) (by simp) (fun _ x=>by
    simp only[List.headD_cons,cm,Option.isSome_none]
    symm
    rw[List.any_eq_false]
    intro b hb hc
    simp only[Bool.and_eq_true,decide_eq_true_eq,ja] at hc
    obtain ⟨-,-,hc3,z,hz⟩:=hc
    rcases List.mem_append.1 hb with h | h
    ·refine hC.fr b h z (fun e=>?_) hz.symm
     rw[e] at hz
     have:=congrArg List.length hz
     simp at this
     omega
    ·rw[List.mem_singleton] at h
     subst h
     simp at hc3)
   have hn:=oL (by simp[Nd.kind,h5]) hD hs (Px l _ post p 0 ix A ([]::env) _ fu hF hK (hW.skip hU)) (fun _=>env) (fun _ _=>rfl)
   cases hr:bz fu kids ([]::env) { ws with at_:=ws.at_+1 } p 0 with
   | error e=>rw[hr] at hn;exact hn
   | ok q=>rw[hr] at hn;exact hn
  rw[if_neg h5]
  by_cases h6:k=6
  ·-- a Var
   rw[if_pos h6]
   have hU:gV ⟨⟨k,s,m,kids⟩,p⟩=false:=by simp[gV,Nd.kind,h6]
   have hB:fS ⟨⟨k,s,m,kids⟩,p⟩=true:=by simp[fS,Nd.kind,h6]
   have hD:jG ⟨⟨k,s,m,kids⟩,p⟩=true:=by simp[jG,Nd.kind,h6]
   have hv:=hC.hv (by simp[Nd.kind,h6]) s
   have rX:ef l pre.length=(cm s (env.headD [])).isSome:=by
    unfold ef
    rw[dH,hv,hC.eq,List.take_left]
    congr 1
    funext b
    have wY:Nd.kind ⟨k,s,m,kids⟩=6:=h6
    have hts:Nd.text ⟨k,s,m,kids⟩=s:=rfl
    unfold twin
    simp only[wY,hts]
   cases hh:(cm s (env.headD [])).isSome with
   | true =>
    rw[hh] at rX
    simp only[if_true]
    rw[dy]
    refine jb.left (n:=1) (jb.one ?_)
    unfold cG
    rw[dH]
    simp[hB,rX]
   | false =>
    rw[hh] at rX
    simp only[Bool.false_eq_true,if_false]
    have hs:cG l pre.length=none:=by
     unfold cG
     rw[dH]
     simp[rX,hU]
    have hK:=Au (env':=env) hC (by simp[Nd.kind,h6]) (fun x=>rfl) hC.ne (fun ⟨u,hu,T1⟩=>absurd T1 (G9 h5 u hu))
    have hR:=Px l _ post p 0 ix A env _ fu hF hK (hW.skip hU)
    have hl:(pre++[(⟨⟨k,s,m,kids⟩,p⟩:Pl)]).length=pre.length+1:=by simp
    cases hr:bz fu kids env { ws with at_:=ws.at_+1 } p 0 with
    | error e =>
     rw[hr] at hR
     unfold Ap at hR
     rw[hl] at hR
     show jb l pre.length (Nd.size ⟨k,s,m,kids⟩) e
     rw[Nd.size_eq]
     exact jb.right (lq.one hs) hR
    | ok q =>
     rw[hr] at hR
     obtain ⟨g1,more,g2,g3,-,g5⟩:=hR
     have hq:=g5 (G9 h5)
     rw[hl] at g1 g2 g3
     have hnd:dI (bO kids p 0) (pre.length+1)=[]:=G6 _ _ (hg.var (by simp[Nd.kind,h6]) p 0)
     rw[hnd,List.append_nil] at g2
     have e1:pre++bJ ⟨k,s,m,kids⟩ p=pre++[⟨⟨k,s,m,kids⟩,p⟩]++bO kids p 0:=by rw[cO];simp[Nd.kids]
     have hni:pre.length∉ix++more:=fun hm=>by
      rcases List.mem_append.1 hm with h | h
      ·rcases hW.old _ h with h' | h'
       ·rw[dH] at h'
        simp[Nd.kind,h6] at h'
       ·omega
      ·have:=g3 _ h;omega
     have mc:¬(aq l pre.length).n.kind=2:=by rw[dH];simp[Nd.kind,h6]
     have hb:=g2.bind (m:=pre.length) (by simp) mc hni
     rw[dH] at hb
     simp only[Nd.text] at hb
     have hmn:cm s (env.headD [])=none:=by
      cases hx:cm s (env.headD []) with
      | none=>rfl
      | some v=>rw[hx] at hh;cases hh
     have il:q.2.bs.length=(ix++more).length:=by rw[g2.bs];simp[vG]
     simp only[cW,hq,hmn]
     refine ⟨by rw[Nd.size_eq];exact (lq.one hs).dD g1,more++[pre.length],?_,?_,?_⟩
     ·rw[e1,←List.append_assoc]
      have e2:A++dI (bJ ⟨k,s,m,kids⟩ p) pre.length=A++[pre.length]:=by
       rw[cO]
       simp only[dI,hD,if_true]
       show A++([pre.length]++dI (bO kids p 0) (pre.length+1))=_
       rw[hnd]
       simp
      rw[e2]
      exact hb
     ·intro i hi
      rcases List.mem_append.1 hi with h | h
      ·have:=g3 i h;omega
      ·rw[List.mem_singleton] at h;omega
     ·rw[if_pos (by simp[Nd.kind,h6])]
      refine ⟨q.2.bs.length,by rw[il];simp,?_,rfl⟩
      rw[il,←List.append_assoc]
      simp[List.getD]
  rw[if_neg h6]
  have h6':¬Nd.kind ⟨k,s,m,kids⟩=6:=by simp[Nd.kind,h6]
  have Hf:fS ⟨⟨k,s,m,kids⟩,p⟩=false:=by simp[fS,Nd.kind,h6,h4]
  have hD:jG ⟨⟨k,s,m,kids⟩,p⟩=false:=by simp[jG,Nd.kind,h6,h4,h2]
  have hK:=Au (env':=env) hC (by simpa [Nd.kind] using h4) (fun x=>rfl) hC.ne (fun ⟨u,hu,T1⟩=>absurd T1 (G9 h5 u hu))
  have Zx:∀(ev:List bc)(hU:gV ⟨⟨k,s,m,kids⟩,p⟩=true)(hst:cL l ⟨⟨k,s,m,kids⟩,p⟩=enc ix (bU ev s))(hlt:∀j,bU ev s=some j→j<ix.length)(yw:k=25→∀j,bU ev s=some j→(aq l (ix.getD j 0)).n.kind=2),
    Ex l pre ⟨k,s,m,kids⟩ p ix A env (match iC ev { ws with at_:=ws.at_+1 } k s kids.length p ws.at_ with
     | .error e=>.error e
     | .ok w=>bz fu kids env w p 0):=by
   intro ev hU hst hlt yw
   unfold iC
   cases hf:bU ev s with
   | none =>
    rw[hf] at hst
    simp only
    rw[dy]
    refine jb.left (n:=1) (jb.one ?_)
    unfold cG
    rw[dH]
    simp[Hf,hU,hst,enc]
   | some j =>
    rw[hf] at hst
    have hj:=hlt j hf
    have Hg:cL l ⟨⟨k,s,m,kids⟩,p⟩=((ix.getD j 0:Nat):Int):=hst
    have hb:=Ao (l:=l) (pre:=pre) hj
    simp only[hW.bs,hb]
    by_cases c:k=25∧¬rT l (ix.getD j 0)=(kids.length:Nat)
    ·rw[if_pos c]
     simp only
     rw[dy]
     refine jb.left (n:=1) (jb.one ?_)
     have hy:=c.2
     unfold rT at hy
     rw[if_pos (yw c.1 j hf)] at hy
     unfold cG
     rw[dH]
     have hn:¬cL l ⟨⟨k,s,m,kids⟩,p⟩<0:=by rw[Hg];omega
     rw[if_neg (by simp[Hf]),if_neg (by simp[hU]),if_neg hn,if_pos]
     refine ⟨by simp[Nd.kind,c.1],?_⟩
     rw[Hg,Int.toNat_natCast]
     intro h
     exact hy (congrArg _ h)
    ·rw[if_neg c]
     simp only
     have hs:cG l pre.length=none:=by
      unfold cG
      rw[dH]
      have hn:¬cL l ⟨⟨k,s,m,kids⟩,p⟩<0:=by rw[Hg];omega
      rw[if_neg (by simp[Hf]),if_neg (by simp[hU]),if_neg hn,if_neg]
      rintro ⟨c1,c2⟩
      have zA:k=25:=c1
      refine c ⟨zA,?_⟩
      unfold rT
      rw[if_pos (yw zA j hf)]
      rw[Hg,Int.toNat_natCast] at c2
      intro h
      exact c2 (Int.ofNat.inj h)
     have Ey:=hW.use hU hj Hg
     rw[hW.bs,hb] at Ey
     have hn:=oL h6' hD hs (Px l _ post p 0 ix A env _ fu hF hK Ey) id (fun q hq=>(by
      have:=Px l _ post p 0 ix A env _ fu hF hK Ey
      rw[hq] at this
      exact this.2.choose_spec.2.2.2 (G9 h5)))
     cases hr:bz fu kids env { ws with at_:=ws.at_+1,bs:=(vG l pre ix).set j { (⟨(aq l (ix.getD j 0)).p,(aq l (ix.getD j 0)).n.text,fJ l pre (ix.getD j 0),rT l (ix.getD j 0)⟩:Bd) with cI:=fJ l pre (ix.getD j 0)++[p] } } p 0 with
     | error e=>rw[hr] at hn;exact hn
     | ok q=>rw[hr] at hn;exact hn
  by_cases yx:k=22
  ·rw[if_pos yx]
   have hkn:kids=[]:=hg.name (by simp[Nd.kind,yx])
   refine Zx env (by simp[gV,Nd.kind,yx]) ?_ (hC.lt s) (fun h=>by omega)
   unfold cL
   rw[if_neg (by simp[Nd.kind,yx])]
   simp only[Nd.text]
   have e0:l=pre++([⟨⟨k,s,m,kids⟩,p⟩]++post):=by rw[hC.eq,cO,hkn];simp[bO,Nd.kids]
   have o7:p++[]=p:=by simp
   rw[e0,eK,eK]
   have h1:=hC.ag s []
   rw[o7] at h1
   have yn:=G8 (x:=s) (s:=[]) (i:=0+pre.length) (f:=jF s p pre 0 (-1)) hC.pne (t:=⟨k,s,m,kids⟩) (by simpa [Nd.kind] using h4)
   rw[o7] at yn
   rw[yn,h1]
   exact yS _ _ _ fun b hb hB=>by have:=hC.po b hb hB [];rwa [o7] at this
  rw[if_neg yx]
  by_cases yw:k=25
  ·rw[if_pos yw]
   have hfu:bU [fu] s=cm s fu:=by
    simp only[bU]
    cases cm s fu<;>rfl
   refine Zx [fu] (by simp[gV,Nd.kind,yw]) ?_ (fun j hj=>(hF.fl s j (by rw[←hfu];exact hj)).1) (fun _ j hj=>(hF.fl s j (by rw[←hfu];exact hj)).2)
   unfold cL
   rw[if_pos (by simp[Nd.kind,yw]),hfu]
   exact hF.fa s
  rw[if_neg yw]
  have hU:gV ⟨⟨k,s,m,kids⟩,p⟩=false:=by simp[gV,Nd.kind,yx,yw]
  have hs:cG l pre.length=none:=by
   unfold cG
   rw[dH]
   simp[Hf,hU]
  have hR:=Px l _ post p 0 ix A env _ fu hF hK (hW.skip hU)
  have hn:=oL h6' hD hs hR id (fun q hq=>by
   rw[hq] at hR
   exact hR.2.choose_spec.2.2.2 (G9 h5))
  cases hr:bz fu kids env { ws with at_:=ws.at_+1 } p 0 with
  | error e=>rw[hr] at hn;exact hn
  | ok q=>rw[hr] at hn;exact hn
theorem rY{t:Nd}{m:Nat}(h:bB t m=true):nB t=true∧∀j,j<t.kids.length→dB t.kind (aC t.kids j).kind j=true∧bB (aC t.kids j) (m - 1)=true:=by
 rw[lm] at h
 simp only[Bool.and_eq_true] at h
 refine ⟨h.1.1.2,fun j hj=>?_⟩
 have:=(ol t.kind (m - 1) t.kids 0).1 h.1.2 j hj
 rwa [Nat.zero_add] at this
theorem lu{t:Nd}{m:Nat}(h:bB t m=true){u:Nd}(hu:u∈t.kids):∃j:Nat,j<t.kids.length∧dB t.kind u.kind j=true∧bB u (m - 1)=true:=by
 obtain ⟨j,hj,rfl⟩:=List.getElem_of_mem hu
 have:=(rY h).2 j hj
 rw[gv hj] at this
 exact ⟨j,hj,this⟩
theorem ue{t:Nd}{m:Nat}(h:bB t m=true)(h0:0≤dZ t.kind):(t.kids.length:Int)=dZ t.kind:=by
 have:=(rY h).1
 simp only[nB,Bool.and_eq_true,Bool.or_eq_true,decide_eq_true_eq] at this
 omega
theorem Av{p k a:Int}(hp:20≤p∨p=6)(h:dB p k a=true):dY k=true:=by
 unfold dB at h
 split at h
 ·cases h
 rw[if_neg (by omega),if_neg (by omega),if_neg (by omega),if_neg (by omega),if_neg (by omega),if_neg (by omega),if_neg (by omega)] at h
 exact h
theorem Py(t:Nd):∀(m:Nat),bB t m=true→dY t.kind=true→∀(p:List Int)(b:Pl),b∈bJ t p→jG b=false:=by
 induction t using Nd.ind with
 | _ t ih =>
  intro m h he p b hb
  have hk:20≤t.kind:=by simp[dY] at he;omega
  rw[cO] at hb
  rcases List.mem_cons.1 hb with rfl | hb
  ·simp[jG];omega
  ·obtain ⟨j,u,⟨h1,h2⟩,h3⟩:=eO _ _ _ _ hb
   have hu:=List.mem_of_getElem? h2
   obtain ⟨j',_,hf,hr⟩:=lu h hu
   exact ih u hu _ hr (Av (.inl hk) hf) _ b h3
theorem CU{p k a:Int}(hp:p=5∨6≤p)(h:dB p k a=true):(k=5∨6≤k)∧(p≠5→¬k=6):=by
 unfold dB at h
 split at h
 ·cases h
 rw[if_neg (by omega),if_neg (by omega),if_neg (by omega)] at h
 by_cases h5:p=5
 ·rw[if_pos h5] at h
  simp[mb] at h
  exact ⟨by omega,fun h'=>absurd h5 h'⟩
 rw[if_neg h5] at h
 by_cases h7:p=7
 ·rw[if_pos h7] at h
  simp[dY] at h
  exact ⟨by omega,fun _=>by omega⟩
 rw[if_neg h7] at h
 by_cases h8:p=8∨p=9
 ·rw[if_pos h8] at h
  simp[dY] at h
  exact ⟨by omega,fun _=>by omega⟩
 rw[if_neg h8] at h
 by_cases h12:p=12
 ·rw[if_pos h12] at h
  simp at h
  exact ⟨by omega,fun _=>by omega⟩
 rw[if_neg h12] at h
 simp[dY] at h
 exact ⟨by omega,fun _=>by omega⟩
theorem KK(t:Nd):∀(m:Nat),bB t m=true→(t.kind=5∨6≤t.kind)→nE t:=by
 induction t using Nd.ind with
 | _ t ih =>
  intro m h hk
  refine .mk hk (fun h5 u hu=>?_) (fun yx=>?_) (fun h6 p i b hb=>?_) fun u hu=>?_
  ·obtain ⟨j,_,hf,_⟩:=lu h hu
   exact (CU hk hf).2 h5
  ·have:=ue h (by rw[yx];decide)
   rw[yx] at this
   have h0:t.kids.length=0:=by have:dZ 22=0:=rfl;omega
   exact List.length_eq_zero_iff.1 h0
  ·obtain ⟨j,u,⟨h1,h2⟩,h3⟩:=eO _ _ _ _ hb
   have hu:=List.mem_of_getElem? h2
   obtain ⟨j',_,hf,hr⟩:=lu h hu
   exact Py u _ hr (Av (.inr h6) hf) _ b h3
  ·obtain ⟨j,_,hf,hr⟩:=lu h hu
   exact ih u hu _ hr (CU hk hf).1
structure Fn(f P B:Nd):Prop where
 kind:f.kind=2
 kids:f.kids=[P,B]
 pk:P.kind=3
 ps:∀q∈P.kids,q.kind=4∧q.kids=[]
 bk:B.kind=5
 bg:nE B
theorem ph{n:Nd}{m:Nat}(hk:n.kind=1)(h:bB n m=true){f:Nd}(hf:f∈n.kids):∃P B,Fn f P B:=by
 obtain ⟨j,_,h1,h2⟩:=lu h hf
 have k2:f.kind=2:=by
  rw[hk] at h1
  unfold dB at h1
  split at h1
  ·cases h1
  simpa using h1
 have hl:=ue h2 (by rw[k2];decide)
 have h2l:f.kids.length=2:=by
  rw[k2] at hl
  have:dZ 2=2:=rfl
  omega
 obtain ⟨P,B,hPB⟩:∃P B,f.kids=[P,B]:=by
  match hq:f.kids,h2l with
  | [P,B],_=>exact ⟨P,B,rfl⟩
 have eW:=(rY h2).2
 rw[hPB] at eW
 obtain ⟨f0,r0⟩:=eW 0 (by simp)
 obtain ⟨f1,r1⟩:=eW 1 (by simp)
 have e0:aC [P,B] 0=P:=rfl
 have e1:aC [P,B] 1=B:=rfl
 rw[e0] at f0 r0
 rw[e1] at f1 r1
 rw[k2] at f0 f1
 have kP:P.kind=3:=by
  simp[dB,dZ] at f0
  exact f0
 have kB:B.kind=5:=by
  simp[dB,dZ] at f1
  exact f1
 refine ⟨P,B,k2,hPB,kP,fun q hq=>?_,kB,KK B _ r1 (.inl kB)⟩
 obtain ⟨j',_,g1,g2⟩:=lu r0 hq
 have k4:q.kind=4:=by
  rw[kP] at g1
  unfold dB at g1
  split at g1
  ·cases g1
  simpa using g1
 refine ⟨k4,?_⟩
 have:=ue g2 (by rw[k4];decide)
 rw[k4] at this
 have h0:q.kids.length=0:=by have:dZ 4=0:=rfl;omega
 exact List.length_eq_zero_iff.1 h0
theorem Ms{f P B:Nd}(hf:Fn f P B){p:List Int}{b:Pl}(hb:b∈bJ f p):b=⟨f,p⟩∨b=⟨P,p++[0]⟩∨(∃i:Nat,∃q∈P.kids,b=⟨q,p++[0]++[(i:Int)]⟩)∨(b∈bJ B (p++[1])∧nE b.n):=by
 rw[cO,hf.kids] at hb
 simp only[bO,List.append_nil,List.mem_cons,List.mem_append] at hb
 rcases hb with h | h | h
 ·exact .inl h
 ·rw[cO] at h
  rcases List.mem_cons.1 h with rfl | h
  ·exact .inr (.inl rfl)
  ·obtain ⟨j,u,⟨h1,h2⟩,h3⟩:=eO _ _ _ _ h
   have hu:=List.mem_of_getElem? h2
   rw[cO,(hf.ps u hu).2] at h3
   simp only[bO,List.mem_singleton] at h3
   exact .inr (.inr (.inl ⟨j,u,hu,h3⟩))
 ·exact .inr (.inr (.inr ⟨h,vF B hf.bg _ b h⟩))
theorem T2{f P B:Nd}(hf:Fn f P B){j k:Int}(hne:j≠k){s:List Int}:∀b∈bJ f [j],fS b=true→cP b ([k]++s)=false:=by
 intro b hb hB
 rcases Ms hf hb with rfl | rfl | ⟨i,q,hq,rfl⟩ | ⟨h,hg⟩
 ·simp[fS,hf.kind] at hB
 ·simp[fS,hf.pk] at hB
 ·exact mS (p:=[]) (j:=j) (k:=k) (s:=[0,(i:Int)]) (s':=s) rfl rfl hne (by simp) (by simp)
 ·have h4:¬b.n.kind=4:=by have:=hg.kind;omega
  rcases nD B _ b h with rfl | ⟨j2,s2,h2⟩
  ·exact mS (p:=[]) (j:=j) (k:=k) (s:=[1]) (s':=s) rfl rfl hne (by simp) fun h=>absurd h h4
  ·exact mS (p:=[]) (j:=j) (k:=k) (s:=[1]++([j2]++s2)) (s':=s) (by rw[h2];simp) rfl hne (by simp) fun h=>absurd h h4
theorem T3{f P B:Nd}(hf:Fn f P B){p:List Int}{b:Pl}(hb:b∈bJ f p):b=⟨f,p⟩∨¬b.n.kind=2:=by
 rcases Ms hf hb with rfl | rfl | ⟨i,q,hq,rfl⟩ | ⟨h,hg⟩
 ·exact .inl rfl
 ·right;rw[hf.pk];omega
 ·right;rw[(hf.ps q hq).1];omega
 ·right;have:=hg.kind;omega
theorem Aw{s x:ByteArray}{j:Nat}{head:bc}{tl:List bc}:bU (ep s j head::tl) x=if x=s then some j else bU (head::tl) x:=by
 rw[rV,gF]
 by_cases h:x=s
 ·simp[h]
 ·rw[if_neg h,if_neg h,rV]
theorem wZ(t:Nd)(r:List Nd)(p:List Int)(i:Nat):bO (t::r) p i=bJ t (p++[(i:Int)])++bO r p (i+1):=rfl
theorem Hj(r:List Nd)(hr:∀q∈r,q.kind=4∧q.kids=[]):∀(l pre post:List Pl)(f:List Int)(i:Nat)(ix A:List Nat)(head:bc)(tl:List bc)(ws:WS)(fu:bc),
  l=pre++(bO r (f++[0]) i++post)→(∀x s,jF x (f++[1]++s) pre 0 (-1)=enc ix (bU (head::tl) x))→(∀x j,bU (head::tl) x=some j→j<ix.length)→
  (∀x,(cm x head).isSome=pre.any fun b=>decide (b.n.kind=4) && (decide (b.n.text=x) && (decide (b.p.length=f.length+2) && gw b.p (f++[0]))))→mg l pre ix A ws→
  match bz fu r (head::tl) ws (f++[0]) i with
  | .error e=>jb l pre.length (Nd.aw r) e
  | .ok q=>lq l pre.length (Nd.aw r)∧∃(more:List Nat)(head':bc),mg l (pre++bO r (f++[0]) i) (ix++more) (A++dI (bO r (f++[0]) i) pre.length) q.2∧q.1=head'::tl∧
    (∀x s,jF x (f++[1]++s) (pre++bO r (f++[0]) i) 0 (-1)=enc (ix++more) (bU (head'::tl) x))∧(∀x j,bU (head'::tl) x=some j→j<(ix++more).length):=by
 induction r with
 | nil =>
  intro l pre post f i ix A head tl ws fu heq hag hlt hhv hW
  simp only[bz]
  exact ⟨lq.nil,[],head,by simpa [bO,dI] using hW,rfl,by simpa [bO] using hag,by simpa using hlt⟩
 | cons q r ih =>
  intro l pre post f i ix A head tl ws fu heq hag hlt hhv hW
  obtain ⟨hq4,hq0⟩:=hr q (by simp)
  obtain ⟨k,s,m,kids⟩:=q
  simp only[Nd.kind,Nd.kids] at hq4 hq0
  subst hq4 hq0
  have hN:bJ ⟨4,s,m,[]⟩ (f++[0]++[(i:Int)])=[⟨⟨4,s,m,[]⟩,f++[0]++[(i:Int)]⟩]:=by rw[cO];rfl
  have hU:gV ⟨⟨4,s,m,[]⟩,f++[0]++[(i:Int)]⟩=false:=rfl
  have hB:fS ⟨⟨4,s,m,[]⟩,f++[0]++[(i:Int)]⟩=true:=rfl
  have hD:jG ⟨⟨4,s,m,[]⟩,f++[0]++[(i:Int)]⟩=true:=rfl
  have T4:bO (⟨4,s,m,[]⟩::r) (f++[0]) i=[⟨⟨4,s,m,[]⟩,f++[0]++[(i:Int)]⟩]++bO r (f++[0]) (i+1):=by rw[wZ,hN]
  have Pz:∀n,dI [(⟨⟨4,s,m,[]⟩,f++[0]++[(i:Int)]⟩:Pl)] n=[n]:=fun n=>by simp only[dI,hD,if_true,List.append_nil]
  have pn:l=(pre++[⟨⟨4,s,m,[]⟩,f++[0]++[(i:Int)]⟩])++(bO r (f++[0]) (i+1)++post):=by rw[heq,T4];simp only[List.append_assoc]
  have dH:aq l pre.length=⟨⟨4,s,m,[]⟩,f++[0]++[(i:Int)]⟩:=by rw[pn,List.append_assoc];exact pg
  have rX:ef l pre.length=(cm s head).isSome:=by
   unfold ef
   rw[dH,hhv s,pn,List.append_assoc,List.take_left]
   congr 1
   funext b
   have h4:Nd.kind ⟨4,s,m,[]⟩=4:=rfl
   have hs:Nd.text ⟨4,s,m,[]⟩=s:=rfl
   have qH:(f++[0]++[(i:Int)]).length=f.length+2:=by simp
   have dW:(f++[0]++[(i:Int)]).take (f.length+2 - 1)=f++[0]:=by
    have:f.length+2 - 1=(f++[(0:Int)]).length:=by simp
    rw[this,List.take_left]
   unfold twin
   simp only[h4,hs,qH,dW]
  have dy:=hW.at_
  have hsz:Nd.aw (⟨4,s,m,[]⟩::r)=1+Nd.aw r:=by simp[Nd.aw,Nd.size]
  have hl:(pre++[(⟨⟨4,s,m,[]⟩,f++[0]++[(i:Int)]⟩:Pl)]).length=pre.length+1:=by simp
  have Ax:bG fu ⟨4,s,m,[]⟩ (head::tl) ws (f++[0]++[(i:Int)])=cW (head::tl) { ws with at_:=ws.at_+1 } s (f++[0]++[(i:Int)]) ws.at_:=by
   simp only[bG]
   rw[if_neg (by decide),if_pos trivial]
   cases cW (head::tl) { ws with at_:=ws.at_+1 } s (f++[0]++[(i:Int)]) ws.at_<;>rfl
  simp only[bz,Ax]
  rw[hsz]
  cases hg:cm s head with
  | some v =>
   have hb:cW (head::tl) { ws with at_:=ws.at_+1 } s (f++[0]++[(i:Int)]) ws.at_ = .error (110,ws.at_):=by simp[cW,hg]
   rw[hb]
   simp only
   rw[dy]
   refine jb.left (jb.one ?_)
   unfold cG
   rw[dH,if_pos ⟨hB,by rw[rX,hg];rfl⟩]
  | none =>
   have hb:cW (head::tl) { ws with at_:=ws.at_+1 } s (f++[0]++[(i:Int)]) ws.at_ = .ok (ep s ws.bs.length head::tl,{ ws with at_:=ws.at_+1,bs:=ws.bs++[⟨f++[0]++[(i:Int)],s,[],0⟩],all:=ws.all++[ws.bs.length] }):=by simp[cW,hg]
   rw[hb]
   simp only
   have hs:cG l pre.length=none:=by
    unfold cG
    rw[dH,if_neg (by simp[rX,hg]),if_pos hU]
   have hni:pre.length∉ix:=fun hm=>by
    rcases hW.old _ hm with h | h
    ·rw[dH] at h;simp[Nd.kind] at h
    ·omega
   obtain ⟨w2,yy⟩:∃w2,({ ws with at_:=ws.at_+1,bs:=ws.bs++[⟨f++[0]++[(i:Int)],s,[],0⟩],all:=ws.all++[ws.bs.length] }:WS)=w2:=⟨_,rfl⟩
   have Ey:mg l (pre++[⟨⟨4,s,m,[]⟩,f++[0]++[(i:Int)]⟩]) (ix++[pre.length]) (A++[pre.length]) w2:=by
    have h:=(hW.skip hU).bind (m:=pre.length) (by simp) (by rw[dH];simp[Nd.kind]) hni
    rw[dH] at h
    rw[←yy]
    exact h
   rw[yy]
   have il:ws.bs.length=ix.length:=by rw[hW.bs];simp[vG]
   have hR:=ih (fun q hq=>hr q (by simp[hq])) l _ post f (i+1) (ix++[pre.length]) (A++[pre.length]) (ep s ws.bs.length head) tl _ fu pn ?_ ?_ ?_ Ey
   ·rw[hl] at hR
    generalize bz fu r (ep s ws.bs.length head::tl) w2 (f++[0]) (i+1)=res at hR ⊢
    cases res with
    | error e=>exact jb.right (lq.one hs) hR
    | ok z =>
     obtain ⟨g1,more,head',g2,g3,g4,g5⟩:=hR
     have e1:pre++bO (⟨4,s,m,[]⟩::r) (f++[0]) i=pre++[⟨⟨4,s,m,[]⟩,f++[0]++[(i:Int)]⟩]++bO r (f++[0]) (i+1):=by rw[T4];simp only[List.append_assoc]
     have e2:A++dI (bO (⟨4,s,m,[]⟩::r) (f++[0]) i) pre.length=A++[pre.length]++dI (bO r (f++[0]) (i+1)) (pre.length+1):=by rw[T4,iE,Pz];simp only[List.append_assoc];rfl
     refine ⟨(lq.one hs).dD g1,pre.length::more,head',?_,g3,?_,?_⟩
     ·rw[e1,e2,show ix++pre.length::more=ix++[pre.length]++more by simp]
      exact g2
     ·intro x s'
      rw[e1,show ix++pre.length::more=ix++[pre.length]++more by simp]
      exact g4 x s'
     ·intro x j hj
      have:=g5 x j hj
      simpa using this
   ·intro x s'
    rw[eK,hag x s',Nat.zero_add,Aw]
    simp only[jF]
    have X3:cP ⟨⟨4,s,m,[]⟩,f++[0]++[(i:Int)]⟩ (f++[1]++s')=true:=KH rfl rfl rfl
    have hts:Nd.text ⟨4,s,m,[]⟩=s:=rfl
    rw[X3,hB,hts]
    by_cases hx:x=s
    ·have BQ:s=x:=hx.symm
     rw[if_pos hx,if_pos ⟨BQ,rfl,rfl⟩]
     simp[enc,il,List.getD]
    ·have BQ:¬s=x:=fun h=>hx h.symm
     rw[if_neg hx,if_neg (fun h=>BQ h.1),vH (hlt x)]
   ·intro x j hj
    rw[Aw] at hj
    split at hj
    ·cases hj
     rw[il]
     simp
    ·have:=hlt x j hj
     simp;omega
   ·intro x
    rw[gF,List.any_append,List.any_cons,List.any_nil,Bool.or_false,←hhv x]
    have hts:Nd.text ⟨4,s,m,[]⟩=s:=rfl
    have h4:Nd.kind ⟨4,s,m,[]⟩=4:=rfl
    have oa:gw (f++[0]++[(i:Int)]) (f++[0])=true:=ja.2 ⟨[(i:Int)],rfl⟩
    simp only[hts,h4,oa]
    by_cases hx:x=s
    ·simp[hx]
    ·have BQ:¬s=x:=fun h=>hx h.symm
     simp[hx,BQ]
theorem mg.decl{l pre:List Pl}{ix A:List Nat}{ws:WS}(h:mg l pre ix A ws){u:Pl}(hu:gV u=false){j:Nat}(hj:j<ix.length)(hi:ix.getD j 0=pre.length):mg l (pre++[u]) ix (A++[pre.length]) { ws with at_:=ws.at_+1,all:=ws.all++[j] } where
 at_:=(h.skip hu).at_
 bs:=(h.skip hu).bs
 all:=by
  simp only[List.map_append,List.map_cons,List.map_nil,hi]
  rw[h.all]
 lt:=fun z hz=>by
  rcases List.mem_append.1 hz with h1 | h1
  ·exact h.lt z h1
  ·rw[List.mem_singleton] at h1
   rw[h1];exact hj
 nd:=h.nd
 old:=(h.skip hu).old
 cI:=(h.skip hu).cI
theorem X4{f P B:Nd}(hf:Fn f P B)(l pre post:List Pl)(k:Nat)(ix A:List Nat)(ws:WS)(fu:bc)(hF:xT l ix fu)(heq:l=pre++(bJ f [(k:Int)]++post))
  (hag:∀x s,jF x ([(k:Int)]++s) pre 0 (-1)=-1)(gQ:∀b∈post,fS b=true→∀s,cP b ([(k:Int)]++s)=false)(bx:∀b∈pre,∀s,b.p≠[(k:Int)]++s)
  (gJ:∃j,cm f.text fu=some j∧ix.getD j 0=pre.length)(hW:mg l pre ix A ws) :
  match bG fu f [[]] ws [(k:Int)] with
  | .error e=>jb l pre.length f.size e
  | .ok r=>lq l pre.length f.size∧∃more,mg l (pre++bJ f [(k:Int)]) (ix++more) (A++dI (bJ f [(k:Int)]) pre.length) r.2∧r.1=[[]]:=by
 obtain ⟨j,hj,hji⟩:=gJ
 have tG:=(hF.fl _ _ hj).1
 have Jd:=hf.kind
 have hfs:=hf.kids
 obtain ⟨fk,fs,fm,abS⟩:=f
 obtain ⟨pk,ps,pm,dc⟩:=P
 have hpk:pk=3:=hf.pk
 have hps:∀q∈dc,q.kind=4∧q.kids=[]:=hf.ps
 have adI:fk=2:=Jd
 have adJ:abS=[⟨pk,ps,pm,dc⟩,B]:=hfs
 subst adI hpk adJ
 have hj':cm fs fu=some j:=hj
 have hU:gV ⟨⟨2,fs,fm,[⟨3,ps,pm,dc⟩,B]⟩,[(k:Int)]⟩=false:=rfl
 have hUP:gV ⟨⟨3,ps,pm,dc⟩,[(k:Int)]++[0]⟩=false:=rfl
 have hN:bJ ⟨2,fs,fm,[⟨3,ps,pm,dc⟩,B]⟩ [(k:Int)]=[⟨⟨2,fs,fm,[⟨3,ps,pm,dc⟩,B]⟩,[(k:Int)]⟩]++([⟨⟨3,ps,pm,dc⟩,[(k:Int)]++[0]⟩]++(bO dc ([(k:Int)]++[0]) 0++bJ B ([(k:Int)]++[1]))):=by
  rw[cO]
  show _::bO [⟨3,ps,pm,dc⟩,B] [(k:Int)] 0=_
  simp only[bO]
  rw[cO]
  simp[Nd.kids]
 have adK:aq l pre.length=⟨⟨2,fs,fm,[⟨3,ps,pm,dc⟩,B]⟩,[(k:Int)]⟩:=by rw[heq,hN];exact pg
 have adL:aq l (pre.length+1)=⟨⟨3,ps,pm,dc⟩,[(k:Int)]++[0]⟩:=by
  have:=pg (pre:=pre++[⟨⟨2,fs,fm,[⟨3,ps,pm,dc⟩,B]⟩,[(k:Int)]⟩]) (u:=⟨⟨3,ps,pm,dc⟩,[(k:Int)]++[0]⟩) (r:=bO dc ([(k:Int)]++[0]) 0++bJ B ([(k:Int)]++[1])++post)
  rw[heq,hN]
  simpa using this
 have hs0:cG l pre.length=none:=by
  unfold cG
  rw[adK,if_neg (by simp[fS,Nd.kind]),if_pos hU]
 have hs1:cG l (pre.length+1)=none:=by
  unfold cG
  rw[adL,if_neg (by simp[fS,Nd.kind]),if_pos hUP]
 have sS:lq l pre.length 2:=(lq.one hs0).dD (m:=1) (lq.one hs1)
 have X5:=(hW.decl hU tG hji).skip hUP
 obtain ⟨xU,uf⟩:∃xU,pre++[(⟨⟨2,fs,fm,[⟨3,ps,pm,dc⟩,B]⟩,[(k:Int)]⟩:Pl)]++[⟨⟨3,ps,pm,dc⟩,[(k:Int)]++[0]⟩]=xU:=⟨_,rfl⟩
 rw[uf] at X5
 have dW:xU.length=pre.length+2:=by rw[←uf];simp
 have Ax:bG fu ⟨2,fs,fm,[⟨3,ps,pm,dc⟩,B]⟩ [[]] ws [(k:Int)]=Zw (fun _=>[[]]) (bz fu [⟨3,ps,pm,dc⟩,B] [[],[]] { ws with at_:=ws.at_+1,all:=ws.all++[j] } [(k:Int)] 0):=by
  simp only[bG,if_true,hj',Option.getD_some]
  cases bz fu [⟨3,ps,pm,dc⟩,B] [[],[]] { ws with at_:=ws.at_+1,all:=ws.all++[j] } [(k:Int)] 0<;>rfl
 have hnP:bG fu ⟨3,ps,pm,dc⟩ [[],[]] { ws with at_:=ws.at_+1,all:=ws.all++[j] } [(k:Int),0]=bz fu dc [[],[]] { ws with at_:=ws.at_+1+1,all:=ws.all++[j] } [(k:Int),0] 0:=by
  simp[bG]
 have T5:∀b∈xU,b∈pre∨b=⟨⟨2,fs,fm,[⟨3,ps,pm,dc⟩,B]⟩,[(k:Int)]⟩∨b=⟨⟨3,ps,pm,dc⟩,[(k:Int)]++[0]⟩:=fun b hb=>by
  rw[←uf] at hb
  simpa [or_assoc] using hb
 have Hl:=Hj dc hps l xU (bJ B ([(k:Int)]++[1])++post) [(k:Int)] 0 ix (A++[pre.length]) [] [[]] _ fu (by rw[heq,hN,←uf];simp) ?_ (fun x j h=>by simp[bU,cm] at h) ?_ X5
 rotate_left
 ·intro x s
  rw[←uf,eK,eK]
  have:=hag x ([1]++s)
  rw[show [(k:Int)]++[1]++s=[(k:Int)]++([1]++s) by simp,this]
  simp[jF,fS,Nd.kind,bU,cm,enc]
 ·intro x
  symm
  simp only[cm,Option.isSome_none]
  rw[List.any_eq_false]
  intro b hb hc
  simp only[Bool.and_eq_true,decide_eq_true_eq,ja] at hc
  obtain ⟨c1,-,c3,z,hz⟩:=hc
  rcases T5 b hb with h | rfl | rfl
  ·exact bx b h ([0]++z) (by rw[←hz];simp)
  ·simp at c3
  ·simp at c3
 rw[Ax]
 simp only[bz]
 rw[show ([(k:Int)]++[((0:Nat):Int)])=[(k:Int),0] from rfl,hnP]
 rw[show ([(k:Int)]++[(0:Int)])=[(k:Int),0] from rfl] at Hl
 have hsz:Nd.size ⟨2,fs,fm,[⟨3,ps,pm,dc⟩,B]⟩=2+(Nd.aw dc+B.size):=by simp[Nd.size,Nd.aw];omega
 rw[hsz]
 rw[dW] at Hl
 generalize bz fu dc [[],[]] { ws with at_:=ws.at_+1+1,all:=ws.all++[j] } [(k:Int),0] 0=res at Hl ⊢
 cases res with
 | error e=>exact jb.right sS (jb.left Hl)
 | ok q =>
  obtain ⟨g1,more,head',g2,g3,g4,g5⟩:=Hl
  simp only
  have adM:(xU++bO dc [(k:Int),0] 0).length=pre.length+2+Nd.aw dc:=by rw[List.length_append,jP,dW]
  have hC:XZ l (xU++bO dc [(k:Int),0] 0) post B ([(k:Int)]++[1]) (ix++more) q.1:=by
   refine ⟨by rw[heq,hN,←uf];simp,⟨[(k:Int)],1,rfl⟩,by rw[g3];simp,fun x s=>by rw[g3];exact g4 x s,fun x j h=>g5 x j (by rw[←g3];exact h),?_,?_,fun h=>?_⟩
   ·intro b hb hB s
    have:=gQ b hb hB ([1]++s)
    rwa [show [(k:Int)]++[1]++s=[(k:Int)]++([1]++s) by simp]
   ·intro b hb s hs he
    rcases List.mem_append.1 hb with h | h
    ·rcases T5 b h with h | rfl | rfl
     ·exact bx b h ([1]++s) (by rw[he];simp)
     ·have:=congrArg List.length he
      simp at this
     ·have e1 : [(k:Int)]++[0]++[]=[(k:Int)]++[1]++s:=by simp at he
      have:=(nC e1).1
      omega
    ·obtain ⟨j',u,⟨_,h2⟩,h3⟩:=eO _ _ _ _ h
     have hu:=hps u (List.mem_of_getElem? h2)
     rw[cO,hu.2] at h3
     simp only[bO,List.mem_singleton] at h3
     rw[h3] at he
     have e1 : [(k:Int)]++[0]++[(j':Int)]=[(k:Int)]++[1]++s:=by simp at he
     have:=(nC e1).1
     omega
   ·rw[hf.bk] at h
    omega
  have hB:=Pw B hf.bg l _ post ([(k:Int)]++[1]) (ix++more) _ q.1 q.2 fu (hF.more more) hC g2
  rw[show ([(k:Int)]++[((0+1:Nat):Int)])=[(k:Int)]++[1] from rfl]
  unfold Ex at hB
  rw[adM] at hB
  generalize bG fu B q.1 q.2 ([(k:Int)]++[1])=res at hB ⊢
  have ho3:lq l pre.length (2+Nd.aw dc):=sS.dD g1
  cases res with
  | error e =>
   show jb l pre.length (2+(Nd.aw dc+B.size)) e
   rw[←Nat.add_assoc]
   exact jb.right ho3 (by simpa [Nat.add_assoc] using hB)
  | ok z =>
   obtain ⟨b1,Ar,b2,b3,-⟩:=hB
   refine ⟨?_,more++Ar,?_,rfl⟩
   ·rw[←Nat.add_assoc]
    exact ho3.dD (by simpa [Nat.add_assoc] using b1)
   ·have e1:pre++bJ ⟨2,fs,fm,[⟨3,ps,pm,dc⟩,B]⟩ [(k:Int)]=xU++bO dc [(k:Int),0] 0++bJ B ([(k:Int)]++[1]):=by rw[hN,←uf];simp
    have e2:A++dI (bJ ⟨2,fs,fm,[⟨3,ps,pm,dc⟩,B]⟩ [(k:Int)]) pre.length=A++[pre.length]++dI (bO dc [(k:Int),0] 0) (pre.length+2)++dI (bJ B ([(k:Int)]++[1])) (pre.length+2+Nd.aw dc):=by
     rw[hN,iE,iE,iE,jP]
     simp[dI,jG,Nd.kind]
    rw[e1,e2,←List.append_assoc]
    exact b2
theorem oo{x:ByteArray}:∀(a b:List Pl)(i:Nat)(f:Int),gN x (a++b) i f=gN x b (i+a.length) (gN x a i f)
 | [],b,i,f=>by simp[gN]
 | c::a,b,i,f=>by
  simp only[List.cons_append,gN,List.length_cons]
  rw[oo a b]
  congr 1
  omega
theorem Mt{x:ByteArray}:∀(a:List Pl)(i:Nat)(f:Int),(∀b∈a,¬b.n.kind=2)→gN x a i f=f
 | [],_,_,_=>rfl
 | b::a,i,f,h=>by
  simp only[gN,if_neg (fun hh:b.n.text=x∧b.n.kind=2∧f<0=>h b (by simp) hh.2.1)]
  exact Mt a (i+1) f fun c hc=>h c (by simp[hc])
theorem CV{x:ByteArray}:∀(a:List Pl)(i:Nat)(f:Int),0≤f→gN x a i f=f
 | [],_,_,_=>rfl
 | b::a,i,f,h=>by
  simp only[gN,if_neg (fun hh:b.n.text=x∧b.n.kind=2∧f<0=>absurd hh.2.2 (by omega))]
  exact CV a (i+1) f h
theorem Ho{x:ByteArray}:∀(a:List Pl)(i:Nat),(gN x a i (-1)<0↔a.any (fun b=>decide (b.n.kind=2) && decide (b.n.text=x))=false)∧-1≤gN x a i (-1)
 | [],i=>by simp[gN]
 | b::a,i=>by
  by_cases c:b.n.text=x∧b.n.kind=2
  ·have h:gN x (b::a) i (-1)=(i:Int):=by
    simp only[gN,if_pos (⟨c.1,c.2,by omega⟩:b.n.text=x∧b.n.kind=2∧(-1:Int)<0)]
    exact CV a (i+1) _ (by omega)
   rw[h]
   simp[c.1,c.2]
  ·have h:gN x (b::a) i (-1)=gN x a (i+1) (-1):=by
    simp only[gN,if_neg (fun hh:b.n.text=x∧b.n.kind=2∧(-1:Int)<0=>c ⟨hh.1,hh.2.1⟩)]
   rw[h]
   have ih:=Ho (x:=x) a (i+1)
   refine ⟨?_,ih.2⟩
   rw[ih.1,List.any_cons]
   have:(decide (b.n.kind=2) && decide (b.n.text=x))=false:=by
    by_cases h1:b.n.kind=2
    ·have h2:¬b.n.text=x:=fun h2=>c ⟨h2,h1⟩
     simp[h2]
    ·simp[h1]
   rw[this,Bool.false_or]
theorem vI{f P B:Nd}(hf:Fn f P B){p:List Int}{i:Nat}{b:Pl}(hb:b∈bO f.kids p i):¬b.n.kind=2:=by
 rw[hf.kids] at hb
 simp only[bO,List.append_nil,List.mem_append] at hb
 rcases hb with h | h
 ·rw[cO] at h
  rcases List.mem_cons.1 h with rfl | h
  ·simp only[hf.pk];omega
  ·obtain ⟨j,u,⟨_,h2⟩,h3⟩:=eO _ _ _ _ h
   have hu:=hf.ps u (List.mem_of_getElem? h2)
   rw[cO,hu.2] at h3
   simp only[bO,List.mem_singleton] at h3
   rw[h3]
   simp only[hu.1];omega
 ·have:=(vF B hf.bg _ b h).kind
  omega
structure T6(l pre:List Pl)(ix:List Nat)(fu:bc)(ws:WS):Prop where
 at_:ws.at_=0
 bs:ws.bs=ix.map fun i=>⟨(aq l i).p,(aq l i).n.text,[],rT l i⟩
 nd:ix.Nodup
 old:∀i∈ix,(aq l i).n.kind=2∧i<pre.length
 fa:∀x,gN x pre 0 (-1)=enc ix (cm x fu)
 lt:∀x j,cm x fu=some j→j<ix.length
 fi:∀(a c:List Pl)(u:Pl),pre=a++u::c→u.n.kind=2→∃j,cm u.n.text fu=some j∧ix.getD j 0=a.length
 one:∀b∈pre,b.n.kind=2→b.p.length=1
theorem CW(r:List Nd)(hr:∀f∈r,∃P B,Fn f P B):∀(l pre:List Pl)(i:Nat)(ix:List Nat)(fu:bc)(ws:WS),l=pre++bO r [] i→T6 l pre ix fu ws→
  match eY r i fu ws pre.length with
  | .error e=>∃m,(pre.length≤m∧m<l.length)∧eg l m=some e∧∀m',pre.length≤m'→m'<m→eg l m'=none
  | .ok q=>(∀m,pre.length≤m→m<l.length→eg l m=none)∧∃ix',T6 l l ix' q.1 q.2:=by
 induction r with
 | nil =>
  intro l pre i ix fu ws heq hH
  have:l=pre:=by rw[heq];simp[bO]
  subst this
  simp only[eY]
  exact ⟨fun m h1 h2=>by omega,ix,hH⟩
 | cons f r ih =>
  intro l pre i ix fu ws heq hH
  obtain ⟨P,B,hf⟩:=hr f (by simp)
  have hN:=cO f [(i:Int)]
  have T4:bO (f::r) [] i=[⟨f,[(i:Int)]⟩]++(bO f.kids [(i:Int)] 0++bO r [] (i+1)):=by rw[wZ,List.nil_append,hN];rfl
  have pn:l=pre++([⟨f,[(i:Int)]⟩]++(bO f.kids [(i:Int)] 0++bO r [] (i+1))):=by rw[heq,T4]
  have dH:aq l pre.length=⟨f,[(i:Int)]⟩:=by rw[pn];exact pg
  have Zy:ef l pre.length=pre.any (fun b=>decide (b.n.kind=2) && decide (b.n.text=f.text)):=by
   unfold ef
   rw[dH,pn,List.take_left]
   rw[Bool.eq_iff_iff,List.any_eq_true,List.any_eq_true]
   constructor
   ·rintro ⟨b,hb,h⟩
    refine ⟨b,hb,?_⟩
    simp only[twin,Bool.and_eq_true,decide_eq_true_eq,hf.kind] at h ⊢
    exact ⟨h.1,h.2.1⟩
   ·rintro ⟨b,hb,h⟩
    refine ⟨b,hb,?_⟩
    simp only[twin,Bool.and_eq_true,decide_eq_true_eq,hf.kind] at h ⊢
    have h1:=hH.one b hb h.1
    exact ⟨h.1,h.2,by simpa using h1,ja.2 (by simp)⟩
  have hsc:=Ho (x:=f.text) pre 0
  rw[hH.fa] at hsc
  have pR:∀m,pre.length<m→m<pre.length+f.size→eg l m=none:=by
   intro m h1 h2
   have hk:¬(aq l m).n.kind=2:=by
    have hm:(aq l m)∈bO f.kids [(i:Int)] 0:=by
     have hsz:(bO f.kids [(i:Int)] 0).length+1=f.size:=by rw[jP,Nd.size_eq];omega
     have hx:l[m]? = (bO f.kids [(i:Int)] 0)[m - pre.length - 1]?:=by
      rw[pn,List.getElem?_append_right (by omega),List.getElem?_append_right (by simp;omega),List.getElem?_append_left (by simp;omega)]
      simp
     unfold aq
     rw[List.getD,hx,List.getElem?_eq_getElem (by omega)]
     exact List.getElem_mem _
    exact vI hf hm
   unfold eg
   rw[if_neg (fun h=>hk h.1)]
  simp only[eY,cW,List.headD_cons,List.tail_cons]
  cases hg:cm f.text fu with
  | some v =>
   simp only
   have ht:ef l pre.length=true:=by
    rw[Zy]
    cases hc:pre.any (fun b=>decide (b.n.kind=2) && decide (b.n.text=f.text)) with
    | true=>rfl
    | false =>
     have:=hsc.1.2 hc
     rw[hg] at this
     simp only[enc] at this
     omega
   refine ⟨pre.length,⟨Nat.le_refl _,by rw[pn];simp⟩,?_,fun m' h1 h2=>by omega⟩
   unfold eg
   rw[dH,if_pos ⟨hf.kind,ht⟩]
  | none =>
   simp only
   have ht:ef l pre.length=false:=by
    rw[Zy]
    refine hsc.1.1 ?_
    rw[hg]
    simp[enc]
   have hs:eg l pre.length=none:=by
    unfold eg
    rw[dH,ht]
    simp
   have il:ws.bs.length=ix.length:=by rw[hH.bs];simp
   obtain ⟨w2,yy⟩:∃w2,({ ws with bs:=(ws.bs++[(⟨[(i:Int)],f.text,[],0⟩:Bd)]).set ws.bs.length { bh (ws.bs++[(⟨[(i:Int)],f.text,[],0⟩:Bd)]) ws.bs.length with many:=((aC f.kids 0).kids.length:Nat) },all:=ws.all++[ws.bs.length] }:WS)=w2:=⟨_,rfl⟩
   rw[yy]
   have T7:(pre++bJ f [(i:Int)]).length=pre.length+f.size:=by rw[List.length_append,dN]
   have adN:l=(pre++bJ f [(i:Int)])++bO r [] (i+1):=by rw[pn,hN];simp
   have hH2:T6 l (pre++bJ f [(i:Int)]) (ix++[pre.length]) (ep f.text ws.bs.length fu) w2:=by
    have hni:pre.length∉ix:=fun h=>by have:=(hH.old _ h).2;omega
    refine ⟨by rw[←yy];exact hH.at_,?_,?_,?_,?_,?_,?_,?_⟩
    ·rw[←yy]
     simp only
     have hbd:bh (ws.bs++[(⟨[(i:Int)],f.text,[],0⟩:Bd)]) ws.bs.length=⟨[(i:Int)],f.text,[],0⟩:=by simp[bh,List.getD]
     rw[hbd,List.set_append_right _ _ (Nat.le_refl _),Nat.sub_self,hH.bs,List.map_append]
     congr 1
     have hm:rT l pre.length=((aC f.kids 0).kids.length:Nat):=by
      unfold rT
      rw[dH,if_pos hf.kind]
     simp[dH,hm]
    ·rw[List.nodup_append]
     refine ⟨hH.nd,by simp,fun a ha b hb e=>?_⟩
     rw[List.mem_singleton] at hb
     subst hb e
     exact hni ha
    ·intro m hm
     rcases List.mem_append.1 hm with h | h
     ·obtain ⟨h1,h2⟩:=hH.old m h
      exact ⟨h1,by rw[T7];omega⟩
     ·rw[List.mem_singleton] at h
      subst h
      exact ⟨by rw[dH];exact hf.kind,by rw[T7];have:=f.size_pos;omega⟩
    ·intro x
     rw[hN,show pre++⟨f,[(i:Int)]⟩::bO f.kids [(i:Int)] 0=pre++([⟨f,[(i:Int)]⟩]++bO f.kids [(i:Int)] 0) from rfl,oo,oo,Mt (bO f.kids [(i:Int)] 0) _ _ (fun b hb=>vI hf hb),hH.fa x,gF,Nat.zero_add]
     simp only[gN]
     by_cases hx:x=f.text
     ·have BQ:f.text=x:=hx.symm
      rw[if_pos hx,hx,hg,if_pos ⟨rfl,hf.kind,by simp[enc]⟩]
      simp[enc,il,List.getD]
     ·rw[if_neg hx,if_neg (fun h=>hx h.1.symm),vH (hH.lt x)]
    ·intro x j hj
     rw[gF] at hj
     split at hj
     ·cases hj
      rw[il]
      simp
     ·have:=hH.lt x j hj
      simp;omega
    ·intro a c u hu eW
     by_cases hal:a.length<pre.length
     ·-- an earlier one
      have hpre:∃c',pre=a++u::c':=by
       have h1:(pre++bJ f [(i:Int)]).take pre.length=pre:=List.take_left
       rw[hu,List.take_append,List.take_of_length_le (by omega)] at h1
       obtain ⟨z,hz⟩:∃z,pre.length - a.length=z+1:=⟨pre.length - a.length - 1,by omega⟩
       rw[hz,List.take_succ_cons] at h1
       exact ⟨_,h1.symm⟩
      obtain ⟨c',zH⟩:=hpre
      obtain ⟨j,X6,hj2⟩:=hH.fi a c' u zH eW
      have hne:¬u.n.text=f.text:=fun e=>by rw[e,hg] at X6;cases X6
      refine ⟨j,by rw[gF,if_neg hne];exact X6,?_⟩
      rw[sJ (hH.lt _ j X6)]
      exact hj2
     ·have Ez:(pre++bJ f [(i:Int)])[a.length]? = some u:=by rw[hu];simp
      rw[List.getElem?_append_right (by omega),hN] at Ez
      by_cases hz:a.length - pre.length=0
      ·rw[hz] at Ez
       simp only[List.getElem?_cons_zero,Option.some.injEq] at Ez
       subst Ez
       have hap:a.length=pre.length:=by omega
       refine ⟨ws.bs.length,by rw[gF];simp,?_⟩
       rw[il,hap]
       simp[List.getD]
      ·obtain ⟨z,hz2⟩:∃z,a.length - pre.length=z+1:=⟨a.length - pre.length - 1,by omega⟩
       rw[hz2,List.getElem?_cons_succ] at Ez
       exact absurd eW (vI hf (List.mem_of_getElem? Ez))
    ·intro b hb eW
     rcases List.mem_append.1 hb with h | h
     ·exact hH.one b h eW
     ·rw[hN] at h
      rcases List.mem_cons.1 h with rfl | h
      ·rfl
      ·exact absurd eW (vI hf h)
   have hR:=ih (fun g hg=>hr g (by simp[hg])) l _ (i+1) (ix++[pre.length]) _ w2 adN hH2
   rw[T7] at hR
   have hall:∀m,pre.length≤m→m<pre.length+f.size→eg l m=none:=fun m h1 h2=>by
    by_cases c:m=pre.length
    ·rw[c];exact hs
    ·exact pR m (by omega) h2
   rw[show ([ep f.text ws.bs.length fu]:List bc).headD []=ep f.text ws.bs.length fu from rfl]
   generalize eY r (i+1) (ep f.text ws.bs.length fu) w2 (pre.length+f.size)=res at hR ⊢
   cases res with
   | error e =>
    obtain ⟨m,⟨m1,m2⟩,m3,m4⟩:=hR
    refine ⟨m,⟨by omega,m2⟩,m3,fun m' h1 h2=>?_⟩
    by_cases c:m'<pre.length+f.size
    ·exact hall m' h1 c
    ·exact m4 m' (by omega) h2
   | ok q =>
    obtain ⟨m1,m2⟩:=hR
    refine ⟨fun m h1 h2=>?_,m2⟩
    by_cases c:m<pre.length+f.size
    ·exact hall m h1 c
    ·exact m1 m (by omega) h2
theorem Hp(f:Nd)(r:List Nd)(i:Nat):bO (f::r) [] i=bJ f [(i:Int)]++bO r [] (i+1):=by rw[wZ];rfl
theorem PA(r:List Nd)(hr:∀f∈r,∃P B,Fn f P B):∀(l pre:List Pl)(i:Nat)(ix A:List Nat)(ws:WS)(fu:bc),xT l ix fu→l=pre++bO r [] i→
  (∀x (k:Nat) s,i≤k→jF x ([(k:Int)]++s) pre 0 (-1)=-1)→(∀b∈pre,∀(k:Nat) s,i≤k→b.p≠[(k:Int)]++s)→
  (∀(a c:List Pl)(u:Pl),l=a++u::c→u.n.kind=2→∃j,cm u.n.text fu=some j∧ix.getD j 0=a.length)→mg l pre ix A ws→
  match bz fu r [[]] ws [] i with
  | .error e=>jb l pre.length (Nd.aw r) e
  | .ok q=>lq l pre.length (Nd.aw r)∧∃more,mg l l (ix++more) (A++dI (bO r [] i) pre.length) q.2:=by
 induction r with
 | nil =>
  intro l pre i ix A ws fu hF heq hag bx gJ hW
  have:l=pre:=by rw[heq];simp[bO]
  subst this
  simp only[bz]
  exact ⟨lq.nil,[],by simpa [bO,dI] using hW⟩
 | cons f r ih =>
  intro l pre i ix A ws fu hF heq hag bx gJ hW
  obtain ⟨P,B,hf⟩:=hr f (by simp)
  have pn:l=pre++(bJ f [(i:Int)]++bO r [] (i+1)):=by rw[heq,Hp]
  have hown:∃j,cm f.text fu=some j∧ix.getD j 0=pre.length:=by
   refine gJ pre (bO f.kids [(i:Int)] 0++bO r [] (i+1)) ⟨f,[(i:Int)]⟩ ?_ hf.kind
   rw[pn,cO]
   simp
  have hN:=X4 hf l pre (bO r [] (i+1)) i ix A ws fu hF pn (fun x s=>hag x i s (Nat.le_refl _)) ?_ (fun b hb s=>bx b hb i s (Nat.le_refl _)) hown hW
  rotate_left
  ·intro b hb hB s
   obtain ⟨j,u,⟨h1,h2⟩,h3⟩:=eO _ _ _ _ hb
   obtain ⟨P',B',hu⟩:=hr u (by simp[List.mem_of_getElem? h2])
   exact T2 hu (by omega) b h3 hB
  simp only[bz,List.nil_append]
  have hsz:Nd.aw (f::r)=f.size+Nd.aw r:=by simp[Nd.aw]
  rw[hsz]
  have T7:(pre++bJ f [(i:Int)]).length=pre.length+f.size:=by rw[List.length_append,dN]
  generalize bG fu f [[]] ws [(i:Int)]=res at hN ⊢
  cases res with
  | error e=>exact jb.left hN
  | ok q =>
   obtain ⟨ho,more,Ey,he⟩:=hN
   simp only[he]
   have hR:=ih (fun g hg=>hr g (by simp[hg])) l (pre++bJ f [(i:Int)]) (i+1) (ix++more) _ q.2 fu (hF.more more) (by rw[pn];simp) ?_ ?_ ?_ Ey
   rotate_left
   ·intro x k s hk
    rw[eK,hag x k s (by omega)]
    exact yS _ _ _ fun b hb hB=>T2 hf (by omega) b hb hB
   ·intro b hb k s hk Pv
    rcases List.mem_append.1 hb with h | h
    ·exact bx b h k s (by omega) Pv
    ·rcases nD f _ b h with rfl | ⟨j2,s2,h2⟩
     ·have e1:([]:List Int)++[(i:Int)]++[]=[]++[(k:Int)]++s:=by simpa using Pv
      have:=(nC e1).1
      omega
     ·rw[h2] at Pv
      have e1:([]:List Int)++[(i:Int)]++([j2]++s2)=[]++[(k:Int)]++s:=by simpa using Pv
      have:=(nC e1).1
      omega
   ·intro a c u h1 h2
    obtain ⟨j,j1,j2⟩:=gJ a c u h1 h2
    exact ⟨j,j1,by rw[sJ (hF.fl _ _ j1).1];exact j2⟩
   rw[T7] at hR
   generalize bz fu r [[]] q.2 [] (i+1)=res at hR ⊢
   cases res with
   | error e=>exact jb.right ho hR
   | ok z =>
    obtain ⟨g1,Ar,g2⟩:=hR
    refine ⟨ho.dD g1,more++Ar,?_⟩
    have e2:A++dI (bO (f::r) [] i) pre.length=A++dI (bJ f [(i:Int)]) pre.length++dI (bO r [] (i+1)) (pre.length+f.size):=by rw[Hp,iE,dN];simp
    rw[e2,←List.append_assoc]
    exact g2
theorem kr{g:Nat→Option iB}:∀(n i:Nat),(∀m,i≤m→m<i+n→g m=none)→mL g n i=none
 | 0,_,_=>rfl
 | n+1,i,h=>by
  simp only[mL,h i (Nat.le_refl _) (by omega)]
  exact kr n (i+1) fun m h1 h2=>h m (by omega) (by omega)
theorem ku{g:Nat→Option iB}{e:iB}:∀(n i m:Nat),i≤m→m<i+n→g m=some e→(∀m',i≤m'→m'<m→g m'=none)→mL g n i=some e
 | 0,i,m,h1,h2,_,_=>by omega
 | n+1,i,m,h1,h2,h3,h4=>by
  simp only[mL]
  by_cases c:i=m
  ·rw[c,h3]
  ·rw[h4 i (Nat.le_refl _) (by omega)]
   exact ku n (i+1) m (by omega) (by omega) h3 fun m' g1 g2=>h4 m' (by omega) g2
theorem w4{n:Nd}(hk:n.kind=1)(h:bB n 40=true):match jn n with
  | .error e=>gU (bJ n [])=e∧¬e.1=0
  | .ok ws=>gU (bJ n [])=(0,0)∧∃ix,mg (bJ n []) (bJ n []) ix (dI (bJ n []) 0) ws:=by
 have hr:∀f∈n.kids,∃P B,Fn f P B:=fun f hf=>ph hk h hf
 obtain ⟨l,hl⟩:∃l,bJ n []=l:=⟨_,rfl⟩
 have heq:l=[⟨n,[]⟩]++bO n.kids [] 0:=by rw[←hl,cO];rfl
 have hlen:l.length=1+Nd.aw n.kids:=by rw[heq,List.length_append,jP];rfl
 have hroot:aq l 0=⟨n,[]⟩:=by rw[heq];rfl
 have jz:eg l 0=none:=by unfold eg;rw[hroot,if_neg (by simp[hk])]
 have KL:cG l 0=none:=by unfold cG;rw[hroot,if_neg (by simp[fS,hk]),if_pos (by simp[gV,hk])]
 have BG:T6 l [⟨n,[]⟩] [] [] ⟨[],[],0⟩:=by
  refine ⟨rfl,rfl,by simp,by simp,fun x=>by simp[gN,hk,enc,cm],fun x j hj=>by simp[cm] at hj,fun a c u hu h2=>?_,fun b hb h2=>?_⟩
  ·cases a with
   | nil=>simp at hu;rw[←hu.1] at h2;simp[hk] at h2
   | cons z a=>simp at hu
  ·simp at hb;rw[hb] at h2;simp[hk] at h2
 have hA:=CW n.kids hr l [⟨n,[]⟩] 0 [] [] ⟨[],[],0⟩ heq BG
 rw[show ([(⟨n,[]⟩:Pl)]).length=1 from rfl] at hA
 rw[hl]
 unfold jn
 cases hq:eY n.kids 0 [] ⟨[],[],0⟩ 1 with
 | error e =>
  rw[hq] at hA
  simp only at hA
  obtain ⟨m,⟨m1,m2⟩,m3,m4⟩:=hA
  simp only
  constructor
  ·unfold gU
   rw[ku l.length 0 m (by omega) (by omega) m3 fun m' h1 h2=>by
    by_cases c:m'=0
    ·rw[c];exact jz
    ·exact m4 m' (by omega) h2]
  ·unfold eg at m3
   split at m3
   ·cases m3;simp
   ·cases m3
 | ok q =>
  rw[hq] at hA
  simp only at hA
  obtain ⟨m1,ix,hH⟩:=hA
  simp only
  have hFn:mL (eg l) l.length 0=none:=kr _ _ fun m _ h2=>by
   by_cases c:m=0
   ·rw[c];exact jz
   ·exact m1 m (by omega) (by omega)
  have hF:xT l ix q.1:=⟨hH.fa,fun x j hj=>by
   have h1:=hH.lt x j hj
   refine ⟨h1,?_⟩
   have:ix.getD j 0∈ix:=by simp[List.getD,h1]
   exact (hH.old _ this).1⟩
  have hW0:mg l [] ix [] { q.2 with all:=[] }:=by
   refine ⟨hH.at_,?_,rfl,by simp,hH.nd,fun i hi=>.inl (hH.old i hi).1,by simp⟩
   simp only
   rw[hH.bs]
   simp[vG,fJ]
  have X5:=hW0.skip (u:=⟨n,[]⟩) (by simp[gV,hk])
  have Ax:bG q.1 n [[]] { q.2 with all:=[] } []=bz q.1 n.kids [[]] { q.2 with all:=[],at_:=q.2.at_+1 } [] 0:=by
   obtain ⟨k,s,m,kids⟩:=n
   have hk':k=1:=hk
   subst hk'
   simp only[bG]
   simp[Nd.kids]
  rw[Ax]
  have hR:=PA n.kids hr l ([]++[⟨n,[]⟩]) 0 ix [] _ q.1 hF heq ?_ ?_ ?_ X5
  rotate_left
  ·intro x k s _
   simp[jF,fS,hk]
  ·intro b hb k s _ he
   simp at hb
   rw[hb] at he
   simp at he
  ·intro a c u h1 h2
   exact hH.fi a c u h1 h2
  simp only[List.nil_append,List.length_singleton] at hR
  have hdI:dI l 0=dI (bO n.kids [] 0) 1:=by
   rw[heq,iE]
   simp[dI,jG,hk]
  generalize bz q.1 n.kids [[]] { q.2 with all:=[],at_:=q.2.at_+1 } [] 0=res at hR ⊢
  cases res with
  | error e =>
   obtain ⟨m,⟨k1,k2⟩,k3,k4⟩:=hR
   simp only
   constructor
   ·unfold gU
    rw[hFn]
    simp only
    rw[ku l.length 0 m (by omega) (by omega) k3 fun m' h1 h2=>by
     by_cases c:m'=0
     ·rw[c];exact KL
     ·exact k4 m' (by omega) h2]
   ·unfold cG at k3
    split at k3
    ·cases k3;simp
    split at k3
    ·cases k3
    split at k3
    ·cases k3;simp
    split at k3
    ·cases k3;simp
    ·cases k3
  | ok z =>
   obtain ⟨g1,more,g2⟩:=hR
   simp only
   refine ⟨?_,ix++more,?_⟩
   ·unfold gU
    rw[hFn]
    simp only
    rw[kr _ _ fun m _ h2=>by
     by_cases c:m=0
     ·rw[c];exact KL
     ·exact g1 m (by omega) (by omega)]
   ·rw[hdI]
    exact g2
theorem xV(n:Nd):gh n=eh n:=by
 unfold gh eh
 by_cases c:n.kind=1∧bB n 40=true
 ·rw[if_pos c,if_pos c]
  have h:=w4 c.1 c.2
  cases hq:jn n with
  | error e =>
   rw[hq] at h
   exact h.1.symm
  | ok ws =>
   rw[hq] at h
   exact h.1.symm
 ·rw[if_neg c,if_neg c]
theorem CX:∀(l:List Pl)(i:Nat),dI l i=((List.range l.length).filter fun j=>jG (aq l j)).map (i+·)
 | [],_=>rfl
 | b::l,i=>by
  rw[List.length_cons,List.range_succ_eq_map,List.filter_cons]
  have h0:aq (b::l) 0=b:=rfl
  have hs:((fun j=>jG (aq (b::l) j))∘Nat.succ)=fun j=>jG (aq l j):=by funext j;rfl
  have hm:(List.map Nat.succ ((List.range l.length).filter fun j=>jG (aq l j))).map (i+·)=dI l (i+1):=by
   rw[CX l (i+1),List.map_map]
   apply List.map_congr_left
   intro a _
   simp only[Function.comp]
   omega
  rw[h0,List.filter_map,hs]
  simp only[dI]
  cases hb:jG b with
  | true=>simp only[if_true];rw[List.map_cons,hm];rfl
  | false =>
   simp only[Bool.false_eq_true,if_false,List.nil_append]
   rw[hm]
theorem lG(n:Nd):cf n=dM n:=by
 unfold cf dM
 rw[xV]
 by_cases z:(eh n).1=0
 ·rw[if_pos z,if_pos z]
  by_cases c:n.kind=1∧bB n 40=true
  ·have h:=w4 c.1 c.2
   have hc:eh n=gU (bJ n []):=by unfold eh;rw[if_pos c]
   cases hq:jn n with
   | error e =>
    rw[hq] at h
    simp only at h
    rw[hc,h.1] at z
    exact absurd z h.2
   | ok ws =>
    rw[hq] at h
    obtain ⟨-,ix,hW⟩:=h
    simp only
    generalize bJ n []=l at hW ⊢
    have hd:((List.range l.length).filter fun i=>jG (aq l i))=ws.all.map (fun j=>ix.getD j 0):=by
     rw[hW.all,CX]
     simp
    rw[hd,List.map_map]
    apply List.map_congr_left
    intro j hj
    rw[hW.bs,Ao (hW.lt j hj)]
    rfl
  ·have hc:eh n=(4,0):=by unfold eh;rw[if_neg c]
   rw[hc] at z
   simp at z
 ·rw[if_neg z,if_neg z]
mutual
def iG:Nd→Nd→Bool
 | ⟨k,s,n,l⟩,⟨k',s',n',l'⟩=>decide (k=k') && (decide (n=n') && ((eT k || decide (s=s')) && iI l l'))
def iI:List Nd→List Nd→Bool
 | [],[]=>true
 | a::r,b::q=>iG a b && iI r q
 | _,_=>false
end
theorem CY(a b:Nd):iG a b=(decide (a.kind=b.kind) && (decide (a.num=b.num) && ((eT a.kind || decide (a.text=b.text)) && iI a.kids b.kids))):=by cases a;cases b;rfl
theorem vJ:∀{l m:List Nd},¬l.length=m.length→iI l m=false
 | [],[],h=>absurd rfl h
 | [],_::_,_=>by simp[iI]
 | _::_,[],_=>by simp[iI]
 | a::r,b::q,h=>by
  simp only[iI,Bool.and_eq_false_iff]
  exact .inr (vJ (by simpa using h))
theorem ug:∀{l m:List Nd},l.length=m.length→(iI l m=true↔∀j,j<l.length→iG (aC l j) (aC m j)=true)
 | [],[],_=>by simp[iI]
 | [],_::_,h=>by simp at h
 | _::_,[],h=>by simp at h
 | a::r,b::q,h=>by
  simp only[iI,Bool.and_eq_true]
  rw[ug (by simpa using h)]
  constructor
  ·rintro ⟨h1,h2⟩ j hj
   cases j with
   | zero=>simpa [aC] using h1
   | succ j=>simpa [aC] using h2 j (by simpa using hj)
  ·intro h
   exact ⟨by simpa [aC] using h 0 (by simp),fun j hj=>by simpa [aC] using h (j+1) (by simpa using hj)⟩
theorem Hq{l m:List Nd}(h:l.length=m.length){k:Nat}(hk:k<l.length)(e:iG (aC l k) (aC m k)=false):iI l m=false:=by
 cases h2:iI l m
 ·rfl
 ·rw[(ug h).1 h2 k hk] at e
  cases e
theorem Hr{l m:List Nd}(h:l.length=m.length)(e:∀j,j<l.length→iG (aC l j) (aC m j)=true):iI l m=true:=(ug h).2 e
def kw(n:Nd):Bool:=decide (n.kind=1) && decide ((gh n).1=0)
def jc(x y:jE):Bool:=decide (x.1=y.1) && decide (x.2.2=y.2.2)
def gi:List jE→List jE→Bool
 | [],[]=>true
 | a::r,b::q=>jc a b && gi r q
 | _,_=>false
def fx(a b:Nd):Bool:=kw a && (kw b && (iG a b && gi (cf a) (cf b)))
mutual
def dx(f:List Int→Bool)(x:ByteArray):Nd→List Int→Nd
 | ⟨k,s,n,l⟩,p=>⟨k,if f p=true then x else s,n,eP f x l p 0⟩
def eP(f:List Int→Bool)(x:ByteArray):List Nd→List Int→Nat→List Nd
 | [],_,_=>[]
 | t::r,p,i=>dx f x t (p++[(i:Int)])::eP f x r p (i+1)
end
theorem sK(f:List Int→Bool)(x:ByteArray)(t:Nd)(p:List Int):dx f x t p=⟨t.kind,if f p=true then x else t.text,t.num,eP f x t.kids p 0⟩:=by cases t;simp only[dx,Nd.kind,Nd.text,Nd.num,Nd.kids]
theorem oM(f:List Int→Bool)(x:ByteArray):∀(l:List Nd)(p:List Int)(i:Nat),(eP f x l p i).length=l.length
 | [],_,_=>rfl
 | t::r,p,i=>by simp only[eP,List.length_cons,oM f x r]
theorem xW(f:List Int→Bool)(x:ByteArray):∀(l:List Nd)(p:List Int)(i k:Nat),k<l.length→eP f x (l.take (k+1)) p i=eP f x (l.take k) p i++[dx f x (aC l k) (p++[((i+k:Nat):Int)])]
 | [],_,_,_,h=>by simp at h
 | t::r,p,i,0,_=>by simp[eP,aC]
 | t::r,p,i,k+1,h=>by
  have:=xW f x r p (i+1) k (by simpa using h)
  rw[show i+1+k=i+(k+1) by omega] at this
  simpa [eP,aC] using this
def dg(ps:List (List Int))(p:List Int):Bool:=ps.any fun q=>decide (q=p)
def cz(n:Nd)(x:ByteArray)(path:List Int):Nd×Int :=
 if n.kind=1∧bB n 40=true then
  if kw n=true then
   match (cf n).find? fun b=>decide (b.1=path) with
   | none=>(Nd.none,6)
   | some b=>if iA x=true then (if fx n (dx (dg (path::b.2.2)) x n [])=true then (dx (dg (path::b.2.2)) x n [],0) else (Nd.none,120)) else (Nd.none,2)
  else (Nd.none,122)
 else (Nd.none,4)
set_option maxRecDepth 1000000
def Zz:IC:=(.seq (.ops [iP 2 (.mv (.k aV))]) (.seq (.ops [iM 7 0,iP 8 (xL 7),iP 9 (.az .add (.t 8) (kI 12)),⟨(some 10),none,(.h (.lN 4 25 (.agg [(.Z (.int .u8 0)),(.Z (.string ⟨#[]⟩)),(.Z (.int .i64 0)),aV]) (kI 0) (.t 9)))⟩,iM 3 10]) (.seq (.seq (.ops [iP 4 (xI 0)]) (.block 0 (.loop (.seq (.seq (.ops [iM 11 4,iM 12 0,iP 13 (xL 12),iP 14 (xB .lss 11 13)]) (.cond (.t 14) .skip (.exit 0))) (.seq (.block 1 (.seq (.ops [iM 17 0,iM 18 4,iP 19 (xA 4 17 18),iH 20 (yA 4 19),iH 21 (.call 9 [(.t 20)]),⟨(some 5),none,(.h (.alloc (.agg [(.Z (.int .u8 0)),(.Z (.string ⟨#[]⟩)),(.Z (.int .i64 0)),aV]) 25))⟩,iS 4 5 21]) (.ops [iM 22 3,iH 23 (yA 4 5),⟨(some 24),none,(.h (.dK 4 25 (.agg [(.Z (.int .u8 0)),(.Z (.string ⟨#[]⟩)),(.Z (.int .i64 0)),aV]) 1 [(0,(.t 23))]))⟩,iH 25 (.dD 4 25 (.t 22) (.t 24)),iM 3 25]))) (.ops [iM 15 4,iP 16 (.az .add (.t 15) (kI 1)),iM 4 16])))))) (.seq (.seq (.ops [iP 6 (xI 0)]) (.block 2 (.loop (.seq (.seq (.ops [iM 26 6,iP 27 (.az .lss (.t 26) (kI 12))]) (.cond (.t 27) .skip (.exit 2))) (.seq (.block 3 (.ops [iM 30 3,iM 31 6,iH 32 (.call 62 [(kI 1),(.t 31)]),⟨(some 33),none,(.h (.dK 4 25 (.agg [(.Z (.int .u8 0)),(.Z (.string ⟨#[]⟩)),(.Z (.int .i64 0)),aV]) 1 [(0,(.t 32))]))⟩,iH 34 (.dD 4 25 (.t 30) (.t 33)),iM 3 34])) (.ops [iM 28 6,iP 29 (.az .add (.t 28) (kI 1)),iM 6 29])))))) (.seq (.ops [iM 35 3,iM 36 0,iP 37 (xL 36),iP 38 (.qE 4 (.t 35) none (some (.t 37)) none),iM 2 38]) .ret)))))
theorem adO:Dk Tryz.prog 29 Zz [(.t 2)] 39:=aO (fn:=Tryz.f29) Tryz.func29 (by kernel_rfl) (by kernel_rfl) (by kernel_rfl)
def ic9:IC:=(.seq (.ops [iH 1 (.box 4 25 (.t 0)),⟨(some 2),none,(.h (.alloc (.agg [(.Z (.int .u8 0)),(.Z (.string ⟨#[]⟩)),(.Z (.int .i64 0)),aV]) 25))⟩]) (.seq (.ops [iP 3 (.af 3 (.t 1)),iH 4 (yD 1 3),iH 5 (.call 29 [(.t 4)]),iP 6 (.af 3 (.t 1)),iS 1 6 5]) (.seq (.ops [iH 7 (yA 4 1),iS 4 2 7]) .ret)))
theorem dk9:Dk Tryz.prog 9 ic9 [(.c 2 4 .true)] 8:=aO (fn:=Tryz.f9) Tryz.func9 (by kernel_rfl) (by kernel_rfl) (by kernel_rfl)
def ZA:IC:=(.seq (.ops [iP 4 (.mv kF)]) (.seq (.seq (.ops [iM 7 0,iP 8 (xL 7),iM 9 1,iP 10 (xL 9),iP 11 (xB .neq 8 10)]) (.cond (.t 11) (.seq (.ops [iP 4 (.mv kF)]) .ret) .skip)) (.seq (.ops [iM 12 0,iM 13 1,iP 14 (xL 13),iP 15 (.az .add (.t 14) (kI 12)),iP 16 (.qE 4 (.t 12) none (some (.t 15)) none),iM 5 16]) (.seq (.seq (.ops [iP 6 (xI 0)]) (.block 0 (.loop (.seq (.seq (.ops [iM 17 6,iM 18 5,iP 19 (xL 18),iP 20 (xB .lss 17 19)]) (.cond (.t 20) .skip (.exit 0))) (.seq (.block 1 (.seq (.cH [iM 23 6,iM 24 1,iP 25 (xL 24),iP 26 (xB .lss 23 25),iM 27 26,gM 28 27 .true 5,gM 29 27 .true 6,gP 30 27 .true (xA 4 28 29),gH 31 27 .true (yA 4 30),gM 32 27 .true 1,gM 33 27 .true 6,gP 34 27 .true (xA 4 32 33),gH 35 27 .true (yA 4 34),gH 36 27 .true (yC 12 31 35),gP 37 27 .true (xN 36),iP 38 (.pick (.t 27) (.t 37) kF),iM 39 38,gM 40 39 .false 6,gM 41 39 .false 1,gP 42 39 .false (xL 41),gP 43 39 .false (xB .geq 40 42),gM 44 39 .false 43,gM 45 44 .true 5,gM 46 44 .true 6,gP 47 44 .true (xA 4 45 46),gH 48 44 .true (yA 4 47),gM 49 44 .true 6,gM 50 44 .true 1,gP 51 44 .true (xL 50),gP 52 44 .true (xB .sub 49 51),gH 53 44 .true (.call 62 [(kI 1),(.t 52)]),gH 54 44 .true (yC 16 48 53),gP 55 44 .true (xN 54),gP 56 39 .false (.pick (.t 44) (.t 55) kF),iP 57 (.pick (.t 39) kT (.t 56))] [[],[],[1],[0,2,1],[3,0,2,1],[4,3,0,2,1],[4,3,0,2,1],[5,4,3,0,2,1,6],[7,5,4,3,0,2,1,6],[4,3,0,2,1],[4,3,0,2,1],[9,4,3,0,2,1,10],[11,9,4,3,0,2,1,10],[8,7,5,4,3,0,2,1,6,12,11,9,10],[13,8,7,5,4,3,0,2,1,6,12,11,9,10],[4,3,0,2,1,14,13,8,7,5,6,12,11,9,10],[15,4,3,0,2,1,14,13,8,7,5,6,12,11,9,10],[16,15,4,3,0,2,1,14,13,8,7,5,6,12,11,9,10],[16,15,4,3,0,2,1,14,13,8,7,5,6,12,11,9,10],[18,16,15,4,3,0,2,1,14,13,8,7,5,6,12,11,9,10],[17,16,15,4,3,0,2,1,14,13,8,7,5,6,12,11,9,10,19,18],[20,17,16,15,4,3,0,2,1,14,13,8,7,5,6,12,11,9,10,19,18],[21,20,17,16,15,4,3,0,2,1,14,13,8,7,5,6,12,11,9,10,19,18],[21,20,17,16,15,4,3,0,2,1,14,13,8,7,5,6,12,11,9,10,19,18],[22,21,20,17,16,15,4,3,0,2,1,14,13,8,7,5,6,12,11,9,10,19,18,23],[24,22,21,20,17,16,15,4,3,0,2,1,14,13,8,7,5,6,12,11,9,10,19,18,23],[21,20,17,16,15,4,3,0,2,1,14,13,8,7,5,6,12,11,9,10,19,18],[21,20,17,16,15,4,3,0,2,1,14,13,8,7,5,6,12,11,9,10,19,18],[27,21,20,17,16,15,4,3,0,2,1,14,13,8,7,5,6,12,11,9,10,19,18],[26,21,20,17,16,15,4,3,0,2,1,14,13,8,7,5,6,12,11,9,10,19,18,28,27],[29,26,21,20,17,16,15,4,3,0,2,1,14,13,8,7,5,6,12,11,9,10,19,18,28,27],[25,24,22,21,20,17,16,15,4,3,0,2,1,14,13,8,7,5,6,12,11,9,10,19,18,23,30,29,26,28,27],[31,25,24,22,21,20,17,16,15,4,3,0,2,1,14,13,8,7,5,6,12,11,9,10,19,18,23,30,29,26,28,27],[21,20,17,16,15,4,3,0,2,1,14,13,8,7,5,6,12,11,9,10,19,18,32,31,25,24,22,23,30,29,26,28,27],[16,15,4,3,0,2,1,14,13,8,7,5,6,12,11,9,10,33,21,20,17,19,18,32,31,25,24,22,23,30,29,26,28,27]]) (.cond (.t 57) (.seq (.ops [iP 4 (.mv kF)]) .ret) .skip))) (.ops [iM 21 6,iP 22 (.az .add (.t 21) (kI 1)),iM 6 22])))))) (.seq (.ops [iP 4 (.mv kT)]) .ret)))))
theorem adP:Dk Tryz.prog 38 ZA [(.t 4)] 58:=aO (fn:=Tryz.f38) Tryz.func38 (by kernel_rfl) (by kernel_rfl) (by kernel_rfl)
def ZB:IC:=(.seq (.ops [iH 2 (.box 4 25 (.t 0)),iH 3 (.box 4 25 (.t 1)),iP 4 (.mv kF)]) (.seq (.ops [iH 5 (yA 4 2),iH 6 (yA 4 3),iH 7 (yC 16 5 6),iM 8 7,gP 9 8 .true (.af 3 (.t 2)),gH 10 8 .true (yD 1 9),gP 11 8 .true (.af 3 (.t 3)),gH 12 8 .true (yD 1 11),gH 13 8 .true (yC 38 10 12),iP 14 (.pick (.t 8) (.t 13) kF),iM 4 14]) .ret))
theorem adQ:Dk Tryz.prog 12 ZB [(.t 4)] 15:=aO (fn:=Tryz.f12) Tryz.func12 (by kernel_rfl) (by kernel_rfl) (by kernel_rfl)
def ZC:IC:=(.seq (.ops [⟨(some 4),none,(.h (.alloc (.agg [(.Z (.int .u8 0)),(.Z (.string ⟨#[]⟩)),(.Z (.int .i64 0)),aV]) 25))⟩]) (.seq (.ops [iM 5 0,iM 6 1,iH 7 (yC 39 5 6),⟨(some 8),none,(.p (.build [(.Z (.int .u8 0)),(.Z (.string ⟨#[]⟩)),(.Z (.int .i64 0)),aV] [(2,1,(.t 7))]))⟩,iS 4 4 8]) .ret))
theorem adR:Dk Tryz.prog 62 ZC [(.c 4 4 .true)] 9:=aO (fn:=Tryz.f62) Tryz.func62 (by kernel_rfl) (by kernel_rfl) (by kernel_rfl)
def ZD:IC:=(.seq (.ops [iH 2 (.box 4 25 (.t 0)),iH 3 (.box 4 25 (.t 1)),iP 4 (.mv kF)]) (.seq (.ops [iP 5 (.af 0 (.t 2)),iH 6 (yD 1 5),iP 7 (.af 0 (.t 3)),iH 8 (yD 1 7),iP 9 (xB .eql 6 8),iM 10 9,gP 11 10 .true (.af 1 (.t 2)),gH 12 10 .true (yD 1 11),gP 13 10 .true (.af 1 (.t 3)),gH 14 10 .true (yD 1 13),gP 15 10 .true (xB .eql 12 14),iP 16 (.pick (.t 10) (.t 15) kF),iM 17 16,gP 18 17 .true (.af 2 (.t 2)),gH 19 17 .true (yD 1 18),gP 20 17 .true (.af 2 (.t 3)),gH 21 17 .true (yD 1 20),gP 22 17 .true (xB .eql 19 21),iP 23 (.pick (.t 17) (.t 22) kF),iM 24 23,gP 25 24 .true (.af 3 (.t 2)),gH 26 24 .true (yD 1 25),gP 27 24 .true (.af 3 (.t 3)),gH 28 24 .true (yD 1 27),gH 29 24 .true (yC 49 26 28),iP 30 (.pick (.t 24) (.t 29) kF),iM 4 30]) .ret))
theorem adS:Dk Tryz.prog 16 ZD [(.t 4)] 31:=aO (fn:=Tryz.f16) Tryz.func16 (by kernel_rfl) (by kernel_rfl) (by kernel_rfl)
def ZE:IC:=(.seq (.ops [iP 4 (.mv kF)]) (.seq (.seq (.ops [iM 6 0,iP 7 (xL 6),iM 8 1,iP 9 (xL 8),iP 10 (xB .neq 7 9)]) (.cond (.t 10) (.seq (.ops [iP 4 (.mv kF)]) .ret) .skip)) (.seq (.seq (.ops [iP 5 (xI 0)]) (.block 0 (.loop (.seq (.seq (.ops [iM 11 5,iM 12 0,iP 13 (xL 12),iP 14 (xB .lss 11 13)]) (.cond (.t 14) .skip (.exit 0))) (.seq (.block 1 (.seq (.cH [iM 17 0,iM 18 5,iP 19 (xA 4 17 18),iH 20 (yA 4 19),iM 21 1,iM 22 5,iP 23 (xA 4 21 22),iH 24 (yA 4 23),iH 25 (yC 16 20 24),iP 26 (xN 25)] [[],[],[0,1],[2,0,1],[],[],[4,5],[6,4,5],[3,2,0,1,7,6,4,5],[8,3,2,0,1,7,6,4,5]]) (.cond (.t 26) (.seq (.ops [iP 4 (.mv kF)]) .ret) .skip))) (.ops [iM 15 5,iP 16 (.az .add (.t 15) (kI 1)),iM 5 16])))))) (.seq (.ops [iP 4 (.mv kT)]) .ret))))
theorem adT:Dk Tryz.prog 49 ZE [(.t 4)] 27:=aO (fn:=Tryz.f49) Tryz.func49 (by kernel_rfl) (by kernel_rfl) (by kernel_rfl)
def ic7:IC:=(.seq (.ops [iH 2 (.box 4 25 (.t 0)),iP 4 (xI 0)]) (.seq (.ops [iP 7 (.af 1 (.t 2)),iH 8 (yD 1 7),iP 9 (.fW (.t 8)),iP 10 (.az .quo (.t 9) (kI 8)),iP 11 (.az .add (kI 1) (.t 10)),iM 5 11]) (.seq (.seq (.ops [iP 6 (xI 0)]) (.block 0 (.loop (.seq (.seq (.ops [iM 12 6,iP 13 (.af 3 (.t 2)),iH 14 (yD 1 13),iP 15 (xL 14),iP 16 (xB .lss 12 15),iM 17 16,gM 18 17 .true 5,gM 19 17 .true 1,gP 20 17 .true (xB .leq 18 19),iP 21 (.pick (.t 17) (.t 20) kF)]) (.cond (.t 21) .skip (.exit 0))) (.seq (.block 1 (.ops [iM 24 5,iP 25 (.af 3 (.t 2)),iH 26 (yD 1 25),iM 27 6,iP 28 (xA 4 26 27),iH 29 (yA 4 28),iM 30 1,iM 31 5,iP 32 (xB .sub 30 31),iH 33 (yC 7 29 32),iP 34 (xB .add 24 33),iM 5 34])) (.ops [iM 22 6,iP 23 (.az .add (.t 22) (kI 1)),iM 6 23])))))) (.seq (.ops [iM 35 5,iM 4 35]) .ret))))
theorem dk7:Dk Tryz.prog 7 ic7 [(.t 4)] 36:=aO (fn:=Tryz.f7) Tryz.func7 (by kernel_rfl) (by kernel_rfl) (by kernel_rfl)
set_option maxRecDepth 100000
theorem CZ{H G:Y}{id:Nat}{k:aK}{x y:AV}(hid:id<H.length)(hk:AV.cy (· < H.length) k.es)(h:Over (Y.set H id (some k)) G)(hz:Fz G H.length x y):eo H (.ret x) G (.ret y) (Y.set H id (some k)):=by
 obtain ⟨A,rfl⟩:=h.split
 have hl:(Y.set H id (some k)).length=H.length:=Y.ah ..
 refine Cu (by rw[hl];exact Nat.le_refl _) (fun i b hb=>?_) (by rw[hl];exact hz)
 by_cases e:i=id
 ·subst e
  rw[Y.aB hid] at hb
  cases hb
  exact .inr (by rw[hl];exact hk)
 ·rw[Y.ak e] at hb
  exact .inl ⟨Y.au hb,hb⟩
theorem Over.set{H G:Y}(h:Over H G){i:Nat}(hi:i<H.length)(x:Option aK):Over (Y.set H i x) (Y.set G i x):=by
 induction h with
 | refl=>exact .refl
 | @cons b G hG ih =>
  rw[sF (Nat.lt_of_lt_of_le hi hG.len)]
  exact .cons ih
def tu(n:Int):aK:=⟨1,[.Z (.int .i64 n)],true,3⟩
theorem T8(t:Nd)(ro:Option (List AV))(id:Nat)(c:Int)(hc:0≤c∧c≤1000000)(H:Y)(hf:Y.find H id=some (tu c)):D Tryz.prog 171 [dF t ro,.ptr 1 id 0 0] H (.ret (.aG [])) (Y.set H id (some (tu (c+1)))):=by
 have hid:=Y.au hf
 unfold tu at hf
 rw[aM]
 refine aD (by rw[Y.ah];exact Nat.le_refl _) (abA (aA ?_))
 simp only[Tj,ux]
 refine ae fun L hL=>?_
 refine ee hf ?_
 refine hL _ _ ?_
 clear hL
 refine ee hf ?_
 exact CZ hid ⟨trivial,trivial⟩ (.cons .refl) (.same trivial)
theorem iJ{l:List Nd}{k:Nat}(h:k<l.length):Nd.aw (l.take (k+1))=Nd.aw (l.take k)+(aC l k).size:=by
 rw[List.take_succ_eq_append_getElem h,Nd.tj,gv h]
 simp[Nd.aw]
theorem mT(l:List Nd)(k:Nat):Nd.aw (l.take k)≤Nd.aw l:=by
 have:=Nd.tj (l.take k) (l.drop k)
 rw[List.take_append_drop] at this
 omega
theorem PB{H:Y}{id:Nat}{b:aK}(h:Y.find H id=some b):Y.set H id (some b)=H:=by
 induction H with
 | nil=>rfl
 | cons x r ih =>
  by_cases e:id=r.length
  ·subst e
   rw[Y.iO] at h
   rw[vm rfl,h]
  ·have hl:id<r.length:=by have:=Y.au h;simp at this;omega
   rw[Y.cJ hl] at h
   rw[sF hl,ih h]
def Ay(l:List Nd):Prop:=∀(ro:Option (List AV))(c:Int)(id:Nat)(H:Y),0≤c→c+Nd.aw l≤1000000→Y.find H id=some (tu c)→D Tryz.prog 115 [.fn (.func 171) [] [.ptr 1 id 0 0],.an 4 (bC l) ro] H (.ret (.aG [])) (Y.set H id (some (tu (c+Nd.aw l))))
set_option maxHeartbeats 0 in
theorem C1(l:List Nd)(ih:∀a∈l,Ay a.kids):Ay l:=by
 intro ro c id H hc0 hc hf
 have hid:=Y.au hf
 have hl:=Nd.iZ l
 have cl:bN Tryz.prog 171=true:=by kernel_rfl
 refine aD (by rw[Y.ah];exact Nat.le_refl _) (abz (aA ?_))
 simp only[Ti,ux]
 refine ae fun L hL=>?_
 refine ee @aF ?_
 refine hL _ _ ?_
 clear hL
 refine ee @aF ?_
 refine bI (fun ts F=>∃k:Nat,k≤l.length∧Over (Y.set H id (some (tu (c+Nd.aw (l.take k))))) F∧Fr [some (.fn (.func 171) [] [.ptr 1 id 0 0]),none,none,none,none,none,some (.an 4 (bC l) ro),some (.Z (.int .i64 l.length)),some (.Z (.int .i64 k)),none,none,none,none,none,none,none,none,none,none,none] ts) (fun ts _=>l.length - (aU (ts.getD 8 .top)).toNat) ?_ ?_
 ·refine ⟨0,Nat.zero_le _,?_,by simp[Fr]⟩
  rw[List.take_zero,show c+((Nd.aw []:Nat):Int)=c by simp[Nd.aw],PB hf]
  exact .refl
 rintro ts F ⟨k,hk,hF,bx⟩ L2 cK
 obtain ⟨js,rfl⟩:=bx.opened
 clear bx
 have pV:(Y.set H id (some (tu (c+Nd.aw (l.take k))))).length=H.length:=Y.ah ..
 have KM:=hF.len
 rw[pV] at KM
 by_cases hd:k<l.length
 ·have d1:(k:Int)<l.length:=by omega
  have hg:=dm hd
  have eJ:=e8 hd
  have htk:=iJ hd
  have hle:=mT l (k+1)
  have D0:=Nd.size_eq (aC l k)
  have X7:Y.find F id=some (tu (c+Nd.aw (l.take k))):=by
   rw[hF.find (by rw[pV];exact hid),Y.aB hid]
  have hs1:=T8 (aC l k) none id (c+Nd.aw (l.take k)) (by omega)
  rw[aM] at hs1
  simp -implicitDefEqProofs (maxSteps:=99999999) (disch:=first | omega | (simp only[vl];first | done | omega)) only[mk,d1,hg,aF,va,vg,vs,vw,vk,simprocAttr]
  refine ⟨by omega,cl,ai (hs1 _ (by rw[aj (by omega),X7])) ?_⟩
  refine aN ?_
  refine ai (ih _ eJ none (c+Nd.aw (l.take k)+1) id _ (by omega) (by omega) (by rw[aj (by rw[Y.ah];omega),Y.aB (by omega)])) ?_
  refine aN ?_
  refine cK _ _ ⟨k+1,by omega,?_,by simp[Fr]⟩ (by simp[aU,mk];omega)
  rw[htk]
  refine .cons ?_
  have:=hF.set (i:=id) (by rw[pV];exact hid) (some (tu (c+Nd.aw (l.take k)+1+Nd.aw (aC l k).kids)))
  rw[set_set] at this
  rw[D0,show c+((Nd.aw (l.take k)+(1+Nd.aw (aC l k).kids):Nat):Int)=c+Nd.aw (l.take k)+1+Nd.aw (aC l k).kids by omega,set_set]
  exact this
 ·have d1:¬(k:Int)<l.length:=by omega
  have e:l.take k=l:=List.take_of_length_le (by omega)
  rw[e] at hF
  simp -implicitDefEqProofs (maxSteps:=99999999) (disch:=first | omega | (simp only[vl];first | done | omega)) only[mk,d1,va,vg,vs,vw,vk,simprocAttr]
  exact CZ hid ⟨trivial,trivial⟩ hF (.same trivial)
theorem KN(l:List Nd):Ay l:=by
 have key:∀t:Nd,Ay t.kids:=fun t=>by
  induction t using Nd.ind with
  | _ t ih=>exact C1 _ ih
 exact C1 l fun a _=>key a
theorem X8(t:Nd)(hz:t.size≤1000000)(H:Y):D Tryz.prog 112 [dF t none] H (.ret (.Z (.int .i64 t.size))) H:=by
 have hE:=KN [⟨t.kind,t.text,t.num,t.kids⟩]
 unfold Ay at hE
 have hs:Nd.aw [⟨t.kind,t.text,t.num,t.kids⟩]=t.size:=by simp[Nd.aw,Nd.size,Nd.size_eq t]
 have hL:bC [⟨t.kind,t.text,t.num,t.kids⟩]=[.agg [.Z (.int .u8 t.kind),.Z (.string t.text),.Z (.int .i64 t.num),.an 4 (bC t.kids) none]]:=by simp[bC,fH]
 rw[hs,hL] at hE
 unfold tu at hE
 rw[aM]
 refine aD (Nat.le_refl _) (aby (aA ?_))
 simp only[Th,ux]
 refine ae fun L hL=>?_
 refine aN ?_
 refine hL _ _ ?_
 clear hL
 refine ae fun L hL=>?_
 refine aN ?_
 refine hL _ _ ?_
 clear hL
 refine ae fun L hL=>?_
 refine aN ?_
 refine ai (hE (some []) 0 (H.length+1) _ (by omega) (by omega) (aL (by simp))) ?_
 refine aN ?_
 refine hL _ _ ?_
 clear hL
 refine ee @Int.zero_add ?_
 exact bL (.cons (.cons .refl))
mutual
def bulk:Nd→Int→Int
 | ⟨_,s,_,l⟩,most=>fK l most (1+((s.size / 8:Nat):Int))
def fK:List Nd→Int→Int→Int
 | [],_,c=>c
 | t::r,most,c=>if c≤most then fK r most (c+bulk t (most - c)) else c
end
theorem vK(t:Nd)(most:Int):bulk t most=fK t.kids most (1+((t.text.size / 8:Nat):Int)):=by
 cases t;simp only[bulk,Nd.kids,Nd.text]
theorem Ht(t:Nd):∀most,1≤bulk t most:=by
 induction t using Nd.ind with
 | _ t ih =>
  intro most
  rw[vK]
  have key:∀(l:List Nd)(c:Int),(∀k∈l,∀m,1≤bulk k m)→1≤c→1≤fK l most c:=by
   intro l
   induction l with
   | nil=>intro c _ h;simpa [fK] using h
   | cons x r fI =>
    intro c hx hc
    unfold fK
    split
    ·exact fI _ (fun k hk=>hx k (by simp[hk])) (by have:=hx x (by simp) (most - c);omega)
    ·exact hc
  exact key _ _ ih (by omega)
mutual
def Nd.wt:Nd→Nat
 | ⟨_,s,_,l⟩=>1+s.size+Nd.kx l
def Nd.kx:List Nd→Nat
 | []=>0
 | t::r=>t.wt+Nd.kx r
end
theorem Nd.mh(t:Nd):t.wt=1+t.text.size+Nd.kx t.kids:=by cases t;simp[Nd.wt,Nd.kids,Nd.text]
theorem Nd.Az{l:List Nd}{t:Nd}(h:t∈l):t.wt≤Nd.kx l:=by
 induction l with
 | nil=>cases h
 | cons x r ih =>
  rcases List.mem_cons.1 h with rfl | h
  ·simp only[Nd.kx];omega
  ·have:=ih h;simp only[Nd.kx];omega
theorem Nd.X9(t:Nd):0<t.wt:=by rw[Nd.mh];omega
theorem Nd.T9(l:List Nd):l.length≤Nd.kx l:=by
 induction l with
 | nil=>simp[Nd.kx]
 | cons x r ih=>have:=x.X9;simp only[List.length_cons,Nd.kx];omega
theorem Ua(t:Nd):∀most,bulk t most≤t.wt:=by
 induction t using Nd.ind with
 | _ t ih =>
  intro most
  rw[vK,Nd.mh]
  have key:∀(l:List Nd)(c:Int),(∀k∈l,∀m,bulk k m≤k.wt)→fK l most c≤c+Nd.kx l:=by
   intro l
   induction l with
   | nil=>intro c _;simp[fK,Nd.kx]
   | cons x r fI =>
    intro c hx
    unfold fK
    simp only[Nd.kx]
    split
    ·have:=fI (c+bulk x (most - c)) (fun k hk=>hx k (by simp[hk]))
     have:=hx x (by simp) (most - c)
     omega
    ·omega
  have:=key t.kids (1+((t.text.size / 8:Nat):Int)) ih
  omega
theorem C2(most:Int):∀(l:List Nd)(c:Int),c≤fK l most c
 | [],c=>by simp[fK]
 | t::r,c=>by
  unfold fK
  split
  ·have:=C2 most r (c+bulk t (most - c))
   have:=Ht t (most - c)
   omega
  ·omega
theorem Hu{l:List Nd}{k:Nat}(h:k<l.length)(most c:Int):fK (l.drop k) most c=if c≤most then fK (l.drop (k+1)) most (c+bulk (aC l k) (most - c)) else c:=by
 rw[List.drop_eq_getElem_cons h,gv h]
 simp only[fK]
theorem PC{l:List Nd}{k:Nat}(h:k<l.length):Nd.kx (l.drop k)=(aC l k).wt+Nd.kx (l.drop (k+1)):=by
 rw[List.drop_eq_getElem_cons h,gv h]
 simp only[Nd.kx]
set_option maxHeartbeats 0 in
theorem AA(t:Nd):∀(ro:Option (List AV))(most:Int)(hm:0≤most∧most≤1000000)(hz:t.wt≤2000000)(H:Y),D Tryz.prog 7 [dF t ro,.Z (.int .i64 most)] H (.ret (.Z (.int .i64 (bulk t most)))) H:=by
 induction t using Nd.ind with
 | _ t ih =>
  intro ro most hm hz H
  have hwe:=Nd.mh t
  have mc:=Nd.T9 t.kids
  have hq:((t.text.size:Int)).tdiv 8=((t.text.size / 8:Nat):Int):=by
   rw[Int.tdiv_eq_ediv_of_nonneg (by omega)]
   omega
  rw[aM]
  refine aD (Nat.le_refl _) (dk7 (aA ?_))
  simp only[ic7,ux]
  refine ae fun L hL=>?_
  refine aN ?_
  refine hL _ _ ?_
  clear hL
  refine ae fun L hL=>?_
  refine ee hq ?_
  refine hL _ _ ?_
  clear hL
  refine ae fun L hL=>?_
  refine aN ?_
  refine bI (fun ts F=>∃(k:Nat)(c:Int),(k≤t.kids.length∧0≤c∧c+Nd.kx (t.kids.drop k)≤t.wt∧fK (t.kids.drop k) most c=bulk t most)∧F=some ⟨4,[.agg [.Z (.int .u8 t.kind),.Z (.string t.text),.Z (.int .i64 t.num),.an 4 (bC t.kids) ro]],true,25⟩::H∧Fr [none,some (.Z (.int .i64 most)),some (.ptr 4 H.length 0 0),none,none,some (.Z (.int .i64 c)),some (.Z (.int .i64 k)),none,none,none,none,none,none,none,none,none,none,none,none,none,none,none,none,none,none,none,none,none,none,none,none,none,none,none,none,none] ts) (fun ts _=>t.kids.length - (aU (ts.getD 6 .top)).toNat) ?_ ?_
  ·refine ⟨0,1+((t.text.size / 8:Nat):Int),⟨Nat.zero_le _,by omega,?_,(vK t most).symm⟩,rfl,by simp[Fr]⟩
   rw[List.drop_zero]
   omega
  rintro ts F ⟨k,c,⟨hk,hc0,hc1,hb⟩,rfl,bx⟩ L2 cK
  obtain ⟨js,rfl⟩:=bx.opened
  clear bx
  by_cases hd:k<t.kids.length
  ·have d1:(k:Int)<t.kids.length:=by omega
   have hg:=dm hd
   have eJ:=e8 hd
   have hwm:=Nd.Az eJ
   rw[Hu hd] at hb
   rw[PC hd] at hc1
   by_cases d2:c≤most
   ·rw[if_pos d2] at hb
    have hi:=fun H=>ih _ eJ none (most - c) (by omega) (by omega) H
    have hhi:=Ua (aC t.kids k) (most - c)
    have hlo:=Ht (aC t.kids k) (most - c)
    rw[aM] at hi
    simp -implicitDefEqProofs (maxSteps:=99999999) (disch:=first | omega | (simp only[vl];first | done | omega)) only[mk,d1,d2,hg,aF,va,vg,vs,vw,vk,simprocAttr]
    refine ⟨by omega,ai (hi _) ?_⟩
    refine aN ?_
    exact cK _ _ ⟨k+1,_,⟨by omega,by omega,by omega,hb⟩,rfl,by simp[Fr]⟩ (by simp[aU,mk];omega)
   ·rw[if_neg d2] at hb
    simp -implicitDefEqProofs (maxSteps:=99999999) (disch:=first | omega | (simp only[vl];first | done | omega)) only[mk,d1,d2,aF,va,vg,vs,vw,vk,simprocAttr]
    refine hL _ _ ?_
    clear hL
    refine wS ?_
    rw[hb]
    exact bL (.cons .refl)
  ·have d1:¬(k:Int)<t.kids.length:=by omega
   have e:t.kids.drop k=[]:=List.drop_of_length_le (by omega)
   rw[e] at hb
   simp only[fK] at hb
   simp -implicitDefEqProofs (maxSteps:=99999999) (disch:=first | omega | (simp only[vl];first | done | omega)) only[mk,d1,aF,va,vg,vs,vw,vk,simprocAttr]
   refine hL _ _ ?_
   clear hL
   refine wS ?_
   rw[hb]
   exact bL (.cons .refl)
mutual
def AV.up(n:Nat):AV→AV
 | .aE k id off m c=>.aE k (n+id) off m c
 | .ptr k id j f=>.ptr k (n+id) j f
 | .agg cs=>.agg (AV.kH n cs)
 | .aG cs=>.aG (AV.kH n cs)
 | x=>x
def AV.kH(n:Nat):List AV→List AV
 | []=>[]
 | x::r=>AV.up n x::AV.kH n r
end
def aK.up(n:Nat)(b:aK):aK:={ b with es:=AV.kH n b.es }
def Y.up(n:Nat)(G:Y):Y:=G.map fun b=>b.map (aK.up n)
mutual
def AV.op:AV→Bool
 | .Z _=>true
 | .ub=>true
 | .top=>true
 | .an _ [] none=>true
 | .an _ [] (some [])=>true
 | .aE _ _ _ _ _=>true
 | .ptr _ _ _ _=>true
 | .agg cs=>AV.nF cs
 | .aG cs=>AV.nF cs
 | _=>false
def AV.nF:List AV→Bool
 | []=>true
 | x::r=>AV.op x && AV.nF r
end
def Y.op(G:Y):Prop:=∀id b,Y.find G id=some b→AV.nF b.es=true
theorem AV.iK{n:Nat}:∀{l:List AV},(AV.kH n l).length=l.length
 | []=>rfl
 | _::r=>by simp[AV.kH,AV.iK (l:=r)]
theorem AV.C3{n:Nat}(x:AV):(x.up n).isAgg=x.isAgg:=by cases x<;>simp[AV.up,AV.isAgg]
theorem AV.KO{n:Nat}(x:AV):(x.up n).ax=x.ax:=by cases x<;>simp[AV.up,AV.ax,AV.iK]
theorem AV.yT{n:Nat}{x:AV}{u:Value}(h:jj x u):jj (x.up n) u:=by
 cases x<;>first | exact h | skip
 obtain ⟨us,h1,h2⟩:=h
 exact ⟨us,h1,by rw[h2,AV.iK]⟩
section
variable {φ ψ:aH}{O O':Nat→Prop}{w:World}{n:Nat}
mutual
theorem C4(hm:∀id b,φ id=some b→ψ (n+id)=some b):∀{x:AV}{g:Nat→Option Value},x.op=true→R φ O w x g→R ψ O' w (x.up n) g
 | .Z _,_,_,h=>h
 | .ub,_,_,h=>h
 | .top,_,_,_=>trivial
 | .an _ [] none,_,_,h=>by
  obtain ⟨a,c,h1,h2,h3,h4,h5,h6⟩:=h
  exact ⟨a,c,h1,h2,h3,h4,fun hp=>by simp at hp,trivial⟩
 | .an _ [] (some []),_,_,h=>by
  obtain ⟨a,c,h1,h2,h3,h4,h5,h6⟩:=h
  exact ⟨a,c,h1,h2,h3,h4,fun hp=>by simp at hp,⟨h6.1,fun hp=>by simp at hp⟩⟩
 | .an _ [] (some (_::_)),_,ho,_=>by simp[AV.op] at ho
 | .an _ (_::_) _,_,ho,_=>by simp[AV.op] at ho
 | .lp _ _,_,ho,_=>by simp[AV.op] at ho
 | .fn _ _ _,_,ho,_=>by simp[AV.op] at ho
 | .dQ _ _,_,ho,_=>by simp[AV.op] at ho
 | .DF _,_,ho,_=>by simp[AV.op] at ho
 | .aE k id off m c,_,_,h=>by
  obtain ⟨b,c',cur,e,fr,v1,v2⟩:=h
  exact ⟨b,c',cur,e,fr,hm _ _ v1,v2⟩
 | .ptr k id j f,_,_,h=>by
  obtain ⟨b,g1,g2⟩:=h
  exact ⟨b,hm _ _ g1,g2⟩
 | .agg cs,_,ho,h=>Ub hm (by simpa [AV.op] using ho) h
 | .aG cs,_,ho,h=>by
  obtain ⟨us,h1,h2⟩:=h
  exact ⟨us,h1,KP hm (by simpa [AV.op] using ho) h2⟩
theorem Ub(hm:∀id b,φ id=some b→ψ (n+id)=some b):∀{l:List AV}{g:Nat→Option Value},AV.nF l=true→Rs φ O w l g→Rs ψ O' w (AV.kH n l) g
 | [],_,_,_=>trivial
 | x::r,_,ho,h=>by
  simp only[AV.nF,Bool.and_eq_true] at ho
  exact ⟨by rw[AV.C3];exact h.1,C4 hm ho.1 h.2.1,h.2.2.1,Ub hm ho.2 h.2.2.2⟩
theorem KP(hm:∀id b,φ id=some b→ψ (n+id)=some b):∀{l:List AV}{us:List Value},AV.nF l=true→Rt φ O w l us→Rt ψ O' w (AV.kH n l) us
 | [],_,_,h=>h
 | x::r,us,ho,h=>by
  simp only[AV.nF,Bool.and_eq_true] at ho
  obtain ⟨v,s,h1,h2,h3,h4⟩:=h
  exact ⟨v,s,h1,AV.yT h2,C4 hm ho.1 h3,KP hm ho.2 h4⟩
end
theorem Uc(hm:∀id b,φ id=some b→ψ (n+id)=some b){b k:Nat}:∀{l:List AV}{off:Nat},AV.nF l=true→Rl φ O w b k l off→Rl ψ O' w b k (AV.kH n l) off
 | [],_,_,_=>trivial
 | x::r,off,ho,h=>by
  simp only[AV.nF,Bool.and_eq_true] at ho
  exact ⟨by rw[AV.KO];exact h.1,by rw[AV.C3];exact h.2.1,C4 hm ho.1 h.2.2.1,Uc hm ho.2 h.2.2.2⟩
end
theorem KQ{φ ψ:aH}{O O':Nat→Prop}{w:World}{n:Nat}(hm:∀id b,φ id=some b→ψ (n+id)=some b):∀{l:List AV}{es:List MapEntry},AV.nF l=true→RE φ O w l es→RE ψ O' w (AV.kH n l) es
 | [],_,_,h=>h
 | x::r,_,ho,h=>by
  simp only[AV.nF,Bool.and_eq_true] at ho
  obtain ⟨e,s,h1,h2,h3⟩:=h
  exact ⟨e,s,h1,⟨AV.yT h2.1,C4 hm ho.1 h2.2⟩,KQ hm ho.2 h3⟩
theorem Y.AB{A H:Y}{i:Nat}:Y.find (A++H) (H.length+i)=Y.find A i:=by
 induction A with
 | nil=>rw[List.nil_append,Y.uD (by omega)];rfl
 | cons b r ih =>
  simp only[List.cons_append,Y.find,List.length_append]
  by_cases e:i=r.length
  ·rw[if_pos e,if_pos (by omega)]
  ·rw[if_neg e,if_neg (by omega),ih]
theorem Y.AC{n:Nat}{G:Y}:(Y.up n G).length=G.length:=by simp[Y.up]
theorem Y.Hv{n:Nat}{G:Y}{i:Nat}:Y.find (Y.up n G) i=(Y.find G i).map (aK.up n):=by
 induction G with
 | nil=>rfl
 | cons b r ih =>
  show Y.find (b.map (aK.up n)::Y.up n r) i=_
  simp only[Y.find,Y.AC]
  split
  ·rfl
  ·exact ih
theorem Hw{P:Program}{f:FuncId}{args args':List AV}{v:AV}{H G:Y}(hv:ct H args args')(hp:v.op=true)(hg:Y.op G)(h:D P f args' [] (.ret v) G):D P f args H (.ret (v.up H.length)) (Y.up H.length G++H):=by
 refine ⟨by simp,fun φ w vs hR ha=>(h.2 fL w vs (Mj (hR.gZ.less fun b ho=>(qy ho).elim)) (hv.Rt hR ha)).mono fun en w' ⟨χ,h1,h2,h3⟩=>?_⟩
 have hblk:∀b,b<w.heap.size→w'.heap[b]? = w.heap[b]?:=fun b hb=>h3.same b hb qy
 have hown:∀b,b<w.heap.size→¬Own χ G b:=fun b hb=>h3.own b hb qy
 let ψ:aH:=fun id=>if id<H.length then φ id else χ (id - H.length)
 have p1:∀id,id<H.length→ψ id=φ id:=fun id hi=>if_pos hi
 have p2:∀id,ψ (H.length+id)=χ id:=fun id=>by
  show (if _ then _ else _)=_
  rw[if_neg (by omega),show H.length+id - H.length=id from by omega]
 have q1:∀id,id<H.length→Y.find (Y.up H.length G++H) id=Y.find H id:=fun id hi=>Y.bw hi
 have q2:∀id,Y.find (Y.up H.length G++H) (H.length+id)=(Y.find G id).map (aK.up H.length):=fun id=>by rw[Y.AB,Y.Hv]
 have o1:∀b,Own ψ (Y.up H.length G++H) b→Own φ H b∨Own χ G b:=by
  rintro b ⟨id,blk,e1,e2⟩
  by_cases hi:id<H.length
  ·rw[p1 id hi] at e1
   rw[q1 id hi] at e2
   exact .inl ⟨id,blk,e1,e2⟩
  ·obtain ⟨j,rfl⟩:∃j,id=H.length+j:=⟨id - H.length,by omega⟩
   rw[p2] at e1
   rw[q2] at e2
   cases hf:Y.find G j with
   | none=>rw[hf] at e2;simp at e2
   | some k=>exact .inr ⟨j,k,e1,hf⟩
 have hm:∀id b,φ id=some b→ψ id=some b:=fun id b e=>by rw[p1 id (hR.dom id b e).1];exact e
 have hl:Later (fun _=>True) φ ψ (Own φ H) (Own ψ (Y.up H.length G++H)) w w':=by
  refine ⟨fun id b _ e=>hm id b e,h3.size,fun b hb hn ho=>?_,fun b hb _=>hblk b hb,fun b hb=>h3.shape b hb⟩
  rcases o1 b ho with e | e
  ·exact hn e
  ·exact hown b hb e
 have hu:∀id b,χ id=some b→ψ (H.length+id)=some b:=fun id b e=>by rw[p2];exact e
 refine ⟨ψ,?_,⟨hR.gZ.later hl,fun id b e=>?_,fun i j b e1 e2 s1 s2=>?_,fun id b k e1 e2=>?_⟩,⟨hl,h3.os,h3.tape,h3.output,by simp,fun id hi=>p1 id hi⟩⟩
 ·cases en with
  | returned u=>exact ⟨AV.yT h1.1,C4 hu hp h1.2⟩
  | _=>exact h1.elim
 ·by_cases hi:id<H.length
  ·rw[p1 id hi] at e
   have:=hR.dom id b e
   have h9:=h3.size
   exact ⟨by simp;omega,by omega⟩
  ·obtain ⟨j,rfl⟩:∃j,id=H.length+j:=⟨id - H.length,by omega⟩
   rw[p2] at e
   have:=h2.dom j b e
   exact ⟨by simp[Y.AC];omega,this.2⟩
 ·by_cases hi:i<H.length
  ·rw[p1 i hi] at e1
   rw[q1 i hi] at s1
   have hb:=(hR.dom i b e1).2
   by_cases hj:j<H.length
   ·rw[p1 j hj] at e2
    rw[q1 j hj] at s2
    exact hR.inj i j b e1 e2 s1 s2
   ·obtain ⟨t,rfl⟩:∃t,j=H.length+t:=⟨j - H.length,by omega⟩
    rw[p2] at e2
    rw[q2] at s2
    cases hf:Y.find G t with
    | none=>rw[hf] at s2;simp at s2
    | some k=>exact (hown b hb ⟨t,k,e2,hf⟩).elim
  ·obtain ⟨s,rfl⟩:∃s,i=H.length+s:=⟨i - H.length,by omega⟩
   rw[p2] at e1
   rw[q2] at s1
   by_cases hj:j<H.length
   ·rw[p1 j hj] at e2
    have hb:=(hR.dom j b e2).2
    cases hf:Y.find G s with
    | none=>rw[hf] at s1;simp at s1
    | some k=>exact (hown b hb ⟨s,k,e1,hf⟩).elim
   ·obtain ⟨t,rfl⟩:∃t,j=H.length+t:=⟨j - H.length,by omega⟩
    rw[p2] at e2
    rw[q2] at s2
    have:=h2.inj s t b e1 e2 (by simpa using s1) (by simpa using s2)
    omega
 ·by_cases hi:id<H.length
  ·rw[p1 id hi] at e1
   rw[q1 id hi] at e2
   have hb:=(hR.dom id b e1).2
   exact (hR.blk id b k e1 e2).on hl (hblk b hb)
  ·obtain ⟨j,rfl⟩:∃j,id=H.length+j:=⟨id - H.length,by omega⟩
   rw[p2] at e1
   rw[q2] at e2
   cases hf:Y.find G j with
   | none=>rw[hf] at e2;simp at e2
   | some k0 =>
    rw[hf] at e2
    simp at e2
    subst e2
    rcases h2.blk j b k0 e1 hf with ⟨h0,cur,cap,a1,a2,a3,a4,a5,a6⟩ | ⟨h0,hty,bH,clock,a1,a2,a3,a4⟩ | ⟨h0,hty,r,ts,tm,e,_⟩ | ⟨h0,hty,bH,clock,x,r,e,a1,a2,a3,a4,a5⟩ | ⟨h0,hty,bm,clock,seen,a1,a2⟩
    ·exact .inl ⟨h0,cur,cap,a1,a2,by simpa [aK.up,AV.iK] using a3,by simpa [aK.up,AV.iK] using a4,a5,Uc hu (hg j k0 hf) a6⟩
    ·exact .inr (.inl ⟨h0,hty,bH,clock,a1,a2,a3,KQ hu (hg j k0 hf) a4⟩)
    ·have:=hg j k0 hf;rw[e] at this;simp[AV.nF,AV.op] at this
    ·have ho:=hg j k0 hf
     rw[e] at ho
     simp only[AV.nF,Bool.and_eq_true] at ho
     exact .inr (.inr (.inr (.inl ⟨h0,hty,bH,clock,x.up H.length,AV.kH H.length r,by simp[aK.up,e,AV.kH],a1,a2,a3,⟨AV.yT a4.1,C4 hu ho.1 a4.2⟩,KQ hu ho.2 a5⟩)))
    ·exact .inr (.inr (.inr (.inr ⟨h0,hty,bm,clock,seen,a1,KP hu (hg j k0 hf) a2⟩)))
def Mu:AV→AV→Prop
 | .aE k i off n none,y=>∃c,n≤c∧y = .aE k i off n (some c)
 | x,y=>y=x
inductive nG:List AV→List AV→Prop where
 | nil:nG [] []
 | cons {x y:AV}{r s:List AV}:Mu x y→nG r s→nG (x::r) (y::s)
theorem nG.len:∀{xs ys:List AV},nG xs ys→ys.length=xs.length
 | _,_,.nil=>rfl
 | _,_,.cons _ h=>by simp[h.len]
theorem nG.get:∀{xs ys:List AV},nG xs ys→∀{j:Nat},j<xs.length→Mu (xs.getD j .top) (ys.getD j .top)
 | _,_,.nil,j,h=>by simp at h
 | _,_,.cons hx hr,0,_=>hx
 | _,_,.cons hx hr,j+1,h=>by
  simp only[List.getD_cons_succ]
  exact hr.get (by simpa using h)
structure tv where
 nil:Bool
 n:Nat
 id:Nat
 c:Nat
instance:Inhabited tv:=⟨⟨true,0,0,0⟩⟩
def dS(rs:List tv)(i:Nat):tv:=rs.getD i default
def w5(n c:Nat)(es:List AV)(ex:Bool):Prop:=(ex=true∧c=es.length∧n≤c)∨(ex=false∧n≤es.length)
structure Shape where
 k:Nat
 ty:TypeId
 ag:Bool
def Shape.is(s:Shape)(x:AV):Prop:=x.bT=false∧x.ax=s.k∧x.isAgg=s.ag
def nH(s:Shape)(mk:Nat→AV)(F:Y)(id n c m:Nat):Prop :=
 ∃es ex,Y.find F id=some ⟨s.k,es,ex,s.ty⟩∧w5 n c es ex∧(∀x∈es,s.is x)∧∀i,i<m→es[i]? = some (mk i)
def Reads(k:Nat)(mk:Nat→AV)(F:Y)(id m:Nat):Prop:=∃blk,Y.find F id=some blk∧blk.k=k∧m≤blk.es.length∧∀i,i<m→blk.es.getD i .top=mk i
section
variable {s:Shape}{mk:Nat→AV}{F G:Y}{id n c m:Nat}
theorem w6{es:List AV}{ex:Bool}(h:w5 n c es ex):n≤es.length:=by
 rcases h with ⟨_,h1,h2⟩ | ⟨_,h⟩
 ·omega
 ·exact h
theorem BR{l:List AV}{i:Nat}{x:AV}(h:l[i]? = some x):l.getD i .top=x:=by simp[List.getD,h]
theorem nH.keep(h:nH s mk F id n c m)(e:Y.find G id=Y.find F id):nH s mk G id n c m:=by
 unfold nH at h ⊢
 rw[e]
 exact h
theorem Reads.keep{k:Nat}(h:Reads k mk F id m)(e:Y.find G id=Y.find F id):Reads k mk G id m:=by
 unfold Reads at h ⊢
 rw[e]
 exact h
theorem nH.less{m':Nat}(h:nH s mk F id n c m)(hm:m'≤m):nH s mk F id n c m':=by
 obtain ⟨es,ex,h1,h2,h3,h4⟩:=h
 exact ⟨es,ex,h1,h2,h3,fun i hi=>h4 i (by omega)⟩
theorem nH.reads(h:nH s mk F id n c m)(hm:m≤n):Reads s.k mk F id m:=by
 obtain ⟨es,ex,h1,h2,h3,h4⟩:=h
 have:=w6 h2
 exact ⟨_,h1,rfl,by simp only;omega,fun i hi=>BR (h4 i hi)⟩
theorem Reads.less{k m':Nat}(h:Reads k mk F id m)(hm:m'≤m):Reads k mk F id m':=by
 obtain ⟨blk,h1,h2,h3,h4⟩:=h
 exact ⟨blk,h1,h2,by omega,fun i hi=>h4 i (by omega)⟩
theorem nH.store{es:List AV}{ex:Bool}(hf:Y.find F id=some ⟨s.k,es,ex,s.ty⟩)(h2:w5 n c es ex)(h3:∀x∈es,s.is x)(h4:∀i,i<m→es[i]? = some (mk i))(hm:m<n)(hs:s.is (mk m)) :
  nH s mk (Y.set F id (some ⟨s.k,es.set m (mk m),ex,s.ty⟩)) id n c (m+1):=by
 have hlt:=Y.au hf
 have hle:=w6 h2
 refine ⟨_,_,Y.aB hlt,?_,fun x hx=>?_,fun i hi=>?_⟩
 ·simpa [w5] using h2
 ·rcases List.mem_or_eq_of_mem_set hx with h | rfl
  ·exact h3 x h
  ·exact hs
 ·rw[List.getElem?_set]
  by_cases e:m=i
  ·subst e;simp;omega
  ·rw[if_neg e];exact h4 i (by omega)
theorem nH.dD{es ys:List AV}{ex:Bool}(hf:Y.find F id=some ⟨s.k,es,ex,s.ty⟩)(h2:w5 n c es ex)(h3:∀x∈es,s.is x)(h4:∀i,i<n→es[i]? = some (mk i))(hr:n+ys.length≤c)(hs:∀x∈ys,s.is x)(hy:∀i,i<ys.length→ys[i]? = some (mk (n+i))) :
  nH s mk (Y.set F id (some ⟨s.k,es.take n++ys++es.drop (n+ys.length),ex,s.ty⟩)) id (n+ys.length) c (n+ys.length):=by
 have hlt:=Y.au hf
 have hle:=w6 h2
 have hl:(es.take n++ys).length=n+ys.length:=by simp;omega
 refine ⟨_,_,Y.aB hlt,?_,fun x hx=>?_,fun i hi=>?_⟩
 ·rcases h2 with ⟨e1,e2,e3⟩ | ⟨e1,e2⟩
  ·refine .inl ⟨e1,?_,hr⟩
   simp;omega
  ·refine .inr ⟨e1,?_⟩
   rw[List.length_append,hl];omega
 ·rcases List.mem_append.1 hx with hx | hx
  ·rcases List.mem_append.1 hx with hx | hx
   ·exact h3 x (List.mem_of_mem_take hx)
   ·exact hs x hx
  ·exact h3 x (List.mem_of_mem_drop hx)
 ·rw[List.getElem?_append_left (by omega)]
  by_cases e:i<n
  ·rw[List.getElem?_append_left (by simp;omega),List.getElem?_take_of_lt e]
   exact h4 i e
  ·rw[List.getElem?_append_right (by simp;omega)]
   have:i - (es.take n).length=i - n:=by simp;omega
   rw[this,hy _ (by omega)]
   congr 2
   omega
end
def Mv(rs:List tv):List Nat:=(rs.filter fun r=>!r.nil).map (·.id)
theorem Hx{rs:List tv}{k:Nat}(h:k<rs.length)(hn:(dS rs k).nil=false):(dS rs k).id∈Mv rs:=by
 refine List.mem_map.2 ⟨dS rs k,List.mem_filter.2 ⟨?_,by simp[hn]⟩,rfl⟩
 unfold dS
 rw[List.getD_eq_getElem?_getD,List.getElem?_eq_getElem h]
 exact List.getElem_mem h
structure yU(s:Shape)(F:Y)(rs:List tv):Prop where
 nil:∀k,k<rs.length→(dS rs k).nil=true→(dS rs k).n=0
 blk:∀k,k<rs.length→(dS rs k).nil=false→∃es ex,Y.find F (dS rs k).id=some ⟨s.k,es,ex,s.ty⟩∧w5 (dS rs k).n (dS rs k).c es ex∧∀x∈es,s.is x
 apart:∀k l,k<rs.length→l<rs.length→(dS rs k).nil=false→(dS rs l).nil=false→(dS rs k).id=(dS rs l).id→k=l
 AD:∀k,k<rs.length→(dS rs k).n≤10000000
def lv(s:Shape)(mk:Nat→Nat→AV)(F:Y)(rs:List tv)(m:Nat→Nat):Prop :=
 ∀k,k<rs.length→(dS rs k).nil=false→nH s (mk k) F (dS rs k).id (dS rs k).n (dS rs k).c (m k)
def oq(H F:Y)(rs:List tv):Prop:=∀id,id<H.length→id∉Mv rs→Y.find F id=Y.find H id
def fy(k0:Nat)(mk:Nat→Nat→AV)(F:Y)(rs:List tv)(g0 B:Nat)(sY:List AV)(K:Nat)(x:Nat→Nat):Prop :=
 ∀k,k<K→∃gid gc,sY.getD k .top = .aE k0 gid 0 ((dS rs k).n+64) gc∧Reads k0 (mk k) F gid (x k)∧((gid=(dS rs k).id∧(dS rs k).nil=false)∨g0<gid)∧gid<B
section
variable {s:Shape}{mk:Nat→Nat→AV}{H F G:Y}{rs:List tv}{m m':Nat→Nat}
theorem yU.start(h:yU s H rs):lv s mk H rs (fun _=>0):=fun k hk hn=>by
 obtain ⟨es,ex,h1,h2,h3⟩:=h.blk k hk hn
 exact ⟨es,ex,h1,h2,h3,fun i hi=>absurd hi (Nat.not_lt_zero _)⟩
theorem oq.refl:oq H H rs:=fun _ _ _=>rfl
theorem oq.set(h:oq H F rs){K:Nat}{b:Option aK}(hK:K<rs.length)(hn:(dS rs K).nil=false):oq H (Y.set F (dS rs K).id b) rs:=fun id hid hni=>by
 have hne:id≠(dS rs K).id:=fun e=>hni (by rw[e];exact Hx hK hn)
 rw[Y.ak hne]
 exact h id hid hni
theorem oq.cons(h:oq H F rs)(hl:H.length≤F.length){b:Option aK}:oq H (b::F) rs:=fun id hid hni=>by
 rw[Y.cJ (by omega)]
 exact h id hid hni
theorem lv.put(h:lv s mk F rs m)(ok:yU s H rs){K:Nat}{b:Option aK}(hK:K<rs.length)(hn:(dS rs K).nil=false)(hr:nH s (mk K) (Y.set F (dS rs K).id b) (dS rs K).id (dS rs K).n (dS rs K).c (m' K))(hm:∀k,k≠K→m' k≤m k) :
  lv s mk (Y.set F (dS rs K).id b) rs m':=fun k hk hkn=>by
 by_cases e:k=K
 ·subst e;exact hr
 ·exact ((h k hk hkn).less (hm k e)).keep (Y.ak (fun e'=>e (ok.apart k K hk hK hkn hn e')))
theorem lv.less(h:lv s mk F rs m)(hm:∀k,k<rs.length→m' k≤m k):lv s mk F rs m':=fun k hk hkn=>(h k hk hkn).less (hm k hk)
theorem lv.far(h:lv s mk F rs m)(ok:yU s H rs){i:Nat}{b:Option aK}(hi:H.length≤i):lv s mk (Y.set F i b) rs m:=fun k hk hkn=>by
 obtain ⟨es,ex,h1,_⟩:=ok.blk k hk hkn
 have:=Y.au h1
 exact (h k hk hkn).keep (Y.ak (by omega))
theorem lv.cons(h:lv s mk F rs m){b:Option aK}:lv s mk (b::F) rs m:=fun k hk hkn=>by
 obtain ⟨es,ex,h1,_⟩:=h k hk hkn
 exact (h k hk hkn).keep (Y.cJ (Y.au h1))
theorem fy.keep{k0 g0 B K:Nat}{sY:List AV}{x:Nat→Nat}(h:fy k0 mk F rs g0 B sY K x)(h1:∀id,g0<id→id<B→Y.find G id=Y.find F id)(h2:∀k,k<K→(dS rs k).nil=false→Y.find G (dS rs k).id=Y.find F (dS rs k).id):fy k0 mk G rs g0 B sY K x:=fun k hk=>by
 obtain ⟨gid,gc,a1,a2,a3,a4⟩:=h k hk
 refine ⟨gid,gc,a1,a2.keep ?_,a3,a4⟩
 rcases a3 with ⟨rfl,hn⟩ | h
 ·exact h2 k hk hn
 ·exact h1 gid h a4
theorem fy.more{k0 g0 B B' K:Nat}{sY:List AV}{x:Nat→Nat}(h:fy k0 mk F rs g0 B sY K x)(hB:B≤B'):fy k0 mk F rs g0 B' sY K x:=fun k hk=>by
 obtain ⟨gid,gc,a1,a2,a3,a4⟩:=h k hk
 exact ⟨gid,gc,a1,a2,a3,by omega⟩
theorem fy.less{k0 g0 B K:Nat}{sY:List AV}{x y:Nat→Nat}(h:fy k0 mk F rs g0 B sY K x)(hy:∀k,k<K→y k≤x k):fy k0 mk F rs g0 B sY K y:=fun k hk=>by
 obtain ⟨gid,gc,a1,a2,a3,a4⟩:=h k hk
 exact ⟨gid,gc,a1,a2.less (hy k hk),a3,a4⟩
theorem fy.next{k0 g0 B B' K:Nat}{sY:List AV}{x:Nat→Nat}{gid:Nat}{gc:Option Nat}(h:fy k0 mk F rs g0 B sY K x)(hB:B≤B')(hK:K<sY.length)(hr:Reads k0 (mk K) F gid (x K))(ho:(gid=(dS rs K).id∧(dS rs K).nil=false)∨g0<gid)(hb:gid<B') :
  fy k0 mk F rs g0 B' (sY.set K (.aE k0 gid 0 ((dS rs K).n+64) gc)) (K+1) x:=fun k hk=>by
 by_cases e:k=K
 ·subst e
  exact ⟨gid,gc,by simp[List.getD,hK],hr,ho,hb⟩
 ·obtain ⟨gid',gc',a1,a2,a3,a4⟩:=h k (by omega)
  refine ⟨gid',gc',?_,a2,a3,by omega⟩
  rw[←a1]
  simp only[List.getD_eq_getElem?_getD]
  rw[List.getElem?_set_ne (by omega)]
theorem fy.zero{k0 g0 B:Nat}{sY:List AV}{x:Nat→Nat}:fy k0 mk F rs g0 B sY 0 x:=fun k hk=>by omega
end
theorem PD{e x:AV}{f:Nat}(h:e.isAgg=false):AV.kW e f x=x:=by
 cases e<;>first | rfl | (simp[AV.isAgg] at h)
theorem Reads.marks{k:Nat}{mk:Nat→AV}{F:Y}{gid n:Nat}{ex:Bool}{ty:TypeId}(h:Y.find F gid=some ⟨k,(List.range n).map mk,ex,ty⟩):Reads k mk F gid n :=
 ⟨_,h,rfl,by simp,fun i hi=>by simp[List.getD,hi]⟩
def Hy(l:List AV):Prop:=∀x∈l,x.ax=1∧x.isAgg=false
theorem Hy.get{l:List AV}(h:Hy l){i:Nat}(hi:i<l.length):(l.getD i .top).ax=1∧∀f x,AV.kW (l.getD i .top) f x=x:=by
 have e:l.getD i .top=l[i]:=by simp[List.getD,hi]
 have:=h _ (List.getElem_mem hi)
 rw[e]
 exact ⟨this.1,fun f x=>PD this.2⟩
theorem Hy.set{l:List AV}(h:Hy l){i:Nat}{x:AV}(hx:x.ax=1∧x.isAgg=false):Hy (l.set i x):=fun y hy=>by
 rcases List.mem_or_eq_of_mem_set hy with hy | rfl
 ·exact h y hy
 ·exact hx
theorem vL{xs:List AV}{id i:Nat}{H:Y}(h:xs≠[]→i≠id):Y.find (iv xs id H) i=Y.find H i:=by
 cases xs with
 | nil=>rfl
 | cons x r=>exact Y.ak (h (by simp))
theorem ZF{n m:Nat}(h:n≤m){l:List AV}(hl:AV.cy (· < n) l):AV.cy (· < m) l:=AV.dU (fun i hi=>Nat.lt_of_lt_of_le hi h) l hl
def lays:List (Option aK)→Y→Y
 | [],H=>H
 | b::r,H=>lays r (b::H)
theorem vM:∀{bs:List (Option aK)}{H:Y},(lays bs H).length=H.length+bs.length
 | [],H=>rfl
 | b::r,H=>by simp only[lays,vM (bs:=r),List.length_cons];omega
theorem w7:∀{bs:List (Option aK)}{H:Y}{i:Nat},i<H.length→Y.find (lays bs H) i=Y.find H i
 | [],H,i,h=>rfl
 | b::r,H,i,h=>by
  simp only[lays]
  rw[w7 (by simp;omega),Y.cJ h]
theorem pq:∀{bs:List (Option aK)}{H:Y}{i:Nat}{b:Option aK},bs[i]? = some b→Y.find (lays bs H) (H.length+i)=b
 | [],H,i,b,h=>by simp at h
 | x::r,H,0,b,h=>by
  simp at h
  subst h
  simp only[lays]
  rw[Nat.add_zero,w7 (by simp),Y.iO]
 | x::r,H,i+1,b,h=>by
  simp only[lays]
  have:=pq (bs:=r) (H:=x::H) (i:=i) (by simpa using h)
  rw[List.length_cons,show H.length+1+i=H.length+(i+1) from by omega] at this
  exact this
theorem uh{H F:Y}(bs:List (Option aK))(src:List Nat){x y:AV}(hl:src.length=bs.length)(hn:src.Nodup)(ha:∀s∈src,H.length≤s)(h1:∀id,id<H.length→Y.find F id=Y.find H id)
  (h2:∀(i:Nat)(k:aK)(s:Nat),bs[i]? = some (some k)→src[i]? = some s→∃k1,Y.find F s=some k1∧CE F H.length src k1 k)(hz:Gz F H.length src x y):eo H (.ret x) F (.ret y) (lays bs H):=by
 refine lh src (by rw[vM,hl]) hn ha (fun id k hid hk=>?_) (fun i s k hs hk=>?_) hz
 ·rw[w7 hid] at hk
  exact .inl ⟨hk,by rw[h1 id hid];exact hk⟩
 ·have hi:i<bs.length:=by
   have:=(List.getElem?_eq_some_iff.1 hs).1
   omega
  have hr:bs[i]? = some bs[i]:=by simp[hi]
  rw[pq hr] at hk
  exact h2 i k s (by rw[hr,hk]) hs
theorem AE{n:Nat}{f:Nat→Nat}(h:∀i j,i<j→f i<f j):((List.range n).map f).Nodup:=by
 rw[List.nodup_iff_pairwise_ne,List.pairwise_map]
 exact List.pairwise_lt_range.imp fun hab=>Nat.ne_of_lt (h _ _ hab)
theorem de.append{H1:Y}{n0:Nat}{src:List Nat}:∀{a b c d:List AV},de H1 n0 src a c→de H1 n0 src b d→de H1 n0 src (a++b) (c++d)
 | _,_,_,_,.nil,h=>h
 | _,_,_,_,.cons hx hr,h=>.cons hx (de.append hr h)
theorem de.map{H1:Y}{n0:Nat}{src:List Nat}{α:Type}{f g:α→AV}:∀{l:List α},(∀x∈l,Gz H1 n0 src (f x) (g x))→de H1 n0 src (l.map f) (l.map g)
 | [],_=>.nil
 | x::r,h=>.cons (h x (by simp)) (de.map fun y hy=>h y (by simp[hy]))
theorem rZ{H:Y}{k:Nat}{ty:TypeId}{xs ys:List AV}{id:Nat}(hf:xs≠[]→Y.find H id=bZ k ty xs)(hl:xs.length+ys.length≤100000000) :
  ∃(id':Nat)(H':Y),fq H k ty ys (aX k xs id)∧jW H k ys (aX k xs id)=aX k (xs++ys) id'∧ir H k ty ys (aX k xs id)=H'∧(xs++ys≠[]→Y.find H' id'=bZ k ty (xs++ys)∧id'=H.length)∧H.length≤H'.length∧(∀i,i<H.length→(xs≠[]→i≠id)→Y.find H' i=Y.find H i):=by
 obtain ⟨h1,h2,h3⟩:=SS hf hl
 by_cases e:ys≠[]∨xs≠[]
 ·obtain ⟨g1,g2⟩:=h2 e
  refine ⟨_,_,h1,g1,g2,fun _=>⟨?_,rfl⟩,by simp[av],fun i hi hne=>?_⟩
  ·have:=Y.iO (H:=iv xs id H) (b:=bZ k ty (xs++ys))
   rwa [av] at this
  ·rw[Y.cJ (by rw[av];exact hi),vL hne]
 ·have e1:ys=[]:=Classical.byContradiction fun h=>e (.inl h)
  have e2:xs=[]:=Classical.byContradiction fun h=>e (.inr h)
  obtain ⟨g1,g2⟩:=h3 e1 e2
  refine ⟨0,H,h1,by rw[g1,e1,e2];rfl,g2,fun h=>by rw[e1,e2] at h;exact (h rfl).elim,Nat.le_refl _,fun _ _ _=>rfl⟩
theorem PE{H F:Y}{x y:AV}(h:∀id,id<H.length→Y.find F id=Y.find H id)(hz:Gz F H.length [] x y):eo H (.ret x) F (.ret y) H :=
 lh [] (by simp) (by simp) (by simp) (fun id k hid hk=>.inl ⟨hk,by rw[h id hid];exact hk⟩) (fun i s k hs=>by simp at hs) hz
section
variable {P:Program}{ro:Option Nat}{n:Nat}
def Mk(m:Nat):Deferred:={ target:=.collected m,args:=#[] }
def MD(n0:Nat)(φ:aH)(H:Y)(w:World)(ds:List Deferred):Prop:=∃ms:List Nat,ds=ms.map Mk∧ms.Nodup∧∀m∈ms,n0≤m∧w.heap[m]? = some (.deferred (some []))∧¬Own φ H m
theorem MD.nil(n0:Nat)(φ:aH)(H:Y)(w:World):MD n0 φ H w []:=⟨[],rfl,.nil,fun m h=>by cases h⟩
theorem MD.step{n0:Nat}{φ φ':aH}{H H':Y}{w w':World}{ds:List Deferred}(hs:Step φ H w φ' H' w')(h:MD n0 φ H w ds):MD n0 φ' H' w' ds:=by
 obtain ⟨ms,h1,h2,h3⟩:=h
 refine ⟨ms,h1,h2,fun m hm=>?_⟩
 obtain ⟨g1,g2,g3⟩:=h3 m hm
 exact ⟨g1,(hs.same m (gW g2) g3).trans g2,hs.own m (gW g2) g3⟩
def Ud(n0:Nat)(K:Post)(φ:aH)(H:Y)(w:World):Exit→Act→World→Prop:=fun e a' w' =>
 ∃x ts' H' φ',XR φ' (Own φ' H') w' x e∧K x ts' H'∧FR φ' (Own φ' H') w' ts' a'∧Rel φ' H' w'∧Step φ H w φ' H' w'∧MD n0 φ' H' w' a'.defers
theorem Ud.step{n0:Nat}{K:Post}{φ φ':aH}{H H':Y}{w w':World}{e:Exit}{a:Act}{w2:World}(hs:Step φ H w φ' H' w')(h:Ud n0 K φ' H' w' e a w2):Ud n0 K φ H w e a w2:=by
 obtain ⟨x,ts,H2,df,h1,h2,h3,h4,h5,h6⟩:=h
 exact ⟨x,ts,H2,df,h1,h2,h3,h4,hs.trans h5,h6⟩
theorem Ud.stays{n0:Nat}{K:Post}{φ:aH}{H:Y}{w:World}:¬LetsOut (Ud n0 K φ H w):=by
 rintro ⟨a,w',x,ts,H2,df,h1,_⟩
 cases x<;>exact h1.elim
end
section
variable {φ:aH}{O:Nat→Prop}{w w':World}
end
section
variable {P:Program}{K:Post}{ts:List AV}{H:Y}
end
theorem BT(s:ByteArray):mB (bD s)=s:=by
 apply ByteArray.ext
 simp only[mB,bD,List.map_map]
 apply Array.ext'
 simp only[List.toList_toArray]
 have:∀l:List UInt8,l.map ((fun x=>(mX x).getD 0)∘fun b=>AV.Z (.int .u8 (b.toNat:Int)))=l:=by
  intro l
  induction l with
  | nil=>rfl
  | cons c r ih =>
   rw[List.map_cons,ih]
   congr 1
   simp[Function.comp,mX]
 exact this _
theorem Hz{s:ByteArray}(h:s.size=0):s=⟨#[]⟩:=by
 apply ByteArray.ext
 exact Array.eq_empty_of_size_eq_zero h
theorem HA(s:ByteArray):(bD s).take s.size=bD s:=List.take_of_length_le (by rw[ik];exact Nat.le_refl _)
theorem KR(s:ByteArray)(x:AV):(List.replicate s.size x).drop s.size=[]:=List.drop_of_length_le (by simp)
theorem AF(s:ByteArray)(H:Y)(hs:s.size≤100000000):D Tryz.prog 175 [.Z (.string s)] H (.ret (.Z (.string s))) H:=by
 refine aD (Nat.le_refl _) (abL (aA ?_))
 simp -implicitDefEqProofs (maxSteps:=99999999) (disch:=omega) only[vu,Tw,va,vg,vs,vh,vk,simprocAttr]
 refine iX (fun h=>?_) (fun h=>?_)
 ·have:=Hz (s:=s) (by omega)
  subst this
  refine zE0 ?_
  exact bL .refl
 have h0:0<s.size:=by omega
 simp -implicitDefEqProofs (maxSteps:=99999999) (disch:=omega) only[vu,List.length_replicate,KR s,HA s,ik s,BT s,va,vg,vs,vh,vk,simprocAttr]
 exact ⟨⟨by omega,by omega,by omega⟩,Nat.le_refl _,by omega,⟨⟨by omega,Nat.le_refl _⟩,⟨s,rfl⟩⟩,bL (by repeat constructor)⟩
theorem EA(s:ByteArray)(H:Y)(hs:s.size≤100000000):D Tryz.prog 118 [.Z (.string s)] H (.ret (.Z (.string s))) H:=by
 refine aD (Nat.le_refl _) (abK (aA ?_))
 simp -implicitDefEqProofs (maxSteps:=99999999) (disch:=omega) only[vu,Tv,va,vg,vs,vh,vk,simprocAttr]
 refine ai (AF s H hs) ?_
 refine zE0 ?_
 exact bL .refl
structure C5(F:Y)(qK:Nat)(xs:List ByteArray)(io:Nat):Prop where
 box:Y.find F qK=some ⟨1,[aX 1 (strs xs) io],true,41⟩
 own:xs≠[]→Y.find F io=bZ 1 9 (strs xs)∧io≠qK
structure xX(F:Y)(qK:Nat)(xs:List ByteArray)(io:Nat)(ys:List ByteArray)(KS:Nat)(F':Y):Prop where
 out:C5 F' qK ys KS
 len:F.length≤F'.length
 at_:ys≠[]→(xs≠[]∧KS=io)∨F.length≤KS
 old:∀i,i<F.length→i≠qK→(xs≠[]→i≠io)→Y.find F' i=Y.find F i
theorem Ue{xs:List ByteArray}(h:xs≠[]):strs xs≠[]:=fun e=>h (by simpa [strs] using e)
theorem xX.none{F:Y}{qK:Nat}{xs:List ByteArray}{io:Nat}(h:C5 F qK xs io):xX F qK xs io xs io F :=
 ⟨h,Nat.le_refl _,fun e=>.inl ⟨e,rfl⟩,fun _ _ _ _=>rfl⟩
theorem xX.trans{F G K:Y}{qK a b c:Nat}{xs ys zs:List ByteArray}(h:xX F qK xs a ys b G)(k:xX G qK ys b zs c K):xX F qK xs a zs c K:=by
 refine ⟨k.out,Nat.le_trans h.len k.len,fun e=>?_,fun i hi h1 h2=>?_⟩
 ·rcases k.at_ e with ⟨e1,e2⟩ | h3
  ·rcases h.at_ e1 with ⟨g1,g2⟩ | g3
   ·exact .inl ⟨g1,e2.trans g2⟩
   ·exact .inr (by omega)
  ·exact .inr (by have:=h.len;omega)
 ·rw[k.old i (by have:=h.len;omega) h1 (fun e=>?_),h.old i hi h1 h2]
  rcases h.at_ e with ⟨g1,g2⟩ | g3
  ·rw[g2];exact h2 g1
  ·omega
theorem C5.cons{F:Y}{qK io:Nat}{xs:List ByteArray}(b:Option aK)(h:C5 F qK xs io):C5 (b::F) qK xs io:=by
 refine ⟨by rw[aj (Y.au h.box)];exact h.box,fun e=>⟨?_,(h.own e).2⟩⟩
 have h1:=(h.own e).1
 rw[bt (Ue e)] at h1 ⊢
 rw[aj (Y.au h1),h1]
theorem xX.cons{F:Y}{qK io:Nat}{xs:List ByteArray}(b:Option aK)(h:C5 F qK xs io):xX F qK xs io xs io (b::F) :=
 ⟨h.cons b,by simp,fun e=>.inl ⟨e,rfl⟩,fun i hi _ _=>aj hi⟩
set_option maxRecDepth 1000000
def AG:List bQ:=[iM 2 3]
def vN:IC:=(.seq (.ops [iM 4 2,iP 5 (.DJ .false (.t 4))]) (.cond (.t 5) (.cH [iM 6 2,iP 7 (.s8 159 (.t 6)),iP 8 (.field 0 2 .true (.t 7)),⟨none,none,(.h (.store 1 (.t 0) (.k aV)))⟩,iS 2 1 8] [[],[0],[1,0],[],[2,1,0,3]]) .skip))
theorem Ya:vj Tryz.prog [] (Tryz.f109.body.getD .skip)=some (3,AG,vN):=by kernel_rfl
def ZG:IC:=(.seq (.ops [iH 1 (.box 4 25 (.t 0)),iH 2 (.alloc aV 102),iH 3 (.alloc (.agg [(.Z (.int .i64 0)),(.Z (.int .i64 0))]) 93)]) (.ops [iP 8 (.mw (.func 109) [] [(.t 2),(.t 3)])]))
def Uf:IC:=(.seq (.ops [iH 9 (.gx .lZ []),iP 10 (.build [(.Z (.pointer none)),(.Z (.map none))] [(1,1,(.t 9))]),iP 11 (.build [(.Z (.pointer none)),(.Z (.map none)),aV,(.Z (.int .i64 0)),(.Z .nilFunc)] [(0,2,(.t 10)),(4,1,(.k (.fn (.func 110) [] [])))]),iH 12 (.box 5 167 (.t 11)),iM 4 12]) (.seq (.ops [iP 5 (xI 1)]) (.seq (.seq (.ops [iP 13 (.af 3 (.t 1)),iH 14 (yD 1 13),iP 15 (xL 14),iP 16 (xI 0)]) (.block 0 (.loop (.seq (.ops [iP 17 (xB .lss 16 15)]) (.seq (.cond (.t 17) .skip (.exit 0)) (.seq (.block 1 (.seq (.ops [iM 18 16,iP 19 (xA 4 14 16),iH 20 (yA 4 19),⟨(some 7),none,(.h (.alloc (.agg [(.Z (.int .u8 0)),(.Z (.string ⟨#[]⟩)),(.Z (.int .i64 0)),aV]) 25))⟩,iM 6 18,iS 4 7 20]) (.seq (.seq (.cH [iM 21 4,iM 22 4,iP 23 (.aP (.t 22)),iP 24 (.af 0 (.t 23)),iH 25 (yA 2 24),iH 26 (yA 4 7),iM 27 6,iH 28 (.dK 1 3 (.Z (.int .i64 0)) 1 [(0,(.t 27))]),iM 29 5] [[],[],[1],[2,1],[3,2,1],[],[],[6],[],[0,4,3,2,1,5,7,6,8]]) (.ops [iH 30 (.call 111 [(.t 21),(.t 25),(.t 26),(.t 28),(.t 29)])])) (.seq (.seq (.cH [iM 31 4,iP 32 (.aP (.t 31)),iP 33 (.af 0 (.t 32)),iP 34 (.af 1 (.t 33)),iH 35 (yD 1 34),iP 36 (.af 1 (.t 7)),iH 37 (yD 1 36),iH 38 (.gx (.ni none (.Z (.pointer none)) .false) [(.t 35),(.t 37)]),iP 39 (.af 3 (.t 7)),iH 40 (yD 1 39),iP 41 (.fC 4 (.t 40) (kI 0)),iP 42 (.af 3 (.t 41)),iH 43 (yD 1 42),iP 44 (xL 43),iP 45 (.aP (.t 38)),iP 46 (.af 3 (.t 45))] [[],[0],[1,0],[2,1,0],[3,2,1,0],[],[5],[4,3,2,1,0,6,5],[],[8],[9,8],[10,9,8],[11,10,9,8],[12,11,10,9,8],[7,4,3,2,1,0,6,5,8,9,10,11,12,13],[14,7,4,3,2,1,0,6,5,8,9,10,11,12,13],[15,14,7,4,3,2,1,0,6,5,8,9,10,11,12,13]]) (.ops [iS 1 46 44])) (.ops [iM 47 5,iH 48 (yA 4 7),iH 49 (.call 112 [(.t 48)]),iP 50 (xB .add 47 49),iM 5 50]))))) (.ops [iP 51 (.az .add (.t 16) (kI 1)),iM 16 51]))))))) (.seq (.ops [iM 52 4,iP 53 (.aP (.t 52)),iP 54 (.af 2 (.t 53)),⟨none,none,(.h (.store 1 (.t 54) (.k aV)))⟩]) (.seq (.ops [iM 55 4,iH 56 (.gx .lZ []),iP 57 (.build [(.Z (.pointer none)),(.Z (.map none))] [(1,1,(.t 56))]),iH 58 (yA 4 1),iH 59 (.call 113 [(.t 55),(.t 57),(.t 58),(.k aV)])]) (.seq (.seq (.cH [iM 60 4,iP 61 (.aP (.t 60)),iP 62 (.af 2 (.t 61)),iH 63 (yD 1 62),iH 64 (yA 2 3),iS 1 2 63] [[],[0],[1,0],[2,1,0],[],[3,2,1,0],[4,5,3,2,1,0]]) (.ops [iS 2 3 64])) .ret))))))
theorem adU{args:List AV}{H:Y}{Kr:cr→Y→Prop}(h:ES Tryz.prog ZG (CC Tryz.prog 109 8 Uf (wO Tryz.prog 3 AG vN 9 [(.c 2 1 .false),(.c 3 2 .true)] Kr) (pZ [(.c 2 1 .false),(.c 3 2 .true)] Kr)) (args++List.replicate (65 - args.length) (.aG [])) H):DK Tryz.prog 58 args H Kr :=
 Er (fn:=Tryz.f58) (c:=Tryz.f58.body.getD .skip) (aY:=((List.range 200).map (·+1000))) (SP:=[]) Tryz.func58 (by kernel_rfl) (by kernel_rfl) (by kernel_rfl) (gn:=Tryz.f109) (gc:=Tryz.f109.body.getD .skip) Tryz.func109 (by kernel_rfl) Ya (by kernel_rfl) (by kernel_rfl) h
def Ug:IC:=(.seq (.ops [iH 1 (.box 2 93 (.t 0))]) (.ops [iH 2 (yA 2 1),iP 3 (.build [(.Z (.int .i64 0)),(.Z (.int .i64 0))] [(0,2,(.t 2))]),iP 4 (.xw 159 (.t 3)),⟨none,none,(.h (.bF (.t 4)))⟩]))
theorem abT:Dk Tryz.prog 110 Ug [] 5:=aO (fn:=Tryz.f110) Tryz.func110 (by kernel_rfl) (by kernel_rfl) (by kernel_rfl)
def ZH:IC:=(.seq (.ops [iH 1 (.box 4 25 (.t 0)),iH 2 (.alloc (.agg [(.Z (.int .i64 0)),(.Z (.int .i64 0))]) 93)]) (.seq (.seq (.ops [iP 5 (.af 0 (.t 1)),iH 6 (yD 1 5),iP 7 (.az .neq (.t 6) (.k (.Z (.int .u8 1)))),iM 8 7,gH 9 8 .false (yA 4 1),gH 10 8 .false (.call 40 [(.t 9)]),gP 11 8 .false (xN 10),iP 12 (.pick (.t 8) kT (.t 11))]) (.cond (.t 12) (.seq (.ops [iP 13 (.build [(.Z (.int .i64 0)),(.Z (.int .i64 0))] [(0,1,(kI 4))]),iS 2 2 13]) .ret) .skip)) (.seq (.ops [iH 15 (yA 4 1),iH 16 (.call 58 [(.t 15)]),iM 14 16,iP 17 (.ext (.t 14) 0),iP 18 (.ext (.t 14) 1),iH 4 (.alloc (.agg [(.Z (.int .i64 0)),(.Z (.int .i64 0))]) 93),iM 3 17,iS 2 4 18]) (.seq (.ops [iH 19 (yA 2 4),iS 2 2 19]) .ret))))
theorem adV:Dk Tryz.prog 57 ZH [(.c 2 2 .true)] 20:=aO (fn:=Tryz.f57) Tryz.func57 (by kernel_rfl) (by kernel_rfl) (by kernel_rfl)
def ZI:IC:=(.seq (.ops [iH 1 (.box 4 25 (.t 0)),iP 2 (.mv (.k aV))]) (.seq (.seq (.ops [iH 8 (yA 4 1),iH 9 (.call 57 [(.t 8)]),iP 10 (.field 0 1 .false (.t 9)),iP 11 (.az .neq (.t 10) (kI 0))]) (.cond (.t 11) (.seq (.ops [iP 2 (.mv (.k aV))]) .ret) .skip)) (.seq (.ops [iP 3 (.mv (.k aV))]) (.seq (.ops [iH 13 (yA 4 1),iH 14 (.call 58 [(.t 13)]),iM 12 14,iP 15 (.ext (.t 12) 0),iP 16 (.ext (.t 12) 1),iH 5 (.alloc (.agg [(.Z (.int .i64 0)),(.Z (.int .i64 0))]) 93),iM 4 15,iS 2 5 16]) (.seq (.seq (.ops [iM 17 4,iP 18 (xL 17),iP 19 (xI 0)]) (.block 0 (.loop (.seq (.ops [iP 20 (xB .lss 19 18)]) (.seq (.cond (.t 20) .skip (.exit 0)) (.seq (.block 1 (.seq (.ops [iP 21 (xA 1 17 19),iH 22 (yD 1 21),iM 7 22]) (.ops [iM 23 3,iM 24 7,iP 25 (.aP (.t 24)),iP 26 (.af 0 (.t 25)),iH 27 (yA 3 26),⟨(some 28),none,(.h (.dK 3 47 (.agg [aV,(.Z (.string ⟨#[]⟩)),aV]) 1 [(0,(.t 27))]))⟩,iH 29 (.dD 3 47 (.t 23) (.t 28)),iM 3 29]))) (.ops [iP 30 (.az .add (.t 19) (kI 1)),iM 19 30]))))))) (.seq (.ops [iM 31 3,iM 2 31]) .ret))))))
theorem adW:Dk Tryz.prog 23 ZI [(.t 2)] 32:=aO (fn:=Tryz.f23) Tryz.func23 (by kernel_rfl) (by kernel_rfl) (by kernel_rfl)
def Uh:IC:=(.seq (.ops [iH 4 (.box 1 160 (.t 0)),iH 5 (.box 2 164 (.t 1)),iH 6 (.box 4 25 (.t 2)),iH 7 (.box 1 30 (.t 3))]) (.seq (.ops [iH 12 (yD 1 4),iP 13 (.aP (.t 12)),iP 14 (.af 3 (.t 13)),iH 15 (yD 1 14),iH 8 (.alloc (.Z (.int .i64 0)) 3),iS 1 8 15]) (.seq (.ops [iH 16 (yD 1 4),iP 17 (.aP (.t 16)),iP 18 (.af 3 (.t 17)),iH 19 (yD 1 18),iP 20 (.az .add (.t 19) (kI 1)),iP 21 (.aP (.t 16)),iP 22 (.af 3 (.t 21)),iS 1 22 20]) (.seq (.ops [iP 9 (.mv (.k (.Z .nilFunc)))]) (.seq (.seq (.ops [iP 23 (.af 0 (.t 6)),iH 24 (yD 1 23)]) (.block 0 (.seq (.ops [iP 26 (.az .eql (.t 24) (.k (.Z (.int .u8 2)))),iM 25 26]) (.cond (.t 25) (.seq (.seq (.cH [iH 27 (yD 1 4),iH 28 (yD 1 4),iP 29 (.aP (.t 28)),iP 30 (.af 2 (.t 29)),iH 31 (yD 1 30),iH 32 (yD 1 4),iP 33 (.aP (.t 32)),iP 34 (.af 0 (.t 33)),iP 35 (.af 1 (.t 34)),iH 36 (yD 1 35),iP 37 (.af 1 (.t 6)),iH 38 (yD 1 37),iH 39 (.gx (.ni none (.Z (.pointer none)) .false) [(.t 36),(.t 38)]),iH 40 (.dK 1 105 (.Z (.pointer none)) 1 [(0,(.t 39))]),iH 41 (.dD 1 105 (.t 31) (.t 40)),iP 42 (.aP (.t 27)),iP 43 (.af 2 (.t 42))] [[],[],[1],[2,1],[3,2,1],[],[5],[6,5],[7,6,5],[8,7,6,5],[],[10],[9,8,7,6,5,11,10],[12,9,8,7,6,5,11,10],[4,3,2,1,13,12,9,8,7,6,5,11,10],[0,1,2,3,4,5,6,7,8,9,10,11,12,13,14],[15,0,1,2,3,4,5,6,7,8,9,10,11,12,13,14],[16,15,0,1,2,3,4,5,6,7,8,9,10,11,12,13,14]]) (.ops [iS 1 43 41])) (.ops [iH 44 (yA 2 5),iH 45 (.call 172 [(.t 44)]),iS 2 5 45])) (.seq (.ops [iP 47 (.az .eql (.t 24) (.k (.Z (.int .u8 4)))),iM 46 47]) (.cond (.t 46) (.ops [iH 48 (yD 1 4),iH 49 (yA 2 5),iH 50 (yA 4 6),iH 51 (yD 1 7),iH 52 (yD 1 8),iH 53 (.call 111 [(.t 48),(.t 49),(.t 50),(.t 51),(.t 52)])]) (.seq (.ops [iP 55 (.az .eql (.t 24) (.k (.Z (.int .u8 5)))),iM 54 55]) (.cond (.t 54) (.ops [iH 56 (yA 2 5),iH 57 (.call 172 [(.t 56)]),iS 2 5 57]) (.seq (.ops [iP 59 (.az .eql (.t 24) (.k (.Z (.int .u8 6)))),iM 58 59]) (.cond (.t 58) (.seq (.seq (.ops [iP 60 (.af 1 (.t 5)),iH 61 (yD 1 60),iP 62 (.af 1 (.t 6)),iH 63 (yD 1 62),iH 64 (.gx (.ni none (.Z (.pointer none)) .false) [(.t 61),(.t 63)]),iH 65 (.gx (.n8 .false) [(.t 64)])]) (.cond (.t 65) (.ops [iH 66 (yD 1 4),iH 67 (yD 1 8),iH 68 (.call 169 [(.t 66),(kI 110),(.t 67)])]) .skip)) (.ops [iP 69 (.mw (.func 173) [] [(.t 4),(.t 5),(.t 6),(.t 7),(.t 8)]),iM 9 69])) (.seq (.ops [iP 71 (.az .eql (.t 24) (.k (.Z (.int .u8 22)))),iM 70 71]) (.cond (.t 70) (.ops [iH 72 (yD 1 4),iH 73 (yA 2 5),iH 74 (yA 4 6),iH 75 (yD 1 7),iH 76 (yD 1 8),iH 77 (.call 174 [(.t 72),(.t 73),(.t 74),(.t 75),(.t 76)])]) (.seq (.ops [iP 79 (.az .eql (.t 24) (.k (.Z (.int .u8 25)))),iM 78 79]) (.cond (.t 78) (.seq (.cH [iH 80 (yD 1 4),iH 81 (yD 1 4),iP 82 (.aP (.t 81)),iP 83 (.af 0 (.t 82)),iH 84 (yA 2 83),iH 85 (yA 4 6),iH 86 (yD 1 7),iH 87 (yD 1 8)] [[],[],[1],[2,1],[3,2,1],[],[],[],[0,4,3,2,1,5,6,7]]) (.ops [iH 88 (.call 174 [(.t 80),(.t 84),(.t 85),(.t 86),(.t 87)])])) .skip)))))))))))))) (.seq (.seq (.ops [iP 89 (.af 3 (.t 6)),iH 90 (yD 1 89),iP 91 (xL 90),iP 92 (xI 0)]) (.block 1 (.loop (.seq (.ops [iP 93 (xB .lss 92 91)]) (.seq (.cond (.t 93) .skip (.exit 1)) (.seq (.block 2 (.seq (.ops [iM 94 92,iP 95 (xA 4 90 92),iH 96 (yA 4 95),⟨(some 11),none,(.h (.alloc (.agg [(.Z (.int .u8 0)),(.Z (.string ⟨#[]⟩)),(.Z (.int .i64 0)),aV]) 25))⟩,iM 10 94,iS 4 11 96]) (.seq (.cH [iH 97 (yD 1 4),iH 98 (yA 2 5),iH 99 (yA 4 11),iH 100 (yD 1 7),iH 101 (yD 1 7),iP 102 (xL 101),iH 103 (yD 1 7),iP 104 (xL 103),iP 105 (.qE 1 (.t 100) none (some (.t 102)) (some (.t 104))),iM 106 10,iH 107 (.dK 1 3 (.Z (.int .i64 0)) 1 [(0,(.t 106))]),iH 108 (.dD 1 3 (.t 105) (.t 107))] [[],[],[],[],[],[4],[],[6],[3,5,4,7,6],[],[9],[8,3,5,4,7,6,10,9],[0,1,2,11,8,3,5,4,7,6,10,9]]) (.ops [iH 109 (.call 113 [(.t 97),(.t 98),(.t 99),(.t 108)])])))) (.ops [iP 110 (.az .add (.t 92) (kI 1)),iM 92 110]))))))) (.seq (.ops [iM 111 9,iP 112 (.qN .false (.t 111))]) (.cond (.t 112) (.ops [iM 113 9,iH 114 (.bM (.t 113) [])]) .skip))))))))
theorem abU:Dk Tryz.prog 113 Uh [] 115:=fun h=>cR (fn:=Tryz.f113) (c:=Tryz.f113.body.getD .skip) (aY:=(List.range 200).map (·+1000)) Tryz.func113 (by kernel_rfl) (by kernel_rfl) (by kernel_rfl) h
def Ui:IC:=(.ops [iH 5 (yD 1 0),iH 6 (yA 2 1),iH 7 (yA 4 2),iH 8 (yD 1 3),iH 9 (yD 1 4),iH 10 (.call 111 [(.t 5),(.t 6),(.t 7),(.t 8),(.t 9)])])
theorem abV:Dk Tryz.prog 173 Ui [] 11:=aO (fn:=Tryz.f173) Tryz.func173 (by kernel_rfl) (by kernel_rfl) (by kernel_rfl)
def Uj:IC:=(.seq (.ops [iH 6 (.box 2 164 (.t 1)),iH 7 (.box 4 25 (.t 2))]) (.seq (.seq (.ops [iP 11 (.af 1 (.t 6)),iH 12 (yD 1 11),iP 13 (.af 1 (.t 7)),iH 14 (yD 1 13),iH 15 (.gx (.ni none (.Z (.pointer none)) .false) [(.t 12),(.t 14)]),iH 16 (.gx (.n8 .false) [(.t 15)])]) (.cond (.t 16) (.seq (.ops [iM 17 0,iM 18 4,iH 19 (.call 169 [(.t 17),(kI 110),(.t 18)])]) .ret) .skip)) (.seq (.cH [iM 20 3,iH 21 (.call 170 [(.t 20)]),iP 22 (.af 1 (.t 7)),iH 23 (yD 1 22),iH 24 (.call 118 [(.t 23)]),⟨(some 25),none,(.p (.build [aV,(.Z (.string ⟨#[]⟩)),aV] [(0,1,(.t 21)),(1,1,(.t 24))]))⟩,⟨(some 26),none,(.p (.build [aV,(.Z (.string ⟨#[]⟩)),aV,(.Z (.int .i64 0))] [(0,3,(.t 25))]))⟩,iH 27 (.box 4 107 (.t 26)),iM 10 27] [[],[0],[],[2],[3,2,1,0],[1,0,4,3,2],[5,1,0,4,3,2],[6,5,1,0,4,3,2],[7,6,5,1,0,4,3,2]]) (.seq (.ops [iP 28 (.af 1 (.t 6)),iH 29 (yD 1 28),iP 30 (.af 1 (.t 7)),iH 31 (yD 1 30),iM 32 10,⟨none,none,(.h (.gx (.eI none) [(.t 29),(.t 31),(.t 32)]))⟩]) (.ops [iM 33 0,iM 34 0,iP 35 (.aP (.t 34)),iP 36 (.af 2 (.t 35)),iH 37 (yD 1 36),iM 38 10,iH 39 (.dK 1 105 (.Z (.pointer none)) 1 [(0,(.t 38))]),iH 40 (.dD 1 105 (.t 37) (.t 39)),iP 41 (.aP (.t 33)),iP 42 (.af 2 (.t 41)),iS 1 42 40])))))
theorem abW:Dk Tryz.prog 111 Uj [] 43:=aO (fn:=Tryz.f111) Tryz.func111 (by kernel_rfl) (by kernel_rfl) (by kernel_rfl)
def Uk:IC:=(.seq (.ops [iH 6 (.box 2 164 (.t 1)),iH 7 (.box 4 25 (.t 2))]) (.seq (.ops [iH 11 (yA 2 6),iP 12 (.af 1 (.t 7)),iH 13 (yD 1 12),iH 14 (yC 191 11 13),iM 10 14]) (.block 0 (.seq (.ops [iM 29 10,iH 30 (.gx (.n8 .true) [(.t 29)]),iM 28 30]) (.cond (.t 28) (.ops [iM 31 0,iM 32 4,iH 33 (.call 169 [(.t 31),(kI 111),(.t 32)])]) (.seq (.cH [iP 35 (.af 0 (.t 7)),iH 36 (yD 1 35),iP 37 (.az .eql (.t 36) (.k (.Z (.int .u8 25)))),iM 38 37,gM 39 38 .true 10,gP 40 38 .true (.aP (.t 39)),gP 41 38 .true (.af 3 (.t 40)),gH 42 38 .true (yD 1 41),gP 43 38 .true (.af 3 (.t 7)),gH 44 38 .true (yD 1 43),gP 45 38 .true (xL 44),gP 46 38 .true (xB .neq 42 45),iP 47 (.pick (.t 38) (.t 46) kF),iM 34 47] [[],[0],[1,0],[2,1,0],[3,2,1,0],[4,3,2,1,0],[5,4,3,2,1,0],[6,5,4,3,2,1,0],[3,2,1,0],[8,3,2,1,0],[9,8,3,2,1,0],[7,6,5,4,3,2,1,0,10,9,8],[3,2,1,0,11,7,6,5,4,10,9,8],[12,3,2,1,0,11,7,6,5,4,10,9,8]]) (.cond (.t 34) (.ops [iM 48 0,iM 49 4,iH 50 (.call 169 [(.t 48),(kI 112),(.t 49)])]) (.cH [iM 15 10,iM 16 10,iP 17 (.aP (.t 16)),iP 18 (.af 0 (.t 17)),iP 19 (.af 2 (.t 18)),iH 20 (yD 1 19),iM 21 3,iH 22 (.call 170 [(.t 21)]),iH 23 (.dK 1 30 aV 1 [(0,(.t 22))]),iH 24 (.dD 1 30 (.t 20) (.t 23)),iP 25 (.aP (.t 15)),iP 26 (.af 0 (.t 25)),iP 27 (.af 2 (.t 26)),iS 1 27 24] [[],[],[1],[2,1],[3,2,1],[4,3,2,1],[],[6],[7,6],[5,4,3,2,1,8,7,6],[0,1,2,3,4,5,6,7,8,9],[10,0,1,2,3,4,5,6,7,8,9],[11,10,0,1,2,3,4,5,6,7,8,9],[12,11,10,0,1,2,3,4,5,6,7,8,9]]))))))))
theorem abX:Dk Tryz.prog 174 Uk [] 51:=aO (fn:=Tryz.f174) Tryz.func174 (by kernel_rfl) (by kernel_rfl) (by kernel_rfl)
def Ul:IC:=(.ops [iM 6 0,iP 7 (.aP (.t 6)),iP 8 (.af 4 (.t 7)),iH 9 (yD 1 8),iM 10 1,iM 11 2,iP 12 (.build [(.Z (.int .i64 0)),(.Z (.int .i64 0))] [(0,1,(.t 10)),(1,1,(.t 11))]),iH 13 (.bM (.t 9) [(.t 12)])])
theorem abY:Dk Tryz.prog 169 Ul [] 14:=aO (fn:=Tryz.f169) Tryz.func169 (by kernel_rfl) (by kernel_rfl) (by kernel_rfl)
def KT:IC:=(.seq (.ops [iH 2 (.box 2 164 (.t 0)),iP 4 (.mv (.k (.Z (.pointer none))))]) (.seq (.seq (.ops [iP 6 (.af 1 (.t 2)),iH 7 (yD 1 6),iM 8 1,iH 9 (.gx (.ni none (.Z (.pointer none)) .false) [(.t 7),(.t 8)]),iM 5 9]) (.seq (.ops [iM 10 5,iH 11 (.gx (.n8 .false) [(.t 10)]),iM 12 11,gP 13 12 .false (.af 0 (.t 2)),gH 14 12 .false (yD 1 13),gH 15 12 .false (.gx (.n8 .true) [(.t 14)]),iP 16 (.pick (.t 12) kT (.t 15))]) (.cond (.t 16) (.seq (.ops [iM 17 5,iM 4 17]) .ret) .skip))) (.seq (.ops [iP 18 (.af 0 (.t 2)),iH 19 (yD 1 18),iP 20 (.aP (.t 19)),iP 21 (.af 0 (.t 20)),iH 22 (yA 2 21),iM 23 1,iH 24 (yC 191 22 23),iM 4 24]) .ret)))
theorem Um:Dk Tryz.prog 191 KT [(.t 4)] 25:=aO (fn:=Tryz.f191) Tryz.func191 (by kernel_rfl) (by kernel_rfl) (by kernel_rfl)
def Un:IC:=(.seq (.ops [iH 1 (.box 2 164 (.t 0)),iH 2 (.alloc (.agg [(.Z (.pointer none)),(.Z (.map none))]) 164)]) (.seq (.ops [iH 3 (yA 2 1),iP 4 (.build [(.Z (.pointer none)),(.Z (.map none))] [(0,2,(.t 3))]),iH 5 (.box 2 275 (.t 4)),iH 6 (.gx .lZ []),iP 7 (.build [(.Z (.pointer none)),(.Z (.map none))] [(0,1,(.t 5)),(1,1,(.t 6))]),iS 2 2 7]) .ret))
theorem abZ:Dk Tryz.prog 172 Un [(.c 2 2 .true)] 8:=aO (fn:=Tryz.f172) Tryz.func172 (by kernel_rfl) (by kernel_rfl) (by kernel_rfl)
def ZJ:IC:=(.seq (.ops [iP 4 (xI 0)]) (.seq (.ops [iM 5 0,iP 6 (.az .add (.t 5) (kI 7)),iP 7 (.az .mul (kI 1000003) (.t 6)),iM 8 1,iP 9 (xB .add 7 8),iM 4 9]) .ret))
theorem adX:Dk Tryz.prog 39 ZJ [(.t 4)] 10:=aO (fn:=Tryz.f39) Tryz.func39 (by kernel_rfl) (by kernel_rfl) (by kernel_rfl)
set_option maxRecDepth 100000
def oO(k i:Int):Int:=IntKind.i64.wrap (IntKind.i64.wrap (1000003*IntKind.i64.wrap (k+7))+i)
theorem Yb(k i:Int)(H:Y):D Tryz.prog 39 [.Z (.int .i64 k),.Z (.int .i64 i)] H (.ret (.Z (.int .i64 (oO k i)))) H:=by
 refine aD (Nat.le_refl _) (adX (aA ?_))
 unfold oO
 simp -implicitDefEqProofs (maxSteps:=99999999) only[ZJ,va,vs,vh,↓reduceIte]
 exact eo.refl _ _ _
set_option maxRecDepth 1000000
def ZK:IC:=(.seq (.ops [iP 4 (.mv kF)]) (.seq (.seq (.ops [iM 6 0,iP 7 (xL 6),iM 8 1,iP 9 (xL 8),iP 10 (xB .neq 7 9)]) (.cond (.t 10) (.seq (.ops [iP 4 (.mv kF)]) .ret) .skip)) (.seq (.seq (.ops [iP 5 (xI 0)]) (.block 0 (.loop (.seq (.seq (.ops [iM 11 5,iM 12 0,iP 13 (xL 12),iP 14 (xB .lss 11 13)]) (.cond (.t 14) .skip (.exit 0))) (.seq (.block 1 (.seq (.cH [iM 17 0,iM 18 5,iP 19 (xA 1 17 18),iH 20 (yD 1 19),iM 21 1,iM 22 5,iP 23 (xA 1 21 22),iH 24 (yD 1 23),iP 25 (xB .neq 20 24)] [[],[],[0,1],[2,0,1],[],[],[4,5],[6,4,5],[3,2,0,1,7,6,4,5]]) (.cond (.t 25) (.seq (.ops [iP 4 (.mv kF)]) .ret) .skip))) (.ops [iM 15 5,iP 16 (.az .add (.t 15) (kI 1)),iM 5 16])))))) (.seq (.ops [iP 4 (.mv kT)]) .ret))))
theorem adY:Dk Tryz.prog 26 ZK [(.t 4)] 26:=aO (fn:=Tryz.f26) Tryz.func26 (by kernel_rfl) (by kernel_rfl) (by kernel_rfl)
set_option maxRecDepth 100000
def aI(l:List Int):List AV:=l.map fun i=>.Z (.int .i64 i)
theorem aQ(l:List Int):(aI l).length=l.length:=by simp[aI]
theorem PF:aI []=[]:=rfl
theorem AH(s:Int)(l:List Int):aI (s::l) = .Z (.int .i64 s)::aI l:=rfl
def px(xs:List Int)(k:Nat):Int:=xs.getD k 0
theorem HB{xs:List Int}{k:Nat}(h:k<xs.length):px xs k=xs[k]:=by simp[px,List.getD,h]
theorem mU{l:List Int}{k:Nat}(h:k<l.length):(aI l).getD k .top = .Z (.int .i64 (px l k)):=by
 simp[aI,px,List.getD,h]
theorem C6{xs ys:List Int}(hl:xs.length=ys.length)(h:∀i,i<xs.length→px xs i=px ys i):xs=ys:=by
 apply List.ext_getElem hl
 intro i h1 h2
 have:=h i h1
 rwa [HB h1,HB h2] at this
theorem py{H:Y}{n:Nat}{src:List Nat}:∀{l:List Int},de H n src (aI l) (aI l)
 | []=>.nil
 | _::_=>.cons (.same trivial) py
theorem AJ{H:Y}{l:List Int}{r:Option (List AV)}:View H (.an 1 (aI l) r) (.an 1 (aI l) none):=.an ct.SU
theorem ot(a b:List Int)(ra rb:Option (List AV))(H:Y)(hl:a.length≤100000000):D Tryz.prog 26 [.an 1 (aI a) ra,.an 1 (aI b) rb] H (.ret (.Z (.bool (decide (a=b))))) H:=by
 refine aD (Nat.le_refl _) (adY (aA ?_))
 simp -implicitDefEqProofs (maxSteps:=99999999) (disch:=omega) only[aQ,ZK,va,vg,vs,vh,vk,simprocAttr]
 refine iX (fun h=>?_) (fun h=>?_)
 ·have hne:¬a=b:=fun e=>by simp[e] at h
  refine zD2 @aQ hne ?_
  exact bL .refl
 have dW:a.length=b.length:=by omega
 refine Pb @aQ ?_
 refine zY (fun ts H'=>H'=H∧∃k:Nat,(k≤a.length∧∀j,j<k→px a j=px b j)∧Fr [some (.an 1 (aI a) ra),some (.an 1 (aI b) rb),none,none,some (.Z (.bool false)),some (.Z (.int .i64 k)),none,none,none,none,none,none,none,none,none,none,none,none,none,none,none,none,none,none,none,none] ts) (fun ts _=>a.length - (aU (ts.getD 5 .top)).toNat) ?_ ?_
 ·exact ⟨rfl,0,⟨Nat.zero_le _,fun j h=>absurd h (Nat.not_lt_zero _)⟩,by simp[Fr]⟩
 rintro ts _ ⟨rfl,k,⟨hk,hp⟩,bx⟩
 obtain ⟨js,rfl⟩:=bx.opened
 clear bx
 simp -implicitDefEqProofs (maxSteps:=99999999) (disch:=omega) only[aQ,mk,va,vg,vs,vh,vk,simprocAttr]
 refine iX (fun h=>?_) (fun h=>?_)
 ·have h1:k<a.length:=by omega
  have h2:k<b.length:=by omega
  simp -implicitDefEqProofs (maxSteps:=99999999) (disch:=omega) only[aQ,mU h1,mU h2,va,vg,vs,vh,vk,simprocAttr]
  refine ⟨by omega,by omega,iX (fun h=>?_) (fun h=>?_)⟩
  ·have hne:¬a=b:=fun e=>by simp[e] at h
   refine zD2 @aQ hne ?_
   exact bL .refl
  ·refine Pb @aQ ?_
   refine ⟨⟨k+1,⟨by omega,fun j hj=>?_⟩,by simp[Fr]⟩,by omega⟩
   rcases Nat.lt_succ_iff_lt_or_eq.1 hj with h' | rfl
   ·exact hp j h'
   ·exact Classical.not_not.1 h
 ·have hab:a=b:=C6 dW (fun i hi=>hp i (by omega))
  refine zD2 @aQ hab ?_
  exact bL .refl
set_option maxRecDepth 1000000
def ZL:IC:=(.seq (.ops [iP 4 (.mv kF)]) (.seq (.seq (.ops [iM 6 0,iP 7 (xL 6),iM 8 1,iP 9 (xL 8),iP 10 (xB .neq 7 9)]) (.cond (.t 10) (.seq (.ops [iP 4 (.mv kF)]) .ret) .skip)) (.seq (.seq (.ops [iM 11 0,iP 12 (xL 11),iP 13 (xI 0)]) (.block 0 (.loop (.seq (.ops [iP 14 (xB .lss 13 12)]) (.seq (.cond (.t 14) .skip (.exit 0)) (.seq (.block 1 (.seq (.ops [iM 15 13,iM 5 15]) (.seq (.cH [iM 16 0,iM 17 5,iP 18 (xA 1 16 17),iH 19 (yD 1 18),iM 20 1,iM 21 5,iP 22 (xA 1 20 21),iH 23 (yD 1 22),iP 24 (xB .neq 19 23)] [[],[],[0,1],[2,0,1],[],[],[4,5],[6,4,5],[3,2,0,1,7,6,4,5]]) (.cond (.t 24) (.seq (.ops [iP 4 (.mv kF)]) .ret) .skip)))) (.ops [iP 25 (.az .add (.t 13) (kI 1)),iM 13 25]))))))) (.seq (.ops [iP 4 (.mv kT)]) .ret))))
theorem adZ:Dk Tryz.prog 31 ZL [(.t 4)] 26:=aO (fn:=Tryz.f31) Tryz.func31 (by kernel_rfl) (by kernel_rfl) (by kernel_rfl)
def KU:IC:=(.seq (.ops [iP 2 (.mv (.k aV))]) (.seq (.seq (.ops [iM 3 0,iP 4 (.uG .true (.t 3))]) (.cond (.t 4) (.seq (.ops [iP 2 (.mv (.k aV))]) .ret) .skip)) (.seq (.ops [iH 5 (.dK 1 3 (.Z (.int .i64 0)) 0 []),iM 6 0,iH 7 (.dD 1 3 (.t 5) (.t 6)),iM 2 7]) .ret)))
theorem ab0:Dk Tryz.prog 170 KU [(.t 2)] 8:=aO (fn:=Tryz.f170) Tryz.func170 (by kernel_rfl) (by kernel_rfl) (by kernel_rfl)
set_option maxRecDepth 100000
theorem sL(a b:List Int)(ra rb:Option (List AV))(H:Y)(hl:a.length≤100000000):D Tryz.prog 31 [.an 1 (aI a) ra,.an 1 (aI b) rb] H (.ret (.Z (.bool (decide (a=b))))) H:=by
 refine aD (Nat.le_refl _) (adZ (aA ?_))
 simp -implicitDefEqProofs (maxSteps:=99999999) (disch:=omega) only[ZL,aQ,va,vg,vs,vh,vk,simprocAttr]
 refine iX (fun h=>?_) (fun h=>?_)
 ·have hne:¬a=b:=fun e=>by simp[e] at h
  refine Pb hne ?_
  exact bL .refl
 have dW:a.length=b.length:=by omega
 refine Pb @aQ ?_
 refine zY (fun ts H'=>H'=H∧∃k:Nat,(k≤a.length∧∀j,j<k→px a j=px b j)∧Fr [some (.an 1 (aI a) ra),some (.an 1 (aI b) rb),none,none,some (.Z (.bool false)),none,none,none,none,none,none,none,some (.Z (.int .i64 a.length)),some (.Z (.int .i64 k)),none,none,none,none,none,none,none,none,none,none,none,none] ts) (fun ts _=>a.length - (aU (ts.getD 13 .top)).toNat) ?_ ?_
 ·exact ⟨rfl,0,⟨Nat.zero_le _,fun j h=>absurd h (Nat.not_lt_zero _)⟩,by simp[Fr]⟩
 rintro ts _ ⟨rfl,k,⟨hk,hp⟩,bx⟩
 obtain ⟨js,rfl⟩:=bx.opened
 clear bx
 simp -implicitDefEqProofs (maxSteps:=99999999) (disch:=omega) only[mk,va,vg,vs,vh,vk,simprocAttr]
 refine iX (fun h=>?_) (fun h=>?_)
 ·have h1:k<a.length:=by omega
  have h2:k<b.length:=by omega
  simp -implicitDefEqProofs (maxSteps:=99999999) (disch:=omega) only[mU h1,mU h2,aQ,va,vg,vs,vh,vk,simprocAttr]
  refine ⟨by omega,by omega,iX (fun h=>?_) (fun h=>?_)⟩
  ·have hne:¬a=b:=fun e=>by simp[e] at h
   refine Pb hne ?_
   exact bL .refl
  ·refine zD0 ?_
   refine ⟨⟨k+1,⟨by omega,fun j hj=>?_⟩,by simp[Fr]⟩,by omega⟩
   rcases Nat.lt_succ_iff_lt_or_eq.1 hj with h' | rfl
   ·exact hp j h'
   ·exact Classical.not_not.1 h
 ·have hab:a=b:=C6 dW (fun i hi=>hp i (by omega))
  refine Pb hab ?_
  exact bL .refl
def bp(B:List Nat)(j:Nat):AV:=.ptr 4 (B.getD j 0) 0 0
def jA:AV:=.Z (.pointer none)
def dG(a:AV)(m:Nat):AV:=.agg [a,.ptr 0 m 0 0]
def qA(s:AV):aK:=⟨2,[s],true,275⟩
def iL(B:List Nat)(f:bc):aK:=⟨0,mE (bp B) f,true,0⟩
def jo(n:Nat)(f:bc):Prop:=∀p∈f,p.2<n
def eQ(B:List Nat)(H:Y):List bc→AV→List Nat→Prop
 | [],_,_=>False
 | [f],s,ms=>∃m,ms=[m]∧Y.find H m=some (iL B f)∧s=dG jA m
 | f::g::r,s,ms=>∃m qL a s',ms=m::qL∧Y.find H m=some (iL B f)∧s=dG (.ptr 2 a 0 0) m∧Y.find H a=some (qA s')∧eQ B H (g::r) s' qL
theorem eQ.keep{B:List Nat}{H G:Y}:∀{env:List bc}{s:AV}{ms:List Nat},eQ B H env s ms→(∀id b,Y.find H id=some b→((id∈ms∧b.k=0)∨(b.ty=275∧b.k=2))→Y.find G id=some b)→eQ B G env s ms
 | [],_,_,h,_=>h.elim
 | [f],s,ms,h,k=>by
  obtain ⟨m,rfl,h1,h2⟩:=h
  exact ⟨m,rfl,k m _ h1 (.inl ⟨by simp,rfl⟩),h2⟩
 | f::g::r,s,ms,h,k=>by
  obtain ⟨m,qL,a,s',rfl,h1,h2,h3,h4⟩:=h
  exact ⟨m,qL,a,s',rfl,k m _ h1 (.inl ⟨by simp,rfl⟩),h2,k a _ h3 (.inr ⟨rfl,rfl⟩),h4.keep fun id b hb hc=>k id b hb (hc.imp (fun h=>⟨by simp[h.1],h.2⟩) (fun h=>h))⟩
theorem eQ.form{B:List Nat}{H:Y}{env:List bc}{s:AV}{ms:List Nat}(h:eQ B H env s ms):∃a m qL,s=dG a m∧ms=m::qL∧Y.find H m=some (iL B (env.headD [])):=by
 match env,h with
 | [f],h=>obtain ⟨m,e,h1,h2⟩:=h;exact ⟨_,m,_,h2,e,h1⟩
 | f::g::r,h=>obtain ⟨m,qL,a,s',e,h1,h2,h3,h4⟩:=h;exact ⟨_,m,_,h2,e,h1⟩
theorem pz{B:List Nat}{f:bc}{x:ByteArray}:lM (.string x) jA (mE (bp B) f)=match cm x f with
  | some j=>bp B j
  | none=>jA:=by
 rw[G3]
 cases cm x f<;>rfl
theorem w8(B:List Nat)(f:bc):ez none (mE (bp B) f)=True:=XX (bp B) f
theorem w9(l:List Int)(ro:Option (List AV))(H:Y)(hl:l.length≤100000000):D Tryz.prog 170 [.an 1 (aI l) ro] H (.ret (.an 1 (aI l) none)) H:=by
 refine aD (Nat.le_refl _) (ab0 (aA ?_))
 cases l with
 | nil =>
  simp -implicitDefEqProofs (maxSteps:=99999999) (disch:=omega) only[KU,PF,va,vg,vs,vh,vk,simprocAttr]
  refine ⟨?_,?_⟩
  ·refine zD0 ?_
   exact da .refl .nil
  ·refine zD0 ?_
   exact da .refl .nil
 | cons x r =>
  simp only[List.length_cons] at hl
  simp -implicitDefEqProofs (maxSteps:=99999999) (disch:=omega) only[KU,AH,aQ,va,vg,vs,vh,vk,simprocAttr]
  refine ⟨by omega,PE (fun i hi=>by rw[aj hi]) (.aE (by unfold cF;rw[if_neg (by omega)];rfl) (aL rfl) rfl (by simp[aQ]) ?_)⟩
  simp only[List.drop_zero]
  rw[List.take_of_length_le (by simp[aQ])]
  exact py (l:=x::r)
def fdV(B:List Nat):Option Nat→AV
 | some j=>bp B j
 | none=>jA
def qg(f:iB):AV:=.dQ 159 (.agg [.Z (.int .i64 f.1),.Z (.int .i64 f.2)])
def eu(bK bo:Nat)(B:List Nat)(ws:WS):aK:=⟨5,[.agg [.Z (.pointer none),.ptr 0 bK 0 0,aX 1 (ws.all.map (bp B)) bo,.Z (.int .i64 ws.at_),.fn (.func 110) [] []]],true,167⟩
def aW(l:List (List Int)):List AV:=l.map fun p=>.an 1 (aI p) none
def gy(u:Nat)(b:Bd):aK:=⟨4,[.agg [.an 1 (aI b.path) none,.Z (.string b.name),aX 1 (aW b.cI) u,.Z (.int .i64 b.many)]],true,107⟩
set_option maxHeartbeats 0 in
theorem C7(s:AV)(hs:s.cells.length=2∧s.isAgg=true)(H:Y):DK Tryz.prog 172 [s] H (fun e H'=>∃v,e = .ret v∧∃a m,v=dG (.ptr 2 a 0 0) m∧(H.length≤a∧H.length≤m)∧Y.find H' a=some (qA s)∧Y.find H' m=some (iL [] [])∧H.length≤H'.length∧∀id,id<H.length→Y.find H' id=Y.find H id):=by
 obtain ⟨c1,c2⟩:=hs
 match s,c1,c2 with
 | .agg [x,y],_,_ =>
  refine abZ (aA ?_)
  simp only[Un,ux]
  refine ae fun L hL=>?_
  refine aZ ?_
  refine hL _ _ ?_
  clear hL
  refine ae fun L hL=>?_
  refine aZ ?_
  refine hL _ _ ?_
  clear hL
  refine aZ ?_
  refine ⟨_,rfl,H.length+2,H.length+3,rfl,⟨by omega,by omega⟩,?_,?_,by omega,fun id hid=>?_⟩
  ·rw[aj (by simp only[List.length_cons];omega),aL (by simp only[List.length_cons])]
   rfl
  ·rw[aL (by simp only[List.length_cons])]
   rfl
  ·rw[aj (by simp;omega),aj (by simp;omega),aj (by simp;omega),aj hid]
theorem AK{H G:Y}{x y:AV}(h:Over H G)(hz:Gz G H.length [] x y):eo H (.bF x) G (.bF y) H:=by
 obtain ⟨A,rfl⟩:=h.split
 exact lh [] (by simp) (by simp) (by simp) (fun id k hid hk=>.inl ⟨hk,by rw[Y.bw hid];exact hk⟩) (fun i s k hs=>by simp at hs) hz
theorem Uo(f:iB)(H:Y):D Tryz.prog 110 [.agg [.Z (.int .i64 f.1),.Z (.int .i64 f.2)]] H (.bF (qg f)) H:=by
 refine aD (Nat.le_refl _) (abT (aA ?_))
 simp only[Ug,ux]
 refine aZ ?_
 exact AK (by repeat constructor) (.dQ (.agg (.cons (.same trivial) (.cons (.same trivial) .nil))))
set_option maxHeartbeats 0 in
theorem vO(f:iB)(wid bK bo:Nat)(B:List Nat)(ws:WS)(H:Y)(hw:Y.find H wid=some (eu bK bo B ws)):D Tryz.prog 169 [.ptr 5 wid 0 0,.Z (.int .i64 f.1),.Z (.int .i64 f.2)] H (.bF (qg f)) H:=by
 have hw':=hw
 unfold eu at hw'
 have hl:=Uo f H
 refine aD (Nat.le_refl _) (abY (aA ?_))
 simp only[Ul,ux]
 refine iz hw' ?_
 refine ⟨rfl,nw hl ?_⟩
 exact AK .refl (.dQ (.agg (.cons (.same trivial) (.cons (.same trivial) .nil))))
set_option maxHeartbeats 0 in
theorem Mw(B:List Nat)(x:ByteArray):∀(env:List bc)(s:AV)(ms:List Nat)(H:Y),eQ B H env s ms→DK Tryz.prog 191 [s,.Z (.string x)] H (fun e H'=>∃v,e = .ret v∧v=fdV B (bU env x)∧H.length≤H'.length∧∀id,id<H.length→Y.find H' id=Y.find H id)
 | [],_,_,_,h=>h.elim
 | [f],s,ms,H,h=>by
  obtain ⟨m,rfl,h1,rfl⟩:=h
  have nU:=Y.au h1
  have iU:=h1
  unfold iL at iU
  have hok:=w8 B f
  have fT:=pz (B:=B) (f:=f) (x:=x)
  unfold jA at fT
  refine Um (aA ?_)
  simp only[KT,ux]
  unfold dG jA
  cases hg:cm x f with
  | some j =>
   have KV:bU [f] x=some j:=by rw[bU];rw[hg]
   rw[KV]
   simp only[hg] at fT
   unfold bp at fT hok iU
   refine ae fun L hL=>?_
   refine aN ?_
   refine hL _ _ ?_
   clear hL
   refine ae fun L hL=>?_
   refine wT iU hok fT ?_
   exact ⟨_,rfl,rfl,by omega,fun id hid=>aj hid⟩
  | none =>
   have KV:bU [f] x=none:=by rw[bU];rw[hg];rfl
   rw[KV]
   simp only[hg] at fT
   unfold bp at fT hok iU
   refine ae fun L hL=>?_
   refine aN ?_
   refine hL _ _ ?_
   clear hL
   refine ae fun L hL=>?_
   refine wT iU hok fT ?_
   exact ⟨_,rfl,rfl,by omega,fun id hid=>aj hid⟩
 | f::g::r,s,ms,H,h=>by
  obtain ⟨m,qL,a,s',rfl,h1,rfl,h3,h4⟩:=h
  have nU:=Y.au h1
  have hal:=Y.au h3
  have iU:=h1
  unfold iL at iU
  have QB:=h3
  unfold qA at QB
  have hok:=w8 B f
  have fT:=pz (B:=B) (f:=f) (x:=x)
  unfold jA at fT
  refine Um (aA ?_)
  simp only[KT,ux]
  unfold dG
  cases hg:cm x f with
  | some j =>
   have KV:bU (f::g::r) x=some j:=by rw[bU];rw[hg]
   rw[KV]
   simp only[hg] at fT
   unfold bp at fT hok iU
   refine ae fun L hL=>?_
   refine aN ?_
   refine hL _ _ ?_
   clear hL
   refine ae fun L hL=>?_
   refine wT iU hok fT ?_
   exact ⟨_,rfl,rfl,by omega,fun id hid=>aj hid⟩
  | none =>
   have KV:bU (f::g::r) x=bU (g::r) x:=by conv=>lhs;rw[bU];simp only[hg]
   rw[KV]
   simp only[hg] at fT
   unfold bp at fT hok iU
   have Ff:∀b,eQ B (b::H) (g::r) s' qL:=fun b=>h4.keep fun id k hk _=>by rw[aj (Y.au hk)];exact hk
   refine ae fun L hL=>?_
   refine aN ?_
   refine hL _ _ ?_
   clear hL
   refine ae fun L hL=>?_
   refine wT iU hok fT ?_
   refine hL _ _ ?_
   clear hL
   obtain ⟨a',m',ms2,rfl,-,-⟩:=h4.form
   unfold dG at QB Ff
   refine ee QB ?_
   refine pY (Mw B x (g::r) _ qL _ (Ff _)) ?_
   rintro v H' hle ⟨rfl,q1,q2⟩
   refine aN ?_
   simp only[List.length_cons] at q1 q2
   exact ⟨_,rfl,rfl,by omega,fun id hid=>by rw[q2 id (by omega),aj hid]⟩
theorem C8{k:ByteArray}{a:Nat}:∀{M:bc}{p:ByteArray×Nat},p∈ep k a M→p=(k,a)∨p∈M
 | [],p,h=>by simp only[ep,List.mem_singleton] at h;exact .inl h
 | q::r,p,h=>by
  simp only[ep] at h
  split at h
  ·rcases List.mem_cons.1 h with h | h
   ·exact .inl h
   ·exact .inr (by simp[h])
  ·rcases List.mem_cons.1 h with h | h
   ·exact .inr (by simp[h])
   ·rcases C8 h with h | h
    ·exact .inl h
    ·exact .inr (by simp[h])
theorem jo.set{n m:Nat}{f:bc}(h:jo n f)(hm:n≤m){k:ByteArray}{a:Nat}(ha:a<m):jo m (ep k a f):=fun p hp=>by
 rcases C8 hp with rfl | h1
 ·exact ha
 ·have:=h p h1;omega
theorem jo.le{n m:Nat}{f:bc}(h:jo n f)(hm:n≤m):jo m f:=fun p hp=>by have:=h p hp;omega
theorem Mx{B C:List Nat}{j:Nat}(h:j<B.length):bp (B++C) j=bp B j:=by unfold bp;rw[List.getD,List.getD,List.getElem?_append_left h]
theorem sM{B C:List Nat}{f:bc}(h:jo B.length f):iL (B++C) f=iL B f:=by
 unfold iL
 congr 1
 unfold mE
 apply List.map_congr_left
 intro p hp
 rw[Mx (h p hp)]
theorem Uq{B C:List Nat}{l:List Nat}(h:∀j∈l,j<B.length):l.map (bp (B++C))=l.map (bp B):=List.map_congr_left fun j hj=>Mx (h j hj)
theorem eQ.ext{B C:List Nat}{H:Y}:∀{env:List bc}{s:AV}{ms:List Nat},eQ B H env s ms→(∀f∈env,jo B.length f)→eQ (B++C) H env s ms
 | [],_,_,h,_=>h.elim
 | [f],s,ms,h,k=>by
  obtain ⟨m,rfl,h1,h2⟩:=h
  exact ⟨m,rfl,by rw[sM (k f (by simp))];exact h1,h2⟩
 | f::g::r,s,ms,h,k=>by
  obtain ⟨m,qL,a,s',rfl,h1,h2,h3,h4⟩:=h
  exact ⟨m,qL,a,s',rfl,by rw[sM (k f (by simp))];exact h1,h2,h3,h4.ext fun x hx=>k x (by simp[hx])⟩
def qh(b:aK):Prop:=b.k≠0∧b.k≠5∧b.ty≠107∧(b.k=1→b.exact=true)
def cT(m:Nat)(H G:Y):Prop:=H.length≤G.length∧∀id b,Y.find H id=some b→(qh b∨(b.k=0∧id≠m))→Y.find G id=some b
theorem cT.refl{m:Nat}{H:Y}:cT m H H:=⟨Nat.le_refl _,fun _ _ h _=>h⟩
theorem cT.trans{m:Nat}{H G K:Y}(h:cT m H G)(k:cT m G K):cT m H K:=⟨Nat.le_trans h.1 k.1,fun id b hb hs=>k.2 id b (h.2 id b hb hs) hs⟩
theorem cT.cons{m:Nat}{H G:Y}(h:cT m H G)(b:Option aK):cT m H (b::G):=⟨by simp only[List.length_cons];have:=h.1;omega,fun id k hk hs=>by
 have:=h.2 id k hk hs
 rw[aj (Y.au this)];exact this⟩
theorem cT.all{m:Nat}{H G:Y}(hl:H.length≤G.length)(h:∀id,id<H.length→Y.find G id=Y.find H id):cT m H G:=⟨hl,fun id b hb _=>by rw[h id (Y.au hb)];exact hb⟩
structure BS(wid bK bo:Nat)(B U:List Nat)(ws:WS)(H:Y):Prop where
 w:Y.find H wid=some (eu bK bo B ws)
 al:ws.all≠[]→Y.find H bo=some ⟨1,ws.all.map (bp B),false,105⟩
 bl:B.length=ws.bs.length
 ul:U.length=ws.bs.length
 bd:∀j,j<ws.bs.length→Y.find H (B.getD j 0)=some (gy (U.getD j 0) (bh ws.bs j))
 us:∀j,j<ws.bs.length→(bh ws.bs j).cI≠[]→Y.find H (U.getD j 0)=some ⟨1,aW (bh ws.bs j).cI,false,30⟩
 nd:∀i j,i<ws.bs.length→j<ws.bs.length→B.getD i 0=B.getD j 0→i=j
 ud:∀i j,i<ws.bs.length→j<ws.bs.length→(bh ws.bs i).cI≠[]→(bh ws.bs j).cI≠[]→U.getD i 0=U.getD j 0→i=j
 ao:∀j∈ws.all,j<ws.bs.length
theorem BS.keep{wid bK bo:Nat}{B U:List Nat}{ws:WS}{H G:Y}(h:BS wid bK bo B U ws H)(k:∀id b,Y.find H id=some b→(b.k=5∨b.k=1∨b.k=4)→Y.find G id=some b):BS wid bK bo B U ws G :=
 ⟨k _ _ h.w (.inl rfl),fun e=>k _ _ (h.al e) (.inr (.inl rfl)),h.bl,h.ul,fun j hj=>k _ _ (h.bd j hj) (.inr (.inr rfl)),fun j hj e=>k _ _ (h.us j hj e) (.inr (.inl rfl)),h.nd,h.ud,h.ao⟩
theorem BS.cons{wid bK bo:Nat}{B U:List Nat}{ws:WS}{H:Y}(h:BS wid bK bo B U ws H)(b:Option aK):BS wid bK bo B U ws (b::H):=h.keep fun id k hk _=>by rw[aj (Y.au hk)];exact hk
theorem eQ.cons{B:List Nat}{H:Y}{env:List bc}{s:AV}{ms:List Nat}(h:eQ B H env s ms)(b:Option aK):eQ B (b::H) env s ms:=h.keep fun id k hk _=>by rw[aj (Y.au hk)];exact hk
theorem eQ.top{B:List Nat}{H G:Y}{env:List bc}{s:AV}{m:Nat}{ms:List Nat}(h:eQ B H env s (m::ms))(hnd:m∉ms){f:bc}(hm:Y.find G m=some (iL B f))(k:∀id b,Y.find H id=some b→id≠m→(b.k=0∨(b.ty=275∧b.k=2))→Y.find G id=some b):eQ B G (f::env.tail) s (m::ms):=by
 match env,h with
 | [g],h =>
  obtain ⟨m',e,h1,h2⟩:=h
  cases e
  exact ⟨m,rfl,hm,h2⟩
 | g::g'::r,h =>
  obtain ⟨m',qL,a,s',e,h1,h2,h3,h4⟩:=h
  cases e
  refine ⟨m,ms,a,s',rfl,hm,h2,k a _ h3 (fun e=>?_) (.inr ⟨rfl,rfl⟩),h4.keep fun id b hb hc=>?_⟩
  rotate_left
  ·rcases hc with ⟨h5,h6⟩ | h5
   ·exact k id b hb (fun e=>hnd (e▸h5)) (.inl h6)
   ·refine k id b hb (fun e=>?_) (.inr h5)
    rw[e,h1] at hb
    cases hb
    simp[iL] at h5
  rw[e] at h3
  rw[h3] at h1
  cases h1
def KW(wid bK:Nat)(s:AV)(m:Nat)(ms:List Nat)(B:List Nat)(H:Y)(r:Except iB (List bc×WS))(e:cr)(H':Y):Prop:=match r with
 | .error f=>e = .bF (qg f)∧cT m H H'
 | .ok q=>e = .ret (.aG [])∧cT m H H'∧∃bo C U,BS wid bK bo (B++C) U q.2 H'∧eQ (B++C) H' q.1 s (m::ms)∧∀f∈q.1,jo q.2.bs.length f
set_option maxHeartbeats 0 in
theorem My(wid bK bo:Nat)(B U:List Nat)(ws:WS)(H:Y)(env:List bc)(s:AV)(m:Nat)(ms:List Nat)(hB:BS wid bK bo B U ws H)(hE:eQ B H env s (m::ms))(hnd:m∉ms)(hfo:∀f∈env,jo ws.bs.length f)
  (t:Nd)(ro:Option (List AV))(p:List Int)(hp:p.length≤1000000)(hts:t.text.size≤100000000)(hal:ws.all.length≤90000000)(a:Nat) :
  DK Tryz.prog 111 [.ptr 5 wid 0 0,s,dF t ro,.an 1 (aI p) none,.Z (.int .i64 a)] H (KW wid bK s m ms B H (cW env ws t.text p a)):=by
 obtain ⟨a0,m',ms2,rfl,e1,hm⟩:=hE.form
 cases e1
 have nU:=Y.au hm
 have hwl:=Y.au hB.w
 have hw:=hB.w
 have hm':=hm
 have hok:=w8 B (env.headD [])
 have fT:=pz (B:=B) (f:=env.headD []) (x:=t.text)
 unfold jA at fT
 unfold eu at hw
 unfold iL at hm'
 rw[aM]
 refine abW (aA ?_)
 simp only[Uj,ux]
 unfold dG
 cases hg:cm t.text (env.headD []) with
 | some j =>
  have hb:cW env ws t.text p a = .error (110,a):=by unfold cW;rw[hg]
  rw[hb]
  simp only[hg] at fT
  unfold bp at fT hok hm'
  refine ae fun L hL=>?_
  refine aN ?_
  refine hL _ _ ?_
  clear hL
  refine ae fun L hL=>?_
  refine wT hm' hok fT ?_
  have hc:=(hB.cons (some ⟨2,[.agg [a0,.ptr 0 m 0 0]],true,164⟩)).cons (some ⟨4,[.agg [.Z (.int .u8 t.kind),.Z (.string t.text),.Z (.int .i64 t.num),.an 4 (bC t.kids) ro]],true,25⟩)
  refine nw (vO (110,a) wid bK bo B ws _ hc.w) ?_
  exact ⟨rfl,(cT.refl.cons _).cons _⟩
 | none =>
  have hb:cW env ws t.text p a = .ok (ep t.text ws.bs.length (env.headD [])::env.tail,{ ws with bs:=ws.bs++[⟨p,t.text,[],0⟩],all:=ws.all++[ws.bs.length] }):=by unfold cW;rw[hg]
  rw[hb]
  simp only[hg] at fT
  refine ae fun L hL=>?_
  refine aN ?_
  refine hL _ _ ?_
  clear hL
  refine ae fun L hL=>?_
  refine wT hm' hok fT ?_
  have ZM:jo B.length (env.headD []):=by
   rw[hB.bl]
   cases env with
   | nil=>exact fun p hp=>by simp at hp
   | cons f r=>exact hfo f (by simp)
  have qi:bp (B++[H.length+2]) B.length = .ptr 4 (H.length+2) 0 0:=by simp[bp,List.getD]
  have hmp:n9 (.string t.text) (.ptr 4 (H.length+2) 0 0) (mE (bp B) (env.headD []))=mE (bp (B++[H.length+2])) (ep t.text B.length (env.headD [])):=by
   have h1:mE (bp B) (env.headD [])=mE (bp (B++[H.length+2])) (env.headD []):=by
    have:=sM (C:=[H.length+2]) ZM
    unfold iL at this
    simp only[aK.mk.injEq,true_and,and_true] at this
    exact this.symm
   rw[h1,←qi]
   exact G4
  refine hL _ _ ?_
  clear hL
  refine ae fun L hL=>?_
  refine aZ ?_
  refine aJ (w9 p none _ (by omega)) ?_
  refine aZ ?_
  refine aJ (EA _ _ hts) ?_
  refine aZ ?_
  refine hL _ _ ?_
  clear hL
  refine ae fun L hL=>?_
  refine wT hm' hok hmp ?_
  refine hL _ _ ?_
  clear hL
  have hwm:wid≠m:=fun e=>by rw[e,hm] at hw;simp[iL] at hw
  have ZN:ws.all≠[]→bo<H.length:=fun e=>Y.au (hB.al e)
  have ham:ws.all≠[]→bo≠m:=fun e e2=>by
   have:=hB.al e
   rw[e2,hm] at this
   simp[iL] at this
  have pK:ws.all.map (bp B)≠[]→ws.all≠[]:=fun e e2=>e (by rw[e2];rfl)
  obtain ⟨qB,F,p1,p2,p3,p4,p5,p6⟩:=rZ (H:=some ⟨4,[.agg [.an 1 (aI p) none,.Z (.string t.text),.an 0 [] (some []),.Z (.int .i64 0)]],true,107⟩::some ⟨4,[.agg [.Z (.int .u8 t.kind),.Z (.string t.text),.Z (.int .i64 t.num),.an 4 (bC t.kids) ro]],true,25⟩::some ⟨2,[.agg [a0,.ptr 0 m 0 0]],true,164⟩::Y.set H m (some ⟨0,mE (bp (B++[H.length+2])) (ep t.text B.length (env.headD [])),true,0⟩)) (k:=1) (ty:=105) (xs:=ws.all.map (bp B)) (ys:=[.ptr 4 (H.length+2) 0 0]) (id:=bo)
   (fun e=>by
    have e:=pK e
    have:=ZN e
    rw[aj (by simp only[List.length_cons,Y.ah];omega),aj (by simp only[List.length_cons,Y.ah];omega),aj (by rw[Y.ah];omega),Y.ak (ham e),hB.al e,bt (by simpa using e)]) (by simp only[List.length_map,List.length_cons,List.length_nil];omega)
  have hne:ws.all.map (bp B)++[AV.ptr 4 (H.length+2) 0 0]≠[]:=by simp
  obtain ⟨xa,PG⟩:=p4 hne
  simp only[List.length_cons,Y.ah] at PG p5 p6
  have bW:∀id b,Y.find H id=some b→id≠m→(ws.all≠[]→id≠bo)→Y.find F id=some b:=fun id b hb h1 h2=>by
   have:=Y.au hb
   rw[p6 id (by omega) (fun e=>h2 (pK e)),aj (by simp only[List.length_cons,Y.ah];omega),aj (by simp only[List.length_cons,Y.ah];omega),aj (by rw[Y.ah];omega),Y.ak h1,hb]
  have nT:=bW wid _ hw hwm (fun e e2=>by have:=hB.al e;rw[←e2,hw] at this;simp at this)
  refine BP hw p1 p2 p3 nT ?_
  have hwF:wid<F.length:=by omega
  have hk:∀(x:Option aK) id b,Y.find H id=some b→id≠m→id≠wid→(ws.all≠[]→id≠bo)→Y.find (Y.set F wid x) id=some b:=fun x id b hb h1 h2 h3=>by
   rw[Y.ak h2]
   exact bW id b hb h1 h3
  have wX:∀id b,Y.find H id=some b→(b.k≠5→id≠wid)∧((b.k≠1∨b.ty≠105∨b.exact=true)→ws.all≠[]→id≠bo)∧(b.k≠0→id≠m):=fun id b hb=>by
   refine ⟨fun h e=>?_,fun h e1 e=>?_,fun h e=>?_⟩
   ·rw[e,hw] at hb;cases hb;simp at h
   ·rw[e,hB.al e1] at hb;cases hb;simp at h
   ·rw[e,hm] at hb;cases hb;simp[iL] at h
  have qP:Y.find F (H.length+2)=some ⟨4,[.agg [.an 1 (aI p) none,.Z (.string t.text),.an 0 [] (some []),.Z (.int .i64 0)]],true,107⟩:=by
   rw[p6 (H.length+2) (by omega) (fun e=>by have:=ZN (pK e);omega),aL (by simp only[List.length_cons,Y.ah])]
  have hmF:Y.find F m=some (iL (B++[H.length+2]) (ep t.text B.length (env.headD []))):=by
   rw[p6 m (by omega) (fun e=>(ham (pK e)).symm),aj (by simp only[List.length_cons,Y.ah];omega),aj (by simp only[List.length_cons,Y.ah];omega),aj (by rw[Y.ah];omega),Y.aB nU]
   rfl
  have il:=hB.bl
  have Ez:=hB.ul
  have Mz:∀j,j<ws.bs.length→bh (ws.bs++[(⟨p,t.text,[],0⟩:Bd)]) j=bh ws.bs j:=fun j hj=>by simp[bh,List.getD,List.getElem?_append_left hj]
  have MA:bh (ws.bs++[(⟨p,t.text,[],0⟩:Bd)]) ws.bs.length=⟨p,t.text,[],0⟩:=by simp[bh,List.getD]
  have Ur:∀j,j<ws.bs.length→(B++[H.length+2]).getD j 0=B.getD j 0:=fun j hj=>by rw[List.getD,List.getD,List.getElem?_append_left (by omega)]
  have Yc:∀j,j<ws.bs.length→(U++[0]).getD j 0=U.getD j 0:=fun j hj=>by rw[List.getD,List.getD,List.getElem?_append_left (by omega)]
  have Hf:(B++[H.length+2]).getD ws.bs.length 0=H.length+2:=by simp[List.getD,←il]
  have ZO:∀j,j<ws.bs.length→B.getD j 0<H.length:=fun j hj=>Y.au (hB.bd j hj)
  have hall:ws.all.map (bp B)++[AV.ptr 4 (H.length+2) 0 0]=(ws.all++[ws.bs.length]).map (bp (B++[H.length+2])):=by
   rw[List.map_append,Uq fun j hj=>by rw[il];exact hB.ao j hj]
   simp only[List.map_cons,List.map_nil]
   rw[←il,qi]
  refine ⟨rfl,⟨by rw[Y.ah];omega,fun id b hb hs=>?_⟩,qB,[H.length+2],U++[0],⟨?_,fun _=>?_,?_,?_,fun j hj=>?_,fun j hj e=>?_,fun i j hi hj e=>?_,fun i j hi hj e1 e2 e=>?_,fun j hj=>?_⟩,?_,fun f hf=>?_⟩
  ·obtain ⟨g1,g2,g3⟩:=wX id b hb
   rcases hs with hs | ⟨h0,hs⟩
   ·exact hk _ id b hb (g3 hs.1) (g1 hs.2.1) (g2 (by
     by_cases c:b.k=1
     ·exact .inr (.inr (hs.2.2.2 c))
     ·exact .inl c))
   ·exact hk _ id b hb hs (g1 (by omega)) (g2 (.inl (by omega)))
  ·rw[Y.aB hwF]
   unfold eu
   rw[hall]
  ·rw[Y.ak (by omega),xa,bt hne,hall]
  ·simp[il]
  ·simp[Ez]
  ·simp only[List.length_append,List.length_cons,List.length_nil] at hj
   by_cases c:j<ws.bs.length
   ·have hb:=hB.bd j c
    obtain ⟨g1,g2,g3⟩:=wX _ _ hb
    simp only[Mz j c,Ur j c,Yc j c]
    exact hk _ _ _ hb (g3 (by simp[gy])) (g1 (by simp[gy])) (g2 (.inl (by simp[gy])))
   ·have e:j=ws.bs.length:=by omega
    subst e
    simp only[MA,Hf]
    rw[Y.ak (by omega),qP]
    rfl
  ·simp only[List.length_append,List.length_cons,List.length_nil] at hj
   by_cases c:j<ws.bs.length
   ·simp only[Mz j c] at e ⊢
    simp only[Yc j c]
    have hb:=hB.us j c e
    obtain ⟨g1,g2,g3⟩:=wX _ _ hb
    exact hk _ _ _ hb (g3 (by simp)) (g1 (by simp)) (g2 (.inr (.inl (by simp))))
   ·have e2:j=ws.bs.length:=by omega
    subst e2
    simp only[MA] at e
    exact absurd rfl e
  ·simp only[List.length_append,List.length_cons,List.length_nil] at hi hj
   by_cases c:i<ws.bs.length<;>by_cases c2:j<ws.bs.length
   ·rw[Ur i c,Ur j c2] at e
    exact hB.nd i j c c2 e
   ·have e2:j=ws.bs.length:=by omega
    subst e2
    rw[Ur i c,Hf] at e
    have:=ZO i c
    omega
   ·have e2:i=ws.bs.length:=by omega
    subst e2
    rw[Ur j c2,Hf] at e
    have:=ZO j c2
    omega
   ·omega
  ·simp only[List.length_append,List.length_cons,List.length_nil] at hi hj
   by_cases c:i<ws.bs.length<;>by_cases c2:j<ws.bs.length
   ·simp only[Mz i c] at e1
    simp only[Mz j c2] at e2
    rw[Yc i c,Yc j c2] at e
    exact hB.ud i j c c2 e1 e2 e
   ·have e3:j=ws.bs.length:=by omega
    subst e3
    simp only[MA] at e2
    exact absurd rfl e2
   ·have e3:i=ws.bs.length:=by omega
    subst e3
    simp only[MA] at e1
    exact absurd rfl e1
   ·omega
  ·simp only[List.length_append,List.length_cons,List.length_nil]
   rcases List.mem_append.1 hj with h | h
   ·have:=hB.ao j h;omega
   ·rw[List.mem_singleton] at h;omega
  ·refine (hE.ext (C:=[H.length+2]) (by rw[il];exact hfo)).top hnd ?_ (fun id b hb h1 h2=>?_)
   ·rw[Y.ak hwm.symm,hmF,il]
   ·obtain ⟨g1,g2,g3⟩:=wX id b hb
    have h3:b.k≠5∧b.k≠1:=by rcases h2 with h | ⟨_,h⟩<;>omega
    exact hk _ id b hb h1 (g1 h3.1) (g2 (.inl h3.2))
  ·simp only[List.length_append,List.length_cons,List.length_nil]
   rcases List.mem_cons.1 hf with rfl | h
   ·exact (il▸ZM).set (by omega) (by omega)
   ·exact (hfo f (List.mem_of_mem_tail h)).le (by omega)
def dl(H G:Y):Prop:=H.length≤G.length∧∀id b,Y.find H id=some b→(qh b∨b.k=0)→Y.find G id=some b
theorem dl.m{H G:Y}(h:dl H G)(m:Nat):cT m H G:=⟨h.1,fun id b hb hs=>h.2 id b hb (hs.imp (fun h=>h) fun h=>h.1)⟩
theorem dl.refl{H:Y}:dl H H:=⟨Nat.le_refl _,fun _ _ h _=>h⟩
theorem dl.trans{H G K:Y}(h:dl H G)(k:dl G K):dl H K:=⟨Nat.le_trans h.1 k.1,fun id b hb hs=>k.2 id b (h.2 id b hb hs) hs⟩
theorem dl.cons{H G:Y}(h:dl H G)(b:Option aK):dl H (b::G):=⟨by simp only[List.length_cons];have:=h.1;omega,fun id k hk hs=>by
 have:=h.2 id k hk hs
 rw[aj (Y.au this)];exact this⟩
theorem dl.all{H G:Y}(hl:H.length≤G.length)(h:∀id,id<H.length→Y.find G id=Y.find H id):dl H G:=⟨hl,fun id b hb _=>by rw[h id (Y.au hb)];exact hb⟩
theorem eQ.xb{B:List Nat}{H G:Y}{env:List bc}{s:AV}{ms:List Nat}(h:eQ B H env s ms)(k:dl H G):eQ B G env s ms:=h.keep fun id b hb hc=>k.2 id b hb (hc.elim (fun h=>.inr h.2) fun h=>.inl ⟨by omega,by omega,by rw[h.1];decide,by omega⟩)
theorem BS.same{wid bK bo:Nat}{B U:List Nat}{ws:WS}{H G:Y}(h:BS wid bK bo B U ws H)(k:∀id,id<H.length→Y.find G id=Y.find H id):BS wid bK bo B U ws G:=h.keep fun id b hb _=>by rw[k id (Y.au hb)];exact hb
def KX(wid bK:Nat)(B:List Nat)(H:Y)(r:Except iB WS)(e:cr)(H':Y):Prop:=match r with
 | .error f=>e = .bF (qg f)∧dl H H'
 | .ok ws=>e = .ret (.aG [])∧dl H H'∧∃bo U,BS wid bK bo B U ws H'
theorem nI(a:List (List Int))(p:List Int):aW (a++[p])=aW a++[.an 1 (aI p) none]:=by simp[aW]
theorem BS.used{wid bK bo:Nat}{B U:List Nat}{ws:WS}{G:Y}(hB:BS wid bK bo B U ws G){j:Nat}(hj:j<ws.bs.length)(p:List Int)(BN:(bh ws.bs j).cI.length≤90000000) :
  ∃u' F,fq G 1 30 [.an 1 (aI p) none] (aX 1 (aW (bh ws.bs j).cI) (U.getD j 0))∧jW G 1 [.an 1 (aI p) none] (aX 1 (aW (bh ws.bs j).cI) (U.getD j 0))=aX 1 (aW (bh ws.bs j).cI++[.an 1 (aI p) none]) u'∧
   ir G 1 30 [.an 1 (aI p) none] (aX 1 (aW (bh ws.bs j).cI) (U.getD j 0))=F∧Y.find F (B.getD j 0)=some (gy (U.getD j 0) (bh ws.bs j))∧
   dl G (Y.set F (B.getD j 0) (some (gy u' { bh ws.bs j with cI:=(bh ws.bs j).cI++[p] })))∧
   BS wid bK bo B (U.set j u') { ws with bs:=ws.bs.set j { bh ws.bs j with cI:=(bh ws.bs j).cI++[p] } } (Y.set F (B.getD j 0) (some (gy u' { bh ws.bs j with cI:=(bh ws.bs j).cI++[p] }))):=by
 have Ut:aW (bh ws.bs j).cI≠[]→(bh ws.bs j).cI≠[]:=fun e e2=>e (by rw[e2];rfl)
 obtain ⟨u',F,p1,p2,p3,p4,p5,p6⟩:=rZ (H:=G) (k:=1) (ty:=30) (xs:=aW (bh ws.bs j).cI) (ys:=[.an 1 (aI p) none]) (id:=U.getD j 0) (fun e=>by rw[hB.us j hj (Ut e),bt e]) (by simp only[aW,List.length_map,List.length_cons,List.length_nil];omega)
 have hne:aW (bh ws.bs j).cI++[AV.an 1 (aI p) none]≠[]:=by simp
 obtain ⟨xa,PG⟩:=p4 hne
 rw[bt hne] at xa
 have hbd:=hB.bd j hj
 have il:=Y.au hbd
 have bW:∀id b,Y.find G id=some b→(b.k≠1∨b.ty≠30∨b.exact=true∨id≠U.getD j 0)→Y.find F id=some b:=fun id b hb h=>by
  rw[p6 id (Y.au hb) fun e e2=>?_]
  ·exact hb
  ·rw[e2,hB.us j hj (Ut e)] at hb
   cases hb
   rcases h with h | h | h | h
   ·simp at h
   ·simp at h
   ·simp at h
   ·exact h e2
 have nT:Y.find F (B.getD j 0)=some (gy (U.getD j 0) (bh ws.bs j)):=bW _ _ hbd (.inl (by simp[gy]))
 have hk:∀(x:Option aK) id b,Y.find G id=some b→(b.k≠1∨b.ty≠30∨b.exact=true∨id≠U.getD j 0)→id≠B.getD j 0→Y.find (Y.set F (B.getD j 0) x) id=some b:=fun x id b hb h h2=>by
  rw[Y.ak h2];exact bW id b hb h
 have qi:∀id b,Y.find G id=some b→(b.k≠4∨b.ty≠107)→id≠B.getD j 0:=fun id b hb h e=>by
  rw[e,hbd] at hb;cases hb;simp[gy] at h
 have ui:∀i,bh (ws.bs.set j { bh ws.bs j with cI:=(bh ws.bs j).cI++[p] }) i=if i=j then { bh ws.bs j with cI:=(bh ws.bs j).cI++[p] } else bh ws.bs i:=fun i=>by
  by_cases e:i=j
  ·subst e;simp[bh,List.getD,hj]
  ·rw[if_neg e];simp[bh,List.getD,List.getElem?_set_ne (Ne.symm e)]
 have Yd:∀i,i<ws.bs.length→(U.set j u').getD i 0=if i=j then u' else U.getD i 0:=fun i hi=>by
  have:=hB.ul
  by_cases e:i=j
  ·subst e
   have h:i<U.length:=by omega
   simp[List.getD,h]
  ·rw[if_neg e];simp[List.getD,List.getElem?_set_ne (Ne.symm e)]
 refine ⟨u',F,p1,p2,p3,nT,⟨by rw[Y.ah];exact p5,fun id b hb hs=>?_⟩,⟨?_,fun e=>?_,?_,?_,fun i hi=>?_,fun i hi e=>?_,fun i i' hi hi' e=>?_,fun i i' hi hi' e1 e2 e=>?_,fun i hi=>?_⟩⟩
 ·refine hk _ id b hb ?_ (qi id b hb ?_)
  ·rcases hs with hs | hs
   ·by_cases c:b.k=1
    ·exact .inr (.inr (.inl (hs.2.2.2 c)))
    ·exact .inl c
   ·exact .inl (by omega)
  ·rcases hs with hs | hs
   ·exact .inr hs.2.2.1
   ·exact .inl (by omega)
 ·exact hk _ _ _ hB.w (.inl (by simp[eu])) (qi _ _ hB.w (.inl (by simp[eu])))
 ·exact hk _ _ _ (hB.al e) (.inr (.inl (by simp))) (qi _ _ (hB.al e) (.inl (by simp)))
 ·rw[List.length_set];exact hB.bl
 ·rw[List.length_set,List.length_set];exact hB.ul
 ·simp only[List.length_set] at hi
  simp only[ui,Yd i hi]
  by_cases e:i=j
  ·subst e
   simp only[if_true]
   rw[Y.aB (by omega)]
  ·simp only[if_neg e]
   exact hk _ _ _ (hB.bd i hi) (.inl (by simp[gy])) (fun h=>e (hB.nd i j hi hj h))
 ·simp only[List.length_set] at hi
  simp only[ui] at e
  simp only[ui,Yd i hi]
  by_cases c:i=j
  ·subst c
   simp only[if_true]
   rw[Y.ak (by omega),xa,nI]
  ·simp only[if_neg c] at e ⊢
   have hb:=hB.us i hi e
   by_cases c2:(bh ws.bs j).cI=[]
   ·have h3:Y.find F (U.getD i 0)=some ⟨1,aW (bh ws.bs i).cI,false,30⟩:=by
     rw[p6 _ (Y.au hb) fun h=>absurd c2 (Ut h)];exact hb
    rw[Y.ak (qi _ _ hb (.inl (by simp)))]
    exact h3
   ·exact hk _ _ _ hb (.inr (.inr (.inr fun h=>c (hB.ud i j hi hj e c2 h)))) (qi _ _ hb (.inl (by simp)))
 ·simp only[List.length_set] at hi hi'
  exact hB.nd i i' hi hi' e
 ·simp only[List.length_set] at hi hi'
  simp only[ui] at e1 e2
  rw[Yd i hi,Yd i' hi'] at e
  by_cases c:i=j<;>by_cases c2:i'=j
  ·omega
  ·rw[if_pos c,if_neg c2] at e
   rw[if_neg c2] at e2
   have:=Y.au (hB.us i' hi' e2)
   omega
  ·rw[if_neg c,if_pos c2] at e
   rw[if_neg c] at e1
   have:=Y.au (hB.us i hi e1)
   omega
  ·rw[if_neg c,if_neg c2] at e
   rw[if_neg c] at e1
   rw[if_neg c2] at e2
   exact hB.ud i i' hi hi' e1 e2 e
 ·simp only[List.length_set]
  exact hB.ao i hi
set_option maxHeartbeats 0 in
theorem Uu(wid bK bo:Nat)(B U:List Nat)(ws:WS)(H:Y)(env:List bc)(s:AV)(ms:List Nat)(hB:BS wid bK bo B U ws H)(hE:eQ B H env s ms)(hfo:∀x j,bU env x=some j→j<ws.bs.length)
  (t:Nd)(ro:Option (List AV))(hk:t.kind=22∨t.kind=25)(p:List Int)(hp:p.length≤1000000)(BN:∀j,(bh ws.bs j).cI.length≤90000000)(a:Nat) :
  DK Tryz.prog 174 [.ptr 5 wid 0 0,s,dF t ro,.an 1 (aI p) none,.Z (.int .i64 a)] H (KX wid bK B H (iC env ws t.kind t.text t.kids.length p a)):=by
 obtain ⟨a0,m,ms2,rfl,e1,hm⟩:=hE.form
 have hnm:dl H (some ⟨4,[.agg [.Z (.int .u8 t.kind),.Z (.string t.text),.Z (.int .i64 t.num),.an 4 (bC t.kids) ro]],true,25⟩::some ⟨2,[.agg [a0,.ptr 0 m 0 0]],true,164⟩::H):=(dl.refl.cons _).cons _
 have hBc:=(hB.cons (some ⟨2,[.agg [a0,.ptr 0 m 0 0]],true,164⟩)).cons (some ⟨4,[.agg [.Z (.int .u8 t.kind),.Z (.string t.text),.Z (.int .i64 t.num),.an 4 (bC t.kids) ro]],true,25⟩)
 have hEc:=(hE.cons (some ⟨2,[.agg [a0,.ptr 0 m 0 0]],true,164⟩)).cons (some ⟨4,[.agg [.Z (.int .u8 t.kind),.Z (.string t.text),.Z (.int .i64 t.num),.an 4 (bC t.kids) ro]],true,25⟩)
 rw[aM]
 refine abX (aA ?_)
 simp only[Uk,ux]
 unfold dG
 unfold dG at hEc
 refine ae fun L hL=>?_
 refine aN ?_
 refine hL _ _ ?_
 clear hL
 refine ae fun L hL=>?_
 refine aZ ?_
 refine pY (Mw B t.text env _ ms _ hEc) ?_
 rintro v G hle ⟨rfl,q1,q2⟩
 simp only[List.length_cons] at q1 q2
 have Uv:=hBc.same q2
 have Ye:dl H G:=hnm.trans (.all q1 q2)
 have hnb:Y.find G (H.length+1)=some ⟨4,[.agg [.Z (.int .u8 t.kind),.Z (.string t.text),.Z (.int .i64 t.num),.an 4 (bC t.kids) ro]],true,25⟩:=by
  rw[q2 _ (by omega),aL (by simp only[List.length_cons])]
 refine aZ ?_
 refine hL _ _ ?_
 clear hL
 cases hf:bU env t.text with
 | none =>
  have hu:iC env ws t.kind t.text t.kids.length p a = .error (111,a):=by unfold iC;rw[hf]
  rw[hu]
  unfold fdV
  unfold jA
  refine aZ ?_
  refine nw (vO (111,a) wid bK bo B ws _ Uv.w) ?_
  exact ⟨rfl,Ye⟩
 | some j =>
  have hj:=hfo _ _ hf
  unfold fdV bp
  have hbd:=Uv.bd j hj
  unfold gy at hbd
  have hwG:=Uv.w
  obtain ⟨u',F,p1,p2,p3,nT,Pt,AL⟩:=Uv.used hj p (BN j)
  have Uw:=nT
  unfold gy at Uw Pt
  rw[nI] at Pt
  rcases hk with hk | hk
  ·have hu:iC env ws t.kind t.text t.kids.length p a = .ok { ws with bs:=ws.bs.set j { bh ws.bs j with cI:=(bh ws.bs j).cI++[p] } }:=by unfold iC;rw[hf,hk];rfl
   rw[hu]
   rw[hk] at hnb
   simp -implicitDefEqProofs (maxSteps:=99999999) (disch:=first | omega | (simp only[vl];first | done | omega)) only[vu,vg,hbd,hnb,aF,hk,va,vg,vs,vw,vk,simprocAttr]
   refine aJ (w9 p none _ (by omega)) ?_
   refine qc p1 p2 p3 Uw ?_
   refine ⟨rfl,Ye.trans Pt,bo,U.set j u',?_⟩
   unfold gy at AL
   rw[nI] at AL
   exact AL
  ·rw[hk] at hnb
   by_cases c:(bh ws.bs j).many=t.kids.length
   ·have hu:iC env ws t.kind t.text t.kids.length p a = .ok { ws with bs:=ws.bs.set j { bh ws.bs j with cI:=(bh ws.bs j).cI++[p] } }:=by
     unfold iC
     rw[hf,hk]
     simp only
     rw[if_neg (fun h=>h.2 c)]
    rw[hu]
    have hc:(decide ¬(bh ws.bs j).many=(t.kids.length:Int))=false:=by simp[c]
    simp -implicitDefEqProofs (maxSteps:=99999999) (disch:=first | omega | (simp only[vl];first | done | omega)) only[vu,vg,hbd,hnb,aF,hk,hc,va,vg,vs,vw,vk,simprocAttr]
    refine aJ (w9 p none _ (by omega)) ?_
    refine qc p1 p2 p3 Uw ?_
    refine ⟨rfl,Ye.trans Pt,bo,U.set j u',?_⟩
    unfold gy at AL
    rw[nI] at AL
    exact AL
   ·have hu:iC env ws t.kind t.text t.kids.length p a = .error (112,a):=by
     unfold iC
     rw[hf,hk]
     simp only
     rw[if_pos ⟨trivial,c⟩]
    rw[hu]
    simp -implicitDefEqProofs (maxSteps:=99999999) (disch:=first | omega | (simp only[vl];first | done | omega)) only[vu,vg,hbd,hnb,aF,hk,c,va,vg,vs,vw,vk,simprocAttr]
    refine nw (vO (112,a) wid bK bo B ws _ Uv.w) ?_
    exact ⟨rfl,Ye⟩
theorem HC{fu:bc}{p:List Int}:∀{l:List Nd}{env:List bc}{ws:WS}{i k:Nat},k<l.length→bz fu (l.take (k+1)) env ws p i=match bz fu (l.take k) env ws p i with
  | .error e=>.error e
  | .ok q=>bG fu (aC l k) q.1 q.2 (p++[((i+k:Nat):Int)]):=by
 intro l
 induction l with
 | nil=>intro env ws i k h;simp at h
 | cons t r ih =>
  intro env ws i k h
  cases k with
  | zero =>
   have hn:aC (t::r) 0=t:=by simp[aC]
   simp only[List.take_succ_cons,List.take_zero,bz,hn,Nat.add_zero]
   cases bG fu t env ws (p++[(i:Int)])<;>rfl
  | succ k =>
   have hn:aC (t::r) (k+1)=aC r k:=by simp[aC]
   rw[List.take_succ_cons]
   rw[List.take_succ_cons (i:=k)]
   simp only[bz,hn]
   cases bG fu t env ws (p++[(i:Int)]) with
   | error e=>rfl
   | ok q =>
    simp only
    rw[ih (by simpa using h)]
    rw[show i+(k+1)=i+1+k by omega]
theorem HD{fu:bc}{p:List Int}{e:iB}:∀{l:List Nd}{env:List bc}{ws:WS}{i k:Nat},bz fu (l.take k) env ws p i = .error e→bz fu l env ws p i = .error e:=by
 intro l
 induction l with
 | nil=>intro env ws i k h;simpa using h
 | cons t r ih =>
  intro env ws i k h
  cases k with
  | zero=>simp[bz] at h
  | succ k =>
   rw[List.take_succ_cons] at h
   simp only[bz] at h ⊢
   cases hn:bG fu t env ws (p++[(i:Int)]) with
   | error e'=>rw[hn] at h;simpa using h
   | ok q =>
    rw[hn] at h
    simp only at h ⊢
    exact ih h
theorem AM{env:List bc}{ws:WS}{s:ByteArray}{p:List Int}{a:Nat}{r:List bc×WS}(h:cW env ws s p a = .ok r):r.1.tail=env.tail∧r.1≠[]:=by
 unfold cW at h
 split at h
 ·cases h
 ·cases h
  exact ⟨rfl,by simp⟩
theorem uj{fu:bc}{p:List Int}:∀(l:List Nd),(∀u∈l,∀(env:List bc)(ws:WS)(p:List Int)(r:List bc×WS),env≠[]→bG fu u env ws p = .ok r→r.1.tail=env.tail∧r.1≠[])→
  ∀(env:List bc)(ws:WS)(i:Nat)(r:List bc×WS),env≠[]→bz fu l env ws p i = .ok r→r.1.tail=env.tail∧r.1≠[]
 | [],_,env,ws,i,r,he,h=>by
  simp only[bz] at h
  cases h
  exact ⟨rfl,he⟩
 | t::l,hc,env,ws,i,r,he,h=>by
  simp only[bz] at h
  cases hn:bG fu t env ws (p++[(i:Int)]) with
  | error e=>rw[hn] at h;cases h
  | ok q =>
   rw[hn] at h
   obtain ⟨h1,h2⟩:=hc t (by simp) env ws _ q he hn
   obtain ⟨h3,h4⟩:=uj l (fun u hu=>hc u (by simp[hu])) q.1 q.2 (i+1) r h2 h
   exact ⟨h3.trans h1,h4⟩
theorem KY{fu:bc}(t:Nd):∀(env:List bc)(ws:WS)(p:List Int)(r:List bc×WS),env≠[]→bG fu t env ws p = .ok r→r.1.tail=env.tail∧r.1≠[]:=by
 induction t using Nd.ind with
 | _ t ih =>
  intro env ws p r he h
  have hk:=fun (p:List Int)=>uj (fu:=fu) (p:=p) t.kids ih
  obtain ⟨k,s,m,l⟩:=t
  simp only[Nd.kids] at hk
  simp only[bG] at h
  split at h
  ·split at h
   ·cases h
   ·cases h;exact ⟨rfl,he⟩
  split at h
  ·split at h
   ·cases h
   ·rename_i q hb
    obtain ⟨h1,h2⟩:=AM hb
    obtain ⟨h3,h4⟩:=hk p q.1 q.2 0 r h2 h
    exact ⟨h3.trans h1,h4⟩
  split at h
  ·split at h
   ·cases h
   ·cases h;exact ⟨rfl,he⟩
  split at h
  ·split at h
   ·cases h
   split at h
   ·cases h
   ·rename_i q hb
    obtain ⟨h1,h2⟩:=hk p _ _ 0 q he hb
    obtain ⟨h3,h4⟩:=AM h
    exact ⟨h3.trans h1,h4⟩
  split at h
  ·split at h
   ·cases h
   ·exact hk p _ _ 0 r he h
  split at h
  ·split at h
   ·cases h
   ·exact hk p _ _ 0 r he h
  ·exact hk p _ _ 0 r he h
theorem HF{fu:bc}{p:List Int}(l:List Nd)(env:List bc)(ws:WS)(i:Nat)(r:List bc×WS)(he:env≠[])(h:bz fu l env ws p i = .ok r):r.1.tail=env.tail∧r.1≠[]:=uj l (fun u _=>KY u) env ws i r he h
def SZ(ws:WS)(N:Nat):Prop:=ws.all.length≤N∧∀j,(bh ws.bs j).cI.length≤N
theorem SZ.le{ws:WS}{N M:Nat}(h:SZ ws N)(k:N≤M):SZ ws M:=⟨Nat.le_trans h.1 k,fun j=>Nat.le_trans (h.2 j) k⟩
theorem SZ.at_{ws:WS}{N a:Nat}(h:SZ ws N):SZ { ws with at_:=a } N:=h
theorem PH{bs:List Bd}{b:Bd}{j:Nat}:bh (bs++[b]) j=bh bs j∨bh (bs++[b]) j=b:=by
 by_cases h:j<bs.length
 ·left;simp[bh,List.getD,List.getElem?_append_left h]
 ·by_cases h2:j=bs.length
  ·right;subst h2;simp[bh,List.getD]
  ·left
   have h3:bs.length+1≤j:=by omega
   simp[bh,List.getD,List.getElem?_eq_none (show (bs++[b]).length≤j by simp;omega),List.getElem?_eq_none (show bs.length≤j by omega)]
theorem C9{bs:List Bd}{b:Bd}{i j:Nat}:bh (bs.set i b) j=bh bs j∨bh (bs.set i b) j=b:=by
 by_cases h:i=j
 ·subst h
  by_cases h2:i<bs.length
  ·right;simp[bh,List.getD,h2]
  ·left;simp[bh,List.getD,List.getElem?_eq_none (show (bs.set i b).length≤i by simp;omega),List.getElem?_eq_none (show bs.length≤i by omega)]
 ·left;simp[bh,List.getD,List.getElem?_set_ne h]
theorem vP{env:List bc}{ws:WS}{s:ByteArray}{p:List Int}{a N:Nat}{r:List bc×WS}(hz:SZ ws N)(h:cW env ws s p a = .ok r):SZ r.2 (N+1):=by
 unfold cW at h
 split at h
 ·cases h
 ·cases h
  refine ⟨by simp only[List.length_append,List.length_cons,List.length_nil];have:=hz.1;omega,fun j=>?_⟩
  simp only
  rcases PH (bs:=ws.bs) (b:=⟨p,s,[],0⟩) (j:=j) with h | h<;>rw[h]
  ·have:=hz.2 j;omega
  ·simp
theorem yV{env:List bc}{ws yz:WS}{k:Int}{s:ByteArray}{n:Nat}{p:List Int}{a N:Nat}(hz:SZ ws N)(h:iC env ws k s n p a = .ok yz):SZ yz (N+1):=by
 unfold iC at h
 split at h
 ·cases h
 split at h
 ·cases h
 cases h
 refine ⟨by have:=hz.1;simp only;omega,fun j=>?_⟩
 simp only
 rename_i i _ _
 rcases C9 (bs:=ws.bs) (b:={ bh ws.bs i with cI:=(bh ws.bs i).cI++[p] }) (i:=i) (j:=j) with h | h<;>rw[h]
 ·have:=hz.2 j;omega
 ·have:=hz.2 i;simp;omega
theorem AN{fu:bc}{p:List Int}:∀(l:List Nd),(∀u∈l,∀(env:List bc)(ws:WS)(p:List Int)(r:List bc×WS)(N:Nat),SZ ws N→bG fu u env ws p = .ok r→SZ r.2 (N+u.size))→
  ∀(env:List bc)(ws:WS)(i:Nat)(r:List bc×WS)(N:Nat),SZ ws N→bz fu l env ws p i = .ok r→SZ r.2 (N+Nd.aw l)
 | [],_,env,ws,i,r,N,hz,h=>by
  simp only[bz] at h
  cases h
  exact hz.le (by omega)
 | t::l,hc,env,ws,i,r,N,hz,h=>by
  simp only[bz] at h
  cases hn:bG fu t env ws (p++[(i:Int)]) with
  | error e=>rw[hn] at h;cases h
  | ok q =>
   rw[hn] at h
   have h1:=hc t (by simp) env ws _ q N hz hn
   have h2:=AN l (fun u hu=>hc u (by simp[hu])) q.1 q.2 (i+1) r _ h1 h
   exact h2.le (by simp[Nd.aw];omega)
theorem HG{fu:bc}(t:Nd):∀(env:List bc)(ws:WS)(p:List Int)(r:List bc×WS)(N:Nat),SZ ws N→bG fu t env ws p = .ok r→SZ r.2 (N+t.size):=by
 induction t using Nd.ind with
 | _ t ih =>
  intro env ws p r N hz h
  have hk:=fun (p:List Int)=>AN (fu:=fu) (p:=p) t.kids ih
  have hs:t.size=1+Nd.aw t.kids:=by rw[Nd.size_eq]
  obtain ⟨k,s,m,l⟩:=t
  simp only[Nd.kids] at hk hs
  simp only[bG] at h
  have hA:∀j,SZ { ws with at_:=ws.at_+1,all:=ws.all++[j] } (N+1):=fun j=>⟨by simp;exact hz.1,fun j=>by have:=hz.2 j;simp only;omega⟩
  split at h
  ·split at h
   ·cases h
   ·rename_i q hb
    cases h
    exact (hk p _ _ 0 q _ (hA _) hb).le (by omega)
  split at h
  ·split at h
   ·cases h
   ·rename_i q hb
    exact (hk p _ _ 0 r _ (vP hz.at_ hb) h).le (by omega)
  split at h
  ·split at h
   ·cases h
   ·rename_i q hb
    cases h
    exact (hk p _ _ 0 q _ hz.at_ hb).le (by omega)
  split at h
  ·split at h
   ·cases h
   split at h
   ·cases h
   ·rename_i q hb
    exact (vP (hk p _ _ 0 q _ hz.at_ hb) h).le (by omega)
  split at h
  ·split at h
   ·cases h
   ·rename_i w hu
    exact (hk p _ _ 0 r _ (yV hz.at_ hu) h).le (by omega)
  split at h
  ·split at h
   ·cases h
   ·rename_i w hu
    exact (hk p _ _ 0 r _ (yV hz.at_ hu) h).le (by omega)
  ·exact (hk p _ _ 0 r _ hz.at_ h).le (by omega)
theorem Da{fu:bc}{p:List Int}(l:List Nd)(env:List bc)(ws:WS)(i:Nat)(r:List bc×WS)(N:Nat)(hz:SZ ws N)(h:bz fu l env ws p i = .ok r):SZ r.2 (N+Nd.aw l):=AN l (fun u _=>HG u) env ws i r N hz h
theorem EB(l:List Nd)(k:Nat):Nd.aw (l.take k)≤Nd.aw l:=by
 induction l generalizing k with
 | nil=>simp
 | cons t r ih =>
  cases k with
  | zero=>simp[Nd.aw]
  | succ k=>simp only[List.take_succ_cons,Nd.aw];have:=ih k;omega
theorem AO{env:List bc}{ws:WS}{s:ByteArray}{p:List Int}{a:Nat}{r:List bc×WS}(h:cW env ws s p a = .ok r):r.2.at_=ws.at_:=by
 unfold cW at h
 split at h
 ·cases h
 ·cases h;rfl
theorem yW{env:List bc}{ws yz:WS}{k:Int}{s:ByteArray}{n:Nat}{p:List Int}{a:Nat}(h:iC env ws k s n p a = .ok yz):yz.at_=ws.at_:=by
 unfold iC at h
 split at h
 ·cases h
 split at h
 ·cases h
 cases h
 rfl
theorem AP{fu:bc}{p:List Int}:∀(l:List Nd),(∀u∈l,∀(env:List bc)(ws:WS)(p:List Int)(r:List bc×WS),bG fu u env ws p = .ok r→r.2.at_=ws.at_+u.size)→
  ∀(env:List bc)(ws:WS)(i:Nat)(r:List bc×WS),bz fu l env ws p i = .ok r→r.2.at_=ws.at_+Nd.aw l
 | [],_,env,ws,i,r,h=>by
  simp only[bz] at h
  cases h
  simp[Nd.aw]
 | t::l,hc,env,ws,i,r,h=>by
  simp only[bz] at h
  cases hn:bG fu t env ws (p++[(i:Int)]) with
  | error e=>rw[hn] at h;cases h
  | ok q =>
   rw[hn] at h
   have h1:=hc t (by simp) env ws _ q hn
   have h2:=AP l (fun u hu=>hc u (by simp[hu])) q.1 q.2 (i+1) r h
   simp only[Nd.aw]
   omega
theorem Ux{fu:bc}(t:Nd):∀(env:List bc)(ws:WS)(p:List Int)(r:List bc×WS),bG fu t env ws p = .ok r→r.2.at_=ws.at_+t.size:=by
 induction t using Nd.ind with
 | _ t ih =>
  intro env ws p r h
  have hk:=fun (p:List Int)=>AP (fu:=fu) (p:=p) t.kids ih
  have hs:t.size=1+Nd.aw t.kids:=by rw[Nd.size_eq]
  obtain ⟨k,s,m,l⟩:=t
  simp only[Nd.kids] at hk hs
  rw[hs]
  simp only[bG] at h
  split at h
  ·split at h
   ·cases h
   ·rename_i q hb
    cases h
    have:=hk p _ _ 0 q hb
    simp only at this ⊢;omega
  split at h
  ·split at h
   ·cases h
   ·rename_i q hb
    have h1:=AO hb
    have:=hk p _ _ 0 r h
    simp only at h1;omega
  split at h
  ·split at h
   ·cases h
   ·rename_i q hb
    cases h
    have:=hk p _ _ 0 q hb
    simp only at this ⊢;omega
  split at h
  ·split at h
   ·cases h
   split at h
   ·cases h
   ·rename_i q hb
    have h1:=AO h
    have:=hk p _ _ 0 q hb
    simp only at this;omega
  split at h
  ·split at h
   ·cases h
   ·rename_i w hu
    have h1:=yW hu
    have:=hk p _ _ 0 r h
    simp only at h1;omega
  split at h
  ·split at h
   ·cases h
   ·rename_i w hu
    have h1:=yW hu
    have:=hk p _ _ 0 r h
    simp only at h1;omega
  ·have:=hk p _ _ 0 r h
   simp only at this;omega
theorem PI{fu:bc}{p:List Int}(l:List Nd)(env:List bc)(ws:WS)(i:Nat)(r:List bc×WS)(h:bz fu l env ws p i = .ok r):r.2.at_=ws.at_+Nd.aw l:=AP l (fun u _=>Ux u) env ws i r h
section
variable {fu:bc}{t:Nd}{env:List bc}{ws:WS}{p:List Int}
theorem Uy(h:t.kind=2):bG fu t env ws p=match bz fu t.kids ([]::env) { ws with at_:=ws.at_+1,all:=ws.all++[(cm t.text fu).getD 0] } p 0 with
  | .error e=>.error e
  | .ok r=>.ok (env,r.2):=by
 obtain ⟨k,s,m,l⟩:=t
 have h:k=2:=h
 subst h
 simp only[bG]
 rw[if_pos trivial]
 rfl
theorem Uz(h:t.kind=4):bG fu t env ws p=match cW env { ws with at_:=ws.at_+1 } t.text p ws.at_ with
  | .error e=>.error e
  | .ok r=>bz fu t.kids r.1 r.2 p 0:=by
 obtain ⟨k,s,m,l⟩:=t
 have h:k=4:=h
 subst h
 simp only[bG]
 rw[if_neg (by decide),if_pos trivial]
 rfl
theorem UA(h:t.kind=5):bG fu t env ws p=match bz fu t.kids ([]::env) { ws with at_:=ws.at_+1 } p 0 with
  | .error e=>.error e
  | .ok r=>.ok (env,r.2):=by
 obtain ⟨k,s,m,l⟩:=t
 have h:k=5:=h
 subst h
 simp only[bG]
 rw[if_neg (by decide),if_neg (by decide),if_pos trivial]
 rfl
theorem UB(h:t.kind=6):bG fu t env ws p=if (cm t.text (env.headD [])).isSome=true then .error (110,ws.at_)
   else match bz fu t.kids env { ws with at_:=ws.at_+1 } p 0 with
    | .error e=>.error e
    | .ok r=>cW r.1 r.2 t.text p ws.at_:=by
 obtain ⟨k,s,m,l⟩:=t
 have h:k=6:=h
 subst h
 simp only[bG]
 rw[if_neg (by decide),if_neg (by decide),if_neg (by decide),if_pos trivial]
 rfl
theorem PJ(h:t.kind=22):bG fu t env ws p=match iC env { ws with at_:=ws.at_+1 } t.kind t.text t.kids.length p ws.at_ with
  | .error e=>.error e
  | .ok w=>bz fu t.kids env w p 0:=by
 obtain ⟨k,s,m,l⟩:=t
 have h:k=22:=h
 subst h
 simp only[bG]
 rw[if_neg (by decide),if_neg (by decide),if_neg (by decide),if_neg (by decide),if_pos trivial]
 rfl
theorem PK(h:t.kind=25):bG fu t env ws p=match iC [fu] { ws with at_:=ws.at_+1 } t.kind t.text t.kids.length p ws.at_ with
  | .error e=>.error e
  | .ok w=>bz fu t.kids env w p 0:=by
 obtain ⟨k,s,m,l⟩:=t
 have h:k=25:=h
 subst h
 simp only[bG]
 rw[if_neg (by decide),if_neg (by decide),if_neg (by decide),if_neg (by decide),if_neg (by decide),if_pos trivial]
 rfl
theorem UC(h2:¬t.kind=2)(h4:¬t.kind=4)(h5:¬t.kind=5)(h6:¬t.kind=6)(yx:¬t.kind=22)(yw:¬t.kind=25):bG fu t env ws p=bz fu t.kids env { ws with at_:=ws.at_+1 } p 0:=by
 obtain ⟨k,s,m,l⟩:=t
 simp only[Nd.kind] at h2 h4 h5 h6 yx yw
 simp only[bG]
 rw[if_neg h2,if_neg h4,if_neg h5,if_neg h6,if_neg yx,if_neg yw]
 rfl
end
structure St(wid bK:Nat)(fu:bc)(B:List Nat)(ws:WS)(env:List bc)(s:AV)(m:Nat)(ms:List Nat)(H:Y):Prop where
 bs:∃bo U,BS wid bK bo B U ws H
 er:eQ B H env s (m::ms)
 fm:Y.find H bK=some (iL B fu)
 nf:bK≠m∧bK∉ms
 nd:m∉ms∧ms.Nodup
 fo:∀f∈env,jo ws.bs.length f
 ff:jo ws.bs.length fu
theorem eQ.ne{B:List Nat}{H:Y}{env:List bc}{s:AV}{ms:List Nat}(h:eQ B H env s ms):env≠[]:=by
 cases env with
 | nil=>exact h.elim
 | cons f r=>simp
theorem sN{n:Nat}:∀{env:List bc},(∀f∈env,jo n f)→∀x j,bU env x=some j→j<n
 | [],_,x,j,h=>by simp[bU] at h
 | f::r,hf,x,j,h=>by
  rw[bU] at h
  cases hg:cm x f with
  | none=>rw[hg] at h;exact sN (fun g hg=>hf g (by simp[hg])) x j h
  | some i =>
   rw[hg] at h
   cases h
   have:∀{M:bc},cm x M=some j→∃p∈M,p.2=j:=by
    intro M
    induction M with
    | nil=>intro h;simp[cm] at h
    | cons q r ih =>
     intro h
     rw[cm] at h
     split at h
     ·cases h;exact ⟨q,by simp,rfl⟩
     ·obtain ⟨p,h1,h2⟩:=ih h
      exact ⟨p,by simp[h1],h2⟩
   obtain ⟨p,h1,h2⟩:=this hg
   have:=hf f (by simp) p h1
   omega
theorem St.same{wid bK:Nat}{fu:bc}{B:List Nat}{ws:WS}{env:List bc}{s:AV}{m:Nat}{ms:List Nat}{H G:Y}(h:St wid bK fu B ws env s m ms H)(k:∀id,id<H.length→Y.find G id=Y.find H id):St wid bK fu B ws env s m ms G:=by
 obtain ⟨bo,U,hb⟩:=h.bs
 exact ⟨⟨bo,U,hb.same k⟩,h.er.keep fun id b hb _=>by rw[k id (Y.au hb)];exact hb,by rw[k _ (Y.au h.fm)];exact h.fm,h.nf,h.nd,h.fo,h.ff⟩
theorem St.cons{wid bK:Nat}{fu:bc}{B:List Nat}{ws:WS}{env:List bc}{s:AV}{m:Nat}{ms:List Nat}{H:Y}(h:St wid bK fu B ws env s m ms H)(b:Option aK):St wid bK fu B ws env s m ms (b::H):=h.same fun id hid=>aj hid
theorem St.post{wid bK:Nat}{fu:bc}{B:List Nat}{ws:WS}{env:List bc}{s:AV}{m:Nat}{ms:List Nat}{H:Y}(h:St wid bK fu B ws env s m ms H){C:List Nat}{q:List bc×WS}{G:Y}(hk:cT m H G)(hb:∃bo U,BS wid bK bo (B++C) U q.2 G)(he:eQ (B++C) G q.1 s (m::ms))(hf:∀f∈q.1,jo q.2.bs.length f)(hl:ws.bs.length≤q.2.bs.length):St wid bK fu (B++C) q.2 q.1 s m ms G:=by
 obtain ⟨bo,U,hB⟩:=h.bs
 refine ⟨hb,he,?_,h.nf,h.nd,hf,h.ff.le hl⟩
 rw[sM (by rw[hB.bl];exact h.ff)]
 exact hk.2 bK _ h.fm (.inr ⟨rfl,h.nf.1⟩)
def jH(wid bK:Nat)(fu:bc)(B:List Nat)(s:AV)(m:Nat)(ms:List Nat)(H:Y)(r:Except iB (List bc×WS))(e:cr)(H':Y):Prop:=match r with
 | .error f=>e = .bF (qg f)∧cT m H H'
 | .ok q=>e = .ret (.aG [])∧cT m H H'∧∃C,St wid bK fu (B++C) q.2 q.1 s m ms H'
theorem KZ{env:List bc}{ws:WS}{s:ByteArray}{p:List Int}{a:Nat}{q:List bc×WS}(h:cW env ws s p a = .ok q):ws.bs.length≤q.2.bs.length:=by
 unfold cW at h
 split at h
 ·cases h
 ·cases h;simp
theorem HH{wid bK:Nat}{fu:bc}{B:List Nat}{ws:WS}{env:List bc}{s:AV}{m:Nat}{ms:List Nat}{H:Y}(h:St wid bK fu B ws env s m ms H)
  (t:Nd)(ro:Option (List AV))(p:List Int)(hp:p.length≤1000000)(hts:t.text.size≤100000000)(hal:ws.all.length≤90000000)(a:Nat) :
  DK Tryz.prog 111 [.ptr 5 wid 0 0,s,dF t ro,.an 1 (aI p) none,.Z (.int .i64 a)] H (jH wid bK fu B s m ms H (cW env ws t.text p a)):=by
 obtain ⟨bo,U,hB⟩:=h.bs
 refine (My wid bK bo B U ws H env s m ms hB h.er h.nd.1 h.fo t ro p hp hts hal a).mono fun e H' _ hq=>?_
 unfold KW at hq
 unfold jH
 cases hb:cW env ws t.text p a with
 | error f=>rw[hb] at hq;exact hq
 | ok q =>
  rw[hb] at hq
  obtain ⟨h1,h2,qB,C,U',h3,h4,h5⟩:=hq
  exact ⟨h1,h2,C,h.post h2 ⟨qB,U',h3⟩ h4 h5 (KZ hb)⟩
set_option maxHeartbeats 0 in
theorem PL{wid bK:Nat}{fu:bc}{B:List Nat}{ws:WS}{env:List bc}{s:AV}{m:Nat}{ms:List Nat}{H:Y}(h:St wid bK fu B ws env s m ms H)
  (t:Nd)(ro:Option (List AV))(p:List Int)(hp:p.length≤1000000)(hts:t.text.size≤100000000)(hal:ws.all.length≤90000000)(a:Nat)(b:Nat)
  (f1:Y.find H b=some ⟨1,[.ptr 5 wid 0 0],true,160⟩)(f2:Y.find H (b+1)=some ⟨2,[s],true,164⟩)(f3:Y.find H (b+2)=some ⟨4,[dF t ro],true,25⟩)(f4:Y.find H (b+3)=some ⟨1,[.an 1 (aI p) none],true,30⟩)(f5:Y.find H (b+4)=some ⟨1,[.Z (.int .i64 a)],true,3⟩) :
  DK Tryz.prog 173 [.ptr 1 b 0 0,.ptr 2 (b+1) 0 0,.ptr 4 (b+2) 0 0,.ptr 1 (b+3) 0 0,.ptr 1 (b+4) 0 0] H (jH wid bK fu B s m ms H (cW env ws t.text p a)):=by
 obtain ⟨a0,m',qL,rfl,e,hm⟩:=h.er.form
 have hb:=HH h t ro p hp hts hal a
 rw[aM] at f3 hb
 unfold dG at f2 hb
 refine abV (aA ?_)
 simp only[Ui,ux]
 refine BP f1 f2 f3 f4 f5 ?_
 refine gE hb fun e H' hle hq=>?_
 unfold jH at hq ⊢
 cases hr:cW env ws t.text p a with
 | error f =>
  rw[hr] at hq
  obtain ⟨rfl,h2⟩:=hq
  exact ⟨rfl,h2⟩
 | ok q =>
  rw[hr] at hq
  obtain ⟨rfl,h2⟩:=hq
  refine aN ?_
  exact h2
theorem BS.ab1{wid bK bo:Nat}{B U:List Nat}{ws:WS}{H:Y}(h:BS wid bK bo B U ws H)(a:Nat):BS wid bK bo B U { ws with at_:=a } (Y.set H wid (some (eu bK bo B { ws with at_:=a })))∧dl H (Y.set H wid (some (eu bK bo B { ws with at_:=a }))):=by
 have hl:=Y.au h.w
 have hk:∀id b,Y.find H id=some b→b.k≠5→Y.find (Y.set H wid (some (eu bK bo B { ws with at_:=a }))) id=some b:=fun id b hb h5=>by
  rw[Y.ak fun e=>?_]
  ·exact hb
  ·rw[e,h.w] at hb;cases hb;simp[eu] at h5
 refine ⟨⟨Y.aB hl,fun e=>hk _ _ (h.al e) (by simp),h.bl,h.ul,fun j hj=>hk _ _ (h.bd j hj) (by simp[gy]),fun j hj e=>hk _ _ (h.us j hj e) (by simp),h.nd,h.ud,h.ao⟩,by rw[Y.ah];exact Nat.le_refl _,fun id b hb hs=>hk id b hb ?_⟩
 rcases hs with hs | hs
 ·exact hs.2.1
 ·omega
theorem BS.more{wid bK bo:Nat}{B U:List Nat}{ws:WS}{G:Y}(hB:BS wid bK bo B U ws G){j:Nat}(hj:j<ws.bs.length)(hal:ws.all.length≤90000000) :
  ∃qB F,fq G 1 105 [bp B j] (aX 1 (ws.all.map (bp B)) bo)∧jW G 1 [bp B j] (aX 1 (ws.all.map (bp B)) bo)=aX 1 ((ws.all++[j]).map (bp B)) qB∧
   ir G 1 105 [bp B j] (aX 1 (ws.all.map (bp B)) bo)=F∧Y.find F wid=some (eu bK bo B ws)∧
   dl G (Y.set F wid (some (eu bK qB B { ws with all:=ws.all++[j] })))∧
   BS wid bK qB B U { ws with all:=ws.all++[j] } (Y.set F wid (some (eu bK qB B { ws with all:=ws.all++[j] }))):=by
 have pK:ws.all.map (bp B)≠[]→ws.all≠[]:=fun e e2=>e (by rw[e2];rfl)
 obtain ⟨qB,F,p1,p2,p3,p4,p5,p6⟩:=rZ (H:=G) (k:=1) (ty:=105) (xs:=ws.all.map (bp B)) (ys:=[bp B j]) (id:=bo) (fun e=>by rw[hB.al (pK e),bt e]) (by simp only[List.length_map,List.length_cons,List.length_nil];omega)
 have hne:ws.all.map (bp B)++[bp B j]≠[]:=by simp
 obtain ⟨xa,PG⟩:=p4 hne
 rw[bt hne] at xa
 have hall:ws.all.map (bp B)++[bp B j]=(ws.all++[j]).map (bp B):=by simp
 have hwl:=Y.au hB.w
 have bW:∀id b,Y.find G id=some b→(b.k≠1∨b.ty≠105∨b.exact=true)→Y.find F id=some b:=fun id b hb h=>by
  rw[p6 id (Y.au hb) fun e e2=>?_]
  ·exact hb
  ·rw[e2,hB.al (pK e)] at hb
   cases hb
   simp at h
 have hk:∀(x:Option aK) id b,Y.find G id=some b→(b.k≠1∨b.ty≠105∨b.exact=true)→b.k≠5→Y.find (Y.set F wid x) id=some b:=fun x id b hb h h2=>by
  rw[Y.ak fun e=>?_]
  ·exact bW id b hb h
  ·rw[e,hB.w] at hb;cases hb;simp[eu] at h2
 refine ⟨qB,F,p1,by rw[p2,hall],p3,bW _ _ hB.w (.inl (by simp[eu])),⟨by rw[Y.ah];exact p5,fun id b hb hs=>?_⟩,⟨Y.aB (Nat.lt_of_lt_of_le hwl p5),fun _=>?_,hB.bl,hB.ul,fun j hj=>hk _ _ _ (hB.bd j hj) (.inl (by simp[gy])) (by simp[gy]),fun j hj e=>hk _ _ _ (hB.us j hj e) (.inr (.inl (by simp))) (by simp),hB.nd,hB.ud,fun i hi=>?_⟩⟩
 ·refine hk _ id b hb ?_ ?_
  ·rcases hs with hs | hs
   ·by_cases c:b.k=1
    ·exact .inr (.inr (hs.2.2.2 c))
    ·exact .inl c
   ·exact .inl (by omega)
  ·rcases hs with hs | hs
   ·exact hs.2.1
   ·omega
 ·rw[Y.ak (by omega),xa,hall]
 ·rcases List.mem_append.1 hi with h | h
  ·exact hB.ao i h
  ·rw[List.mem_singleton] at h;exact h▸hj
theorem St.xb{wid bK:Nat}{fu:bc}{B:List Nat}{ws yz:WS}{env:List bc}{s:AV}{m:Nat}{ms:List Nat}{H G:Y}(h:St wid bK fu B ws env s m ms H)(k:dl H G)(hb:∃bo U,BS wid bK bo B U yz G)(hl:yz.bs.length=ws.bs.length):St wid bK fu B yz env s m ms G :=
 ⟨hb,h.er.xb k,k.2 bK _ h.fm (.inr rfl),h.nf,h.nd,by rw[hl];exact h.fo,by rw[hl];exact h.ff⟩
inductive r8(fu:bc):Nd→Prop where
 | mk {t:Nd}:(t.kind=2→∃j,cm t.text fu=some j)→(∀k∈t.kids,r8 fu k)→r8 fu t
theorem r8.fn{fu:bc}{t:Nd}(h:r8 fu t):t.kind=2→∃j,cm t.text fu=some j:=by cases h;assumption
theorem r8.rS{fu:bc}{t:Nd}(h:r8 fu t):∀k∈t.kids,r8 fu k:=by cases h;assumption
def K0(fu:bc)(t:Nd):Prop:=∀(wid bK:Nat)(B:List Nat)(ws:WS)(env:List bc)(s:AV)(m:Nat)(ms:List Nat)(H:Y)(p:List Int)(pv:AV)(N:Nat),St wid bK fu B ws env s m ms H→
 (pv = .an 1 (aI p) none∨(p=[]∧pv = .an 0 [] (some [])∧t.kind=1))→p.length+t.size≤1000000→t.wt≤2000000→r8 fu t→SZ ws N→N+t.size≤80000000→ws.at_+t.size≤80000000→∀ro,
 DK Tryz.prog 113 [.ptr 5 wid 0 0,s,dF t ro,pv] H (jH wid bK fu B s m ms H (bG fu t env ws p))
structure EC(wid b:Nat)(s1:AV)(t:Nd)(ro:Option (List AV))(pv:AV)(a:Nat)(F:Y):Prop where
 f1:Y.find F b=some ⟨1,[.ptr 5 wid 0 0],true,160⟩
 f2:Y.find F (b+1)=some ⟨2,[s1],true,164⟩
 f3:Y.find F (b+2)=some ⟨4,[dF t ro],true,25⟩
 f4:Y.find F (b+3)=some ⟨1,[pv],true,30⟩
 f5:Y.find F (b+4)=some ⟨1,[.Z (.int .i64 a)],true,3⟩
 le:b+5≤F.length
theorem EC.keep{wid b:Nat}{s1:AV}{t:Nd}{ro:Option (List AV)}{pv:AV}{a:Nat}{F G:Y}(h:EC wid b s1 t ro pv a F){m:Nat}(k:cT m F G):EC wid b s1 t ro pv a G :=
 ⟨k.2 _ _ h.f1 (.inl ⟨by simp,by simp,by simp,by simp⟩),k.2 _ _ h.f2 (.inl ⟨by simp,by simp,by simp,by simp⟩),k.2 _ _ h.f3 (.inl ⟨by simp,by simp,by simp,by simp⟩),k.2 _ _ h.f4 (.inl ⟨by simp,by simp,by simp,by simp⟩),k.2 _ _ h.f5 (.inl ⟨by simp,by simp,by simp,by simp⟩),by have:=h.le;have:=k.1;omega⟩
theorem eQ.lt{B:List Nat}{F:Y}:∀{env:List bc}{s:AV}{ms:List Nat},eQ B F env s ms→∀x∈ms,x<F.length
 | [],_,_,h,_,_=>h.elim
 | [f],s,ms,h,x,hx=>by
  obtain ⟨m',rfl,g1,g2⟩:=h
  simp only[List.mem_singleton] at hx
  subst hx
  exact Y.au g1
 | f::g::r,s,ms,h,x,hx=>by
  obtain ⟨m',qL,a',s',rfl,g1,g2,g3,g4⟩:=h
  rcases List.mem_cons.1 hx with rfl | hx
  ·exact Y.au g1
  ·exact g4.lt x hx
theorem Db{wid bK:Nat}{fu:bc}{B:List Nat}{ws:WS}{env:List bc}{a0:AV}{m:Nat}{ms:List Nat}{b:Nat}{t:Nd}{ro:Option (List AV)}{pv:AV}{a:Nat}{F F':Y}(hS:St wid bK fu B ws env (dG a0 m) m ms F)(hX:EC wid b (dG a0 m) t ro pv a F)
  {a1 m1:Nat}(h1:F.length≤a1∧F.length≤m1)(h2:Y.find F' a1=some (qA (dG a0 m)))(h3:Y.find F' m1=some (iL [] []))(h4:F.length≤F'.length)(h5:∀id,id<F.length→Y.find F' id=Y.find F id) :
  St wid bK fu B ws ([]::env) (dG (.ptr 2 a1 0 0) m1) m1 (m::ms) (Y.set F' (b+1) (some ⟨2,[dG (.ptr 2 a1 0 0) m1],true,164⟩))∧
   EC wid b (dG (.ptr 2 a1 0 0) m1) t ro pv a (Y.set F' (b+1) (some ⟨2,[dG (.ptr 2 a1 0 0) m1],true,164⟩))∧
   (∀H,cT m H F→H.length≤b→cT m H (Y.set F' (b+1) (some ⟨2,[dG (.ptr 2 a1 0 0) m1],true,164⟩)))∧
   Y.find (Y.set F' (b+1) (some ⟨2,[dG (.ptr 2 a1 0 0) m1],true,164⟩)) a1=some (qA (dG a0 m)):=by
 have hle:=hX.le
 have hk:∀id b',Y.find F id=some b'→id≠b+1→Y.find (Y.set F' (b+1) (some ⟨2,[dG (.ptr 2 a1 0 0) m1],true,164⟩)) id=some b':=fun id b' hb hne=>by
  rw[Y.ak hne,h5 id (Y.au hb)];exact hb
 have hne:∀id b',Y.find F id=some b'→b'.ty≠164∨b'.k≠2→id≠b+1:=fun id b' hb hc e=>by
  rw[e,hX.f2] at hb;cases hb;simp at hc
 have UD:m1∉m::ms:=fun hc=>by
  have:=hS.er.lt _ hc
  omega
 obtain ⟨bo,U,hB⟩:=hS.bs
 have HI:Y.find (Y.set F' (b+1) (some ⟨2,[dG (.ptr 2 a1 0 0) m1],true,164⟩)) a1=some (qA (dG a0 m)):=by rw[Y.ak (by omega)];exact h2
 have pN:=Y.au hS.fm
 refine ⟨⟨⟨bo,U,hB.keep fun id b' hb hc=>hk id b' hb (hne id b' hb (.inr (by omega)))⟩,?_,hk _ _ hS.fm (hne _ _ hS.fm (.inr (by simp[iL]))),⟨by omega,fun hc=>?_⟩,⟨UD,List.nodup_cons.2 hS.nd⟩,fun f hf=>?_,hS.ff⟩,⟨?_,?_,?_,?_,?_,by rw[Y.ah];omega⟩,fun H hH hb=>⟨by rw[Y.ah];have:=hH.1;omega,fun id b' hb' hs=>hk id b' (hH.2 id b' hb' hs) (by have:=Y.au hb';omega)⟩,HI⟩
 ·have ED:eQ B (Y.set F' (b+1) (some ⟨2,[dG (.ptr 2 a1 0 0) m1],true,164⟩)) env (dG a0 m) (m::ms):=hS.er.keep fun id b' hb hc=>hk id b' hb (hne id b' hb (by rcases hc with h | h;exact .inr (by omega);exact .inl (by rw[h.1];decide)))
  match env,ED with
  | g::r,ED=>exact ⟨m1,m::ms,a1,dG a0 m,rfl,by rw[Y.ak (by omega)];exact h3,rfl,HI,ED⟩
 ·rcases List.mem_cons.1 hc with h | h
  ·exact hS.nf.1 h
  ·exact hS.nf.2 h
 ·rcases List.mem_cons.1 hf with rfl | h
  ·exact fun p hp=>by simp at hp
  ·exact hS.fo f h
 ·exact hk _ _ hX.f1 (by omega)
 ·rw[Y.aB (by omega)]
 ·exact hk _ _ hX.f3 (by omega)
 ·exact hk _ _ hX.f4 (by omega)
 ·exact hk _ _ hX.f5 (by omega)
theorem HJ{env:List bc}{ws yz:WS}{k:Int}{s:ByteArray}{n:Nat}{p:List Int}{a:Nat}(h:iC env ws k s n p a = .ok yz):yz.bs.length=ws.bs.length:=by
 unfold iC at h
 split at h
 ·cases h
 split at h
 ·cases h
 cases h
 simp
theorem UE{P:Program}{f:FuncId}{args args':List AV}{H:Y}{K:cr→Y→Prop}{id:Nat}{blk:aK}(hf:Y.find H id=some blk)(hz:oe id blk args args')(h:DK P f args' (Y.set H id none) K):DK P f args H K:=fun φ w vs hR ha=>by
 obtain ⟨r1,r2⟩:=hR.kill id
 exact (h φ w vs r1 (hz.Rt hR hf ha)).mono fun en w' ⟨e,H',φ',h1,h2,h3,h4⟩=>⟨e,H',φ',h1,h2,h3,r2.trans h4⟩
set_option maxHeartbeats 0 in
theorem UF(fu:bc)(t:Nd)(ih:∀k∈t.kids,K0 fu k):K0 fu t:=by
 intro wid bK B ws env s m ms H p pv N hS HK hps hwt hfn hsz hN dy ro
 have aeX:=t.size_pos
 obtain ⟨bo,U,hB⟩:=hS.bs
 obtain ⟨a0,m',qL,rfl,e1,hm⟩:=hS.er.form
 cases e1
 have hw:=hB.w
 unfold eu at hw
 have hwl:=Y.au hB.w
 obtain ⟨Fs,Ft,NL,hv4⟩:pv.bT=false∧pv.ax=1∧pv.cells=[pv]∧pv.isAgg=false:=by
  rcases HK with rfl | ⟨_,rfl,_⟩<;>exact ⟨rfl,rfl,rfl,rfl⟩
 refine abU (aA ?_)
 rw[aM]
 simp only[Uh,ux]
 unfold dG
 refine ae fun L hL=>?_
 refine Tg Fs Ft NL hv4 ?_
 refine hL _ _ ?_
 clear hL
 refine ae fun L hL=>?_
 refine iz hw ?_
 refine hL _ _ ?_
 clear hL
 refine ae fun L hL=>?_
 refine iz hw ?_
 refine hL _ _ ?_
 clear hL
 refine ae fun L hL=>?_
 refine iz hw ?_
 refine hL _ _ ?_
 clear hL
 refine ae fun L hL=>?_
 have hv5:oH pv=True∧qx pv=p.length∧zS 1 (some p.length) true p.length 0 pv=True∧FX 1 (some p.length) p.length 0 pv = .an 1 (aI p) (some []):=by
  rcases HK with rfl | ⟨rfl,rfl,_⟩
  ·simp[oH,qx,zS,FX,aQ,List.take_of_length_le,List.drop_of_length_le]
  ·simp[oH,qx,zS,FX,aI]
 obtain ⟨hv5,hv6,hv7,hv8⟩:=hv5
 have wN:∀(ts:List AV)(F:Y)(B1:List Nat)(kJ:WS)(mz:List bc)(s1:AV)(m1:Nat)(PM:List Nat)(UG:AV),
   Fr [none,none,none,none,some (.ptr 1 H.length 0 0),some (.ptr 2 (H.length+1) 0 0),some (.ptr 4 (H.length+2) 0 0),some (.ptr 1 (H.length+3) 0 0),some (.ptr 1 (H.length+4) 0 0),some (UG),none,none,none,none,none,none,none,none,none,none,none,none,none,none,none,none,none,none,none,none,none,none,none,none,none,none,none,none,none,none,none,none,none,none,none,none,none,none,none,none,none,none,none,none,none,none,none,none,none,none,none,none,none,none,none,none,none,none,none,none,none,none,none,none,none,none,none,none,none,none,none,none,none,none,none,none,none,none,none,none,none,none,none,none,none,none,none,none,none,none,none,none,none,none,none,none,none,none,none,none,none,none,none,none,none] ts→
   St wid bK fu B1 kJ mz s1 m1 PM F→EC wid H.length s1 t ro pv ws.at_ F→SZ kJ (N+1)→kJ.at_=ws.at_+1→
   ((UG = .Z .nilFunc∧∀q C F',bz fu t.kids mz kJ p 0 = .ok q→St wid bK fu (B1++C) q.2 q.1 s1 m1 PM F'→cT m1 F F'→jH wid bK fu B (dG a0 m) m ms H (bG fu t env ws p) (.ret (.aG [])) F')∨
    (UG = .fn (.func 173) [] [.ptr 1 H.length 0 0,.ptr 2 (H.length+1) 0 0,.ptr 4 (H.length+2) 0 0,.ptr 1 (H.length+3) 0 0,.ptr 1 (H.length+4) 0 0]∧(s1=dG a0 m∧m1=m∧PM=ms∧B1=B∧pv = .an 1 (aI p) none)∧(∀q,bz fu t.kids mz kJ p 0 = .ok q→bG fu t env ws p=cW q.1 q.2 t.text p ws.at_)∧cT m H F))→
   (∀f F',bz fu t.kids mz kJ p 0 = .error f→cT m1 F F'→jH wid bK fu B (dG a0 m) m ms H (bG fu t env ws p) (.bF (qg f)) F')→L ts F:=by
  intro ts F B1 kJ mz s1 m1 PM UG bx lO hX hz1 MB ad0 ad1
  obtain ⟨js,rfl⟩:=bx.opened
  clear bx
  obtain ⟨a1,m1',aeY,hs1,e1,-⟩:=lO.er.form
  cases e1
  subst hs1
  refine hL _ _ ?_
  clear hL
  have f3:=hX.f3
  rw[aM] at f3
  refine ae fun L hL=>?_
  refine ae fun L hL=>?_
  simp -implicitDefEqProofs (maxSteps:=99999999) (disch:=first | omega | (simp only[vl];first | done | omega)) only[mk,vu,vg,f3,aF,va,vg,vs,vw,vk,simprocAttr]
  refine hL _ _ ?_
  clear hL
  refine wS ?_
  refine bI (fun ts G=>∃(k:Nat)(q:List bc×WS)(C:List Nat),k≤t.kids.length∧bz fu (t.kids.take k) mz kJ p 0 = .ok q∧St wid bK fu (B1++C) q.2 q.1 (dG a1 m1) m1 PM G∧cT m1 F G∧
   Fr [none,none,none,none,some (.ptr 1 H.length 0 0),some (.ptr 2 (H.length+1) 0 0),some (.ptr 4 (H.length+2) 0 0),some (.ptr 1 (H.length+3) 0 0),some (.ptr 1 (H.length+4) 0 0),some (UG),none,none,none,none,none,none,none,none,none,none,none,none,none,none,none,none,none,none,none,none,none,none,none,none,none,none,none,none,none,none,none,none,none,none,none,none,none,none,none,none,none,none,none,none,none,none,none,none,none,none,none,none,none,none,none,none,none,none,none,none,none,none,none,none,none,none,none,none,none,none,none,none,none,none,none,none,none,none,none,none,some (.an 4 (bC t.kids) ro),some (.Z (.int .i64 t.kids.length)),some (.Z (.int .i64 k)),none,none,none,none,none,none,none,none,none,none,none,none,none,none,none,none,none,none,none,none,none,none] ts) (fun ts _=>t.kids.length - (aU (ts.getD 92 .top)).toNat) ?_ ?_
  ·exact ⟨0,(mz,kJ),[],Nat.zero_le _,by simp[bz],by simpa using lO,.refl,by simp[Fr]⟩
  rintro ts G ⟨k,q,C,hk,hq,hSk,UH,bx⟩ L2 cK
  obtain ⟨js,rfl⟩:=bx.opened
  clear bx
  have EE:=hX.keep UH
  have gle:=EE.le
  have g1:=EE.f1
  have g2:=EE.f2
  have g4:=EE.f4
  unfold dG at g2
  by_cases hd:k<t.kids.length
  ·have d1:(k:Int)<t.kids.length:=by omega
   have hg:=dm hd
   simp -implicitDefEqProofs (maxSteps:=99999999) (disch:=first | omega | (simp only[vl];first | done | omega)) only[mk,vu,vg,d1,hg,aF,g1,g2,g4,Fs,Ft,NL,hv4,hv5,hv6,hv7,hv8,va,vg,vs,vw,vk,simprocAttr]
   have pV:=iJ hd
   have mc:=Nd.iZ t.kids
   have ZP:=mT t.kids (k+1)
   have htz:=t.size_eq
   have eJ:aC t.kids k∈t.kids:=by rw[gv hd];exact List.getElem_mem hd
   have MC:=Da (t.kids.take k) mz kJ 0 q _ hz1 hq
   have ad2:=Nd.Az eJ
   have aeZ:=PI (t.kids.take k) mz kJ 0 q hq
   have UI:=t.mh
   have hX2:=(hSk.cons (some ⟨4,[.agg [.Z (.int .u8 (aC t.kids k).kind),.Z (.string (aC t.kids k).text),.Z (.int .i64 (aC t.kids k).num),.an 4 (bC (aC t.kids k).kids) none]],true,25⟩)).cons none
   have Yf:=ih _ eJ wid bK (B1++C) q.2 q.1 (dG a1 m1) m1 PM _ (p++[(k:Int)]) _ _ hX2 (.inl rfl) (by simp only[List.length_append,List.length_cons,List.length_nil];omega) (by omega) (hfn.rS _ eJ) MC (by omega) (by omega) none
   rw[aM] at Yf
   unfold dG at Yf
   have hkX:cT m1 F (none::some ⟨4,[.agg [.Z (.int .u8 (aC t.kids k).kind),.Z (.string (aC t.kids k).text),.Z (.int .i64 (aC t.kids k).num),.an 4 (bC (aC t.kids k).kids) none]],true,25⟩::G):=(UH.cons _).cons _
   have htk:=HC (fu:=fu) (p:=p) (env:=mz) (ws:=kJ) (i:=0) hd
   rw[hq] at htk
   simp only[Nat.zero_add] at htk
   have e1:((aI p++[AV.Z (.int .i64 (k:Int))]).drop 0).take ((aI p).length+1)=aI (p++[(k:Int)]):=by
    rw[List.drop_zero,List.take_of_length_le (by simp)]
    simp[aI]
   rw[←e1] at Yf
   have z7:=UE (H:=some ⟨1,aI p++[.Z (.int .i64 (k:Int))],false,3⟩::some ⟨4,[.agg [.Z (.int .u8 (aC t.kids k).kind),.Z (.string (aC t.kids k).text),.Z (.int .i64 (aC t.kids k).num),.an 4 (bC (aC t.kids k).kids) none]],true,25⟩::G) (id:=G.length+1) (aL rfl) (.keep (.keep (.keep (.aE (k:=1) (off:=0) (n:=(aI p).length+1) (c:=none) rfl (by simp) .nil)))) (by rw[vm (by simp only[List.length_cons])];exact Yf)
   refine ⟨by omega,by omega,by rw[aQ];omega,gE z7 fun e H' hle gQ=>?_⟩
   ·unfold jH at gQ
    cases hr:bG fu (aC t.kids k) q.1 q.2 (p++[(k:Int)]) with
    | error f =>
     rw[hr] at gQ htk
     obtain ⟨rfl,h2⟩:=gQ
     exact ad1 f H' (HD htk) (hkX.trans h2)
    | ok r =>
     rw[hr] at gQ htk
     obtain ⟨rfl,h2,C',h3⟩:=gQ
     refine aN ?_
     refine cK _ _ ⟨k+1,r,C++C',by omega,htk,by rw[←List.append_assoc];exact h3,hkX.trans h2,by simp[Fr]⟩ (by simp[aU,mk];omega)
  ·have d1:¬(k:Int)<t.kids.length:=by omega
   have BU:t.kids.take k=t.kids:=List.take_of_length_le (by omega)
   rw[BU] at hq
   simp -implicitDefEqProofs (maxSteps:=99999999) (disch:=first | omega | (simp only[vl];first | done | omega)) only[mk,vu,d1,va,vg,vs,vw,vk,simprocAttr]
   clear cK
   refine hL _ _ ?_
   clear hL
   rcases ad0 with ⟨rfl,hend⟩ | ⟨rfl,⟨g1',rfl,rfl,rfl,rfl⟩,jp,hkF⟩
   ·simp -implicitDefEqProofs (maxSteps:=99999999) (disch:=first | omega | (simp only[vl];first | done | omega)) only[vu,vg,vf,va,vg,vs,vw,vk,simprocAttr]
    exact hend q C G hq hSk UH
   ·cases g1'
    have UJ:=Da t.kids mz kJ 0 q _ hz1 hq
    have htz:=t.size_eq
    have UI:=t.mh
    have hbd:=PL hSk t ro p (by omega) (by omega) (by have:=UJ.1;omega) ws.at_ H.length EE.f1 EE.f2 EE.f3 EE.f4 EE.f5
    unfold dG at hbd
    simp -implicitDefEqProofs (maxSteps:=99999999) (disch:=first | omega | (simp only[vl];first | done | omega)) only[vu,vg,vf,va,vg,vs,vw,vk,simprocAttr]
    refine ⟨rfl,gE hbd fun e H' hle Jj=>?_⟩
    rw[jp q hq]
    unfold jH at Jj ⊢
    cases hr:cW q.1 q.2 t.text p ws.at_ with
    | error f =>
     rw[hr] at Jj
     obtain ⟨rfl,h2⟩:=Jj
     exact ⟨rfl,hkF.trans (UH.trans h2)⟩
    | ok r =>
     rw[hr] at Jj
     obtain ⟨rfl,h2,C',h3⟩:=Jj
     refine aN ?_
     exact ⟨hkF.trans (UH.trans h2),C++C',by rw[←List.append_assoc];exact h3⟩
 have EF:∀(ts:List AV)(F:Y)(C0:List Nat)(kJ:WS)(mz:List bc),
   Fr [none,none,none,none,some (.ptr 1 H.length 0 0),some (.ptr 2 (H.length+1) 0 0),some (.ptr 4 (H.length+2) 0 0),some (.ptr 1 (H.length+3) 0 0),some (.ptr 1 (H.length+4) 0 0),some (.Z .nilFunc),none,none,none,none,none,none,none,none,none,none,none,none,none,none,none,none,none,none,none,none,none,none,none,none,none,none,none,none,none,none,none,none,none,none,none,none,none,none,none,none,none,none,none,none,none,none,none,none,none,none,none,none,none,none,none,none,none,none,none,none,none,none,none,none,none,none,none,none,none,none,none,none,none,none,none,none,none,none,none,none,none,none,none,none,none,none,none,none,none,none,none,none,none,none,none,none,none,none,none,none,none,none,none,none,none] ts→
   St wid bK fu (B++C0) kJ mz (dG a0 m) m ms F→EC wid H.length (dG a0 m) t ro pv ws.at_ F→SZ kJ (N+1)→kJ.at_=ws.at_+1→cT m H F→bG fu t env ws p=bz fu t.kids mz kJ p 0→L ts F:=by
  intro ts F C0 kJ mz bx lO hX hz1 MB mi jp
  refine wN ts F _ kJ mz _ m ms _ bx lO hX hz1 MB (.inl ⟨rfl,fun q C F' hq EG BV=>?_⟩) fun f F' he BV=>?_
  ·rw[jp,hq]
   exact ⟨rfl,mi.trans BV,C0++C,by rw[←List.append_assoc];exact EG⟩
  ·rw[jp,he]
   exact ⟨rfl,mi.trans BV⟩
 have UK:∀(ts:List AV)(F:Y)(kJ:WS)(a1 m1:Nat),
   Fr [none,none,none,none,some (.ptr 1 H.length 0 0),some (.ptr 2 (H.length+1) 0 0),some (.ptr 4 (H.length+2) 0 0),some (.ptr 1 (H.length+3) 0 0),some (.ptr 1 (H.length+4) 0 0),some (.Z .nilFunc),none,none,none,none,none,none,none,none,none,none,none,none,none,none,none,none,none,none,none,none,none,none,none,none,none,none,none,none,none,none,none,none,none,none,none,none,none,none,none,none,none,none,none,none,none,none,none,none,none,none,none,none,none,none,none,none,none,none,none,none,none,none,none,none,none,none,none,none,none,none,none,none,none,none,none,none,none,none,none,none,none,none,none,none,none,none,none,none,none,none,none,none,none,none,none,none,none,none,none,none,none,none,none,none,none] ts→
   St wid bK fu B kJ ([]::env) (dG (.ptr 2 a1 0 0) m1) m1 (m::ms) F→EC wid H.length (dG (.ptr 2 a1 0 0) m1) t ro pv ws.at_ F→SZ kJ (N+1)→kJ.at_=ws.at_+1→cT m H F→H.length≤m1→Y.find F a1=some (qA (dG a0 m))→
   bG fu t env ws p=(match bz fu t.kids ([]::env) kJ p 0 with
    | .error e=>.error e
    | .ok r=>.ok (env,r.2))→L ts F:=by
  intro ts F kJ a1 m1 bx lO hX hz1 MB mi UD HI jp
  have hKm:∀F',cT m1 F F'→cT m H F':=fun F' hk=>⟨Nat.le_trans mi.1 hk.1,fun id b hb hs=>hk.2 id b (mi.2 id b hb hs) (hs.imp (fun h=>h) fun h=>⟨h.1,by have:=Y.au hb;omega⟩)⟩
  refine wN ts F _ kJ _ _ m1 (m::ms) _ bx lO hX hz1 MB (.inl ⟨rfl,fun q C F' hq EG BV=>?_⟩) fun f F' he BV=>?_
  ·rw[jp,hq]
   refine ⟨rfl,hKm F' BV,C,?_⟩
   have pR:=(HF t.kids ([]::env) kJ 0 q (by simp) hq).1
   have hne:=hS.er.ne
   have HL:=BV.2 a1 _ HI (.inl ⟨by simp[qA],by simp[qA],by simp[qA],by simp[qA]⟩)
   have ED:=EG.er
   have hfo:=EG.fo
   match q,pR,ED,hfo,EG with
   | ([],w),_,ED,_,_=>exact ED.elim
   | ([f],w),pR,_,_,_=>exact absurd pR.symm hne
   | (f::g::r,w),pR,ED,hfo,EG =>
    have pR:g::r=env:=pR
    obtain ⟨m',qL,a',s',e1,h1,e2,h3,h4⟩:=ED
    cases e1
    simp only[dG,AV.agg.injEq,List.cons.injEq,AV.ptr.injEq,true_and,and_true] at e2
    subst e2
    rw[HL] at h3
    simp only[qA,Option.some.injEq,aK.mk.injEq,List.cons.injEq,and_true,true_and] at h3
    subst h3
    rw[pR] at h4
    exact ⟨EG.bs,h4,EG.fm,hS.nf,hS.nd,fun x hx=>hfo x (by simp only;rw[pR];simp[hx]),EG.ff⟩
  ·rw[jp,he]
   exact ⟨rfl,hKm F' BV⟩
 refine ae fun L hL=>?_
 refine iz hw ?_
 refine hL _ _ ?_
 clear hL
 clear hL
 generalize jz:(some ⟨1,[AV.Z (.int .i64 ws.at_)],true,3⟩:Option aK)::_=F0
 have gq:=hB.ab1 (ws.at_+1)
 have pV:(Y.set H wid (some (eu bK bo B { ws with at_:=ws.at_+1 }))).length=H.length:=Y.ah ..
 have uk:St wid bK fu B { ws with at_:=ws.at_+1 } env (dG a0 m) m ms F0:=by
  rw[←jz]
  exact (((((hS.xb gq.2 ⟨bo,U,gq.1⟩ rfl).cons _).cons _).cons _).cons _).cons _
 have uT:cT m H F0:=by
  rw[←jz]
  exact (((((gq.2.m m).cons _).cons _).cons _).cons _).cons _
 have xc:EC wid H.length (dG a0 m) t ro pv ws.at_ F0:=by
  rw[←jz]
  have e:∀(x:Option aK),(Y.set H wid x).length=H.length:=fun x=>Y.ah ..
  refine ⟨?_,?_,?_,?_,?_,by simp only[List.length_cons,e];omega⟩
  ·rw[aj (by simp only[List.length_cons,e];omega),aj (by simp only[List.length_cons,e];omega),aj (by simp only[List.length_cons,e];omega),aj (by simp only[List.length_cons,e];omega),aL (by rw[e])]
  ·rw[aj (by simp only[List.length_cons,e];omega),aj (by simp only[List.length_cons,e];omega),aj (by simp only[List.length_cons,e];omega),aL (by simp only[List.length_cons,e])]
   rfl
  ·rw[aj (by simp only[List.length_cons,e];omega),aj (by simp only[List.length_cons,e];omega),aL (by simp only[List.length_cons,e])]
   rfl
  ·rw[aj (by simp only[List.length_cons,e];omega),aL (by simp only[List.length_cons,e])]
  ·rw[aL (by simp only[List.length_cons,e])]
 clear jz
 have xY:SZ { ws with at_:=ws.at_+1 } (N+1):=hsz.at_.le (by omega)
 have ae0:=xc.le
 have b1:=xc.f1
 have b2:=xc.f2
 have b3:=xc.f3
 have b5:=xc.f5
 rw[aM] at b3
 unfold dG at b2
 have MF:¬t.kind=1→pv = .an 1 (aI p) none:=fun h=>by
  rcases HK with h1 | ⟨_,_,h3⟩
  ·exact h1
  ·exact absurd h3 h
 have UI:=t.mh
 have b4:=xc.f4
 obtain ⟨UL,U0,UM⟩:=uk.bs
 have HM:=UM.w
 unfold eu at HM
 by_cases k2:t.kind=2
 ·obtain ⟨j,hj⟩:=hfn.fn k2
  have tG:j<ws.bs.length:=sN (env:=[fu]) (by simpa using uk.ff) t.text j (by rw[bU,hj])
  obtain ⟨qB,F1,p1,p2,p3,p4,NN,hB1⟩:=UM.more (j:=j) tG (by have:=xY.1;omega)
  have hX1:=xc.keep (NN.m m)
  have lO:=uk.xb NN ⟨qB,U0,hB1⟩ rfl
  have c2:=hX1.f2
  rw[Y.ak (by omega)] at c2
  have c1:=hX1.f1
  rw[Y.ak (by omega)] at c1
  have pN:=Y.au p4
  have qH:F0.length≤F1.length:=by have:=NN.1;rwa [Y.ah] at this
  have qC:=uk.fm
  have hok:=w8 B fu
  have fT:=pz (B:=B) (f:=fu) (x:=t.text)
  simp only[hj] at fT
  unfold jA at fT
  unfold iL at qC
  unfold eu at p4
  unfold dG at c2
  dsimp only at p1 p2 p3 p4
  unfold bp at p1 p2 p3 p4 fT hok qC HM
  simp -implicitDefEqProofs (maxSteps:=99999999) (disch:=first | omega | (simp only[vl];first | done | omega)) only[vu,vg,k2,b1,b2,b3,b4,b5,HM,qC,hok,fT,p1,p2,p3,p4,c2,va,vg,vs,vw,vk,simprocAttr]
  refine ⟨c1,pY (C7 (.agg [a0,.ptr 0 m 0 0]) ⟨rfl,rfl⟩ _) ?_⟩
  rintro v F' hle ⟨a1,m1,rfl,h1,h2,h3,h4,h5⟩
  obtain ⟨g1,g2,g3,g4⟩:=Db lO hX1 h1 h2 h3 h4 h5
  rw[Y.ah] at h1 h4
  have nT:Y.find F' (H.length+1)=some ⟨2,[.agg [a0,.ptr 0 m 0 0]],true,164⟩:=by
   rw[h5 _ (by rw[Y.ah];omega),Y.ak (by omega)]
   exact c2
  have jp:=Uy (fu:=fu) (env:=env) (ws:=ws) (p:=p) k2
  rw[hj] at jp
  have ad3:SZ { ws with at_:=ws.at_+1,all:=ws.all++[j] } (N+1):=⟨by simp only[List.length_append,List.length_cons,List.length_nil];have:=hsz.1;omega,fun i=>xY.2 i⟩
  unfold dG at *
  refine ee nT ?_
  exact UK _ _ _ a1 m1 (by simp[Fr]) g1 g2 ad3 rfl (g3 H (uT.trans (NN.m m)) (Nat.le_refl _)) (by omega) g4 jp
 by_cases k4:t.kind=4
 ·have e:=MF (by omega)
  subst e
  have hbd:=HH uk t ro p (by omega) (by omega) (by have:=xY.1;omega) ws.at_
  rw[aM] at hbd
  unfold dG at hbd
  simp -implicitDefEqProofs (maxSteps:=99999999) (disch:=first | omega | (simp only[vl];first | done | omega)) only[vu,vg,k2,k4,b1,b2,b3,b4,b5,va,vg,vs,vw,vk,simprocAttr]
  rw[k4] at hbd
  refine gE hbd fun e H' hle hq=>?_
  unfold jH at hq
  have jp:=Uz (fu:=fu) (env:=env) (ws:=ws) (p:=p) k4
  cases hr:cW env { ws with at_:=ws.at_+1 } t.text p ws.at_ with
  | error f =>
   rw[hr] at hq jp
   obtain ⟨rfl,h2⟩:=hq
   show jH wid bK fu B _ m ms H (bG fu t env ws p) _ _
   rw[jp]
   exact ⟨rfl,uT.trans h2⟩
  | ok r =>
   rw[hr] at hq jp
   obtain ⟨rfl,h2,C,h3⟩:=hq
   refine aN ?_
   exact EF _ H' C r.2 r.1 (by simp[Fr]) h3 (xc.keep h2) (vP hsz.at_ hr) (AO hr) (uT.trans h2) jp
 by_cases k5:t.kind=5
 ·simp -implicitDefEqProofs (maxSteps:=99999999) (disch:=first | omega | (simp only[vl];first | done | omega)) only[vu,vg,k2,k4,k5,b1,b2,b3,b5,va,vg,vs,vw,vk,simprocAttr]
  refine pY (C7 (.agg [a0,.ptr 0 m 0 0]) ⟨rfl,rfl⟩ F0) ?_
  rintro v F' hle ⟨a1,m1,rfl,h1,h2,h3,h4,h5⟩
  have nT:Y.find F' (H.length+1)=some ⟨2,[.agg [a0,.ptr 0 m 0 0]],true,164⟩:=by rw[h5 _ (by omega)];exact b2
  obtain ⟨g1,g2,g3,g4⟩:=Db uk xc h1 h2 h3 h4 h5
  unfold dG at *
  refine ee nT ?_
  exact UK _ _ _ a1 m1 (by simp[Fr]) g1 g2 xY rfl (g3 H uT (Nat.le_refl _)) (by omega) g4 (UA k5)
 by_cases k6:t.kind=6
 ·have e:=MF (by omega)
  subst e
  obtain ⟨a0',m',qL,e0,e1,hm0⟩:=uk.er.form
  cases e1
  have qC:=hm0
  unfold iL at qC
  have hok:=w8 B (env.headD [])
  have fT:=pz (B:=B) (f:=env.headD []) (x:=t.text)
  unfold jA at fT
  have jp:=UB (fu:=fu) (env:=env) (ws:=ws) (p:=p) k6
  cases hg:cm t.text (env.headD []) with
  | some j =>
   simp only[hg] at fT
   rw[hg,if_pos (by simp)] at jp
   unfold bp at fT hok qC
   simp -implicitDefEqProofs (maxSteps:=99999999) (disch:=first | omega | (simp only[vl];first | done | omega)) only[vu,vg,k2,k4,k5,k6,b1,b2,b3,b4,b5,qC,hok,fT,va,vg,vs,vw,vk,simprocAttr]
   refine nw (vO (110,ws.at_) wid bK UL B _ F0 UM.w) ?_
   show jH wid bK fu B _ m ms H (bG fu t env ws p) _ _
   rw[jp]
   exact ⟨rfl,uT⟩
  | none =>
   simp only[hg] at fT
   rw[hg,if_neg (by simp)] at jp
   simp -implicitDefEqProofs (maxSteps:=99999999) (disch:=first | omega | (simp only[vl];first | done | omega)) only[vu,vg,k2,k4,k5,k6,b1,b2,b3,b4,b5,qC,hok,fT,va,vg,vs,vw,vk,simprocAttr]
   exact wN _ F0 B { ws with at_:=ws.at_+1 } env (dG a0 m) m ms _ (by simp[Fr]) uk xc xY rfl (.inr ⟨rfl,⟨rfl,rfl,rfl,rfl,rfl⟩,fun q hq=>by rw[jp,hq],uT⟩) (fun f F' he BV=>by rw[jp,he];exact ⟨rfl,uT.trans BV⟩)
 by_cases K1:t.kind=22
 ·have e:=MF (by omega)
  subst e
  have hbd:=Uu wid bK UL B U0 { ws with at_:=ws.at_+1 } F0 env (dG a0 m) (m::ms) UM uk.er (sN uk.fo) t ro (.inl K1) p (by omega) (fun j=>by have:=xY.2 j;omega) ws.at_
  have jp:=PJ (fu:=fu) (env:=env) (ws:=ws) (p:=p) K1
  rw[aM] at hbd
  rw[K1] at hbd jp
  unfold dG at hbd
  simp -implicitDefEqProofs (maxSteps:=99999999) (disch:=first | omega | (simp only[vl];first | done | omega)) only[vu,vg,k2,k4,k5,k6,K1,b1,b2,b3,b4,b5,va,vg,vs,vw,vk,simprocAttr]
  refine gE hbd fun e H' hle hq=>?_
  unfold KX at hq
  cases hr:iC env { ws with at_:=ws.at_+1 } 22 t.text t.kids.length p ws.at_ with
  | error f =>
   rw[hr] at hq jp
   obtain ⟨rfl,h2⟩:=hq
   show jH wid bK fu B _ m ms H (bG fu t env ws p) _ _
   rw[jp]
   exact ⟨rfl,uT.trans (h2.m m)⟩
  | ok r =>
   rw[hr] at hq jp
   obtain ⟨rfl,h2,HN,U2,h3⟩:=hq
   refine aN ?_
   exact EF _ H' [] r env (by simp[Fr]) (by simpa using uk.xb h2 ⟨HN,U2,h3⟩ (HJ hr)) (xc.keep (h2.m m)) (yV hsz.at_ hr) (yW hr) (uT.trans (h2.m m)) jp
 by_cases PN:t.kind=25
 ·have e:=MF (by omega)
  subst e
  have hbd:=Uu wid bK UL B U0 { ws with at_:=ws.at_+1 } F0 [fu] (dG jA bK) [bK] UM ⟨bK,rfl,uk.fm,rfl⟩ (sN (by simpa using uk.ff)) t ro (.inr PN) p (by omega) (fun j=>by have:=xY.2 j;omega) ws.at_
  have jp:=PK (fu:=fu) (env:=env) (ws:=ws) (p:=p) PN
  rw[aM] at hbd
  rw[PN] at hbd jp
  unfold dG at hbd
  unfold jA at hbd
  simp -implicitDefEqProofs (maxSteps:=99999999) (disch:=first | omega | (simp only[vl];first | done | omega)) only[vu,vg,k2,k4,k5,k6,K1,PN,HM,b1,b2,b3,b4,b5,va,vg,vs,vw,vk,simprocAttr]
  refine gE hbd fun e H' hle hq=>?_
  unfold KX at hq
  cases hr:iC [fu] { ws with at_:=ws.at_+1 } 25 t.text t.kids.length p ws.at_ with
  | error f =>
   rw[hr] at hq jp
   obtain ⟨rfl,h2⟩:=hq
   show jH wid bK fu B _ m ms H (bG fu t env ws p) _ _
   rw[jp]
   exact ⟨rfl,uT.trans (h2.m m)⟩
  | ok r =>
   rw[hr] at hq jp
   obtain ⟨rfl,h2,HN,U2,h3⟩:=hq
   refine aN ?_
   exact EF _ H' [] r env (by simp[Fr]) (by simpa using uk.xb h2 ⟨HN,U2,h3⟩ (HJ hr)) (xc.keep (h2.m m)) (yV hsz.at_ hr) (yW hr) (uT.trans (h2.m m)) jp
 ·simp -implicitDefEqProofs (maxSteps:=99999999) (disch:=first | omega | (simp only[vl];first | done | omega)) only[vu,vg,k2,k4,k5,k6,K1,PN,va,vg,vs,vw,vk,simprocAttr]
  exact EF _ F0 [] { ws with at_:=ws.at_+1 } env (by simp[Fr]) (by simpa using uk) xc xY rfl uT (UC k2 k4 k5 k6 K1 PN)
theorem Yg(fu:bc)(t:Nd):K0 fu t:=by
 induction t using Nd.ind with
 | _ t ih=>exact UF fu t ih
theorem BS.many{wid bK bo:Nat}{B U:List Nat}{ws:WS}{G:Y}(hB:BS wid bK bo B U ws G){j:Nat}(hj:j<ws.bs.length)(v:Int) :
  dl G (Y.set G (B.getD j 0) (some (gy (U.getD j 0) { bh ws.bs j with many:=v })))∧
   BS wid bK bo B U { ws with bs:=ws.bs.set j { bh ws.bs j with many:=v } } (Y.set G (B.getD j 0) (some (gy (U.getD j 0) { bh ws.bs j with many:=v }))):=by
 have hbd:=hB.bd j hj
 have il:=Y.au hbd
 have hk:∀(x:Option aK) id b,Y.find G id=some b→id≠B.getD j 0→Y.find (Y.set G (B.getD j 0) x) id=some b:=fun x id b hb h2=>by
  rw[Y.ak h2];exact hb
 have qi:∀id b,Y.find G id=some b→(b.k≠4∨b.ty≠107)→id≠B.getD j 0:=fun id b hb h e=>by
  rw[e,hbd] at hb;cases hb;simp[gy] at h
 have ui:∀i,bh (ws.bs.set j { bh ws.bs j with many:=v }) i=if i=j then { bh ws.bs j with many:=v } else bh ws.bs i:=fun i=>by
  by_cases e:i=j
  ·subst e;simp[bh,List.getD,hj]
  ·rw[if_neg e];simp[bh,List.getD,List.getElem?_set_ne (Ne.symm e)]
 have hu:∀i,(bh (ws.bs.set j { bh ws.bs j with many:=v }) i).cI=(bh ws.bs i).cI:=fun i=>by
  rw[ui]
  split
  ·rename_i e;rw[e]
  ·rfl
 refine ⟨⟨by rw[Y.ah];exact Nat.le_refl _,fun id b hb hs=>hk _ id b hb (qi id b hb ?_)⟩,⟨?_,fun e=>?_,?_,?_,fun i hi=>?_,fun i hi e=>?_,fun i i' hi hi' e=>?_,fun i i' hi hi' e1 e2 e=>?_,fun i hi=>?_⟩⟩
 ·rcases hs with hs | hs
  ·exact .inr hs.2.2.1
  ·exact .inl (by omega)
 ·exact hk _ _ _ hB.w (qi _ _ hB.w (.inl (by simp[eu])))
 ·exact hk _ _ _ (hB.al e) (qi _ _ (hB.al e) (.inl (by simp)))
 ·rw[List.length_set];exact hB.bl
 ·rw[List.length_set];exact hB.ul
 ·simp only[List.length_set] at hi
  simp only[ui]
  by_cases e:i=j
  ·subst e
   simp only[if_true]
   rw[Y.aB il]
  ·simp only[if_neg e]
   exact hk _ _ _ (hB.bd i hi) (fun h=>e (hB.nd i j hi hj h))
 ·simp only[List.length_set] at hi
  simp only[hu] at e ⊢
  have hb:=hB.us i hi e
  exact hk _ _ _ hb (qi _ _ hb (.inl (by simp)))
 ·simp only[List.length_set] at hi hi'
  exact hB.nd i i' hi hi' e
 ·simp only[List.length_set] at hi hi'
  simp only[hu] at e1 e2
  exact hB.ud i i' hi hi' e1 e2 e
 ·simp only[List.length_set]
  exact hB.ao i hi
theorem gj{H F:Y}{x y:AV}(h:∀id,id<H.length→Y.find F id=Y.find H id)(hz:Gz F H.length [] x y):eo H (.ret x) F (.ret y) H :=
 lh [] (by simp) (by simp) (by simp) (fun id k hid hk=>.inl ⟨hk,by rw[h id hid];exact hk⟩) (fun i s k hs=>by simp at hs) hz
def qj(f:Nd)(k:Nat)(fu:bc)(ws:WS)(a:Nat):Except iB (bc×WS):=match cW [fu] ws f.text [(k:Int)] a with
 | .error e=>.error e
 | .ok q=>.ok (q.1.headD [],{ q.2 with bs:=q.2.bs.set ws.bs.length { bh q.2.bs ws.bs.length with many:=(aC f.kids 0).kids.length } })
theorem jQ(f:Nd)(r:List Nd)(k:Nat)(fu:bc)(ws:WS)(a:Nat):eY (f::r) k fu ws a=match qj f k fu ws a with
  | .error e=>.error e
  | .ok q=>eY r (k+1) q.1 q.2 (a+f.size):=by
 simp only[eY,qj]
 cases cW [fu] ws f.text [(k:Int)] a<;>rfl
theorem HP:∀{l:List Nd}{i k:Nat}{fu:bc}{ws:WS}{a:Nat},k<l.length→eY (l.take (k+1)) i fu ws a=match eY (l.take k) i fu ws a with
  | .error e=>.error e
  | .ok q=>qj (aC l k) (i+k) q.1 q.2 (a+Nd.aw (l.take k)):=by
 intro l
 induction l with
 | nil=>intro i k fu ws a h;simp at h
 | cons t r ih =>
  intro i k fu ws a h
  cases k with
  | zero =>
   have hn:aC (t::r) 0=t:=by simp[aC]
   simp only[List.take_succ_cons,List.take_zero,jQ,hn,Nat.add_zero,Nd.aw]
   simp only[eY,Nd.aw,Nat.add_zero]
   cases qj t i fu ws a<;>rfl
  | succ k =>
   have hn:aC (t::r) (k+1)=aC r k:=by simp[aC]
   rw[List.take_succ_cons,List.take_succ_cons (i:=k),jQ,jQ,hn]
   cases qj t i fu ws a with
   | error e=>rfl
   | ok q =>
    simp only
    rw[ih (by simpa using h)]
    simp only[Nd.aw]
    rw[show i+(k+1)=i+1+k by omega,show a+(t.size+Nd.aw (r.take k))=a+t.size+Nd.aw (r.take k) by omega]
theorem HQ{e:iB}:∀{l:List Nd}{i k:Nat}{fu:bc}{ws:WS}{a:Nat},eY (l.take k) i fu ws a = .error e→eY l i fu ws a = .error e:=by
 intro l
 induction l with
 | nil=>intro i k fu ws a h;simpa using h
 | cons t r ih =>
  intro i k fu ws a h
  cases k with
  | zero=>simp[eY] at h
  | succ k =>
   rw[List.take_succ_cons,jQ] at h
   rw[jQ]
   cases hn:qj t i fu ws a with
   | error e'=>rw[hn] at h;simpa using h
   | ok q=>rw[hn] at h;exact ih h
theorem Yh{P:Program}{f:FuncId}{args args':List AV}{H:Y}{K:cr→Y→Prop}(hl:mJ args args')(h:DK P f args' H K):DK P f args H K:=fun φ w vs hR ha=>h φ w vs hR (hl.Rt ha)
theorem HR:∀{l:List Nd}{i:Nat}{fu:bc}{ws:WS}{a N:Nat}{q:bc×WS},SZ ws N→eY l i fu ws a = .ok q→SZ q.2 (N+l.length):=by
 intro l
 induction l with
 | nil=>intro i fu ws a N q hz h;simp only[eY] at h;cases h;exact hz
 | cons t r ih =>
  intro i fu ws a N q hz h
  rw[jQ] at h
  cases hs:qj t i fu ws a with
  | error e=>rw[hs] at h;cases h
  | ok q' =>
   rw[hs] at h
   have h1:SZ q'.2 (N+1):=by
    unfold qj at hs
    cases hb:cW [fu] ws t.text [(i:Int)] a with
    | error e=>rw[hb] at hs;cases hs
    | ok q2 =>
     rw[hb] at hs
     cases hs
     have h2:=vP hz hb
     refine ⟨h2.1,fun j=>?_⟩
     simp only
     rcases C9 (bs:=q2.2.bs) (b:={ bh q2.2.bs ws.bs.length with many:=((aC t.kids 0).kids.length:Nat) }) (i:=ws.bs.length) (j:=j) with h | h<;>rw[h]
     ·exact h2.2 j
     ·exact h2.2 ws.bs.length
   have h3:=ih h1 h
   exact h3.le (by simp only[List.length_cons];omega)
theorem BS.clear{wid bK bo:Nat}{B U:List Nat}{ws:WS}{H:Y}(h:BS wid bK bo B U ws H):BS wid bK bo B U { ws with all:=[] } (Y.set H wid (some (eu bK bo B { ws with all:=[] })))∧dl H (Y.set H wid (some (eu bK bo B { ws with all:=[] }))):=by
 have hl:=Y.au h.w
 have hk:∀id b,Y.find H id=some b→b.k≠5→Y.find (Y.set H wid (some (eu bK bo B { ws with all:=[] }))) id=some b:=fun id b hb h5=>by
  rw[Y.ak fun e=>?_]
  ·exact hb
  ·rw[e,h.w] at hb;cases hb;simp[eu] at h5
 refine ⟨⟨Y.aB hl,fun e=>absurd rfl e,h.bl,h.ul,fun j hj=>hk _ _ (h.bd j hj) (by simp[gy]),fun j hj e=>hk _ _ (h.us j hj e) (by simp),h.nd,h.ud,fun j hj=>by simp at hj⟩,by rw[Y.ah];exact Nat.le_refl _,fun id b hb hs=>hk id b hb ?_⟩
 rcases hs with hs | hs
 ·exact hs.2.1
 ·omega
theorem BS.ab2{wid bK bo:Nat}{B U:List Nat}{ws:WS}{H G:Y}(h:BS wid bK bo B U ws H)(k:∀id b,Y.find H id=some b→(b.k=5∨(b.k=1∧b.exact=false)∨b.k=4)→Y.find G id=some b):BS wid bK bo B U ws G :=
 ⟨k _ _ h.w (.inl rfl),fun e=>k _ _ (h.al e) (.inr (.inl ⟨rfl,rfl⟩)),h.bl,h.ul,fun j hj=>k _ _ (h.bd j hj) (.inr (.inr rfl)),fun j hj e=>k _ _ (h.us j hj e) (.inr (.inl ⟨rfl,rfl⟩)),h.nd,h.ud,h.ao⟩
theorem dl.up{H F G:Y}(h:dl H F){m:Nat}(hm:H.length≤m)(k:cT m F G):dl H G:=⟨Nat.le_trans h.1 k.1,fun id b hb hs=>k.2 id b (h.2 id b hb hs) (hs.imp (fun h=>h) fun h0=>⟨h0,by have:=Y.au hb;omega⟩)⟩
theorem dl.set{H G:Y}(h:dl H G){i:Nat}{x:Option aK}(hi:H.length≤i):dl H (Y.set G i x):=⟨by rw[Y.ah];exact h.1,fun id b hb hs=>by
 have:=Y.au hb
 rw[Y.ak (by omega)];exact h.2 id b hb hs⟩
def xd(n:Nd)(H:Y)(e:cr)(H':Y):Prop:=dl H H'∧match jn n with
 | .error f=>e = .ret (.aG [.an 0 [] (some []),.agg [.Z (.int .i64 f.1),.Z (.int .i64 f.2)]])
 | .ok ws=>∃wid bK bo B U,e = .ret (.aG [aX 1 (ws.all.map (bp B)) bo,.agg [.Z (.int .i64 0),.Z (.int .i64 0)]])∧BS wid bK bo B U ws H'
set_option maxHeartbeats 0 in
theorem MG(n:Nd)(hr0:∀f∈n.kids,f.kids≠[])(hfn:∀q,eY n.kids 0 [] ⟨[],[],0⟩ 1 = .ok q→r8 q.1 n)(hk:n.kind=1)(hs:n.size≤500000)(hw:n.wt≤2000000)(ro:Option (List AV))(H:Y):DK Tryz.prog 58 [dF n ro] H (xd n H):=by
 refine adU ?_
 rw[aM]
 simp -implicitDefEqProofs (maxSteps:=99999999) (disch:=first | omega | (simp only[vl];first | done | omega)) only[ZG,vu,va,vg,vs,vw,vk,simprocAttr]
 simp only[Uf,ux]
 refine ae fun L hL=>?_
 refine aZ ?_
 refine hL _ _ ?_
 clear hL
 refine ae fun L hL=>?_
 refine aZ ?_
 refine hL _ _ ?_
 clear hL
 refine ae fun L hL=>?_
 refine ae fun L hL=>?_
 refine aZ ?_
 refine hL _ _ ?_
 clear hL
 refine bI (fun ts F=>∃(k:Nat)(q:bc×WS)(bo:Nat)(B U:List Nat),(k≤n.kids.length∧eY (n.kids.take k) 0 [] ⟨[],[],0⟩ 1 = .ok q∧q.2.all.length=k∧q.2.at_=0)∧BS (H.length+4) (H.length+3) bo B U q.2 F∧eQ B F [q.1] (dG jA (H.length+3)) [H.length+3]∧jo q.2.bs.length q.1∧
  (dl H F∧Y.find F H.length=some ⟨4,[dF n ro],true,25⟩∧Y.find F (H.length+1)=some ⟨1,[.an 0 [] (some [])],true,102⟩∧Y.find F (H.length+2)=some ⟨2,[.agg [.Z (.int .i64 0),.Z (.int .i64 0)]],true,93⟩)∧
  Fr [none,some (.ptr 4 H.length 0 0),some (.ptr 1 (H.length+1) 0 0),some (.ptr 2 (H.length+2) 0 0),some (.ptr 5 (H.length+4) 0 0),some (.Z (.int .i64 ((1+Nd.aw (n.kids.take k):Nat):Int))),none,none,none,none,none,none,none,none,some (.an 4 (bC n.kids) ro),some (.Z (.int .i64 n.kids.length)),some (.Z (.int .i64 k)),none,none,none,none,none,none,none,none,none,none,none,none,none,none,none,none,none,none,none,none,none,none,none,none,none,none,none,none,none,none,none,none,none,none,none,none,none,none,none,none,none,none,none,none,none,none,none,none] ts) (fun ts _=>n.kids.length - (aU (ts.getD 16 .top)).toNat) ?_ ?_
 ·refine ⟨0,([],⟨[],[],0⟩),0,[],[],⟨Nat.zero_le _,rfl,rfl,rfl⟩,⟨aL (by simp only[List.length_cons]),fun e=>absurd rfl e,rfl,rfl,fun j hj=>by simp at hj,fun j hj=>by simp at hj,fun i j hi=>by simp at hi,fun i j hi=>by simp at hi,fun j hj=>by simp at hj⟩,⟨H.length+3,rfl,?_,rfl⟩,fun p hp=>by simp at hp,⟨((((dl.refl.cons _).cons _).cons _).cons _).cons _,?_,?_,?_⟩,by simp[Fr,Nd.aw,aF]⟩
  ·rw[aj (by simp only[List.length_cons];omega),aL (by simp only[List.length_cons])]
   rfl
  ·rw[aj (by simp only[List.length_cons];omega),aj (by simp only[List.length_cons];omega),aj (by simp only[List.length_cons];omega),aj (by simp only[List.length_cons];omega),aL rfl]
   rfl
  ·rw[aj (by simp only[List.length_cons];omega),aj (by simp only[List.length_cons];omega),aj (by simp only[List.length_cons];omega),aL (by simp only[List.length_cons])]
  ·rw[aj (by simp only[List.length_cons];omega),aj (by simp only[List.length_cons];omega),aL (by simp only[List.length_cons])]
 rintro ts F ⟨k,q,bo,B,U,⟨tI,hq,hql,hqa⟩,hB,hE,hF,⟨Yi,b0,b1,b2⟩,bx⟩ L2 cK
 obtain ⟨js,rfl⟩:=bx.opened
 clear bx
 rw[aM] at b0
 have hF5:H.length+5≤F.length:=by have:=Y.au hB.w;omega
 have HM:=hB.w
 unfold eu at HM
 have htz:=n.size_eq
 by_cases hd:k<n.kids.length
 ·have d1:(k:Int)<n.kids.length:=by omega
  have hg:=dm hd
  have mc:=Nd.iZ n.kids
  simp -implicitDefEqProofs (maxSteps:=99999999) (disch:=first | omega | (simp only[vl];first | done | omega)) only[mk,vu,vg,d1,hg,HM,aF,va,vg,vs,vw,vk,simprocAttr]
  have eJ:aC n.kids k∈n.kids:=by rw[gv hd];exact List.getElem_mem hd
  have ad2:=Nd.Az eJ
  have UI:=n.mh
  have ae1:=(aC n.kids k).mh
  have MC:=Nd.eN eJ
  have pV:=iJ hd
  have ZP:=mT n.kids (k+1)
  have hb:=My (H.length+4) (H.length+3) bo B U q.2 (some ⟨4,[.agg [.Z (.int .u8 (aC n.kids k).kind),.Z (.string (aC n.kids k).text),.Z (.int .i64 (aC n.kids k).num),.an 4 (bC (aC n.kids k).kids) none]],true,25⟩::F) [q.1] (dG jA (H.length+3)) (H.length+3) [] (hB.cons _) (hE.cons _) (by simp) (by simpa using hF) (aC n.kids k) none [(k:Int)] (by simp) (by omega) (by rw[hql];omega) (1+Nd.aw (n.kids.take k))
  rw[aM] at hb
  unfold dG jA at hb
  have htk:=HP (l:=n.kids) (i:=0) (fu:=[]) (ws:=⟨[],[],0⟩) (a:=1) hd
  rw[hq] at htk
  simp only[Nat.zero_add] at htk
  unfold qj at htk
  refine ⟨by omega,gE (Yh (.cons .refl (.cons .refl (.cons .refl (.cons (.an .refl) (.cons .refl .nil))))) hb) fun e H' hle gQ=>?_⟩
  unfold KW at gQ
  cases hr:cW [q.1] q.2 (aC n.kids k).text [(k:Int)] (1+Nd.aw (n.kids.take k)) with
  | error f =>
   rw[hr] at gQ htk
   obtain ⟨rfl,h2⟩:=gQ
   have hlp:jn n = .error f:=by unfold jn;rw[HQ htk]
   have mi:cT (H.length+3) F H':=(cT.refl.cons _).trans h2
   have c1:=mi.2 _ _ b1 (.inl ⟨by simp,by simp,by simp,by simp⟩)
   have c2:=mi.2 _ _ b2 (.inl ⟨by simp,by simp,by simp,by simp⟩)
   have PP:H.length+5≤H'.length:=by have:=mi.1;omega
   unfold qg
   simp only[cr.post]
   simp -implicitDefEqProofs (maxSteps:=99999999) (disch:=first | omega | (simp only[vl];first | done | omega)) only[AG,vN,vu,vg,vf,c1,c2,va,vg,vs,vw,vk,simprocAttr]
   unfold xd
   rw[hlp]
   exact ⟨((Yi.up (Nat.le_add_right _ _) mi).set (by omega)).set (by omega),rfl⟩
  | ok r =>
   rw[hr] at gQ htk
   obtain ⟨rfl,h2,HN,C,U2,AL,X0,jY⟩:=gQ
   have hrf:=hr
   unfold cW at hrf
   split at hrf
   ·cases hrf
   simp only[List.headD_cons,List.tail_cons,Except.ok.injEq] at hrf
   subst hrf
   simp only[List.headD_cons] at htk
   dsimp only at AL X0 jY
   obtain ⟨m0,e0,hm0,-⟩:=X0
   cases e0
   have mi:cT (H.length+3) F H':=(cT.refl.cons _).trans h2
   have c0:=mi.2 _ _ b0 (.inl ⟨by simp,by simp,by simp,by simp⟩)
   have c1:=mi.2 _ _ b1 (.inl ⟨by simp,by simp,by simp,by simp⟩)
   have c2:=mi.2 _ _ b2 (.inl ⟨by simp,by simp,by simp,by simp⟩)
   have c7:=h2.2 F.length _ (aL rfl) (.inl ⟨by simp,by simp,by simp,by simp⟩)
   have yy:=AL.w
   unfold eu at yy
   dsimp only at yy
   have hok:=w8 (B++C) (ep (aC n.kids k).text q.2.bs.length q.1)
   have fT:=pz (B:=B++C) (f:=ep (aC n.kids k).text q.2.bs.length q.1) (x:=(aC n.kids k).text)
   rw[gF,if_pos rfl] at fT
   simp only at fT
   unfold jA at fT
   have qC:=hm0
   unfold iL at qC
   unfold bp at fT hok qC 
   have tG:q.2.bs.length<(q.2.bs++[(⟨[(k:Int)],(aC n.kids k).text,[],0⟩:Bd)]).length:=by simp
   have hbd:=AL.bd q.2.bs.length tG
   obtain ⟨hK3,Yj⟩:=AL.many tG ((aC (aC n.kids k).kids 0).kids.length:Nat)
   unfold gy at hbd
   have hn0:0<(aC n.kids k).kids.length:=List.length_pos_iff.2 (hr0 _ eJ)
   have vE:=dm hn0
   have sW:=fun H=>X8 (aC n.kids k) (by omega) H
   simp only[aM] at sW
   have PP:F.length<H'.length:=Y.au c7
   have Ck:=Y.au hbd
   have ae2:F.length≠(B++C).getD q.2.bs.length 0:=fun e=>by
    rw[e,hbd] at c7
    simp at c7
   have Fo:(0:Int)<(aC n.kids k).kids.length:=by omega
   simp only[cr.post]
   simp -implicitDefEqProofs (maxSteps:=99999999) (disch:=first | omega | (simp only[vl];first | done | omega)) only[vu,vg,yy,c7,qC,hok,fT,vE,hbd,aF,Fo,va,vg,vs,vw,vk,simprocAttr]
   refine ai (sW _) ?_
   refine aN ?_
   have sf:∀id b,Y.find H' id=some b→qh b→Y.find (Y.set H' ((B++C).getD q.2.bs.length 0) (some (gy (U2.getD q.2.bs.length 0) { bh (q.2.bs++[(⟨[(k:Int)],(aC n.kids k).text,[],0⟩:Bd)]) q.2.bs.length with many:=((aC (aC n.kids k).kids 0).kids.length:Nat) }))) id=some b:=fun id b hb hs=>hK3.2 id b hb (.inl hs)
   refine cK _ _ ⟨k+1,_,HN,B++C,U2,⟨by omega,htk,by simp[hql],hqa⟩,Yj,⟨H.length+3,rfl,hK3.2 _ _ hm0 (.inr rfl),rfl⟩,?_,⟨(Yi.up (Nat.le_add_right _ _) mi).trans hK3,?_,?_,?_⟩,?_⟩ (by simp[aU,mk];omega)
   ·have:=jY _ (List.mem_singleton.2 rfl)
    simpa using this
   ·exact sf _ _ c0 ⟨by simp,by simp,by simp,by simp⟩
   ·exact sf _ _ c1 ⟨by simp,by simp,by simp,by simp⟩
   ·exact sf _ _ c2 ⟨by simp,by simp,by simp,by simp⟩
   ·simp[Fr,pV]
    omega
 ·have BU:n.kids.take k=n.kids:=List.take_of_length_le (by omega)
  have d1:¬(k:Int)<n.kids.length:=by omega
  rw[BU] at hq
  simp -implicitDefEqProofs (maxSteps:=99999999) (disch:=first | omega | (simp only[vl];first | done | omega)) only[mk,vu,d1,va,vg,vs,vw,vk,simprocAttr]
  clear cK
  refine hL _ _ ?_
  clear hL
  refine yt HM b0 ?_
  obtain ⟨m0,e0,hm0,-⟩:=hE
  cases e0
  obtain ⟨hBc,hKc⟩:=hB.clear
  have hSn:St (H.length+4) (H.length+3) q.1 B { q.2 with all:=[] } [[]] (dG jA F.length) F.length [] (some ⟨0,[],true,0⟩::Y.set F (H.length+4) (some (eu (H.length+3) bo B { q.2 with all:=[] }))):=by
   have e:(Y.set F (H.length+4) (some (eu (H.length+3) bo B { q.2 with all:=[] }))).length=F.length:=Y.ah ..
   refine ⟨⟨bo,U,hBc.cons _⟩,⟨F.length,rfl,aL e.symm,rfl⟩,?_,⟨by omega,by simp⟩,⟨by simp,by simp⟩,fun f hf=>?_,hF⟩
   ·rw[aj (by omega)]
    exact hKc.2 _ _ hm0 (.inr rfl)
   ·rw[List.mem_singleton] at hf
    subst hf
    exact fun p hp=>by simp at hp
  have UJ:SZ q.2 (0+n.kids.length):=HR (ws:=⟨[],[],0⟩) ⟨Nat.le_refl _,fun j=>by simp[bh,Bd.none,List.getD]⟩ hq
  have mc:=Nd.iZ n.kids
  have hnd:=Yg q.1 n (H.length+4) (H.length+3) B { q.2 with all:=[] } [[]] (dG jA F.length) F.length [] _ [] (.an 0 [] (some [])) n.kids.length hSn (.inr ⟨rfl,rfl,hk⟩) (by simp;omega) hw (hfn q hq) ⟨Nat.zero_le _,fun j=>Nat.le_trans (UJ.2 j) (by omega)⟩ (by omega) (by simp only[hqa];omega) ro
  rw[aM] at hnd
  unfold dG jA eu at hnd
  refine gE hnd fun e H' hle gQ=>?_
  have e4:(Y.set F (H.length+4) (some (eu (H.length+3) bo B { q.2 with all:=[] }))).length=F.length:=Y.ah ..
  have hKn:cT F.length F (some ⟨0,[],true,0⟩::Y.set F (H.length+4) (some (eu (H.length+3) bo B { q.2 with all:=[] }))):=(hKc.m _).cons _
  have jI:jn n=match bG q.1 n [[]] { q.2 with all:=[] } [] with
    | .error e=>.error e
    | .ok r=>.ok r.2:=by unfold jn;rw[hq]<;>rfl
  unfold jH at gQ
  cases hr:bG q.1 n [[]] { q.2 with all:=[] } [] with
  | error f =>
   rw[hr] at jI
   replace gQ:e = .bF (qg f)∧cT F.length (some ⟨0,[],true,0⟩::Y.set F (H.length+4) (some (eu (H.length+3) bo B { q.2 with all:=[] }))) H':=by rw[hr] at gQ;exact gQ
   obtain ⟨rfl,h2⟩:=gQ
   have mi:=hKn.trans h2
   have c1:=mi.2 _ _ b1 (.inl ⟨by simp,by simp,by simp,by simp⟩)
   have c2:=mi.2 _ _ b2 (.inl ⟨by simp,by simp,by simp,by simp⟩)
   have PP:H.length+5≤H'.length:=by have:=mi.1;omega
   unfold qg
   simp only[cr.post]
   simp -implicitDefEqProofs (maxSteps:=99999999) (disch:=first | omega | (simp only[vl];first | done | omega)) only[AG,vN,vu,vg,vf,c1,c2,va,vg,vs,vw,vk,simprocAttr]
   unfold xd
   rw[jI]
   exact ⟨((Yi.up (by omega) mi).set (by omega)).set (by omega),rfl⟩
  | ok r =>
   rw[hr] at jI
   replace gQ:e = .ret (.aG [])∧cT F.length (some ⟨0,[],true,0⟩::Y.set F (H.length+4) (some (eu (H.length+3) bo B { q.2 with all:=[] }))) H'∧∃C,St (H.length+4) (H.length+3) q.1 (B++C) r.2 r.1 (dG jA F.length) F.length [] H':=by rw[hr] at gQ;exact gQ
   obtain ⟨rfl,h2,C,hS⟩:=gQ
   obtain ⟨ad4,U3,Yj⟩:=hS.bs
   have mi:=hKn.trans h2
   have c1:=mi.2 _ _ b1 (.inl ⟨by simp,by simp,by simp,by simp⟩)
   have c2:=mi.2 _ _ b2 (.inl ⟨by simp,by simp,by simp,by simp⟩)
   have PP:H.length+5≤H'.length:=by have:=mi.1;omega
   have hw3:=Yj.w
   unfold eu at hw3
   simp only[cr.post]
   simp -implicitDefEqProofs (maxSteps:=99999999) (disch:=first | omega | (simp only[vl];first | done | omega)) only[AG,vN,vu,vg,vf,hw3,c1,c2,va,vg,vs,vw,vk,simprocAttr]
   unfold xd
   rw[jI]
   refine ⟨((Yi.up (by omega) mi).set (by omega)).set (by omega),H.length+4,H.length+3,ad4,B++C,U3,rfl,Yj.ab2 fun id b hb hc=>?_⟩
   rw[Y.ak fun e=>?_,Y.ak fun e=>?_]
   ·exact hb
   ·rw[e,c1] at hb;cases hb;simp at hc
   ·rw[e,c2] at hb;cases hb;simp at hc
theorem HS:∀(l:List Nd)(p:List Int)(i j:Nat)(hj:j<l.length)(b:Pl),b∈bJ l[j] (p++[((i+j:Nat):Int)])→b∈bO l p i
 | t::r,p,i,0,_,b,hb=>by simp only[bO,List.mem_append];left;simpa using hb
 | t::r,p,i,j+1,hj,b,hb=>by
  simp only[bO,List.mem_append]
  right
  refine HS r p (i+1) j (by simpa using hj) b ?_
  rw[show i+1+j=i+(j+1) by omega]
  simpa using hb
theorem UN(fu:bc)(t:Nd):∀p,(∀b∈bJ t p,b.n.kind=2→∃j,cm b.n.text fu=some j)→r8 fu t:=by
 induction t using Nd.ind with
 | _ t ih =>
  intro p h
  refine .mk (fun hk=>h ⟨t,p⟩ (by rw[cO];simp) hk) fun k hk=>?_
  obtain ⟨j,hj,rfl⟩:=List.getElem_of_mem hk
  refine ih _ hk (p++[((0+j:Nat):Int)]) fun b hb=>h b ?_
  rw[cO]
  exact List.mem_cons_of_mem _ (HS _ _ 0 j hj b hb)
theorem Dc{n:Nd}(hk:n.kind=1)(h:bB n 40=true){q:bc×WS}(hq:eY n.kids 0 [] ⟨[],[],0⟩ 1 = .ok q):r8 q.1 n:=by
 have hr:∀f∈n.kids,∃P B,Fn f P B:=fun f hf=>ph hk h hf
 obtain ⟨l,hl⟩:∃l,bJ n []=l:=⟨_,rfl⟩
 have heq:l=[⟨n,[]⟩]++bO n.kids [] 0:=by rw[←hl,cO];rfl
 have BG:T6 l [⟨n,[]⟩] [] [] ⟨[],[],0⟩:=by
  refine ⟨rfl,rfl,by simp,by simp,fun x=>by simp[gN,hk,enc,cm],fun x j hj=>by simp[cm] at hj,fun a c u hu h2=>?_,fun b hb h2=>?_⟩
  ·cases a with
   | nil=>simp at hu;rw[←hu.1] at h2;simp[hk] at h2
   | cons z a=>simp at hu
  ·simp at hb;rw[hb] at h2;simp[hk] at h2
 have hA:=CW n.kids hr l [⟨n,[]⟩] 0 [] [] ⟨[],[],0⟩ heq BG
 rw[show ([(⟨n,[]⟩:Pl)]).length=1 from rfl,hq] at hA
 obtain ⟨_,ix,hH⟩:=hA
 refine UN q.1 n [] fun b hb h2=>?_
 rw[hl] at hb
 obtain ⟨a,c,e⟩:=List.append_of_mem hb
 obtain ⟨j,hj,_⟩:=hH.fi a c b e h2
 exact ⟨j,hj⟩
theorem r9:∀F:Y,Over [] F
 | []=>.refl
 | _::r=>.cons (r9 r)
def AQ(f:iB):AV:=.agg [.Z (.int .i64 f.1),.Z (.int .i64 f.2)]
set_option maxHeartbeats 0 in
theorem UO(n:Nd)(hw:n.wt≤500000)(hs:n.size≤500000)(ro:Option (List AV)):D Tryz.prog 57 [dF n ro] [] (.ret (AQ (gh n))) []:=by
 have htr:=fun H=>CS n ro (by omega) H
 refine aD (Nat.le_refl _) (adV (aA ?_))
 rw[aM] at htr ⊢
 simp only[ZH,ux]
 refine ae fun L hL=>?_
 refine aZ ?_
 refine hL _ _ ?_
 clear hL
 refine ae fun L hL=>?_
 by_cases hk:n.kind=1
 ·have jI:=fun (hR:bB n 40=true) H=>MG n (fun f hf=>by
    obtain ⟨P,B,h⟩:=ph hk hR hf
    rw[h.kids];simp) (fun q hq=>Dc hk hR hq) hk hs (by omega) ro H
  simp only[aM,hk] at jI
  rw[hk] at htr
  simp -implicitDefEqProofs (maxSteps:=99999999) (disch:=first | omega | (simp only[vl];first | done | omega)) only[vu,vg,hk,va,vg,vs,vw,vk,simprocAttr]
  refine ai (htr _) ?_
  cases hR:bB n 40 with
  | false =>
   have hc:gh n=(4,0):=by unfold gh;rw[if_neg (fun h=>by rw[hR] at h;simp at h)]
   rw[hc]
   refine aZ ?_
   exact da (r9 _) (.agg (.cons (.same trivial) (.cons (.same trivial) .nil)))
  | true =>
   have hc:gh n=match jn n with
    | .error e=>e
    | .ok _=>(0,0):=by unfold gh;rw[if_pos ⟨hk,hR⟩]<;>rfl
   refine aZ ?_
   refine hL _ _ ?_
   clear hL
   refine ae fun L hL=>?_
   refine aZ ?_
   refine gE (jI hR _) fun e H' hle gQ=>?_
   unfold xd at gQ
   obtain ⟨hK,gQ⟩:=gQ
   have c1:=hK.2 1 _ rfl (.inl ⟨by simp,by simp,by simp,by simp⟩)
   have dW:2≤H'.length:=hK.1
   cases hl:jn n with
   | error f =>
    rw[hl] at gQ hc
    subst gQ
    simp only[cr.post]
    refine iz c1 ?_
    refine hL _ _ ?_
    clear hL
    refine iz c1 ?_
    rw[hc]
    exact da (r9 _) (.agg (.cons (.same trivial) (.cons (.same trivial) .nil)))
   | ok ws =>
    rw[hl] at gQ hc
    obtain ⟨wid,bK,bo,B,U,rfl,hB⟩:=gQ
    simp only[cr.post]
    refine iz c1 ?_
    refine hL _ _ ?_
    clear hL
    refine iz c1 ?_
    rw[hc]
    exact da (r9 _) (.agg (.cons (.same trivial) (.cons (.same trivial) .nil)))
 ·have hc:gh n=(4,0):=by unfold gh;rw[if_neg (fun h=>hk h.1)]
  rw[hc]
  simp -implicitDefEqProofs (maxSteps:=99999999) (disch:=first | omega | (simp only[vl];first | done | omega)) only[vu,vg,hk,va,vg,vs,vw,vk,simprocAttr]
  exact da (r9 _) (.agg (.cons (.same trivial) (.cons (.same trivial) .nil)))
theorem UQ{P:Program}{f:FuncId}{args args':List AV}{v:AV}{H:Y}(hv:ct H args args')(hp:∀{φ φ':aH}{O O':Nat→Prop}{w w':World}{g:Nat→Option Value},R φ O w v g→R φ' O' w' v g)(h:D P f args' [] (.ret v) []):D P f args H (.ret v) H:=by
 refine ⟨Nat.le_refl _,fun φ w vs hR ha=>(h.2 fL w vs (Mj (hR.gZ.less fun b ho=>(qy ho).elim)) (hv.Rt hR ha)).mono fun en w' ⟨φ',h1,h2,h3⟩=>?_⟩
 have hb:=nx h3
 refine ⟨φ,?_,hR.grow hb.size hb.block,grow_step hb.os hb.tape hb.output hb.size hb.block⟩
 cases en with
 | returned u=>exact ⟨h1.1,hp h1.2⟩
 | _=>exact h1.elim
theorem HT(n:Nd)(hw:n.wt≤500000)(hs:n.size≤500000){x:AV}{H:Y}(hx:View H x (fH n)):D Tryz.prog 57 [x] H (.ret (AQ (gh n))) H:=by
 have h:=UO n hw hs none
 rw[jN] at h
 refine UQ (.cons hx .nil) (fun {φ φ' O O' w w' g} hr=>?_) h
 obtain ⟨h1,h2,h3,h4,h5,h6,h7⟩:=hr
 exact ⟨h1,h2,h3,h4,h5,h6,h7⟩
def yB(U:List Nat)(ws:WS)(j:Nat):AV:=.agg [.an 1 (aI (bh ws.bs j).path) none,.Z (.string (bh ws.bs j).name),aX 1 (aW (bh ws.bs j).cI) (U.getD j 0)]
def fP(b:jE):AV:=.agg [.an 1 (aI b.1) none,.Z (.string b.2.1),.an 1 (aW b.2.2) none]
theorem HU{F:Y}{n:Nat}{src:List Nat}:∀{l:List (List Int)},de F n src (aW l) (aW l)
 | []=>.nil
 | p::l=>.cons (.an py) HU
theorem HV{wid bK bo n0:Nat}{B U:List Nat}{ws:WS}{F G:Y}(hB:BS wid bK bo B U ws F)(hk:∀id,id<F.length→Y.find G id=Y.find F id)(hlo:∀id,id<n0→∀b,Y.find F id=some b→qh b):∀{l:List Nat},(∀j∈l,j<ws.bs.length)→de G n0 [] (l.map (yB U ws)) (l.map fun j=>fP ((bh ws.bs j).path,(bh ws.bs j).name,(bh ws.bs j).cI))
 | [],_=>.nil
 | j::l,h=>by
  have hu0:aW (bh ws.bs j).cI≠[]→Y.find F (U.getD j 0)=some ⟨1,aW (bh ws.bs j).cI,false,30⟩:=fun e=>hB.us j (h j (by simp)) fun e2=>e (by rw[e2];rfl)
  refine .cons (.agg (.cons (.an py) (.cons (.same trivial) (.cons (rM (ty:=30) (fun e=>?_) (fun e=>?_) HU) .nil)))) (HV hB hk hlo fun i hi=>h i (by simp[hi]))
  ·unfold cF
   rw[if_neg fun c=>?_]
   ·simp
   ·have:=(hlo _ c _ (hu0 e)).2.2.2 rfl
    simp at this
  ·rw[hk _ (Y.au (hu0 e)),hu0 e,bt e]
theorem PQ{n:Nd}{ws:WS}(h:jn n = .ok ws):ws.all.length≤n.kids.length+n.size:=by
 unfold jn at h
 cases hq:eY n.kids 0 [] ⟨[],[],0⟩ 1 with
 | error e=>rw[hq] at h;cases h
 | ok q =>
  rw[hq] at h
  simp only at h
  cases hr:bG q.1 n [[]] { q.2 with all:=[] } [] with
  | error e=>rw[hr] at h;cases h
  | ok r =>
   rw[hr] at h
   cases h
   have h1:SZ q.2 (0+n.kids.length):=HR (ws:=⟨[],[],0⟩) ⟨Nat.le_refl _,fun j=>by simp[bh,Bd.none,List.getD]⟩ hq
   have h2:SZ { q.2 with all:=[] } n.kids.length:=⟨Nat.zero_le _,fun j=>Nat.le_trans (h1.2 j) (by omega)⟩
   exact (HG n _ _ _ r _ h2 hr).1
theorem EH{H F:Y}{x y:AV}(h:∀id b,Y.find H id=some b→Y.find F id=some b)(hz:Gz F H.length [] x y):eo H (.ret x) F (.ret y) H :=
 lh [] (by simp) (by simp) (by simp) (fun id k hid hk=>.inl ⟨hk,h id k hk⟩) (fun i s k hs=>by simp at hs) hz
set_option maxHeartbeats 0 in
theorem um(n:Nd)(hw:n.wt≤500000)(hs:n.size≤500000)(ro:Option (List AV))(hv:∀H,View H (dF n ro) (fH n))(H:Y)(xe:∀id,id<H.length→∃b,Y.find H id=some b∧qh b):D Tryz.prog 23 [dF n ro] H (.ret (.an 3 ((cf n).map fP) none)) H:=by
 have iR:=fun H=>HT n hw hs (hv H)
 have jI:=fun (hk:n.kind=1)(hR:bB n 40=true) H=>MG n (fun f hf=>by
    obtain ⟨P,B,h⟩:=ph hk hR hf
    rw[h.kids];simp) (fun q hq=>Dc hk hR hq) hk hs (by omega) ro H
 simp only[aM] at jI iR
 unfold AQ at iR
 refine aD (Nat.le_refl _) (adW (aA ?_))
 rw[aM]
 simp only[ZI,ux]
 refine ae fun L hL=>?_
 refine aZ ?_
 refine hL _ _ ?_
 clear hL
 refine ae fun L hL=>?_
 refine aZ ?_
 refine ai (iR _) ?_
 by_cases hc:(gh n).1=0
 ·refine iz hc ?_
  refine hL _ _ ?_
  clear hL
  refine ae fun L hL=>?_
  refine aZ ?_
  refine hL _ _ ?_
  clear hL
  refine ae fun L hL=>?_
  refine aZ ?_
  by_cases c:n.kind=1∧bB n 40=true
  case neg =>
   unfold gh at hc
   rw[if_neg c] at hc
   simp at hc
  have zO:=w4 c.1 c.2
  refine gE (jI c.1 c.2 _) fun e H' hle gQ=>?_
  unfold xd at gQ
  obtain ⟨hK,gQ⟩:=gQ
  cases hl:jn n with
  | error f =>
   rw[hl] at zO
   unfold gh at hc
   rw[if_pos c,hl] at hc
   exact absurd hc zO.2
  | ok ws =>
   rw[hl] at gQ
   obtain ⟨wid,bK,bo,B,U,rfl,hB⟩:=gQ
   have qi:cf n=ws.all.map fun j=>((bh ws.bs j).path,(bh ws.bs j).name,(bh ws.bs j).cI):=by
    unfold cf
    rw[if_pos hc,hl]
   simp only[cr.post]
   refine aZ ?_
   refine hL _ _ ?_
   clear hL
   refine ae fun L hL=>?_
   refine ae fun L hL=>?_
   refine yt @Aa @xR ?_
   refine hL _ _ ?_
   clear hL
   refine bI (fun ts F=>∃(k io:Nat),k≤ws.all.length∧((∀id,id<H'.length→Y.find F id=Y.find H' id)∧H'.length≤F.length∧((ws.all.take k).map (yB U ws)≠[]→Y.find F io=bZ 3 47 ((ws.all.take k).map (yB U ws))∧H'.length≤io))∧
    Fr [none,none,none,some (aX 3 ((ws.all.take k).map (yB U ws)) io),none,none,none,none,none,none,none,none,none,none,none,none,none,some (aX 1 (ws.all.map (bp B)) bo),some (.Z (.int .i64 ws.all.length)),some (.Z (.int .i64 k)),none,none,none,none,none,none,none,none,none,none,none,none] ts) (fun ts _=>ws.all.length - (aU (ts.getD 19 .top)).toNat) ?_ ?_
   ·exact ⟨0,0,Nat.zero_le _,⟨fun id hid=>aj hid,by simp only[List.length_cons];omega,fun e=>absurd rfl e⟩,by simp[Fr,aX]⟩
   rintro ts F ⟨k,io,hk,⟨h1,h2,h3⟩,bx⟩ L2 cK
   obtain ⟨js,rfl⟩:=bx.opened
   clear bx
   have hBF:=hB.same h1
   have oV:=PQ hl
   have mc:=Nd.iZ n.kids
   have D0:=n.size_eq
   by_cases hd:k<ws.all.length
   ·have d1:(k:Int)<ws.all.length:=by omega
    have hne:ws.all≠[]:=fun e=>by rw[e] at hd;simp at hd
    obtain ⟨j,hj⟩:∃j,ws.all[k]? = some j:=⟨ws.all[k],by simp[hd]⟩
    have hjm:j∈ws.all:=List.mem_of_getElem? hj
    have hV:aX 1 (ws.all.map (bp B)) bo = .aE 1 bo 0 ws.all.length none:=by rw[nA (by simpa using hne)];simp
    have hal:=hBF.al hne
    have hg:(ws.all.map (bp B)).getD k .top = .ptr 4 (B.getD j 0) 0 0:=by simp[List.getD,hj,bp]
    have hbd:=hBF.bd j (hB.ao j hjm)
    unfold gy at hbd
    have htk:(ws.all.take (k+1)).map (yB U ws)=(ws.all.take k).map (yB U ws)++[yB U ws j]:=by
     rw[List.take_add_one,hj];simp
    obtain ⟨KS,F',p1,p2,p3,p4,p5,p6⟩:=rZ (H:=F) (k:=3) (ty:=47) (xs:=(ws.all.take k).map (yB U ws)) (ys:=[yB U ws j]) (id:=io) (fun e=>(h3 e).1) (by simp only[List.length_map,List.length_take,List.length_cons,List.length_nil];omega)
    have UR:(ws.all.take k).map (yB U ws)++[yB U ws j]≠[]:=by simp
    obtain ⟨xa,PG⟩:=p4 UR
    have e3:yB U ws j = .agg [.an 1 (aI (bh ws.bs j).path) none,.Z (.string (bh ws.bs j).name),aX 1 (aW (bh ws.bs j).cI) (U.getD j 0)]:=rfl
    have p1':=p1
    have p2':=p2
    have p3':=p3
    rw[e3] at p1' p2' p3'
    have hwr:IntKind.i64.wrap ((k:Int)+1)=(k:Int)+1:=by simpa using wrap_i64 (by omega) (by omega)
    have hlen:(ws.all.map (bp B)).length=ws.all.length:=by simp
    simp -implicitDefEqProofs (maxSteps:=99999999) (disch:=first | omega | (simp only[vl];first | done | omega)) only[mk,vu,vg,hV,d1,hal,hg,hbd,p1',p2',p3',hlen,hd,hwr,va,vg,vs,vw,vk,simprocAttr]
    refine ⟨by omega,cK _ _ ⟨k+1,KS,by omega,⟨fun id hid=>?_,by omega,fun _=>?_⟩,?_⟩ (by simp[aU,mk];omega)⟩
    ·rw[p6 id (by omega) (fun e=>by have:=(h3 e).2;omega),h1 id hid]
    ·rw[htk]
     exact ⟨xa,by omega⟩
    ·rw[htk,hV,e3]
     simp[Fr]
   ·have d1:¬(k:Int)<ws.all.length:=by omega
    have BU:ws.all.take k=ws.all:=List.take_of_length_le (by omega)
    rw[BU] at h3 ⊢
    simp -implicitDefEqProofs (maxSteps:=99999999) (disch:=first | omega | (simp only[vl];first | done | omega)) only[mk,vu,d1,va,vg,vs,vw,vk,simprocAttr]
    clear cK
    refine hL _ _ ?_
    clear hL
    refine aZ ?_
    rw[qi,List.map_map]
    refine EH (fun id b hb=>?_) (rM (ty:=47) (fun e=>?_) (fun e=>(h3 e).1) (HV hB h1 (fun id c b hb=>?_) fun j hj=>hB.ao j hj))
    ·have hid:=Y.au hb
     rw[h1 id (by have:=hK.1;simp only[List.length_cons] at this;omega)]
     obtain ⟨b',e1,e2⟩:=xe id hid
     rw[hb] at e1
     cases e1
     exact hK.2 id b (by rw[aj hid];exact hb) (.inl e2)
    ·unfold cF
     rw[if_neg (by have:=(h3 e).2;have:=hK.1;simp only[List.length_cons] at this;omega)]
     simp
    ·obtain ⟨b',e1,e2⟩:=xe id c
     have:=hK.2 id b' (by rw[aj c];exact e1) (.inl e2)
     rw[hb] at this
     cases this
     exact e2
 ·have hb:cf n=[]:=by unfold cf;rw[if_neg hc]
  rw[hb]
  refine iz hc ?_
  exact da (.cons .refl) .nil
set_option maxRecDepth 1000000
def ZQ:IC:=(.seq (.ops [iH 2 (.box 4 25 (.t 0)),iH 3 (.box 4 25 (.t 1)),iP 4 (.mv kF)]) (.seq (.ops [iP 5 (.mv (.k (.fn (.func 30) [] [])))]) (.seq (.cH [iH 6 (yA 4 2),iH 7 (.call 33 [(.t 6)]),iM 8 7,gH 9 8 .true (yA 4 3),gH 10 8 .true (.call 33 [(.t 9)]),iP 11 (.pick (.t 8) (.t 10) kF),iM 12 11,gH 13 12 .true (yA 4 2),gH 14 12 .true (yA 4 3),gH 15 12 .true (yC 34 13 14),iP 16 (.pick (.t 12) (.t 15) kF),iM 17 16,gH 18 17 .true (yA 4 2),gH 19 17 .true (.call 23 [(.t 18)]),gH 20 17 .true (yA 4 3),gH 21 17 .true (.call 23 [(.t 20)]),gM 22 17 .true 5,gH 23 17 .true (.call 35 [(.t 19),(.t 21),(.t 22)]),iP 24 (.pick (.t 17) (.t 23) kF),iM 4 24] [[],[0],[1,0],[2,1,0],[3,2,1,0],[2,1,0,4,3],[5,2,1,0,4,3],[6,5,2,1,0,4,3],[6,5,2,1,0,4,3],[7,6,5,2,1,0,4,3,8],[6,5,2,1,0,4,3,9,7,8],[10,6,5,2,1,0,4,3,9,7,8],[11,10,6,5,2,1,0,4,3,9,7,8],[12,11,10,6,5,2,1,0,4,3,9,7,8],[11,10,6,5,2,1,0,4,3,9,7,8],[14,11,10,6,5,2,1,0,4,3,9,7,8,13,12],[11,10,6,5,2,1,0,4,3,9,7,8],[13,12,11,10,6,5,2,1,0,4,3,9,7,8,15,14,16],[11,10,6,5,2,1,0,4,3,9,7,8,17,13,12,15,14,16],[18,11,10,6,5,2,1,0,4,3,9,7,8,17,13,12,15,14,16]]) .ret)))
theorem ad5:Dk Tryz.prog 10 ZQ [(.t 4)] 25:=aO (fn:=Tryz.f10) Tryz.func10 (by kernel_rfl) (by kernel_rfl) (by kernel_rfl)
def ZR:IC:=(.seq (.ops [iH 2 (.box 3 47 (.t 0)),iH 3 (.box 3 47 (.t 1)),iP 4 (.mv kF)]) (.seq (.ops [iP 5 (.af 0 (.t 2)),iH 6 (yD 1 5),iP 7 (.af 0 (.t 3)),iH 8 (yD 1 7),iH 9 (yC 31 6 8),iM 10 9,gP 11 10 .true (.af 2 (.t 2)),gH 12 10 .true (yD 1 11),gP 13 10 .true (.af 2 (.t 3)),gH 14 10 .true (yD 1 13),gH 15 10 .true (.call 32 [(.t 12),(.t 14),(.k (.fn (.func 31) [] []))]),iP 16 (.pick (.t 10) (.t 15) kF),iM 4 16]) .ret))
theorem ad6:Dk Tryz.prog 30 ZR [(.t 4)] 17:=aO (fn:=Tryz.f30) Tryz.func30 (by kernel_rfl) (by kernel_rfl) (by kernel_rfl)
def ZS:IC:=(.seq (.ops [iH 3 (.box 4 25 (.t 0)),iH 5 (.box 1 30 (.t 2)),⟨(some 6),none,(.h (.alloc (.agg [(.Z (.int .u8 0)),(.Z (.string ⟨#[]⟩)),(.Z (.int .i64 0)),aV]) 25))⟩,iP 7 (xI 0)]) (.seq (.block 0 (.seq (.ops [iP 13 (.af 0 (.t 3)),iH 14 (yD 1 13),iP 15 (.az .neq (.t 14) (.k (.Z (.int .u8 1)))),iM 16 15,gH 17 16 .false (yA 4 3),gH 18 16 .false (.call 40 [(.t 17)]),gP 19 16 .false (xN 18),iP 20 (.pick (.t 16) kT (.t 19)),iM 12 20]) (.cond (.t 12) (.seq (.ops [⟨(some 21),none,(.p (.build [(.Z (.int .u8 0)),(.Z (.string ⟨#[]⟩)),(.Z (.int .i64 0)),aV] []))⟩,iS 4 6 21,iP 7 (xI 4)]) .ret) (.seq (.ops [iH 23 (yA 4 3),iH 24 (.call 33 [(.t 23)]),iP 25 (xN 24),iM 22 25]) (.cond (.t 22) (.seq (.ops [⟨(some 26),none,(.p (.build [(.Z (.int .u8 0)),(.Z (.string ⟨#[]⟩)),(.Z (.int .i64 0)),aV] []))⟩,iS 4 6 26,iP 7 (xI 122)]) .ret) .skip))))) (.seq (.ops [iH 27 (yA 4 3),iH 28 (.call 23 [(.t 27)]),iM 8 28]) (.seq (.ops [iM 29 8,iP 30 (.mw (.func 42) [] [(.t 5)]),iH 31 (yC 41 29 30),iM 9 31]) (.seq (.block 1 (.seq (.ops [iM 33 9,iP 34 (.az .lss (.t 33) (kI 0)),iM 32 34]) (.cond (.t 32) (.seq (.ops [⟨(some 35),none,(.p (.build [(.Z (.int .u8 0)),(.Z (.string ⟨#[]⟩)),(.Z (.int .i64 0)),aV] []))⟩,iS 4 6 35,iP 7 (xI 6)]) .ret) (.seq (.ops [iM 37 1,iH 38 (.call 43 [(.t 37)]),iP 39 (xN 38),iM 36 39]) (.cond (.t 36) (.seq (.ops [⟨(some 40),none,(.p (.build [(.Z (.int .u8 0)),(.Z (.string ⟨#[]⟩)),(.Z (.int .i64 0)),aV] []))⟩,iS 4 6 40,iP 7 (xI 2)]) .ret) .skip))))) (.seq (.ops [iM 41 1,⟨(some 42),none,(.p (.build [aV,(.Z (.string ⟨#[]⟩))] [(1,1,(.t 41))]))⟩,iH 43 (.box 2 66 (.t 42)),iM 10 43]) (.seq (.cH [iM 44 10,iP 45 (.aP (.t 44)),iP 46 (.af 0 (.t 45)),iH 47 (yD 1 5),iH 48 (.dK 1 30 aV 1 [(0,(.t 47))]),iH 49 (yC 44 46 48)] [[],[0],[1,0],[],[3],[2,1,0,4,3]]) (.seq (.cH [iM 50 10,iP 51 (.aP (.t 50)),iP 52 (.af 0 (.t 51)),iM 53 8,iM 54 9,iP 55 (xA 3 53 54),iP 56 (.af 2 (.t 55)),iH 57 (yD 1 56),iH 58 (yC 44 52 57)] [[],[0],[1,0],[],[],[3,4],[5,3,4],[6,5,3,4],[2,1,0,7,6,5,3,4]]) (.seq (.ops [iM 59 10,iH 60 (yA 4 3),iH 61 (yC 45 59 60),⟨(some 11),none,(.h (.alloc (.agg [(.Z (.int .u8 0)),(.Z (.string ⟨#[]⟩)),(.Z (.int .i64 0)),aV]) 25))⟩,iS 4 11 61]) (.seq (.seq (.ops [iH 62 (yA 4 3),iH 63 (yA 4 11),iH 64 (yC 10 62 63),iP 65 (xN 64)]) (.cond (.t 65) (.seq (.ops [⟨(some 66),none,(.p (.build [(.Z (.int .u8 0)),(.Z (.string ⟨#[]⟩)),(.Z (.int .i64 0)),aV] []))⟩,iS 4 6 66,iP 7 (xI 120)]) .ret) .skip)) (.seq (.ops [iH 67 (yA 4 11),iS 4 6 67,iP 7 (xI 0)]) .ret)))))))))))
theorem ad7:Dk Tryz.prog 14 ZS [(.c 6 4 .true),(.t 7)] 68:=aO (fn:=Tryz.f14) Tryz.func14 (by kernel_rfl) (by kernel_rfl) (by kernel_rfl)
def ZT:IC:=(.seq (.ops [iH 2 (.box 3 47 (.t 0)),iP 3 (.mv kF)]) (.seq (.ops [iP 4 (.af 0 (.t 2)),iH 5 (yD 1 4),iH 6 (yD 1 1),iH 7 (yC 31 5 6),iM 3 7]) .ret))
theorem ad8:Dk Tryz.prog 42 ZT [(.t 3)] 8:=aO (fn:=Tryz.f42) Tryz.func42 (by kernel_rfl) (by kernel_rfl) (by kernel_rfl)
def ZU:IC:=(.seq (.ops [iH 1 (.box 4 25 (.t 0)),iP 2 (.mv kF)]) (.seq (.ops [iP 3 (.af 0 (.t 1)),iH 4 (yD 1 3),iP 5 (.az .eql (.t 4) (.k (.Z (.int .u8 1)))),iM 6 5,gH 7 6 .true (yA 4 1),gH 8 6 .true (.call 57 [(.t 7)]),gP 9 6 .true (.field 0 1 .false (.t 8)),gP 10 6 .true (.az .eql (.t 9) (kI 0)),iP 11 (.pick (.t 6) (.t 10) kF),iM 2 11]) .ret))
theorem ad9:Dk Tryz.prog 33 ZU [(.t 2)] 12:=aO (fn:=Tryz.f33) Tryz.func33 (by kernel_rfl) (by kernel_rfl) (by kernel_rfl)
def ZV:IC:=(.seq (.ops [iH 2 (.box 4 25 (.t 0)),iH 3 (.box 4 25 (.t 1)),iP 4 (.mv kF)]) (.seq (.ops [iP 5 (.af 0 (.t 2)),iH 6 (yD 1 5),iP 7 (.af 0 (.t 3)),iH 8 (yD 1 7),iP 9 (xB .eql 6 8),iM 10 9,gP 11 10 .true (.af 2 (.t 2)),gH 12 10 .true (yD 1 11),gP 13 10 .true (.af 2 (.t 3)),gH 14 10 .true (yD 1 13),gP 15 10 .true (xB .eql 12 14),iP 16 (.pick (.t 10) (.t 15) kF),iM 17 16,gP 18 17 .true (.af 0 (.t 2)),gH 19 17 .true (yD 1 18),gH 20 17 .true (.call 64 [(.t 19)]),gM 21 17 .true 20,gP 22 21 .false (.af 1 (.t 2)),gH 23 21 .false (yD 1 22),gP 24 21 .false (.af 1 (.t 3)),gH 25 21 .false (yD 1 24),gP 26 21 .false (xB .eql 23 25),gP 27 17 .true (.pick (.t 21) kT (.t 26)),iP 28 (.pick (.t 17) (.t 27) kF),iM 29 28,gP 30 29 .true (.af 3 (.t 2)),gH 31 29 .true (yD 1 30),gP 32 29 .true (.af 3 (.t 3)),gH 33 29 .true (yD 1 32),gH 34 29 .true (.call 65 [(.t 31),(.t 33),(.k (.fn (.func 34) [] []))]),iP 35 (.pick (.t 29) (.t 34) kF),iM 4 35]) .ret))
theorem aea:Dk Tryz.prog 34 ZV [(.t 4)] 36:=aO (fn:=Tryz.f34) Tryz.func34 (by kernel_rfl) (by kernel_rfl) (by kernel_rfl)
def ZW:IC:=(.seq (.ops [iP 2 (.mv kF)]) (.seq (.ops [iH 3 (.dK 1 22 (.Z (.int .u8 0)) 5 [(0,(.k (.Z (.int .u8 2)))),(1,(.k (.Z (.int .u8 4)))),(2,(.k (.Z (.int .u8 6)))),(3,(.k (.Z (.int .u8 22)))),(4,(.k (.Z (.int .u8 25))))]),iM 4 0,iH 5 (yC 121 3 4),iM 2 5]) .ret))
theorem aeb:Dk Tryz.prog 64 ZW [(.t 2)] 6:=aO (fn:=Tryz.f64) Tryz.func64 (by kernel_rfl) (by kernel_rfl) (by kernel_rfl)
def ZX:IC:=(.seq (.ops [iP 6 (.mv kF)]) (.seq (.ops [iM 7 0,iM 8 1,iM 9 2,iH 10 (.call 63 [(.t 7),(.t 8),(.t 9)]),iM 6 10]) .ret))
theorem aec:Dk Tryz.prog 32 ZX [(.t 6)] 11:=aO (fn:=Tryz.f32) Tryz.func32 (by kernel_rfl) (by kernel_rfl) (by kernel_rfl)
def ZY:IC:=(.seq (.ops [iP 6 (.mv kF)]) (.seq (.ops [iM 7 0,iM 8 1,iM 9 2,iH 10 (.call 66 [(.t 7),(.t 8),(.t 9)]),iM 6 10]) .ret))
theorem aed:Dk Tryz.prog 35 ZY [(.t 6)] 11:=aO (fn:=Tryz.f35) Tryz.func35 (by kernel_rfl) (by kernel_rfl) (by kernel_rfl)
def ZZ:IC:=(.seq (.ops [iP 6 (.mv kF)]) (.seq (.ops [iM 7 0,iM 8 1,iM 9 2,iH 10 (.call 122 [(.t 7),(.t 8),(.t 9)]),iM 6 10]) .ret))
theorem aee:Dk Tryz.prog 65 ZZ [(.t 6)] 11:=aO (fn:=Tryz.f65) Tryz.func65 (by kernel_rfl) (by kernel_rfl) (by kernel_rfl)
def Z0:IC:=(.seq (.ops [iP 4 (xI 0)]) (.seq (.seq (.ops [iM 6 0,iP 7 (xL 6),iP 8 (xI 0)]) (.block 0 (.loop (.seq (.ops [iP 9 (xB .lss 8 7)]) (.seq (.cond (.t 9) .skip (.exit 0)) (.seq (.block 1 (.seq (.ops [iM 10 8,iM 5 10]) (.seq (.ops [iM 11 1,iM 12 0,iM 13 5,iP 14 (xA 3 12 13),iH 15 (yA 3 14),iH 16 (.bM (.t 11) [(.t 15)])]) (.cond (.t 16) (.seq (.ops [iM 17 5,iM 4 17]) .ret) .skip)))) (.ops [iP 18 (.az .add (.t 8) (kI 1)),iM 8 18]))))))) (.seq (.ops [iP 4 (xI (-1))]) .ret)))
theorem aef:Dk Tryz.prog 41 Z0 [(.t 4)] 19:=aO (fn:=Tryz.f41) Tryz.func41 (by kernel_rfl) (by kernel_rfl) (by kernel_rfl)
def Z1:IC:=(.seq (.ops [iP 6 (.mv kF)]) (.seq (.seq (.ops [iM 10 0,iP 11 (xL 10),iM 12 1,iP 13 (xL 12),iP 14 (xB .neq 11 13)]) (.cond (.t 14) (.seq (.ops [iP 6 (.mv kF)]) .ret) .skip)) (.seq (.seq (.ops [iM 15 0,iP 16 (xL 15),iP 17 (xI 0)]) (.block 0 (.loop (.seq (.ops [iP 18 (xB .lss 17 16)]) (.seq (.cond (.t 18) .skip (.exit 0)) (.seq (.block 1 (.seq (.ops [iM 19 17,iP 20 (xA 1 15 17),iH 21 (yD 1 20),iM 7 19,iM 8 21]) (.seq (.ops [iM 22 1,iM 23 7,iP 24 (xA 1 22 23),iH 25 (yD 1 24),iM 9 25]) (.seq (.ops [iM 26 2,iM 27 8,iM 28 9,iH 29 (.bM (.t 26) [(.t 27),(.t 28)]),iP 30 (xN 29)]) (.cond (.t 30) (.seq (.ops [iP 6 (.mv kF)]) .ret) .skip))))) (.ops [iP 31 (.az .add (.t 17) (kI 1)),iM 17 31]))))))) (.seq (.ops [iP 6 (.mv kT)]) .ret))))
theorem aeg:Dk Tryz.prog 63 Z1 [(.t 6)] 32:=aO (fn:=Tryz.f63) Tryz.func63 (by kernel_rfl) (by kernel_rfl) (by kernel_rfl)
def Z2:IC:=(.seq (.ops [iP 6 (.mv kF)]) (.seq (.seq (.ops [iM 10 0,iP 11 (xL 10),iM 12 1,iP 13 (xL 12),iP 14 (xB .neq 11 13)]) (.cond (.t 14) (.seq (.ops [iP 6 (.mv kF)]) .ret) .skip)) (.seq (.seq (.ops [iM 15 0,iP 16 (xL 15),iP 17 (xI 0)]) (.block 0 (.loop (.seq (.ops [iP 18 (xB .lss 17 16)]) (.seq (.cond (.t 18) .skip (.exit 0)) (.seq (.block 1 (.seq (.ops [iM 19 17,iP 20 (xA 3 15 17),iH 21 (yA 3 20),⟨(some 8),none,(.h (.alloc (.agg [aV,(.Z (.string ⟨#[]⟩)),aV]) 47))⟩,iM 7 19,iS 3 8 21]) (.seq (.ops [iM 22 1,iM 23 7,iP 24 (xA 3 22 23),iH 25 (yA 3 24),⟨(some 9),none,(.h (.alloc (.agg [aV,(.Z (.string ⟨#[]⟩)),aV]) 47))⟩,iS 3 9 25]) (.seq (.ops [iM 26 2,iH 27 (yA 3 8),iH 28 (yA 3 9),iH 29 (.bM (.t 26) [(.t 27),(.t 28)]),iP 30 (xN 29)]) (.cond (.t 30) (.seq (.ops [iP 6 (.mv kF)]) .ret) .skip))))) (.ops [iP 31 (.az .add (.t 17) (kI 1)),iM 17 31]))))))) (.seq (.ops [iP 6 (.mv kT)]) .ret))))
theorem aeh:Dk Tryz.prog 66 Z2 [(.t 6)] 32:=aO (fn:=Tryz.f66) Tryz.func66 (by kernel_rfl) (by kernel_rfl) (by kernel_rfl)
def UT:IC:=(.seq (.ops [iP 4 (.mv kF)]) (.seq (.ops [iM 5 0,iM 6 1,iH 7 (yC 181 5 6),iP 8 (.az .geq (.t 7) (kI 0)),iM 4 8]) .ret))
theorem ab3:Dk Tryz.prog 128 UT [(.t 4)] 9:=aO (fn:=Tryz.f128) Tryz.func128 (by kernel_rfl) (by kernel_rfl) (by kernel_rfl)
def UU:IC:=(.seq (.ops [iP 4 (xI 0)]) (.seq (.seq (.ops [iM 6 0,iP 7 (xL 6),iP 8 (xI 0)]) (.block 0 (.loop (.seq (.ops [iP 9 (xB .lss 8 7)]) (.seq (.cond (.t 9) .skip (.exit 0)) (.seq (.block 1 (.seq (.ops [iM 10 8,iM 5 10]) (.seq (.ops [iM 11 1,iM 12 0,iM 13 5,iP 14 (xA 1 12 13),iH 15 (yD 1 14),iH 16 (.bM (.t 11) [(.t 15)])]) (.cond (.t 16) (.seq (.ops [iM 17 5,iM 4 17]) .ret) .skip)))) (.ops [iP 18 (.az .add (.t 8) (kI 1)),iM 8 18]))))))) (.seq (.ops [iP 4 (xI (-1))]) .ret)))
theorem ab4:Dk Tryz.prog 181 UU [(.t 4)] 19:=aO (fn:=Tryz.f181) Tryz.func181 (by kernel_rfl) (by kernel_rfl) (by kernel_rfl)
def Z3:IC:=(.ops [iM 4 0,iM 5 0,iP 6 (.aP (.t 5)),iP 7 (.af 0 (.t 6)),iH 8 (yD 1 7),iM 9 1,iH 10 (.dD 1 30 (.t 8) (.t 9)),iP 11 (.aP (.t 4)),iP 12 (.af 0 (.t 11)),iS 1 12 10])
theorem aei:Dk Tryz.prog 44 Z3 [] 13:=aO (fn:=Tryz.f44) Tryz.func44 (by kernel_rfl) (by kernel_rfl) (by kernel_rfl)
def Z4:IC:=(.seq (.ops [iH 3 (.box 1 30 (.t 1)),iP 4 (.mv kF)]) (.seq (.ops [iM 5 0,iP 6 (.aP (.t 5)),iP 7 (.af 0 (.t 6)),iH 8 (yD 1 7),iP 9 (.mw (.func 129) [] [(.t 3)]),iH 10 (yC 128 8 9),iM 4 10]) .ret))
theorem aej:Dk Tryz.prog 76 Z4 [(.t 4)] 11:=aO (fn:=Tryz.f76) Tryz.func76 (by kernel_rfl) (by kernel_rfl) (by kernel_rfl)
def UV:IC:=(.seq (.ops [iP 3 (.mv kF)]) (.seq (.ops [iM 4 0,iH 5 (yD 1 1),iH 6 (yC 31 4 5),iM 3 6]) .ret))
theorem ab5:Dk Tryz.prog 129 UV [(.t 3)] 7:=aO (fn:=Tryz.f129) Tryz.func129 (by kernel_rfl) (by kernel_rfl) (by kernel_rfl)
def Z5:IC:=(.seq (.ops [iH 2 (.box 1 62 (.t 0)),iH 3 (.box 4 25 (.t 1)),⟨(some 4),none,(.h (.alloc (.agg [(.Z (.int .u8 0)),(.Z (.string ⟨#[]⟩)),(.Z (.int .i64 0)),aV]) 25))⟩]) (.seq (.ops [iH 5 (.alloc aV 30)]) (.seq (.ops [iH 6 (.alloc (.Z .nilFunc) 28)]) (.seq (.ops [iP 7 (.mw (.func 75) [] [(.t 2),(.t 5),(.t 6)]),iS 1 6 7]) (.seq (.ops [iH 8 (yD 1 6),iH 9 (yA 4 3),iH 10 (.bM (.t 8) [(.t 9)]),iS 4 4 10]) .ret)))))
theorem aek:Dk Tryz.prog 45 Z5 [(.c 4 4 .true)] 11:=aO (fn:=Tryz.f45) Tryz.func45 (by kernel_rfl) (by kernel_rfl) (by kernel_rfl)
def gA:IC:=(.seq (.ops [iH 4 (.box 4 25 (.t 0)),⟨(some 5),none,(.h (.alloc (.agg [(.Z (.int .u8 0)),(.Z (.string ⟨#[]⟩)),(.Z (.int .i64 0)),aV]) 25))⟩]) (.seq (.seq (.cH [iH 9 (yD 1 1),iP 10 (.aP (.t 9)),iP 11 (.af 0 (.t 10)),iH 12 (yD 1 2),iH 13 (yC 76 11 12)] [[],[0],[1,0],[],[2,1,0,3]]) (.cond (.t 13) (.ops [iH 14 (yD 1 1),iP 15 (.aP (.t 14)),iP 16 (.af 1 (.t 15)),iH 17 (yD 1 16),iP 18 (.af 1 (.t 4)),iS 1 18 17]) .skip)) (.seq (.ops [iP 19 (.af 3 (.t 4)),iH 20 (yD 1 19),iM 6 20]) (.seq (.ops [iP 21 (.af 3 (.t 4)),⟨none,none,(.h (.store 1 (.t 21) (.k aV)))⟩]) (.seq (.seq (.ops [iM 22 6,iP 23 (xL 22),iP 24 (xI 0)]) (.block 0 (.loop (.seq (.ops [iP 25 (xB .lss 24 23)]) (.seq (.cond (.t 25) .skip (.exit 0)) (.seq (.block 1 (.seq (.ops [iM 26 24,iP 27 (xA 4 22 24),iH 28 (yA 4 27),⟨(some 8),none,(.h (.alloc (.agg [(.Z (.int .u8 0)),(.Z (.string ⟨#[]⟩)),(.Z (.int .i64 0)),aV]) 25))⟩,iM 7 26,iS 4 8 28]) (.seq (.ops [iH 29 (yD 1 2),iM 30 7,iH 31 (.dK 1 3 (.Z (.int .i64 0)) 1 [(0,(.t 30))]),iH 32 (.dD 1 3 (.t 29) (.t 31)),iS 1 2 32]) (.seq (.cH [iP 33 (.af 3 (.t 4)),iH 34 (yD 1 33),iH 35 (yD 1 3),iH 36 (yA 4 8),iH 37 (.bM (.t 35) [(.t 36)]),⟨(some 38),none,(.h (.dK 4 25 (.agg [(.Z (.int .u8 0)),(.Z (.string ⟨#[]⟩)),(.Z (.int .i64 0)),aV]) 1 [(0,(.t 37))]))⟩,iH 39 (.dD 4 25 (.t 34) (.t 38)),iP 40 (.af 3 (.t 4)),iS 1 40 39] [[],[0],[],[],[2,3],[4,2,3],[1,0,5,4,2,3],[0,1,2,3,4,5,6],[7,0,1,2,3,4,5,6]]) (.ops [iH 41 (yD 1 2),iH 42 (yD 1 2),iP 43 (xL 42),iP 44 (.az .sub (.t 43) (kI 1)),iP 45 (.qE 1 (.t 41) none (some (.t 44)) none),iS 1 2 45]))))) (.ops [iP 46 (.az .add (.t 24) (kI 1)),iM 24 46]))))))) (.seq (.ops [iH 47 (yA 4 4),iS 4 5 47]) .ret))))))
end Go.Proofs.YtnoplgongieehaaGreatDoor
