import Derived.Test.YtdjnccnecgblmaaGreatDoorVB
import Derived.ChangeOld
import Derived.Below
import Derived.Carry
import Derived.OpenShut
import Derived.Recover
namespace Go.Proofs.YtdjnccnecgblmaaGreatDoor
open Go.RowKit
set_option linter.unusedVariables false
set_option linter.unusedSimpArgs false
def bndV (ev : X→AV) (d : Nat) : Option X→Nat
 | none=>d
 | some x=>match ev x with
  | .sc (.int _ n)=>n.toNat
  | _=>0
def bndOk (ev : X→AV) : Option X→Prop
 | none=>True
 | some x=>match ev x with
  | .sc (.int _ n)=>0 ≤ n
  | _=>False
def fillV (ev : X→AV) : List AV→List (Nat × Nat × X)→List AV
 | zs,[]=>zs
 | zs,(off,n,x) :: r=>fillV ev (zs.take off ++ (ev x).cells ++ zs.drop (off+n)) r
def fillOk (ev : X→AV) : List AV→List (Nat × Nat × X)→Prop
 | _,[]=>True
 | zs,(off,n,x) :: r=>((ev x).isTop=false ∧ (ev x).ncells=n ∧ off+n ≤ zs.length) ∧ fillOk ev (zs.take off ++ (ev x).cells ++ zs.drop (off+n)) r
theorem fillA_iff {ev : X→AV} {K : List AV→Prop} : ∀ {ps : List (Nat × Nat × X)} {zs : List AV},fillA ev zs ps K ↔ fillOk ev zs ps ∧ K (fillV ev zs ps)
 | [],zs=>by simp[fillA,fillOk,fillV]
 | (o,n,x) :: r,zs=>by simp only[fillA,fillOk,fillV,fillA_iff (ps:=r),and_assoc]
theorem bnd_iff {ev : X→AV} {d : Nat} {K : Nat→Prop} {o : Option X} : bnd ev d o K ↔ bndOk ev o ∧ K (bndV ev d o):=by
 cases o with
 | none=>simp[bnd,bndOk,bndV]
 | some x =>
  simp only[bnd,bndOk,bndV]
  cases ev x with
  | sc v=>cases v <;> simp
  | _=>simp
def binF (op : BinOp) : AV→AV→AV
 | .sc u,.sc v=>match binV op u v with
  | some r=>.sc r
  | none=>.top
 | _,_=>.top
def binOk (op : BinOp) : AV→AV→Prop
 | .sc u,.sc v=>(binV op u v).isSome=true
 | _,_=>False
def shF (op : BinOp) : AV→AV→AV
 | .sc u,.sc v=>match shV op u v with
  | some r=>.sc r
  | none=>.top
 | _,_=>.top
def shOk (op : BinOp) : AV→AV→Prop
 | .sc u,.sc v=>(shV op u v).isSome=true
 | _,_=>False
def unF (op : UnOp) : AV→AV
 | .sc u=>match unV op u with
  | some r=>.sc r
  | none=>.top
 | _=>.top
def unOk (op : UnOp) : AV→Prop
 | .sc u=>(unV op u).isSome=true
 | _=>False
def eqBF (pos : Bool) : AV→AV→AV
 | .sc (.bool a),.sc (.bool b)=>.sc (.bool (if pos then a == b else !(a == b)))
 | _,_=>.top
def eqBOk : AV→AV→Prop
 | .sc (.bool _),.sc (.bool _)=>True
 | _,_=>False
def eqNF (pos : Bool) : AV→AV
 | .sc .nilIface=>.sc (.bool pos)
 | .ifc _ _=>.sc (.bool !pos)
 | _=>.top
def eqNOk : AV→Prop
 | .sc .nilIface=>True
 | .ifc _ _=>True
 | _=>False
def nilSF (pos : Bool) : AV→AV
 | .lst _ [] _=>.ub
 | .lst _ (_ :: _) _=>.sc (.bool !pos)
 | .vec _ _ _ _ _=>.sc (.bool !pos)
 | _=>.top
def nilSOk : AV→Prop
 | .lst _ _ _=>True
 | .vec _ _ _ _ _=>True
 | _=>False
def pickF : AV→AV→AV→AV
 | .sc (.bool true),a,_=>a
 | .sc (.bool false),_,b=>b
 | _,_,_=>.top
def pickOk : AV→Prop
 | .sc (.bool _)=>True
 | _=>False
def convF (k : IntKind) : AV→AV
 | .sc (.int _ n)=>.sc (.int k (k.wrap n))
 | _=>.top
def convBF : AV→AV
 | .lst _ xs _=>.sc (.string (bytesV xs))
 | _=>.top
def convBOk : AV→Prop
 | .lst k xs _=>k=1 ∧ bytesOk xs=true
 | _=>False
def convOk : AV→Prop
 | .sc (.int _ _)=>True
 | _=>False
def nilckOk : AV→Prop
 | .ptr k _ _ f=>0 < k ∨ 0 < f
 | .lp ..=>True
 | .fn (.func _) _ _=>True
 | _=>False
def faddrF (off : Nat) : AV→AV
 | .ptr k id j f=>.ptr k id j (f+off)
 | .lp y f=>.lp y (f+off)
 | _=>.top
def faddrOk : AV→Prop
 | .ptr k _ _ _=>0 < k
 | .lp ..=>True
 | _=>False
def fieldOk (off n : Nat) (ag : Bool) : AV→Prop
 | .agg cs=>AV.subOk (.agg cs) off n ag
 | _=>False
def iaddrF (k : Nat) : AV→AV→AV
 | .lst _ xs _,.sc (.int _ n)=>.lp (xs.getD n.toNat .top) 0
 | .vec _ id off _ _,.sc (.int _ n)=>.ptr k id (off+n.toNat) 0
 | _,_=>.top
def iaddrOk (k : Nat) : AV→AV→Prop
 | .lst k' xs _,.sc (.int _ n)=>0 ≤ n ∧ n < (xs.length : Int) ∧ k'=k
 | .vec k' _ _ m _,.sc (.int _ n)=>0 ≤ n ∧ n < (m : Int) ∧ k'=k ∧ 0 < k
 | _,_=>False
def iaddrAF (k : Nat) : AV→AV→AV
 | .ptr k' id j f,.sc (.int _ n)=>.ptr k' id j (f+n.toNat * k)
 | .lp y f,.sc (.int _ n)=>.lp y (f+n.toNat * k)
 | _,_=>.top
def iaddrAOk (ln : Nat) : AV→AV→Prop
 | .ptr k _ _ _,.sc (.int _ n)=>0 ≤ n ∧ n < (ln : Int) ∧ 0 < k
 | .lp _ _,.sc (.int _ n)=>0 ≤ n ∧ n < (ln : Int)
 | _,_=>False
def idxSF : AV→AV→AV
 | .sc (.string s),.sc (.int _ n)=>.sc (.int .u8 ((s.data.getD n.toNat 0).toNat : Int))
 | _,_=>.top
def idxSOk : AV→AV→Prop
 | .sc (.string s),.sc (.int _ n)=>0 ≤ n ∧ n < (s.size : Int)
 | _,_=>False
def idxAF (n : Nat) (ag : Bool) : AV→AV→AV
 | .agg cs,.sc (.int _ m)=>AV.sub (.agg cs) (m.toNat * n) n ag
 | _,_=>.top
def idxAOk (ln n : Nat) (ag : Bool) : AV→AV→Prop
 | .agg cs,.sc (.int _ m)=>(0 ≤ m ∧ m < (ln : Int)) ∧ AV.subOk (.agg cs) (m.toNat * n) n ag
 | _,_=>False
def slcF (k : Nat) (mx : Option Nat) (h l : Nat) : AV→AV
 | .lst _ xs room=>match mx with
  | some m=>.lst k ((xs.take h).drop l) (some ((xs.take m).drop h))
  | none=>match room with
   | none=>.lst k ((xs.take h).drop l) none
   | some ys=>.lst k (((xs ++ ys).take h).drop l) (some ((xs ++ ys).drop h))
 | .vec _ id off _ c=>match c with
  | none=>if l < h then .vec k id (off+l) (h - l) none else .lst k [] none
  | some m=>if l < m then .vec k id (off+l) (h - l) (some (m - l)) else .lst k [] none
 | _=>.top
def slcOk (k : Nat) (mx : Option Nat) (hs : Bool) (h l : Nat) : AV→Prop
 | .lst k' xs room=>(k'=k ∨ xs=[] ∧ room=some []) ∧ match mx with
  | some m=>hs=true ∧ l ≤ h ∧ h ≤ m ∧ m ≤ xs.length
  | none=>match room with
   | none=>l ≤ h ∧ h ≤ xs.length
   | some ys=>l ≤ h ∧ h ≤ xs.length+ys.length
 | .vec k' _ _ n c=>k'=k ∧ mx.isNone=true ∧ l ≤ h ∧ h ≤ c.getD n
 | _=>False
def lenN : AV→Nat
 | .lst _ xs _=>xs.length
 | .vec _ _ _ n _=>n
 | _=>0
def lenOk : AV→Prop
 | .lst _ _ _=>True
 | .vec ..=>True
 | .sc (.slice none 0 0)=>True
 | _=>False
def strOk : AV→Prop
 | .sc (.string _)=>True
 | _=>False
def strV : AV→ByteArray
 | .sc (.string s)=>s
 | _=>ByteArray.empty
def mmF (mx : Bool) : AV→AV→AV
 | .sc (.int k a),.sc (.int _ b)=>.sc (.int k (if mx then (if b > a then b else a) else (if b < a then b else a)))
 | _,_=>.top
def mmOk : AV→AV→Prop
 | .sc (.int _ _),.sc (.int _ _)=>True
 | _,_=>False
def extF (i : Nat) : AV→AV
 | .tup vs=>vs.getD i .top
 | _=>.top
def extOk (i : Nat) : AV→Prop
 | .tup vs=>i < vs.length
 | _=>False
def tassF (t : TypeId) (z : AV) : AV→AV
 | .ifc u v=>if u=t then .tup [v,.sc (.bool true)] else .tup [z,.sc (.bool false)]
 | .sc .nilIface=>.tup [z,.sc (.bool false)]
 | _=>.top
def tassOk : AV→Prop
 | .ifc _ _=>True
 | .sc .nilIface=>True
 | _=>False
def PO.ok (ev : X→AV) : PO→Prop
 | .mv _=>True
 | .pick c _ _=>pickOk (ev c)
 | .bin op x y=>binOk op (ev x) (ev y)
 | .shf op x y=>shOk op (ev x) (ev y)
 | .eqB _ x y=>eqBOk (ev x) (ev y)
 | .eqN _ x=>eqNOk (ev x)
 | .nilS _ x=>nilSOk (ev x)
 | .un op x=>unOk op (ev x)
 | .conv _ x=>convOk (ev x)
 | .convB x=>convBOk (ev x)
 | .nilck x=>nilckOk (ev x)
 | .faddr _ x=>faddrOk (ev x)
 | .field off n ag x=>fieldOk off n ag (ev x)
 | .iaddr k x i=>iaddrOk k (ev x) (ev i)
 | .iaddrA ln _ x i=>iaddrAOk ln (ev x) (ev i)
 | .idxS x i=>idxSOk (ev x) (ev i)
 | .idxA ln n ag x i=>idxAOk ln n ag (ev x) (ev i)
 | .slc k x lo hi mx=>bndOk ev lo ∧ bndOk ev hi ∧ bndOk ev mx ∧ slcOk k (match mx with | none=>none | some m=>some (bndV ev 0 (some m))) hi.isSome (bndV ev (match mx with | none=>lenN (ev x) | some _=>0) hi) (bndV ev 0 lo) (ev x)
 | .slcS x lo hi=>strOk (ev x) ∧ bndOk ev lo ∧ bndOk ev hi ∧ bndV ev 0 lo ≤ bndV ev (strV (ev x)).size hi ∧ bndV ev (strV (ev x)).size hi ≤ (strV (ev x)).size
 | .len x=>lenOk (ev x)
 | .lenS x=>strOk (ev x)
 | .mm _ x y=>mmOk (ev x) (ev y)
 | .ext x i=>extOk i (ev x)
 | .mkfn _ _ _=>True
 | .mkif _ _=>True
 | .tass _ _ x=>tassOk (ev x)
 | .build zs ps=>fillOk ev zs ps
def PO.val (ev : X→AV) : PO→AV
 | .mv x=>ev x
 | .pick c a b=>pickF (ev c) (ev a) (ev b)
 | .bin op x y=>binF op (ev x) (ev y)
 | .shf op x y=>shF op (ev x) (ev y)
 | .eqB pos x y=>eqBF pos (ev x) (ev y)
 | .eqN pos x=>eqNF pos (ev x)
 | .nilS pos x=>nilSF pos (ev x)
 | .un op x=>unF op (ev x)
 | .conv k x=>convF k (ev x)
 | .convB x=>convBF (ev x)
 | .nilck x=>ev x
 | .faddr off x=>faddrF off (ev x)
 | .field off n ag x=>AV.sub (ev x) off n ag
 | .iaddr k x i=>iaddrF k (ev x) (ev i)
 | .iaddrA _ k x i=>iaddrAF k (ev x) (ev i)
 | .idxS x i=>idxSF (ev x) (ev i)
 | .idxA _ n ag x i=>idxAF n ag (ev x) (ev i)
 | .slc k x lo hi mx=>slcF k (match mx with | none=>none | some m=>some (bndV ev 0 (some m))) (bndV ev (match mx with | none=>lenN (ev x) | some _=>0) hi) (bndV ev 0 lo) (ev x)
 | .slcS x lo hi=>.sc (.string ((strV (ev x)).extract (bndV ev 0 lo) (bndV ev (strV (ev x)).size hi)))
 | .len x=>.sc (.int .i64 (lenN (ev x)))
 | .lenS x=>.sc (.int .i64 (strV (ev x)).size)
 | .mm mx x y=>mmF mx (ev x) (ev y)
 | .ext x i=>extF i (ev x)
 | .mkfn f a b=>.fn f (a.map ev) (b.map ev)
 | .mkif t x=>.ifc t (ev x)
 | .tass t z x=>tassF t z (ev x)
 | .build zs ps=>.agg (fillV ev zs ps)
theorem PO.sem_of {ev : X→AV} {K : AV→Prop} : ∀ {q : PO},q.ok ev→K (q.val ev)→PO.sem ev K q:=by
 intro q h hk
 cases q with
 | build zs ps=>exact fillA_iff.2 ⟨h,hk⟩
 | pick c a b =>
  simp only[PO.ok,PO.val,PO.sem] at *
  cases hc : ev c <;> rw[hc] at h hk <;> try exact h.elim
  rename_i v
  cases v <;> try exact h.elim
  rename_i t
  cases t
  ·exact ⟨fun h=>by simp at h,fun _=>hk⟩
  ·exact ⟨fun _=>hk,fun h=>by simp at h⟩
 | bin op x y =>
  simp only[PO.ok,PO.val,PO.sem] at *
  cases hx : ev x <;> cases hy : ev y <;> rw[hx,hy] at h hk <;> try exact h.elim
  simp only[binOk,binF] at h hk ⊢
  cases hb : binV op _ _ with
  | none=>rw[hb] at h;simp at h
  | some r=>rw[hb] at hk;exact ⟨r,rfl,hk⟩
 | shf op x y =>
  simp only[PO.ok,PO.val,PO.sem] at *
  cases hx : ev x <;> cases hy : ev y <;> rw[hx,hy] at h hk <;> try exact h.elim
  simp only[shOk,shF] at h hk ⊢
  cases hb : shV op _ _ with
  | none=>rw[hb] at h;simp at h
  | some r=>rw[hb] at hk;exact ⟨r,rfl,hk⟩
 | un op x =>
  simp only[PO.ok,PO.val,PO.sem] at *
  cases hx : ev x <;> rw[hx] at h hk <;> try exact h.elim
  simp only[unOk,unF] at h hk ⊢
  cases hb : unV op _ with
  | none=>rw[hb] at h;simp at h
  | some r=>rw[hb] at hk;exact ⟨r,rfl,hk⟩
 | slcS x lo hi =>
  simp only[PO.ok,PO.val,PO.sem] at *
  cases hx : ev x <;> rw[hx] at h hk <;> try exact h.1.elim
  rename_i v
  cases v <;> try exact h.1.elim
  obtain ⟨_,h1,h2,h3,h4⟩:=h
  exact bnd_iff.2 ⟨h2,bnd_iff.2 ⟨h1,⟨h3,h4⟩,hk⟩⟩
 | slc k x lo hi mx =>
  simp only[PO.ok,PO.val,PO.sem] at *
  obtain ⟨h1,h2,h3,h4⟩:=h
  cases hx : ev x <;> rw[hx] at h4 hk <;> try exact h4.elim
  ·rename_i k' xs room
   refine ⟨h4.1,?_⟩
   cases mx with
   | some m=>exact bnd_iff.2 ⟨h3,bnd_iff.2 ⟨h2,bnd_iff.2 ⟨h1,h4.2,hk⟩⟩⟩
   | none =>
    cases room with
    | none=>exact bnd_iff.2 ⟨h2,bnd_iff.2 ⟨h1,h4.2,hk⟩⟩
    | some ys=>exact bnd_iff.2 ⟨h2,bnd_iff.2 ⟨h1,h4.2,hk⟩⟩
  ·rename_i k' id off n c
   obtain ⟨g1,g2,g3,g4⟩:=h4
   cases mx with
   | some m=>simp at g2
   | none =>
    refine ⟨g1,rfl,bnd_iff.2 ⟨h2,bnd_iff.2 ⟨h1,⟨g3,g4⟩,?_⟩⟩⟩
    cases c with
    | none =>
     have hk2 : K (if bndV ev 0 lo < bndV ev n hi then .vec k id (off+bndV ev 0 lo) (bndV ev n hi - bndV ev 0 lo) none else .lst k [] none):=hk
     refine ⟨fun e=>?_,fun e=>?_⟩
     ·rw[if_pos e] at hk2
      exact hk2
     ·rw[if_neg (by omega)] at hk2
      exact hk2
    | some m =>
     have hk2 : K (if bndV ev 0 lo < m then .vec k id (off+bndV ev 0 lo) (bndV ev n hi - bndV ev 0 lo) (some (m - bndV ev 0 lo)) else .lst k [] none):=hk
     refine ⟨fun e=>?_,fun e=>?_⟩
     ·rw[if_pos e] at hk2
      exact hk2
     ·rw[if_neg (by omega)] at hk2
      exact hk2
 | tass t z x =>
  simp only[PO.ok,PO.val,PO.sem] at *
  cases hx : ev x <;> rw[hx] at h hk <;> try exact h.elim
  ·rename_i v
   cases v <;> first | exact h.elim | exact hk
  ·simp only[tassF] at hk
   exact ⟨fun e=>by rw[if_pos e] at hk;exact hk,fun e=>by rw[if_neg e] at hk;exact hk⟩
 | mv x=>exact hk
 | mkfn f a b=>exact hk
 | mkif t x=>exact hk
 | eqB pos x y =>
  simp only[PO.ok,PO.val,PO.sem,eqBOk] at *
  split at h
  ·rename_i e1 e2
   rw[e1,e2] at hk
   rw[e1,e2]
   exact hk
  ·exact h.elim
 | iaddr k x i =>
  simp only[PO.ok,PO.val,PO.sem,iaddrOk] at *
  split at h
  ·rename_i e1 e2
   rw[e1,e2] at hk
   rw[e1,e2]
   exact ⟨h,hk⟩
  ·rename_i e1 e2
   rw[e1,e2] at hk
   rw[e1,e2]
   exact ⟨h,hk⟩
  ·exact h.elim
 | iaddrA ln k x i =>
  simp only[PO.ok,PO.val,PO.sem,iaddrAOk] at *
  split at h
  ·rename_i e1 e2
   rw[e1,e2] at hk
   rw[e1,e2]
   exact ⟨h,hk⟩
  ·rename_i e1 e2
   rw[e1,e2] at hk
   rw[e1,e2]
   exact ⟨h,hk⟩
  ·exact h.elim
 | idxS x i =>
  simp only[PO.ok,PO.val,PO.sem,idxSOk] at *
  split at h
  ·rename_i e1 e2
   rw[e1,e2] at hk
   rw[e1,e2]
   exact ⟨h,hk⟩
  ·exact h.elim
 | idxA ln n ag x i =>
  simp only[PO.ok,PO.val,PO.sem,idxAOk] at *
  split at h
  ·rename_i e1 e2
   rw[e1,e2] at hk
   rw[e1,e2]
   exact ⟨h.1,h.2,by rw[e1] at *;exact hk⟩
  ·exact h.elim
 | mm mx x y =>
  simp only[PO.ok,PO.val,PO.sem,mmOk] at *
  split at h
  ·rename_i e1 e2
   rw[e1,e2] at hk
   rw[e1,e2]
   exact hk
  ·exact h.elim
 | eqN pos x =>
  simp only[PO.ok,PO.val,PO.sem] at *
  cases hx : ev x <;> rw[hx] at h hk <;> try exact h.elim
  ·rename_i v;cases v <;> first | exact h.elim | exact hk
  ·exact hk
 | nilS pos x =>
  simp only[PO.ok,PO.val,PO.sem] at *
  cases hx : ev x <;> rw[hx] at h hk <;> try exact h.elim
  ·rename_i k xs room;cases xs <;> exact hk
  ·exact hk
 | conv k x =>
  simp only[PO.ok,PO.val,PO.sem] at *
  cases hx : ev x <;> rw[hx] at h hk <;> try exact h.elim
  rename_i v;cases v <;> first | exact h.elim | exact hk
 | convB x =>
  simp only[PO.ok,PO.val,PO.sem] at *
  cases hx : ev x <;> rw[hx] at h hk <;> first | exact h.elim | exact ⟨h,hk⟩
 | nilck x =>
  simp only[PO.ok,PO.val,PO.sem] at *
  cases hx : ev x <;> rw[hx] at h hk <;> first | exact h.elim | exact ⟨h,hk⟩ | exact hk | skip
  rename_i f a b;cases f <;> first | exact h.elim | exact hk
 | faddr off x =>
  simp only[PO.ok,PO.val,PO.sem] at *
  cases hx : ev x <;> rw[hx] at h hk <;> first | exact h.elim | exact ⟨h,hk⟩ | exact hk
 | field off n ag x =>
  simp only[PO.ok,PO.val,PO.sem] at *
  cases hx : ev x <;> rw[hx] at h hk <;> first | exact h.elim | exact ⟨h,hk⟩
 | len x =>
  simp only[PO.ok,PO.val,PO.sem] at *
  cases hx : ev x <;> rw[hx] at h hk <;> try first | exact h.elim | exact hk
  unfold lenOk at h
  split at h
  ·rename_i e0;cases e0
  ·rename_i e0;cases e0
  ·rename_i e0;cases e0;exact hk
  ·exact h.elim
 | lenS x =>
  simp only[PO.ok,PO.val,PO.sem] at *
  cases hx : ev x <;> rw[hx] at h hk <;> try exact h.elim
  rename_i v;cases v <;> first | exact h.elim | exact hk
 | ext x i =>
  simp only[PO.ok,PO.val,PO.sem] at *
  cases hx : ev x <;> rw[hx] at h hk <;> first | exact h.elim | exact ⟨h,hk⟩
end Go.Proofs.YtdjnccnecgblmaaGreatDoor
namespace Go.Proofs.YtdjnccnecgblmaaGreatDoor
open Go.RowKit
set_option linter.unusedVariables false
set_option linter.unusedSimpArgs false
def ldOk (H : AHeap) (n : Nat) (ag : Bool) : AV→Prop
 | .ptr k id j f=>match AHeap.find H id with
  | some blk=>blk.k=k ∧ j < blk.es.length ∧ AV.subOk (blk.es.getD j .top) f n ag ∧ 0 < k
  | none=>False
 | .lp x f=>AV.subOk x f n ag
 | _=>False
def ldV (H : AHeap) (n : Nat) (ag : Bool) : AV→AV
 | .ptr _ id j f=>match AHeap.find H id with
  | some blk=>AV.sub (blk.es.getD j .top) f n ag
  | none=>.top
 | .lp x f=>AV.sub x f n ag
 | _=>.top
def stOk (H : AHeap) (n : Nat) : AV→AV→Prop
 | .ptr k id j f,x=>match AHeap.find H id with
  | some blk=>blk.k=k ∧ j < blk.es.length ∧ x.isTop=false ∧ x.ncells=n ∧ f+n ≤ (blk.es.getD j .top).ncells ∧ ((blk.es.getD j .top).isAgg || !x.isAgg)=true ∧ 0 < k
  | none=>False
 | _,_=>False
def stH (H : AHeap) : AV→AV→AHeap
 | .ptr k id j f,x=>match AHeap.find H id with
  | some blk=>AHeap.set H id (some { blk with es:=blk.es.set j (AV.upd (blk.es.getD j .top) f x) })
  | none=>H
 | _,_=>H
def elsV (ev : X→AV) : List AV→List (Nat × X)→List AV
 | es,[]=>es
 | es,(i,x) :: r=>elsV ev (es.set i (ev x)) r
def elsOk (ev : X→AV) (k : Nat) : List AV→List (Nat × X)→Prop
 | _,[]=>True
 | es,(i,x) :: r=>((ev x).isTop=false ∧ (ev x).ncells=k ∧ i < es.length) ∧ elsOk ev k (es.set i (ev x)) r
theorem elsA_iff {ev : X→AV} {k : Nat} {K : List AV→Prop} : ∀ {ps : List (Nat × X)} {es : List AV},elsA ev k es ps K ↔ elsOk ev k es ps ∧ K (elsV ev es ps)
 | [],es=>by simp[elsA,elsOk,elsV]
 | (i,x) :: r,es=>by simp only[elsA,elsOk,elsV,elsA_iff (ps:=r),and_assoc]
def lsOk (H : AHeap) (k : Nat) : AV→Prop
 | .lst k' ys _=>k'=k ∨ ys=[]
 | .vec k' id off n _=>match AHeap.find H id with
  | some blk=>k'=k ∧ blk.k=k ∧ off+n ≤ blk.es.length
  | none=>False
 | _=>False
def lsV (H : AHeap) : AV→List AV
 | .lst _ ys _=>ys
 | .vec _ id off n _=>match AHeap.find H id with
  | some blk=>(blk.es.drop off).take n
  | none=>[]
 | _=>[]
def intV : AV→Int
 | .sc (.int _ n)=>n
 | _=>0
def isIntV : AV→Prop
 | .sc (.int _ _)=>True
 | _=>False
def apOk (H : AHeap) (k ty : Nat) (ys : List AV) : AV→Prop
 | .lst k' xs (some [])=>(k'=k ∨ xs=[]) ∧ xs.length+ys.length ≤ 100000000
 | .vec k' id off n none=>match AHeap.find H id with
  | some blk=>(k'=k ∧ blk.k=k ∧ blk.ty=ty ∧ off=0 ∧ n+ys.length ≤ 100000000) ∧ blk.exact=false ∧ n=blk.es.length
  | none=>False
 | .vec k' id off n (some m)=>match AHeap.find H id with
  | some blk=>(k'=k ∧ blk.k=k ∧ blk.ty=ty ∧ off=0 ∧ n+ys.length ≤ 100000000) ∧ ((blk.exact=true ∧ m=blk.es.length ∧ n ≤ m) ∨ (blk.exact=false ∧ n ≤ blk.es.length))
  | none=>False
 | _=>False
def apV (H : AHeap) (k : Nat) (ys : List AV) : AV→AV
 | .lst k' xs (some [])=>match ys with
  | []=>.lst k' xs (some [])
  | _ :: _=>.vec k H.length 0 (xs.length+ys.length) none
 | .vec _ id _ n none=>.vec k H.length 0 (n+ys.length) none
 | .vec _ id _ n (some m)=>if n+ys.length ≤ m then .vec k id 0 (n+ys.length) (some m) else .vec k H.length 0 (n+ys.length) none
 | _=>.top
def apH (H : AHeap) (k ty : Nat) (ys : List AV) : AV→AHeap
 | .lst _ xs (some [])=>match ys with
  | []=>H
  | _ :: _=>some ⟨k,xs ++ ys,false,ty⟩ :: H
 | .vec _ id _ n none=>match AHeap.find H id with
  | some blk=>some ⟨k,blk.es ++ ys,false,ty⟩ :: AHeap.set H id none
  | none=>H
 | .vec _ id _ n (some m)=>match AHeap.find H id with
  | some blk=>if n+ys.length ≤ m then AHeap.set H id (some { blk with es:=blk.es.take n ++ ys ++ blk.es.drop (n+ys.length) }) else some ⟨k,blk.es.take n ++ ys,false,ty⟩ :: H
  | none=>H
 | _=>H
def HO.okS (ev : X→AV) (H : AHeap) : HO→Prop
 | .load n ag a=>ldOk H n ag (ev a)
 | .alloc _ _=>True
 | .box k _ x=>(ev x).isTop=false ∧ (ev x).ncells=k
 | .bsl k _ z ln ps=>elsOk ev k (List.replicate ln z) ps
 | .bslV k _ z ln ps=>elsOk ev k (List.replicate ln z) ps
 | .store n a x=>stOk H n (ev a) (ev x)
 | .mksl _ _ _ l c=>isIntV (ev l) ∧ isIntV (ev c) ∧ 0 ≤ intV (ev l) ∧ intV (ev l) ≤ intV (ev c) ∧ intV (ev c) ≤ 100000000
 | .app k ty s x=>lsOk H k (ev x) ∧ apOk H k ty (lsV H (ev x)) (ev s)
 | .gx g xs=>g.ok H (xs.map ev)
 | _=>False
def HO.valS (ev : X→AV) (H : AHeap) : HO→AV
 | .load n ag a=>ldV H n ag (ev a)
 | .alloc z _=>.ptr z.ncells H.length 0 0
 | .box k _ _=>.ptr k H.length 0 0
 | .bsl k _ z ln ps=>.lst k (elsV ev (List.replicate ln z) ps) (some [])
 | .bslV k _ _ ln _=>.vec k H.length 0 ln (some ln)
 | .store _ _ _=>.top
 | .mksl k _ _ l c=>.vec k H.length 0 (intV (ev l)).toNat (some (intV (ev c)).toNat)
 | .app k _ s x=>apV H k (lsV H (ev x)) (ev s)
 | .gx g xs=>g.val H (xs.map ev)
 | _=>.top
def HO.heapS (ev : X→AV) (H : AHeap) : HO→AHeap
 | .alloc z ty=>some ⟨z.ncells,[z],true,ty⟩ :: H
 | .box k ty x=>some ⟨k,[ev x],true,ty⟩ :: H
 | .bslV k ty z ln ps=>some ⟨k,elsV ev (List.replicate ln z) ps,true,ty⟩ :: H
 | .store _ a x=>stH H (ev a) (ev x)
 | .mksl k ty z _ c=>some ⟨k,List.replicate (intV (ev c)).toNat z,true,ty⟩ :: H
 | .app k ty s x=>apH H k ty (lsV H (ev x)) (ev s)
 | .gx g xs=>g.heap H (xs.map ev)
 | _=>H
theorem getElem_of {α : Type} {l : List α} {j : Nat} {d : α} (h : j < l.length) : l[j]? = some (l.getD j d):=by simp[List.getD,h]
theorem HO.sem_of {P : Program} {ev : X→AV} {H : AHeap} {K Kp : AV→AHeap→Prop} : ∀ {q : HO},q.okS ev H→K (q.valS ev H) (q.heapS ev H)→HO.sem P ev H K Kp q:=by
 intro q h hk
 cases q with
 | load n ag a =>
  simp only[HO.okS,HO.valS,HO.heapS,HO.sem] at *
  cases he : ev a <;> rw[he] at h hk <;> try exact h.elim
  ·simp only[ldOk,ldV] at h hk
   cases hf : AHeap.find H _ with
   | none=>rw[hf] at h;exact h.elim
   | some blk=>rw[hf] at h hk;exact ⟨blk,_,hf,getElem_of h.2.1,⟨h.1,h.2.2.1,h.2.2.2⟩,hk⟩
  ·exact ⟨h,hk⟩
 | alloc z ty=>exact hk
 | box k ty x=>exact ⟨h,hk⟩
 | bsl k ty z ln ps=>exact elsA_iff.2 ⟨h,hk⟩
 | bslV k ty z ln ps=>exact elsA_iff.2 ⟨h,hk⟩
 | store n a x =>
  simp only[HO.okS,HO.valS,HO.heapS,HO.sem] at *
  cases he : ev a <;> rw[he] at h hk <;> try exact h.elim
  simp only[stOk,stH] at h hk
  cases hf : AHeap.find H _ with
  | none=>rw[hf] at h;exact h.elim
  | some blk =>
   rw[hf] at h hk
   obtain ⟨h1,h2,h3,h4,h5,h6,h7⟩:=h
   refine ⟨blk,_,hf,getElem_of h2,⟨h1,h3,h4,h5,fun e=>?_,h7⟩,hk⟩
   rw[e] at h6
   simpa using h6
 | mksl k ty z l c =>
  simp only[HO.okS,HO.valS,HO.heapS,HO.sem] at *
  obtain ⟨h1,h2,h3⟩:=h
  cases he : ev l <;> rw[he] at h1 <;> try exact h1.elim
  rename_i v
  cases v <;> try exact h1.elim
  cases hf : ev c <;> rw[hf] at h2 <;> try exact h2.elim
  rename_i v2
  cases v2 <;> try exact h2.elim
  rw[he,hf] at h3 hk
  exact ⟨h3,hk⟩
 | gx g xs=>exact ⟨h,hk⟩
 | app k ty s x =>
  simp only[HO.okS,HO.valS,HO.heapS,HO.sem] at *
  obtain ⟨h1,h2⟩:=h
  have hls : ∀ {K' : List AV→Prop},K' (lsV H (ev x))→lsOf H k (ev x) K':=by
   intro K' hk'
   cases hx : ev x <;> rw[hx] at h1 hk' <;> try exact h1.elim
   ·exact ⟨h1,hk'⟩
   ·simp only[lsOk,lsV] at h1 hk'
    cases hf : AHeap.find H _ with
    | none=>rw[hf] at h1;exact h1.elim
    | some blk=>rw[hf] at h1 hk';exact ⟨blk,hf,h1,hk'⟩
  refine hls ?_
  cases hs : ev s <;> rw[hs] at h2 hk <;> try exact h2.elim
  ·rename_i k' xs room
   cases room with
   | none=>exact h2.elim
   | some zs =>
    cases zs with
    | cons _ _=>exact h2.elim
    | nil =>
     refine ⟨h2,fun e=>?_,fun e=>?_⟩
     ·rw[e] at hk;exact hk
     ·cases hy : lsV H (ev x) with
      | nil=>exact absurd hy e
      | cons a b=>rw[hy] at hk;exact hk
  ·rename_i k' id off n c
   cases c with
   | none =>
    simp only[apOk,apV,apH] at h2 hk
    cases hf : AHeap.find H id with
    | none=>rw[hf] at h2;exact h2.elim
    | some blk=>rw[hf] at h2 hk;exact ⟨blk,hf,h2.1,h2.2,hk⟩
   | some m =>
    simp only[apOk,apV,apH] at h2 hk
    cases hf : AHeap.find H id with
    | none=>rw[hf] at h2;exact h2.elim
    | some blk =>
     rw[hf] at h2 hk
     refine ⟨blk,hf,h2.1,h2.2,fun e=>?_,fun e=>?_⟩
     ·simp only[if_pos e] at hk;exact hk
     ·have : ¬ n+(lsV H (ev x)).length ≤ m:=by omega
      simp only[if_neg this] at hk;exact hk
 | _=>exact h.elim
def doS (P : Program) (ev : X→AV) (H : AHeap) (C Cp : AV→AHeap→Prop) : IOp→Prop
 | .p q=>q.ok ev ∧ C (q.val ev) H
 | .h (.call f as)=>DK P f (as.map ev) H (fun e H'=>AEnd.post C Cp H' e)
 | .h (.callv f as)=>match ev f with
  | .fn (.func g) a b=>callable P g=true ∧ DK P g (a ++ as.map ev ++ b) H (fun e H'=>AEnd.post C Cp H' e)
  | _=>False
 | .h (.pan x)=>match ev x with
  | .ifc t v=>Cp (.ifc t v) H
  | _=>False
 | .h (.itr kd x)=>itK C H kd (ev x)
 | .h q=>q.okS ev H ∧ C (q.valS ev H) (q.heapS ev H)
theorem callable_spec {P : Program} {f : FuncId} (h : callable P f = true) : ∃ fn, P.funcs[f]? = some fn ∧ fn.body.isSome ∧ fn.name ≠ "runtime.NumGoroutine" := by
 unfold callable at h
 split at h
 case h_2=>simp at h
 rename_i fn hf
 simp only[Bool.and_eq_true,Bool.not_eq_true',beq_eq_false_iff_ne] at h
 exact ⟨fn,hf,h.1,h.2⟩
theorem doS_opR {P : Program} {ev : X→AV} {H : AHeap} {C Cp : AV→AHeap→Prop} {op : IOp} (h : doS P ev H C Cp op) : opR P ev H C Cp op:=by
 cases op with
 | p q=>exact PO.sem_of (K:=fun v=>C v H) h.1 h.2
 | h q =>
  cases q with
  | call f as=>exact h
  | callv f as =>
   simp only[doS,opR,HO.semR] at h ⊢
   split at h
   ·rename_i he;simp only[he];exact ⟨callable_spec h.1,h.2⟩
   ·exact h.elim
  | pan x=>exact h
  | itr kd x=>exact h
  | _=>exact HO.sem_of (P:=P) (Kp:=Cp) h.1 h.2
theorem guardK_imp {ts : List AV} {p q p' q' : Prop} {g : Option (Nat × Bool)} (h1 : p→p') (h2 : q→q') (h : guardK ts p q g) : guardK ts p' q' g:=guardK_map h1 h2 h
def runS (P : Program) (K : List AV→AHeap→Prop) (Kp : AV→List AV→AHeap→Prop) : List IO'→List AV→AHeap→Prop
 | [],ts,H=>K ts H
 | o :: r,ts,H=>guardK ts (doS P (X.ev ts) H (fun v H'=>runS P K Kp r (putT ts o.dst v) H') (fun v H'=>Kp v ts H') o.op) (runS P K Kp r (putT ts o.dst (.tup [])) H) o.guard
theorem doS_mono {P : Program} {ev : X→AV} {H : AHeap} {C Cp C' Cp' : AV→AHeap→Prop} {op : IOp} (h1 : ∀ v H,C v H→C' v H) (h2 : ∀ v H,Cp v H→Cp' v H) (h : doS P ev H C Cp op) : doS P ev H C' Cp' op:=by
 have hpost : ∀ {e H'},AEnd.post C Cp H' e→AEnd.post C' Cp' H' e:=fun {e H'} h=>by
  cases e with
  | ret v=>exact h1 _ _ h
  | pan v=>exact h2 _ _ h
 cases op with
 | p q=>exact ⟨h.1,h1 _ _ h.2⟩
 | h q =>
  cases q with
  | call f as=>exact h.mono fun e H' _ g=>hpost g
  | callv f as =>
   simp only[doS] at h ⊢
   split at h
   ·exact ⟨h.1,h.2.mono fun e H' _ g=>hpost g⟩
   ·exact h.elim
  | pan x =>
   simp only[doS] at h ⊢
   split at h
   ·exact h2 _ _ h
   ·exact h.elim
  | itr kd x=>exact itK_mono h1 h
  | _=>exact ⟨h.1,h1 _ _ h.2⟩
theorem runS_runOps {P : Program} {K : List AV→AHeap→Prop} {Kp : AV→List AV→AHeap→Prop} : ∀ {l : List IO'} {ts : List AV} {H : AHeap},runS P K Kp l ts H→runOps P K Kp l ts H
 | [],_,_,h=>h
 | o :: r,ts,H,h=>guardK_imp (fun h=>doS_opR (doS_mono (fun v H h=>runS_runOps h) (fun _ _ h=>h) h)) (fun h=>runS_runOps h) h
def ldS (A : List (List Nat)) (i : Nat) (hs : List (Nat × AHeap × AHeap)) : AV→Prop
 | .ptr _ id _ _=>∀ c ∈ hs,uno A c.1 i=true→id < c.2.1.length→AHeap.find c.2.2 id=AHeap.find c.2.1 id
 | _=>True
def ldN (i : Nat) (ld : List (Nat × Nat)) : AV→List (Nat × Nat)
 | .ptr _ id _ _=>(i,id) :: ld
 | _=>ld
def chS (A : List (List Nat)) (i : Nat) (ld : List (Nat × Nat)) (H H' : AHeap) : Prop:=∀ l ∈ ld,uno A l.1 i=true→AHeap.find H' l.2=AHeap.find H l.2
def doD (P : Program) (A : List (List Nat)) (n i : Nat) (ev : X→AV) (H : AHeap) (ld : List (Nat × Nat)) (hs : List (Nat × AHeap × AHeap)) (C : AV→AHeap→List (Nat × Nat)→List (Nat × AHeap × AHeap)→Prop) (Kp : AV→AHeap→Prop) : IOp→Prop
 | .p q=>q.ok ev ∧ C (q.val ev) H ld hs
 | .h (.load m ag a)=>ldS A i hs (ev a) ∧ ldOk H m ag (ev a) ∧ C (ldV H m ag (ev a)) H (ldN i ld (ev a)) hs
 | .h (.call f as)=>∃ e H',D P f (as.map ev) H e H' ∧ AEnd.post (fun v H'=>chS A i ld H H' ∧ C v H' ld ((i,H,H') :: hs)) (fun v H'=>lastB A n i=true ∧ Kp v H') H' e
 | .h (.callv f as)=>match ev f with
  | .fn (.func g) a b=>callable P g=true ∧ ∃ e H',D P g (a ++ as.map ev ++ b) H e H' ∧ AEnd.post (fun v H'=>chS A i ld H H' ∧ C v H' ld ((i,H,H') :: hs)) (fun v H'=>lastB A n i=true ∧ Kp v H') H' e
  | _=>False
 | .h (.pan x)=>False
 | .h (.store m a x)=>stOk H m (ev a) (ev x) ∧ chS A i ld H (stH H (ev a) (ev x)) ∧ C .top (stH H (ev a) (ev x)) ld ((i,H,stH H (ev a) (ev x)) :: hs)
 | .h (.app k ty s x)=>(lsOk H k (ev x) ∧ apOk H k ty (lsV H (ev x)) (ev s)) ∧ chS A i ld H (apH H k ty (lsV H (ev x)) (ev s)) ∧ C (apV H k (lsV H (ev x)) (ev s)) (apH H k ty (lsV H (ev x)) (ev s)) ld ((i,H,apH H k ty (lsV H (ev x)) (ev s)) :: hs)
 | .h (.gx g xs)=>g.ok H (xs.map ev) ∧ chS A i ld H (g.heap H (xs.map ev)) ∧ C (g.val H (xs.map ev)) (g.heap H (xs.map ev)) ld ((i,H,g.heap H (xs.map ev)) :: hs)
 | .h q=>q.okS ev H ∧ C (q.valS ev H) (q.heapS ev H) (HO.ldA i H ld q) hs
def runDS (P : Program) (A : List (List Nat)) (n : Nat) (K : List AV→AHeap→Prop) (Kp : AV→AHeap→Prop) : Nat→List IO'→List AV→AHeap→List (Nat × Nat)→List (Nat × AHeap × AHeap)→Prop
 | _,[],ts,H,_,_=>K ts H
 | i,o :: r,ts,H,ld,hs=>guardK ts (doD P A n i (X.ev ts) H ld hs (fun v H' ld' hs'=>runDS P A n K Kp (i+1) r (putT ts o.dst v) H' ld' hs') Kp o.op) (runDS P A n K Kp (i+1) r (putT ts o.dst (.tup [])) H ld hs) o.guard
theorem doD_stepD {P : Program} {A : List (List Nat)} {n i : Nat} {ev : X→AV} {H : AHeap} {ld : List (Nat × Nat)} {hs : List (Nat × AHeap × AHeap)} {C C' : AV→AHeap→List (Nat × Nat)→List (Nat × AHeap × AHeap)→Prop} {Kp : AV→AHeap→Prop} {op : IOp}
  (hC : ∀ v H ld hs,C v H ld hs→C' v H ld hs) (h : doD P A n i ev H ld hs C Kp op) : stepD P A n i ev H ld hs C' Kp op:=by
 cases op with
 | p q=>exact PO.sem_of (K:=fun v=>C' v H ld hs) h.1 (hC _ _ _ _ h.2)
 | h q =>
  cases q with
  | load m ag a =>
   obtain ⟨h1,h2,h3⟩:=h
   simp only[stepD]
   split
   ·rename_i k id j f he
    rw[he] at h1 h2 h3
    refine ⟨h1,HO.sem_of (q:=.load m ag a) ?_ ?_⟩
    ·simp only[HO.okS];rw[he];exact h2
    ·simp only[HO.valS,HO.heapS];rw[he];exact hC _ _ _ _ h3
   ·rename_i hne
    have hn : ldN i ld (ev a)=ld:=by
     cases he : ev a <;> first | rfl | (exact absurd he (hne _ _ _ _))
    rw[hn] at h3
    exact HO.sem_of (q:=.load m ag a) h2 (hC _ _ _ _ h3)
  | call f as =>
   obtain ⟨e,H',h1,h2⟩:=h
   cases e with
   | ret v=>exact ⟨.ret v,H',h1,h2.1,hC _ _ _ _ h2.2⟩
   | pan v=>exact ⟨.pan v,H',h1,h2⟩
  | callv f as =>
   have h':=h
   simp only[doD] at h'
   show HO.sem P ev H _ _ (.callv f as)
   simp only[HO.sem]
   split at h'
   ·rename_i he
    simp only[he]
    obtain ⟨h0,e,H',h1,h2⟩:=h'
    refine ⟨callable_spec h0,e,H',h1,?_⟩
    cases e with
    | ret v=>exact ⟨h2.1,hC _ _ _ _ h2.2⟩
    | pan v=>exact h2
   ·exact h'.elim
  | pan x=>exact h.elim
  | store m a x=>exact HO.sem_of (P:=P) (K:=fun v H'=>(∀ l ∈ ld,uno A l.1 i=true→AHeap.find H' l.2=AHeap.find H l.2) ∧ C' v H' ld ((i,H,H') :: hs)) (Kp:=fun v H'=>lastB A n i=true ∧ Kp v H') (q:=.store m a x) h.1 ⟨h.2.1,hC _ _ _ _ h.2.2⟩
  | app k ty s x=>exact HO.sem_of (P:=P) (K:=fun v H'=>(∀ l ∈ ld,uno A l.1 i=true→AHeap.find H' l.2=AHeap.find H l.2) ∧ C' v H' ld ((i,H,H') :: hs)) (Kp:=fun v H'=>lastB A n i=true ∧ Kp v H') (q:=.app k ty s x) h.1 ⟨h.2.1,hC _ _ _ _ h.2.2⟩
  | gx g xs=>exact HO.sem_of (P:=P) (K:=fun v H'=>(∀ l ∈ ld,uno A l.1 i=true→AHeap.find H' l.2=AHeap.find H l.2) ∧ C' v H' ld ((i,H,H') :: hs)) (Kp:=fun v H'=>lastB A n i=true ∧ Kp v H') (q:=.gx g xs) h.1 ⟨h.2.1,hC _ _ _ _ h.2.2⟩
  | alloc z ty=>exact HO.sem_of (P:=P) (K:=fun v H'=>C' v H' ((i,H.length) :: ld) hs) (Kp:=fun _ _=>False) h.1 (hC _ _ _ _ h.2)
  | box k ty x=>exact HO.sem_of (P:=P) (K:=fun v H'=>C' v H' ((i,H.length) :: ld) hs) (Kp:=fun _ _=>False) h.1 (hC _ _ _ _ h.2)
  | bslV k ty z ln ps=>exact HO.sem_of (P:=P) (K:=fun v H'=>C' v H' ((i,H.length) :: ld) hs) (Kp:=fun _ _=>False) h.1 (hC _ _ _ _ h.2)
  | mksl k ty z l c=>exact HO.sem_of (P:=P) (K:=fun v H'=>C' v H' ((i,H.length) :: ld) hs) (Kp:=fun _ _=>False) h.1 (hC _ _ _ _ h.2)
  | _=>exact HO.sem_of (P:=P) (K:=fun v H'=>C' v H' ld hs) (Kp:=fun _ _=>False) h.1 (hC _ _ _ _ h.2)
theorem runDS_runD {P : Program} {A : List (List Nat)} {n : Nat} {K : List AV→AHeap→Prop} {Kp : AV→AHeap→Prop} : ∀ {l : List IO'} {i : Nat} {ts : List AV} {H : AHeap} {ld : List (Nat × Nat)} {hs : List (Nat × AHeap × AHeap)},runDS P A n K Kp i l ts H ld hs→runD P A n K Kp i l ts H ld hs
 | [],_,_,_,_,_,h=>h
 | o :: r,i,ts,H,ld,hs,h=>guardK_imp (fun h=>doD_stepD (fun v H ld hs h=>runDS_runD h) h) (fun h=>runDS_runD h) h
def ES (P : Program) : IC→Post→List AV→AHeap→Prop
 | .skip,K,ts,H=>K .normal ts H
 | .ops l,K,ts,H=>runS P (K .normal) (fun v ts' H'=>K (.pan v) ts' H') l ts H
 | .dops l A,K,ts,H=>runDS P A l.length (K .normal) (fun v H'=>K (.pan v) (blankT l ts) H') 0 l ts H [] []
 | .seq a b,K,ts,H=>ES P a (thenK (ES P b K) K) ts H
 | .cond c a b,K,ts,H=>match c.ev ts with
  | .sc (.bool t)=>(t=true→ES P a K ts H) ∧ (t=false→ES P b K ts H)
  | .ub=>ES P a K ts H ∧ ES P b K ts H
  | _=>False
 | .block id c,K,ts,H=>ES P c (blockK id K) ts H
 | .loop c,K,ts,H=>∃ (I : List AV→AHeap→Prop) (μ : List AV→AHeap→Nat),I ts H ∧ ∀ ts H,I ts H→ES P c (thenK (fun ts' H'=>I ts' H' ∧ μ ts' H' < μ ts H) K) ts H
 | .exit id,K,ts,H=>K (.exit id) ts H
 | .ret,K,ts,H=>K .ret ts H
 | .yld l1 g y args d l2,K,ts,H=>runS P (fun ts1 H1=>guardK ts1 (yldK P (fun v H2=>runS P (K .normal) (fun v ts' H'=>K (.pan v) ts' H') l2 (putT ts1 d v) H2) (fun v H2=>K (.pan v) ts1 H2) (args.map (X.ev ts1)) H1 (y.ev ts1)) (runS P (K .normal) (fun v ts' H'=>K (.pan v) ts' H') l2 (putT ts1 d (.tup [])) H1) g) (fun v ts' H'=>K (.pan v) ts' H') l1 ts H
 | .rng g ps asg body,K,ts,H=>rngK P ps asg body K ts H (g.ev ts)
theorem yldK_mono {P : Program} {K K' Kp Kp' : AV→AHeap→Prop} (h1 : ∀ v H,K v H→K' v H) (h2 : ∀ v H,Kp v H→Kp' v H) {args : List AV} {H : AHeap} {v : AV} (h : yldK P K Kp args H v) : yldK P K' Kp' args H v:=by
 cases v <;> try exact h.elim
 obtain ⟨h0,e,H',h3,h4⟩:=h
 refine ⟨h0,e,H',h3,?_⟩
 cases e with
 | ret u=>exact h1 _ _ h4
 | pan u=>exact h2 _ _ h4
theorem jmpK_mono {K K' : Post} (hk : ∀ x ts H,K x ts H→K' x ts H) {ts : List AV} {H : AHeap} {c : Option Code} (h : jmpK K ts H c) : jmpK K' ts H c:=by
 unfold jmpK at h ⊢
 split at h <;> first | exact hk _ _ _ h | exact h.elim
theorem rngK_mono {P : Program} {ps : Array Tmp} {asg body : Code} {K K' : Post} (hk : ∀ x ts H,K x ts H→K' x ts H) {ts : List AV} {H : AHeap} {v : AV} (h : rngK P ps asg body K ts H v) : rngK P ps asg body K' ts H v:=by
 unfold rngK at h ⊢
 split at h
 ·refine ⟨h.1,fun fn db=>?_⟩
  obtain ⟨v,H',r,ts',g1,g2,g3,g4⟩:=h.2 fn db
  exact ⟨v,H',r,ts',g1,g2,g3,jmpK_mono hk g4⟩
 ·exact h.elim
theorem runOps_mono {P : Program} {K K' : List AV→AHeap→Prop} {Kp Kp' : AV→List AV→AHeap→Prop} (h1 : ∀ ts H,K ts H→K' ts H) (h2 : ∀ v ts H,Kp v ts H→Kp' v ts H) : ∀ {l : List IO'} {ts : List AV} {H : AHeap},runS P K Kp l ts H→runS P K' Kp' l ts H
 | [],_,_,h=>h1 _ _ h
 | o :: r,ts,H,h=>guardK_imp (fun h=>doS_mono (fun v H h=>runOps_mono h1 h2 h) (fun v H h=>h2 _ _ _ h) h) (fun h=>runOps_mono h1 h2 h) h
theorem doD_mono {P : Program} {A : List (List Nat)} {n i : Nat} {ev : X→AV} {H : AHeap} {ld : List (Nat × Nat)} {hs : List (Nat × AHeap × AHeap)} {C C' : AV→AHeap→List (Nat × Nat)→List (Nat × AHeap × AHeap)→Prop} {Kp Kp' : AV→AHeap→Prop} {op : IOp}
  (hC : ∀ v H ld hs,C v H ld hs→C' v H ld hs) (hK : ∀ v H,Kp v H→Kp' v H) (h : doD P A n i ev H ld hs C Kp op) : doD P A n i ev H ld hs C' Kp' op:=by
 cases op with
 | p q=>exact ⟨h.1,hC _ _ _ _ h.2⟩
 | h q =>
  cases q with
  | load m ag a=>exact ⟨h.1,h.2.1,hC _ _ _ _ h.2.2⟩
  | call f as =>
   obtain ⟨e,H',h1,h2⟩:=h
   cases e with
   | ret v=>exact ⟨.ret v,H',h1,h2.1,hC _ _ _ _ h2.2⟩
   | pan v=>exact ⟨.pan v,H',h1,h2.1,hK _ _ h2.2⟩
  | callv f as =>
   simp only[doD] at h ⊢
   split at h
   ·obtain ⟨h0,e,H',h1,h2⟩:=h
    refine ⟨h0,e,H',h1,?_⟩
    cases e with
    | ret v=>exact ⟨h2.1,hC _ _ _ _ h2.2⟩
    | pan v=>exact ⟨h2.1,hK _ _ h2.2⟩
   ·exact h.elim
  | pan x=>exact h.elim
  | store m a x=>exact ⟨h.1,h.2.1,hC _ _ _ _ h.2.2⟩
  | app k ty s x=>exact ⟨h.1,h.2.1,hC _ _ _ _ h.2.2⟩
  | gx g xs=>exact ⟨h.1,h.2.1,hC _ _ _ _ h.2.2⟩
  | _=>exact ⟨h.1,hC _ _ _ _ h.2⟩
theorem runDS_mono {P : Program} {A : List (List Nat)} {n : Nat} {K K' : List AV→AHeap→Prop} {Kp Kp' : AV→AHeap→Prop} (h1 : ∀ ts H,K ts H→K' ts H) (h2 : ∀ v H,Kp v H→Kp' v H) : ∀ {l : List IO'} {i : Nat} {ts : List AV} {H : AHeap} {ld : List (Nat × Nat)} {hs : List (Nat × AHeap × AHeap)},runDS P A n K Kp i l ts H ld hs→runDS P A n K' Kp' i l ts H ld hs
 | [],_,_,_,_,_,h=>h1 _ _ h
 | o :: r,i,ts,H,ld,hs,h=>guardK_imp (fun h=>doD_mono (fun v H ld hs h=>runDS_mono h1 h2 h) h2 h) (fun h=>runDS_mono h1 h2 h) h
theorem ES_mono {P : Program} : ∀ {c : IC} {K K' : Post},(∀ x ts H,K x ts H→K' x ts H)→∀ {ts : List AV} {H : AHeap},ES P c K ts H→ES P c K' ts H:=by
 intro c
 induction c with
 | skip=>intro K K' hk ts H h;exact hk _ _ _ h
 | ops l=>intro K K' hk ts H h;exact runOps_mono (fun _ _ h=>hk _ _ _ h) (fun _ _ _ h=>hk _ _ _ h) h
 | dops l A=>intro K K' hk ts H h;exact runDS_mono (fun _ _ h=>hk _ _ _ h) (fun _ _ h=>hk _ _ _ h) h
 | seq a b iha ihb =>
  intro K K' hk ts H h
  refine iha (fun x ts H h=>?_) h
  cases x <;> first | exact ihb hk h | exact hk _ _ _ h
 | cond c a b iha ihb =>
  intro K K' hk ts H h
  simp only[ES] at h ⊢
  split at h
  ·exact ⟨fun e=>iha hk (h.1 e),fun e=>ihb hk (h.2 e)⟩
  ·exact ⟨iha hk h.1,ihb hk h.2⟩
  ·exact h.elim
 | block id c ih =>
  intro K K' hk ts H h
  refine ih (fun x ts H h=>?_) h
  cases x <;> first | exact hk _ _ _ h | skip
  simp only[blockK] at h ⊢
  split at h
  ·rename_i e;rw[if_pos e];exact hk _ _ _ h
  ·rename_i e;rw[if_neg e];exact hk _ _ _ h
 | loop c ih =>
  intro K K' hk ts H h
  obtain ⟨I,μ,h1,h2⟩:=h
  refine ⟨I,μ,h1,fun ts H hI=>ih (fun x ts' H' h=>?_) (h2 ts H hI)⟩
  cases x <;> first | exact h | exact hk _ _ _ h
 | exit id=>intro K K' hk ts H h;exact hk _ _ _ h
 | ret=>intro K K' hk ts H h;exact hk _ _ _ h
 | yld l1 g y args d l2=>intro K K' hk ts H h;exact runOps_mono (fun _ _ h=>guardK_imp (fun h=>yldK_mono (fun _ _ h=>runOps_mono (fun _ _ h=>hk _ _ _ h) (fun _ _ _ h=>hk _ _ _ h) h) (fun _ _ h=>hk _ _ _ h) h) (fun h=>runOps_mono (fun _ _ h=>hk _ _ _ h) (fun _ _ _ h=>hk _ _ _ h) h) h) (fun _ _ _ h=>hk _ _ _ h) h
 | rng g ps asg body=>intro K K' hk ts H h;exact rngK_mono hk h
theorem ES_E {P : Program} : ∀ {c : IC} {K : Post} {ts : List AV} {H : AHeap},ES P c K ts H→E P c K ts H:=by
 intro c
 induction c with
 | skip=>intro K ts H h;exact h
 | ops l=>intro K ts H h;exact runS_runOps h
 | dops l A=>intro K ts H h;exact runDS_runD h
 | seq a b iha ihb =>
  intro K ts H h
  refine iha (ES_mono (fun x ts H h=>?_) h)
  cases x <;> first | exact ihb h | exact h
 | cond c a b iha ihb =>
  intro K ts H h
  simp only[ES,E] at h ⊢
  split at h
  ·rename_i he;simp only[he];exact ⟨fun e=>iha (h.1 e),fun e=>ihb (h.2 e)⟩
  ·rename_i he;simp only[he];exact ⟨iha h.1,ihb h.2⟩
  ·exact h.elim
 | block id c ih=>intro K ts H h;exact ih h
 | loop c ih =>
  intro K ts H h
  obtain ⟨I,μ,h1,h2⟩:=h
  exact ⟨I,μ,h1,fun ts H hI=>ih (h2 ts H hI)⟩
 | exit id=>intro K ts H h;exact h
 | ret=>intro K ts H h;exact h
 | yld l1 g y args d l2=>intro K ts H h;exact runS_runOps (runOps_mono (fun _ _ h=>guardK_imp (fun h=>yldK_mono (fun _ _ h=>runS_runOps h) (fun _ _ h=>h) h) (fun h=>runS_runOps h) h) (fun _ _ _ h=>h) h)
 | rng g ps asg body=>intro K ts H h;exact h
end Go.Proofs.YtdjnccnecgblmaaGreatDoor
namespace Go.Proofs.YtdjnccnecgblmaaGreatDoor
open Go.RowKit
set_option linter.unusedVariables false
set_option linter.unusedSimpArgs false
def guardV (want : Bool) (yes no : Prop) : AV→Prop
 | .sc (.bool b)=>(b=want→yes) ∧ (b ≠ want→no)
 | .tup _=>no
 | _=>False
theorem guardK_V {ts : List AV} {yes no : Prop} {g : Nat} {want : Bool} : guardK ts yes no (some (g,want))=guardV want yes no (ts.getD g .top):=by
 simp only[guardK]
 generalize ts.getD g .top=v
 cases v with
 | sc v=>cases v <;> rfl
 | _=>rfl
def callR (P : Program) (K : List AV→AHeap→Prop) (Kp : AV→List AV→AHeap→Prop) (d : Option Nat) (f : FuncId) (args : List AV) (r : List IO') (ts : List AV) (H : AHeap) : Prop :=
 DK P f args H (fun e H'=>AEnd.post (fun v H'=>runS P K Kp r (putT ts d v) H') (fun v H'=>Kp v ts H') H' e)
theorem callR_ret {P : Program} {K : List AV→AHeap→Prop} {Kp : AV→List AV→AHeap→Prop} {d : Option Nat} {f : FuncId} {args : List AV} {r : List IO'} {ts : List AV} {H H' : AHeap} {v : AV} (h : D P f args H (.ret v) H') (hk : runS P K Kp r (putT ts d v) H') : callR P K Kp d f args r ts H:=h.dk.mono fun e H1 _ ⟨h1,h2⟩=>by subst h1 h2;exact hk
theorem callR_pan {P : Program} {K : List AV→AHeap→Prop} {Kp : AV→List AV→AHeap→Prop} {d : Option Nat} {f : FuncId} {args : List AV} {r : List IO'} {ts : List AV} {H H' : AHeap} {v : AV} (h : D P f args H (.pan v) H') (hk : Kp v ts H') : callR P K Kp d f args r ts H:=h.dk.mono fun e H1 _ ⟨h1,h2⟩=>by subst h1 h2;exact hk
theorem callR_dk {P : Program} {K : List AV→AHeap→Prop} {Kp : AV→List AV→AHeap→Prop} {d : Option Nat} {f : FuncId} {args : List AV} {r : List IO'} {ts : List AV} {H : AHeap} {Kr : AEnd→AHeap→Prop} (h : DK P f args H Kr) (hk : ∀ e H',H.length ≤ H'.length→Kr e H'→AEnd.post (fun v H'=>runS P K Kp r (putT ts d v) H') (fun v H'=>Kp v ts H') H' e) : callR P K Kp d f args r ts H:=h.mono hk
def callW (P : Program) (K : List AV→AHeap→Prop) (Kp : AV→List AV→AHeap→Prop) (d : Option Nat) (f : AV) (args : List AV) (r : List IO') (ts : List AV) (H : AHeap) : Prop :=
 match f with
 | .fn (.func g) a b=>callable P g=true ∧ callR P K Kp d g (a ++ args ++ b) r ts H
 | _=>False
def grdR (P : Program) (K : List AV→AHeap→Prop) (Kp : AV→List AV→AHeap→Prop) (d : Option Nat) (op : IOp) (want : Bool) (r : List IO') (ts : List AV) (H : AHeap) (v : AV) : Prop :=
 match v with
 | .sc (.bool b)=>(b=want→runS P K Kp (⟨d,none,op⟩ :: r) ts H) ∧ (b ≠ want→runS P K Kp r (putT ts d (.tup [])) H)
 | .tup _=>runS P K Kp r (putT ts d (.tup [])) H
 | _=>False
section
variable {P : Program} {K : List AV→AHeap→Prop} {Kp : AV→List AV→AHeap→Prop} {d : Option Nat} {r : List IO'} {ts : List AV} {H : AHeap}
theorem runS_nil : runS P K Kp [] ts H=K ts H:=rfl
theorem runS_p {q : PO} : runS P K Kp (⟨d,none,.p q⟩ :: r) ts H=(q.ok (X.ev ts) ∧ runS P K Kp r (putT ts d (q.val (X.ev ts))) H):=rfl
theorem runS_load {n : Nat} {ag : Bool} {a : X} : runS P K Kp (⟨d,none,.h (.load n ag a)⟩ :: r) ts H=(ldOk H n ag (a.ev ts) ∧ runS P K Kp r (putT ts d (ldV H n ag (a.ev ts))) H):=rfl
theorem runS_alloc {z : AV} {ty : TypeId} : runS P K Kp (⟨d,none,.h (.alloc z ty)⟩ :: r) ts H=runS P K Kp r (putT ts d (.ptr z.ncells H.length 0 0)) (some ⟨z.ncells,[z],true,ty⟩ :: H):=by
 show (True ∧ _)=_;rw[true_and];rfl
theorem runS_box {k : Nat} {ty : TypeId} {x : X} : runS P K Kp (⟨d,none,.h (.box k ty x)⟩ :: r) ts H=(((x.ev ts).isTop=false ∧ (x.ev ts).ncells=k) ∧ runS P K Kp r (putT ts d (.ptr k H.length 0 0)) (some ⟨k,[x.ev ts],true,ty⟩ :: H)):=rfl
theorem runS_bsl {k : Nat} {ty : TypeId} {z : AV} {ln : Nat} {ps : List (Nat × X)} : runS P K Kp (⟨d,none,.h (.bsl k ty z ln ps)⟩ :: r) ts H=(elsOk (X.ev ts) k (List.replicate ln z) ps ∧ runS P K Kp r (putT ts d (.lst k (elsV (X.ev ts) (List.replicate ln z) ps) (some []))) H):=rfl
theorem runS_bslV {k : Nat} {ty : TypeId} {z : AV} {ln : Nat} {ps : List (Nat × X)} : runS P K Kp (⟨d,none,.h (.bslV k ty z ln ps)⟩ :: r) ts H=(elsOk (X.ev ts) k (List.replicate ln z) ps ∧ runS P K Kp r (putT ts d (.vec k H.length 0 ln (some ln))) (some ⟨k,elsV (X.ev ts) (List.replicate ln z) ps,true,ty⟩ :: H)):=rfl
theorem runS_store {n : Nat} {a x : X} : runS P K Kp (⟨d,none,.h (.store n a x)⟩ :: r) ts H=(stOk H n (a.ev ts) (x.ev ts) ∧ runS P K Kp r (putT ts d .top) (stH H (a.ev ts) (x.ev ts))):=rfl
theorem runS_mksl {k : Nat} {ty : TypeId} {z : AV} {l c : X} : runS P K Kp (⟨d,none,.h (.mksl k ty z l c)⟩ :: r) ts H=((isIntV (l.ev ts) ∧ isIntV (c.ev ts) ∧ 0 ≤ intV (l.ev ts) ∧ intV (l.ev ts) ≤ intV (c.ev ts) ∧ intV (c.ev ts) ≤ 100000000) ∧ runS P K Kp r (putT ts d (.vec k H.length 0 (intV (l.ev ts)).toNat (some (intV (c.ev ts)).toNat))) (some ⟨k,List.replicate (intV (c.ev ts)).toNat z,true,ty⟩ :: H)):=rfl
theorem runS_gx {g : GX} {xs : List X} : runS P K Kp (⟨d,none,.h (.gx g xs)⟩ :: r) ts H=(g.ok H (xs.map (X.ev ts)) ∧ runS P K Kp r (putT ts d (g.val H (xs.map (X.ev ts)))) (g.heap H (xs.map (X.ev ts)))):=rfl
theorem runS_itr {kd : ItK} {x : X} : runS P K Kp (⟨d,none,.h (.itr kd x)⟩ :: r) ts H=itK (fun v H'=>runS P K Kp r (putT ts d v) H') H kd (x.ev ts):=rfl
theorem runS_app {k : Nat} {ty : TypeId} {s x : X} : runS P K Kp (⟨d,none,.h (.app k ty s x)⟩ :: r) ts H=((lsOk H k (x.ev ts) ∧ apOk H k ty (lsV H (x.ev ts)) (s.ev ts)) ∧ runS P K Kp r (putT ts d (apV H k (lsV H (x.ev ts)) (s.ev ts))) (apH H k ty (lsV H (x.ev ts)) (s.ev ts))):=rfl
theorem runS_call {f : FuncId} {as : List X} : runS P K Kp (⟨d,none,.h (.call f as)⟩ :: r) ts H=callR P K Kp d f (as.map (X.ev ts)) r ts H:=rfl
theorem runS_callv {f : X} {as : List X} : runS P K Kp (⟨d,none,.h (.callv f as)⟩ :: r) ts H=callW P K Kp d (f.ev ts) (as.map (X.ev ts)) r ts H:=by
 show (match f.ev ts with
  | .fn (.func g) a b=>callable P g=true ∧ DK P g (a ++ as.map (X.ev ts) ++ b) H (fun e H'=>AEnd.post _ _ H' e)
  | _=>False)=_
 unfold callW
 cases f.ev ts <;> rfl
theorem callW_func {g : FuncId} {a b as : List AV} : callW P K Kp d (.fn (.func g) a b) as r ts H=(callable P g=true ∧ callR P K Kp d g (a ++ as ++ b) r ts H):=rfl
theorem runS_grd {g : Nat} {want : Bool} {op : IOp} : runS P K Kp (⟨d,some (g,want),op⟩ :: r) ts H=grdR P K Kp d op want r ts H (ts.getD g .top):=by
 have hg : ∀ {yes no : Prop} {v : AV},guardV want yes no v=(match v with
  | .sc (.bool b)=>(b=want→yes) ∧ (b ≠ want→no)
  | .tup _=>no
  | _=>False):=fun {_ _} {v}=>by cases v <;> rfl
 exact guardK_V.trans hg
theorem grdR_tt {op : IOp} : grdR P K Kp d op true r ts H (.sc (.bool true))=runS P K Kp (⟨d,none,op⟩ :: r) ts H:=by simp[grdR]
theorem grdR_ff {op : IOp} : grdR P K Kp d op false r ts H (.sc (.bool false))=runS P K Kp (⟨d,none,op⟩ :: r) ts H:=by simp[grdR]
theorem grdR_tf {op : IOp} : grdR P K Kp d op true r ts H (.sc (.bool false))=runS P K Kp r (putT ts d (.tup [])) H:=by simp[grdR]
theorem grdR_ft {op : IOp} : grdR P K Kp d op false r ts H (.sc (.bool true))=runS P K Kp r (putT ts d (.tup [])) H:=by simp[grdR]
theorem grdR_tup {op : IOp} {want : Bool} {vs : List AV} : grdR P K Kp d op want r ts H (.tup vs)=runS P K Kp r (putT ts d (.tup [])) H:=rfl
end
def callD (P : Program) (A : List (List Nat)) (n : Nat) (K : List AV→AHeap→Prop) (Kp : AV→AHeap→Prop) (i : Nat) (d : Option Nat) (f : FuncId) (args : List AV) (r : List IO') (ts : List AV) (H : AHeap) (ld : List (Nat × Nat)) (hs : List (Nat × AHeap × AHeap)) : Prop :=
 ∃ e H',D P f args H e H' ∧ AEnd.post (fun v H'=>chS A i ld H H' ∧ runDS P A n K Kp (i+1) r (putT ts d v) H' ld ((i,H,H') :: hs)) (fun v H'=>lastB A n i=true ∧ Kp v H') H' e
def callE (P : Program) (A : List (List Nat)) (n : Nat) (K : List AV→AHeap→Prop) (Kp : AV→AHeap→Prop) (i : Nat) (d : Option Nat) (f : AV) (args : List AV) (r : List IO') (ts : List AV) (H : AHeap) (ld : List (Nat × Nat)) (hs : List (Nat × AHeap × AHeap)) : Prop :=
 match f with
 | .fn (.func g) a b=>callable P g=true ∧ callD P A n K Kp i d g (a ++ args ++ b) r ts H ld hs
 | _=>False
def grdD (P : Program) (A : List (List Nat)) (n : Nat) (K : List AV→AHeap→Prop) (Kp : AV→AHeap→Prop) (i : Nat) (d : Option Nat) (op : IOp) (want : Bool) (r : List IO') (ts : List AV) (H : AHeap) (ld : List (Nat × Nat)) (hs : List (Nat × AHeap × AHeap)) (v : AV) : Prop :=
 match v with
 | .sc (.bool b)=>(b=want→runDS P A n K Kp i (⟨d,none,op⟩ :: r) ts H ld hs) ∧ (b ≠ want→runDS P A n K Kp (i+1) r (putT ts d (.tup [])) H ld hs)
 | .tup _=>runDS P A n K Kp (i+1) r (putT ts d (.tup [])) H ld hs
 | _=>False
section
variable {P : Program} {A : List (List Nat)} {n i : Nat} {K : List AV→AHeap→Prop} {Kp : AV→AHeap→Prop} {d : Option Nat} {r : List IO'} {ts : List AV} {H : AHeap} {ld : List (Nat × Nat)} {hs : List (Nat × AHeap × AHeap)}
theorem callD_ret {f : FuncId} {args : List AV} {H' : AHeap} {v : AV} (h : D P f args H (.ret v) H') (hc : chS A i ld H H') (hk : runDS P A n K Kp (i+1) r (putT ts d v) H' ld ((i,H,H') :: hs)) : callD P A n K Kp i d f args r ts H ld hs:=⟨_,_,h,hc,hk⟩
theorem chS_same : chS A i ld H H=True:=by simp[chS]
theorem callD_same {f : FuncId} {args : List AV} {v : AV} (h : D P f args H (.ret v) H) (hk : runDS P A n K Kp (i+1) r (putT ts d v) H ld ((i,H,H) :: hs)) : callD P A n K Kp i d f args r ts H ld hs:=⟨_,_,h,by simp[chS],hk⟩
theorem chS_grow {G : AHeap} (h : ∀ l ∈ ld,l.2 < H.length) : chS A i ld H (G ++ H):=fun l hl _=>AHeap.find_append (h l hl)
theorem runDS_nil : runDS P A n K Kp i [] ts H ld hs=K ts H:=rfl
theorem runDS_p {q : PO} : runDS P A n K Kp i (⟨d,none,.p q⟩ :: r) ts H ld hs=(q.ok (X.ev ts) ∧ runDS P A n K Kp (i+1) r (putT ts d (q.val (X.ev ts))) H ld hs):=rfl
theorem runDS_load {m : Nat} {ag : Bool} {a : X} : runDS P A n K Kp i (⟨d,none,.h (.load m ag a)⟩ :: r) ts H ld hs=(ldS A i hs (a.ev ts) ∧ ldOk H m ag (a.ev ts) ∧ runDS P A n K Kp (i+1) r (putT ts d (ldV H m ag (a.ev ts))) H (ldN i ld (a.ev ts)) hs):=rfl
theorem runDS_alloc {z : AV} {ty : TypeId} : runDS P A n K Kp i (⟨d,none,.h (.alloc z ty)⟩ :: r) ts H ld hs=runDS P A n K Kp (i+1) r (putT ts d (.ptr z.ncells H.length 0 0)) (some ⟨z.ncells,[z],true,ty⟩ :: H) ((i,H.length) :: ld) hs:=by
 show (True ∧ _)=_;rw[true_and];rfl
theorem runDS_box {k : Nat} {ty : TypeId} {x : X} : runDS P A n K Kp i (⟨d,none,.h (.box k ty x)⟩ :: r) ts H ld hs=(((x.ev ts).isTop=false ∧ (x.ev ts).ncells=k) ∧ runDS P A n K Kp (i+1) r (putT ts d (.ptr k H.length 0 0)) (some ⟨k,[x.ev ts],true,ty⟩ :: H) ((i,H.length) :: ld) hs):=rfl
theorem runDS_bsl {k : Nat} {ty : TypeId} {z : AV} {ln : Nat} {ps : List (Nat × X)} : runDS P A n K Kp i (⟨d,none,.h (.bsl k ty z ln ps)⟩ :: r) ts H ld hs=(elsOk (X.ev ts) k (List.replicate ln z) ps ∧ runDS P A n K Kp (i+1) r (putT ts d (.lst k (elsV (X.ev ts) (List.replicate ln z) ps) (some []))) H ld hs):=rfl
theorem runDS_bslV {k : Nat} {ty : TypeId} {z : AV} {ln : Nat} {ps : List (Nat × X)} : runDS P A n K Kp i (⟨d,none,.h (.bslV k ty z ln ps)⟩ :: r) ts H ld hs=(elsOk (X.ev ts) k (List.replicate ln z) ps ∧ runDS P A n K Kp (i+1) r (putT ts d (.vec k H.length 0 ln (some ln))) (some ⟨k,elsV (X.ev ts) (List.replicate ln z) ps,true,ty⟩ :: H) ((i,H.length) :: ld) hs):=rfl
theorem runDS_store {m : Nat} {a x : X} : runDS P A n K Kp i (⟨d,none,.h (.store m a x)⟩ :: r) ts H ld hs=(stOk H m (a.ev ts) (x.ev ts) ∧ chS A i ld H (stH H (a.ev ts) (x.ev ts)) ∧ runDS P A n K Kp (i+1) r (putT ts d .top) (stH H (a.ev ts) (x.ev ts)) ld ((i,H,stH H (a.ev ts) (x.ev ts)) :: hs)):=rfl
theorem runDS_mksl {k : Nat} {ty : TypeId} {z : AV} {l c : X} : runDS P A n K Kp i (⟨d,none,.h (.mksl k ty z l c)⟩ :: r) ts H ld hs=((isIntV (l.ev ts) ∧ isIntV (c.ev ts) ∧ 0 ≤ intV (l.ev ts) ∧ intV (l.ev ts) ≤ intV (c.ev ts) ∧ intV (c.ev ts) ≤ 100000000) ∧ runDS P A n K Kp (i+1) r (putT ts d (.vec k H.length 0 (intV (l.ev ts)).toNat (some (intV (c.ev ts)).toNat))) (some ⟨k,List.replicate (intV (c.ev ts)).toNat z,true,ty⟩ :: H) ((i,H.length) :: ld) hs):=rfl
theorem runDS_gx {g : GX} {xs : List X} : runDS P A n K Kp i (⟨d,none,.h (.gx g xs)⟩ :: r) ts H ld hs=(g.ok H (xs.map (X.ev ts)) ∧ chS A i ld H (g.heap H (xs.map (X.ev ts))) ∧ runDS P A n K Kp (i+1) r (putT ts d (g.val H (xs.map (X.ev ts)))) (g.heap H (xs.map (X.ev ts))) ld ((i,H,g.heap H (xs.map (X.ev ts))) :: hs)):=rfl
theorem runDS_app {k : Nat} {ty : TypeId} {s x : X} : runDS P A n K Kp i (⟨d,none,.h (.app k ty s x)⟩ :: r) ts H ld hs=((lsOk H k (x.ev ts) ∧ apOk H k ty (lsV H (x.ev ts)) (s.ev ts)) ∧ chS A i ld H (apH H k ty (lsV H (x.ev ts)) (s.ev ts)) ∧ runDS P A n K Kp (i+1) r (putT ts d (apV H k (lsV H (x.ev ts)) (s.ev ts))) (apH H k ty (lsV H (x.ev ts)) (s.ev ts)) ld ((i,H,apH H k ty (lsV H (x.ev ts)) (s.ev ts)) :: hs)):=rfl
theorem runDS_call {f : FuncId} {as : List X} : runDS P A n K Kp i (⟨d,none,.h (.call f as)⟩ :: r) ts H ld hs=callD P A n K Kp i d f (as.map (X.ev ts)) r ts H ld hs:=rfl
theorem runDS_callv {f : X} {as : List X} : runDS P A n K Kp i (⟨d,none,.h (.callv f as)⟩ :: r) ts H ld hs=callE P A n K Kp i d (f.ev ts) (as.map (X.ev ts)) r ts H ld hs:=by
 show (match f.ev ts with
  | .fn (.func g) a b=>callable P g=true ∧ ∃ e H',D P g (a ++ as.map (X.ev ts) ++ b) H e H' ∧ AEnd.post _ _ H' e
  | _=>False)=_
 unfold callE
 cases f.ev ts <;> rfl
theorem callE_func {g : FuncId} {a b as : List AV} : callE P A n K Kp i d (.fn (.func g) a b) as r ts H ld hs=(callable P g=true ∧ callD P A n K Kp i d g (a ++ as ++ b) r ts H ld hs):=rfl
theorem runDS_grd {g : Nat} {want : Bool} {op : IOp} : runDS P A n K Kp i (⟨d,some (g,want),op⟩ :: r) ts H ld hs=grdD P A n K Kp i d op want r ts H ld hs (ts.getD g .top):=by
 have hg : ∀ {yes no : Prop} {v : AV},guardV want yes no v=(match v with
  | .sc (.bool b)=>(b=want→yes) ∧ (b ≠ want→no)
  | .tup _=>no
  | _=>False):=fun {_ _} {v}=>by cases v <;> rfl
 exact guardK_V.trans hg
theorem grdD_tt {op : IOp} : grdD P A n K Kp i d op true r ts H ld hs (.sc (.bool true))=runDS P A n K Kp i (⟨d,none,op⟩ :: r) ts H ld hs:=by simp[grdD]
theorem grdD_ff {op : IOp} : grdD P A n K Kp i d op false r ts H ld hs (.sc (.bool false))=runDS P A n K Kp i (⟨d,none,op⟩ :: r) ts H ld hs:=by simp[grdD]
theorem grdD_tf {op : IOp} : grdD P A n K Kp i d op true r ts H ld hs (.sc (.bool false))=runDS P A n K Kp (i+1) r (putT ts d (.tup [])) H ld hs:=by simp[grdD]
theorem grdD_ft {op : IOp} : grdD P A n K Kp i d op false r ts H ld hs (.sc (.bool true))=runDS P A n K Kp (i+1) r (putT ts d (.tup [])) H ld hs:=by simp[grdD]
theorem grdD_tup {op : IOp} {want : Bool} {vs : List AV} : grdD P A n K Kp i d op want r ts H ld hs (.tup vs)=runDS P A n K Kp (i+1) r (putT ts d (.tup [])) H ld hs:=rfl
end
def condR (P : Program) (a b : IC) (K : Post) (ts : List AV) (H : AHeap) (v : AV) : Prop :=
 match v with
 | .sc (.bool t)=>(t=true→ES P a K ts H) ∧ (t=false→ES P b K ts H)
 | .ub=>ES P a K ts H ∧ ES P b K ts H
 | _=>False
section
variable {P : Program} {K : Post} {ts : List AV} {H : AHeap}
theorem ES_skip : ES P .skip K ts H=K .normal ts H:=rfl
theorem ES_ops {l : List IO'} : ES P (.ops l) K ts H=runS P (K .normal) (fun v ts' H'=>K (.pan v) ts' H') l ts H:=rfl
theorem ES_dops {l : List IO'} {A : List (List Nat)} : ES P (.dops l A) K ts H=runDS P A l.length (K .normal) (fun v H'=>K (.pan v) (blankT l ts) H') 0 l ts H [] []:=rfl
theorem ES_seq {a b : IC} : ES P (.seq a b) K ts H=ES P a (thenK (ES P b K) K) ts H:=rfl
theorem ES_cond {c : X} {a b : IC} : ES P (.cond c a b) K ts H=condR P a b K ts H (c.ev ts):=by
 simp only[ES]
 generalize c.ev ts=v
 cases v with
 | sc v=>cases v <;> rfl
 | _=>rfl
theorem ES_block {id : Nat} {c : IC} : ES P (.block id c) K ts H=ES P c (blockK id K) ts H:=rfl
theorem ES_exit {id : Nat} : ES P (.exit id) K ts H=K (.exit id) ts H:=rfl
theorem ES_ret : ES P .ret K ts H=K .ret ts H:=rfl
theorem condR_t {a b : IC} : condR P a b K ts H (.sc (.bool true))=ES P a K ts H:=by simp[condR]
theorem condR_f {a b : IC} : condR P a b K ts H (.sc (.bool false))=ES P b K ts H:=by simp[condR]
theorem condR_u {a b : IC} (h1 : ES P a K ts H) (h2 : ES P b K ts H) : condR P a b K ts H .ub:=⟨h1,h2⟩
theorem condR_if {a b : IC} {p : Prop} [Decidable p] (h1 : p→ES P a K ts H) (h2 : ¬ p→ES P b K ts H) : condR P a b K ts H (.sc (.bool (decide p))):=⟨fun e=>h1 (of_decide_eq_true e),fun e=>h2 (of_decide_eq_false e)⟩
theorem thenK_n {next : List AV→AHeap→Prop} : thenK next K .normal ts H=next ts H:=rfl
theorem thenK_e {next : List AV→AHeap→Prop} {i : Nat} : thenK next K (.exit i) ts H=K (.exit i) ts H:=rfl
theorem thenK_r {next : List AV→AHeap→Prop} : thenK next K .ret ts H=K .ret ts H:=rfl
theorem thenK_p {next : List AV→AHeap→Prop} {v : AV} : thenK next K (.pan v) ts H=K (.pan v) ts H:=rfl
theorem blockK_n {id : Nat} : blockK id K .normal ts H=K .normal ts H:=rfl
theorem blockK_e {id i : Nat} : blockK id K (.exit i) ts H=if i=id then K .normal ts H else K (.exit i) ts H:=rfl
theorem blockK_r {id : Nat} : blockK id K .ret ts H=K .ret ts H:=rfl
theorem blockK_p {id : Nat} {v : AV} : blockK id K (.pan v) ts H=K (.pan v) ts H:=rfl
theorem ES_loop {c : IC} (I : List AV→AHeap→Prop) (μ : List AV→AHeap→Nat) (h0 : I ts H) (h : ∀ ts H,I ts H→ES P c (thenK (fun ts' H'=>I ts' H' ∧ μ ts' H' < μ ts H) K) ts H) : ES P (.loop c) K ts H:=⟨I,μ,h0,h⟩
end
def resOk : List RV→List AV→AHeap→Prop
 | [],_,_=>True
 | .t _ :: r,ts,H=>resOk r ts H
 | .c a n ag :: r,ts,H=>(match ts.getD a .top with
  | .ptr k id j f=>ldOk H n ag (.ptr k id j f)
  | _=>False) ∧ resOk r ts H
def resV : List RV→List AV→AHeap→List AV
 | [],_,_=>[]
 | .t n :: r,ts,H=>ts.getD n .top :: resV r ts H
 | .c a n ag :: r,ts,H=>ldV H n ag (ts.getD a .top) :: resV r ts H
theorem resL_of : ∀ {rs : List RV} {ts : List AV} {H : AHeap} {K : List AV→Prop},resOk rs ts H→K (resV rs ts H)→resL rs ts H K
 | [],_,_,_,_,hk=>hk
 | .t n :: r,ts,H,K,h,hk=>resL_of (rs:=r) h hk
 | .c a n ag :: r,ts,H,K,h,hk=>by
  obtain ⟨h1,h2⟩:=h
  simp only[resV] at hk
  simp only[resL]
  cases he : ts.getD a .top <;> rw[he] at h1 hk <;> try exact h1.elim
  simp only[ldOk,ldV] at h1 hk
  cases hf : AHeap.find H _ with
  | none=>rw[hf] at h1;exact h1.elim
  | some blk =>
   rw[hf] at h1 hk
   exact ⟨blk,_,hf,getElem_of h1.2.1,⟨h1.1,h1.2.2⟩,resL_of h2 hk⟩
def bodyS (rs : List RV) (Kr : AEnd→AHeap→Prop) : Post
 | .normal,ts,H=>resOk rs ts H ∧ Kr (.ret (oneOf (resV rs ts H))) H
 | .ret,ts,H=>resOk rs ts H ∧ Kr (.ret (oneOf (resV rs ts H))) H
 | .pan v,ts,H=>Kr (.pan v) H
 | .exit _,_,_=>False
theorem bodyS_bodyK {rs : List RV} {Kr : AEnd→AHeap→Prop} : ∀ x ts H,bodyS rs Kr x ts H→bodyK rs Kr x ts H
 | .normal,_,_,h=>resL_of h.1 h.2
 | .ret,_,_,h=>resL_of h.1 h.2
 | .pan _,_,_,h=>h
 | .exit _,_,_,h=>h
section
variable {rs : List RV} {Kr : AEnd→AHeap→Prop} {ts : List AV} {H : AHeap}
theorem bodyS_n : bodyS rs Kr .normal ts H=(resOk rs ts H ∧ Kr (.ret (oneOf (resV rs ts H))) H):=rfl
theorem bodyS_r : bodyS rs Kr .ret ts H=(resOk rs ts H ∧ Kr (.ret (oneOf (resV rs ts H))) H):=rfl
theorem bodyS_p {v : AV} : bodyS rs Kr (.pan v) ts H=Kr (.pan v) H:=rfl
end
theorem E_of_ES {P : Program} {ic : IC} {rs : List RV} {Kr : AEnd→AHeap→Prop} {ts : List AV} {H : AHeap} (h : ES P ic (bodyS rs Kr) ts H) : E P ic (bodyK rs Kr) ts H:=ES_E (ES_mono bodyS_bodyK h)
theorem wrap_i64 {n : Int} (h1 : -9223372036854775808 ≤ n) (h2 : n ≤ 9223372036854775807) : IntKind.i64.wrap n=n:=by
 unfold IntKind.wrap
 simp[IntKind.signed,IntKind.bits]
 omega
end Go.Proofs.YtdjnccnecgblmaaGreatDoor
namespace Go.Proofs.YtdjnccnecgblmaaGreatDoor
open Go.RowKit
set_option linter.unusedVariables false
set_option linter.unusedSimpArgs false
def phi0 : Phi:=fun _=>none
abbrev O0 : Nat→Prop:=Own phi0 []
theorem own0 {b : Nat} : ¬ Own phi0 [] b:=by rintro ⟨id,blk,h,_⟩;simp[phi0] at h
theorem rel0 {w : World} (hg : GOk phi0 [] w) : Rel phi0 [] w:=⟨hg,fun id b h=>by simp[phi0] at h,fun i j b h=>by simp[phi0] at h,fun id b k h=>by simp[phi0] at h⟩
section
variable {φ : Phi} {O : Nat→Prop} {w : World}
theorem Rs_mono {l : List AV} {g g' : Nat→Option Value} (h : ∀ i v,g i=some v→g' i=some v) (hr : Rs φ O w l g) : Rs φ O w l g' :=
 Rs_later (ok:=fun _=>True) Later.refl l g g' (AV.idsL_true l) h hr
theorem Rs_app {l m : List AV} : ∀ {g : Nat→Option Value},Rs φ O w l g→Rs φ O w m (fun i=>g (l.length+i))→Rs φ O w (l ++ m) g:=by
 induction l with
 | nil=>intro g _ h;simpa using h
 | cons x r ih =>
  intro g h1 h2
  refine ⟨h1.1,h1.2.1,h1.2.2.1,ih h1.2.2.2 ?_⟩
  refine Rs_mono (fun i v hv=>?_) h2
  rw[← hv]
  show g _=g _
  congr 1
  simp only[List.length_cons]
  omega
theorem Rs_one {x : AV} {g : Nat→Option Value} (ha : x.isAgg=false) {u : Value} (hu : g 0=some u) (h1 : u.oneCell'=true) (hr : R φ O w x g) : Rs φ O w x.cells g:=by
 have : x.cells=[x]:=by cases x <;> first | rfl | (simp[AV.isAgg] at ha)
 rw[this]
 exact ⟨ha,hr,⟨u,hu,h1⟩,trivial⟩
theorem Rl_of_nth {b k : Nat} : ∀ {l : List AV} {off : Nat},(∀ i x,l[i]? = some x→x.ncells=k ∧ Rs φ O w x.cells (memAt w b (off+i * k)))→Rl φ O w b k l off
 | [],_,_=>trivial
 | x :: r,off,h=>by
  obtain ⟨h1,h2⟩:=h 0 x rfl
  have h3:=Rs_head (r:=[]) (by rw[List.append_nil];exact h2)
  simp only[Nat.zero_mul,Nat.add_zero] at h3
  refine ⟨h1,h3.2,h3.1,Rl_of_nth fun i y hy=>?_⟩
  have:=h (i+1) y (by simpa using hy)
  rw[Nat.add_mul,Nat.one_mul,Nat.add_comm (i * k) k,← Nat.add_assoc] at this
  exact this
end
inductive All2 {α β : Type} (p : α→β→Prop) : List α→List β→Prop where
 | nil : All2 p [] []
 | cons {a : α} {b : β} {r : List α} {s : List β} : p a b→All2 p r s→All2 p (a :: r) (b :: s)
theorem All2.length {α β : Type} {p : α→β→Prop} {l : List α} {m : List β} (h : All2 p l m) : l.length=m.length:=by
 induction h with
 | nil=>rfl
 | cons _ _ ih=>simp[ih]
theorem All2.of_nth {α β : Type} {p : α→β→Prop} : ∀ {l : List α} {m : List β},l.length=m.length→(∀ (i : Nat) (a : α) (b : β),l[i]? = some a→m[i]? = some b→p a b)→All2 p l m
 | [],[],_,_=>.nil
 | [],_ :: _,h,_=>by simp at h
 | _ :: _,[],h,_=>by simp at h
 | a :: r,b :: s,h,hp=>.cons (hp 0 a b rfl rfl) (All2.of_nth (by simpa using h) fun i x y hx hy=>hp (i+1) x y (by simpa using hx) (by simpa using hy))
theorem All2.mono {α β : Type} {p q : α→β→Prop} (hq : ∀ a b,p a b→q a b) {l : List α} {m : List β} (h : All2 p l m) : All2 q l m:=by
 induction h with
 | nil=>exact .nil
 | cons h1 _ ih=>exact .cons (hq _ _ h1) ih
theorem list_of {α : Type} {p : Nat→α→Prop} : ∀ (n : Nat),(∀ i,i < n→∃ a,p i a)→∃ l : List α,l.length=n ∧ ∀ i a,l[i]? = some a→p i a
 | 0,_=>⟨[],rfl,fun i a h=>by simp at h⟩
 | n+1,h=>by
  obtain ⟨l,h1,h2⟩:=list_of n fun i hi=>h i (by omega)
  obtain ⟨a,ha⟩:=h n (by omega)
  refine ⟨l ++ [a],by simp[h1],fun i x hx=>?_⟩
  by_cases e : i < l.length
  ·rw[List.getElem?_append_left e] at hx
   exact h2 i x hx
  ·rw[List.getElem?_append_right (by omega)] at hx
   have : i - l.length=0:=by
    have:=(List.getElem?_eq_some_iff.1 hx).1
    simp at this
    omega
   rw[this] at hx
   simp at hx
   subst hx
   have : i=n:=by omega
   rw[this]
   exact ha
section
variable {Hh : Type} {enc : TypeId × Value→Hh} {P : Program} {w : World} {n : Nat} {t : TypeId}
def Rdr (enc : TypeId × Value→Hh) (P : Program) (w : World) (n : Nat) (t : TypeId) {α : Type} (en : α→AV) (good : α→DataW Hh→Prop) : Prop :=
 ∀ cs d ps,DataW.trod enc P w 0 (fun _=>true) true n t cs=some (d,ps)→∃ a,cs.length=(en a).ncells ∧ Rs phi0 O0 w (en a).cells (fun i=>cs[i]?) ∧ good a d
def FRdr (enc : TypeId × Value→Hh) (P : Program) (w : World) (n : Nat) (off : Nat) (fs : List Field) {α : Type} (en : α→List AV) (good : α→List (DataW Hh)→Prop) : Prop :=
 ∀ (cs : List Value) (xs : List (DataW Hh × List MemPlace)),xs.length=fs.length→(∀ (i : Nat) (f : Field),fs[i]? = some f→DataW.trod enc P w 0 (fun _=>true) true n f.type ((cs.drop f.offset).take (P.cellsOf f.type))=xs[i]?) →
  ∃ a,Rs phi0 O0 w (en a) (fun i=>cs[off+i]?) ∧ good a (xs.map (·.1))
theorem Rdr.zero {α : Type} {en : α→AV} {good : α→DataW Hh→Prop} : Rdr enc P w 0 t en good:=fun cs d ps h=>by simp[DataW.trod] at h
theorem Rdr.map {α β : Type} {en : α→AV} {good : α→DataW Hh→Prop} (h : Rdr enc P w n t en good) (f : α→β) {en' : β→AV} {good' : β→DataW Hh→Prop} (he : ∀ a d,good a d→en' (f a)=en a ∧ good' (f a) d) : Rdr enc P w n t en' good':=by
 intro cs d ps hd
 obtain ⟨a,h1,h2,h3⟩:=h cs d ps hd
 obtain ⟨h4,h5⟩:=he a d h3
 exact ⟨f a,by rw[h4];exact h1,by rw[h4];exact h2,h5⟩
theorem Rdr.int {k : IntKind} (ht : P.underlying t=some (.int k)) : Rdr enc P w n t (fun i : Int=>.sc (.int k i)) (fun i d=>d = .lit (.int k i) ∧ (Lit.int k i).wf=true):=by
 intro cs d ps h
 obtain ⟨a,rfl,h2,h3⟩:=DataW.trod_int ht h
 cases h2
 exact ⟨a,rfl,Rs_one rfl (u:=.int k a) rfl rfl rfl,rfl,h3⟩
theorem Rdr.bool (ht : P.underlying t=some .bool) : Rdr enc P w n t (fun i : Bool=>.sc (.bool i)) (fun i d=>d = .lit (.bool i)):=by
 intro cs d ps h
 obtain ⟨a,rfl,h2⟩:=DataW.trod_bool ht h
 cases h2
 exact ⟨a,rfl,Rs_one rfl (u:=.bool a) rfl rfl rfl,rfl⟩
theorem Rdr.str (ht : P.underlying t=some .string) : Rdr enc P w n t (fun s : ByteArray=>.sc (.string s)) (fun s d=>d = .lit (.string s.data.toList)):=by
 intro cs d ps h
 obtain ⟨a,rfl,h2,_⟩:=DataW.trod_string ht h
 cases h2
 exact ⟨a,rfl,Rs_one rfl (u:=.string a) rfl rfl rfl,rfl⟩
theorem FRdr.nil {off : Nat} : FRdr enc P w n off [] (fun _ : Unit=>[]) (fun _ l=>l=[]):=fun cs xs hl _=>⟨(),trivial,by
 have : xs=[]:=List.length_eq_zero_iff.1 hl
 rw[this];rfl⟩
theorem FRdr.cons {off k : Nat} {f : Field} {fs : List Field} {α β : Type} {e1 : α→AV} {g1 : α→DataW Hh→Prop} {e2 : β→List AV} {g2 : β→List (DataW Hh)→Prop} (ho : f.offset=off) (hk : P.cellsOf f.type=k) (hn : ∀ a,(e1 a).ncells=k)
  (h1 : Rdr enc P w n f.type e1 g1) (h2 : FRdr enc P w n (off+k) fs e2 g2) : FRdr enc P w n off (f :: fs) (fun p : α × β=>(e1 p.1).cells ++ e2 p.2) (fun p l=>∃ d r,l=d :: r ∧ g1 p.1 d ∧ g2 p.2 r):=by
 intro cs xs hl hf
 cases xs with
 | nil=>simp at hl
 | cons x xs =>
  have hx:=hf 0 f rfl
  rw[hk,ho] at hx
  obtain ⟨a,a1,a2,a3⟩:=h1 _ x.1 x.2 hx
  obtain ⟨b,b1,b2⟩:=h2 cs xs (by simpa using hl) fun i g hg=>by
   have:=hf (i+1) g (by simpa using hg)
   simpa using this
  refine ⟨(a,b),Rs_app (Rs_mono (fun i v hv=>?_) a2) ?_,x.1,_,rfl,a3,b2⟩
  ·rw[List.getElem?_take] at hv
   split at hv
   ·rw[List.getElem?_drop] at hv;exact hv
   ·simp at hv
  ·have e : (e1 a).cells.length=k:=by rw[← AV.ncells_eq,hn]
   rw[e]
   refine Rs_mono (fun i v hv=>?_) b1
   rw[← hv]
   show cs[off+(k+i)]? = cs[off+k+i]?
   rw[Nat.add_assoc]
theorem Rdr.struct {fs : Array Field} {α : Type} {en : α→List AV} {good : α→List (DataW Hh)→Prop} (ht : P.underlying t=some (.struct fs)) (hl : ∀ a,(en a).length=P.cellsOf t) (h : FRdr enc P w n 0 fs.toList en good) :
  Rdr enc P w (n+1) t (fun a=>.agg (en a)) (fun a d=>∃ l,d = .agg l ∧ good a l):=by
 intro cs d ps hd
 obtain ⟨xs,m,hm,hx,hc,hs,hf⟩:=DataW.trod_struct ht hd
 have hmn : m=n:=by omega
 subst hmn
 obtain ⟨a,a1,a2⟩:=h cs xs (by simpa using hs) fun i f hi=>hf i f (by simpa using hi)
 cases hx
 refine ⟨a,?_,?_,_,rfl,a2⟩
 ·show cs.length=(en a).length
  rw[hl,hc]
 ·refine Rs_mono (fun i v hv=>?_) a1
  simpa using hv
theorem Rdr.slice {e : TypeId} {k : Nat} {α : Type} {en : α→AV} {good : α→DataW Hh→Prop} (ht : P.underlying t=some (.slice e)) (hk : P.cellsOf e=k) (h0 : 0 < k) (hn : ∀ a,(en a).ncells=k) (h : Rdr enc P w n e en good) :
  Rdr enc P w (n+1) t (fun l : List α=>.lst k (l.map en) none) (fun l d=>(d = .nil ∧ l=[]) ∨ ∃ ds r,d = .slice ds r ∧ All2 good l ds):=by
 intro cs d ps hd
 rcases DataW.trod_slice ht hd with ⟨rfl,h2⟩ | ⟨a,len,cap,elems,rest,m,hm,rfl,hx,_,hlc,hcm,hel,hnth,_,_⟩
 ·cases h2
  exact ⟨[],rfl,Rs_one rfl (u:=.slice none 0 0) rfl rfl ⟨none,0,rfl,Nat.le_refl _,by decide,fun _=>rfl,fun h=>by simp at h,trivial⟩,.inl ⟨rfl,rfl⟩⟩
 ·have hmn : m=n:=by omega
  subst hmn
  have hk' : ∀ i,i < len→∃ x : α,∃ y cs',elems[i]? = some y ∧ w.cells? 0 (a.add (i * k)) k=some cs' ∧ cs'.length=(en x).ncells ∧ Rs phi0 O0 w (en x).cells (fun j=>cs'[j]?) ∧ good x y.1:=by
   intro i hi
   have:=hnth i hi
   rw[hk] at this
   have he : ∃ y,elems[i]? = some y:=⟨elems[i]'(by omega),by simp[hel,hi]⟩
   obtain ⟨y,hy⟩:=he
   rw[hy] at this
   obtain ⟨cs',c1,c2⟩:=Option.bind_eq_some_iff.1 this
   obtain ⟨x,x1,x2,x3⟩:=h cs' y.1 y.2 c2
   exact ⟨x,y,cs',hy,c1,x1,x2,x3⟩
  obtain ⟨l,l1,l2⟩:=list_of len hk'
  cases hx
  refine ⟨l,rfl,Rs_one rfl (u:=.slice (some a) len cap) rfl rfl ⟨some a,cap,by simp[l1],by simpa [l1] using hlc,hcm,fun h=>by simp at h,fun hp=>?_,trivial⟩,.inr ⟨_,_,rfl,All2.of_nth (by simp[l1,hel]) fun i x y hx hy=>?_⟩⟩
  ·have hp' : 0 < len:=by simpa [l1] using hp
   obtain ⟨x0,y0,cs0,_,c0,c1,_⟩:=hk' 0 hp'
   obtain ⟨b,off,spot⟩:=a
   obtain ⟨_,_,g2⟩:=World.cells?_some c0
   have hs : spot=none:=by
    have hc : w.cell? ((⟨b,off,spot⟩ : Addr).add (0 * k))=cs0[0]?:=by
     have:=g2 0 h0
     simpa [Addr.add] using this
    rw[hn] at c1
    rw[List.getElem?_eq_getElem (by omega : 0 < cs0.length)] at hc
    have:=World.cell?_spot hc
    simp only[Addr.add] at this
    split at this <;> simp_all
   subst hs
   refine ⟨b,off,rfl,own0,?_,Rl_of_nth fun i x hx=>?_⟩
   ·have:=World.cells?_block c0 h0
    simpa [Addr.add] using this
   ·rw[List.getElem?_map] at hx
    obtain ⟨z,hz,rfl⟩:=Option.map_eq_some_iff.1 hx
    obtain ⟨y,cs',z1,z2,z3,z4,z5⟩:=l2 i z hz
    obtain ⟨_,q1,q2⟩:=World.cells?_some z2
    refine ⟨hn z,Rs_mono (fun j v hv=>?_) z4⟩
    have hj : j < k:=by
     have:=(List.getElem?_eq_some_iff.1 hv).1
     rw[z3,hn] at this
     exact this
    have:=q2 j hj
    rw[addr_add,addr_add] at this
    unfold memAt
    rw[this]
    exact hv
  ·obtain ⟨y',cs',z1,z2,z3,z4,z5⟩:=l2 i x hx
   rw[List.getElem?_map,z1] at hy
   cases hy
   exact z5
theorem arg_one {α : Type} {en : α→AV} {good : α→DataW Hh→Prop} (hr : ∀ n,Rdr enc P w n t en good) {v : Value} {d : DataW Hh} {ps : List MemPlace} (h : DataW.Trod enc P w 0 (fun _=>true) true t v d ps) (ha : ∀ a,(en a).isAgg=false) (ht : ∀ a,(en a).isTop=false) (hv : v.oneCell'=true) :
  ∃ a,VR phi0 O0 w (en a) v ∧ good a d:=by
 obtain ⟨m,hm⟩:=h
 obtain ⟨a,h1,h2,h3⟩:=hr m _ _ _ hm
 refine ⟨a,⟨?_,?_⟩,h3⟩
 ·have e1:=ha a
  have e2:=ht a
  cases he : en a <;> rw[he] at e1 e2 <;> first | exact hv | (simp[AV.isAgg] at e1;done) | (simp[AV.isTop] at e2;done)
 ·have:=(Rs_head (r:=[]) (by rw[List.append_nil];exact h2)).1
  have e : (fun i=>v.cells.toList[i]?)=cget v:=by funext i;simp[cget]
  rwa [e] at this
end
theorem trodAll_below {Hh : Type} {enc : TypeId × Value→Hh} {P : Program} {W W' : World} (hl : laidOutB P=true) (hb : Below W.heap.size W W') : ∀ {ts : List TypeId} {vs : List Value} {ds : List (DataW Hh)} {ps : List MemPlace},(ts.all fun t=>P.readableRec t && decide (t < P.types.size))=true →
  DataW.TrodAll enc P W 0 (fun _=>true) true ts vs ds ps→DataW.TrodAll enc P W' 0 (fun b=>decide (b < W.heap.size)) true ts vs ds ps
 | [],vs,ds,ps,_,h=>by
  cases vs <;> cases ds <;> first | exact h | (simp[DataW.TrodAll] at h)
 | t :: ts,vs,ds,ps,hr,h=>by
  obtain ⟨v,vs',d,ds',p,q,rfl,rfl,rfl,h1,h2⟩:=Go.ChangeShapes.trodAll_cons h
  simp only[List.all_cons,Bool.and_eq_true,decide_eq_true_eq] at hr
  have lt1 : ∀ x ∈ p,x.block < W.heap.size:=by obtain ⟨m,hm⟩:=h1;exact DataW.trod_lt m _ _ _ hm
  exact ⟨p,q,Below.trod hl hr.1.1 hr.1.2 h1 hb lt1,trodAll_below hl hb hr.2 h2,rfl⟩
theorem below_of_step {w w' : World} {φ : Phi} (h : Step phi0 [] w φ [] w') : Below w.heap.size w w':=⟨h.os,h.tape,h.output,h.size,fun k hk=>h.same k hk own0⟩
theorem calls_of_D {P : Program} {f : FuncId} {args : List AV} {b : Bool} (h : D P f args [] (.ret (.sc (.bool b))) []) {w : World} {vs : Array Value} (ha : Rt phi0 O0 w args vs.toList) (hg : GOk phi0 [] w:=by exact fun p hp=>absurd hp (by simp[gtab])) : Calls P f vs w fun e w'=>e = .returned (.bool b) ∧ Below w.heap.size w w' :=
 (h.2 phi0 w vs (rel0 hg) ha).mono fun e w' ⟨φ',h1,h2,h3⟩=>by
  cases e with
  | returned v=>exact ⟨by rw[VR_sc h1],below_of_step h3⟩
  | panicked c=>exact h1.elim
  | outgrown=>exact h1.elim
theorem law_post {Hh : Type} {enc : TypeId × Value→Hh} {P : Program} {f : FuncId} {fn : Func} {W : World} {args : Array Value} {ds gs : List (DataW Hh)} {before : List MemPlace} {avs : List AV} {tb : TypeId} {s : ChangeSpec} (hl : laidOutB P=true)
  (hp : (fn.params.toList.all fun t=>P.readableRec t && decide (t < P.types.size))=true) (hres : fn.resultTypes=#[tb]) (htb : P.underlying tb=some .bool)
  (hvars : s.vars=[]) (hfn : s.fn Hh (ds ++ gs)={ results:=[.lit (.bool true)],args:=ds })
  (hW : DataW.Whole enc P fn.params.toList s.vars false W args.toList ds gs before) (ha : Rt phi0 O0 W avs args.toList) (h : D P f avs [] (.ret (.sc (.bool true))) []) (hg : GOk phi0 [] W:=by exact fun p hp=>absurd hp (by simp[gtab])) :
  Calls P f args W fun e W'=>∃ v,e = .returned v ∧ s.post enc P fn false true false false W args v W':=by
 refine (calls_of_D h ha hg).mono fun e W' ⟨he,bel⟩=>?_
 subst he
 have hW':=hW
 obtain ⟨p,q,hA,hV,rfl,hfz,hnd⟩:=hW
 rw[hvars] at hV
 obtain ⟨rfl,rfl⟩:=Go.ChangeShapes.trodVars_none hV
 refine ⟨_,rfl,ds,[],_,[],p,[],hW',?_,?_,?_,bel.frame _,fun h=>by cases h⟩
 ·rw[hfn,hres]
  exact Go.ChangeShapes.trodAll_mk1 (shut_bool htb _)
 ·rw[hfn]
  exact trodAll_below hl bel hp hA
 ·rw[hvars,hfn]
  rfl
end Go.Proofs.YtdjnccnecgblmaaGreatDoor
namespace Go.Proofs.YtdjnccnecgblmaaGreatDoor
open Go.RowKit
set_option linter.unusedVariables false
set_option linter.unusedSimpArgs false
def deferOf : List Oper→Option Nat
 | []=>none
 | [o]=>match o.op,o.dst,o.guard with
  | .defer { callee:=.value (.tmp t),args,.. },none,none=>if args.isEmpty then some t else none
  | _,_,_=>none
 | _ :: r=>deferOf r
def defReg (P : Program) (vecs : List Nat) : Code→Option (List IO' × Nat)
 | .region id ops false=>match deferOf ops.toList with
  | some t=>(compOps P (vecs.contains id) ops ops.toList.dropLast).map (·,t)
  | none=>none
 | _=>none
def compDef (P : Program) (vecs : List Nat) : Code→Option (IC × Nat × IC)
 | .seq a b=>match defReg P vecs a with
  | some (l,t)=>(compC P vecs b).map fun ib=>(.ops l,t,ib)
  | none=>match compC P vecs a,compDef P vecs b with
   | some ia,some (pre,t,ib)=>some (.seq ia pre,t,ib)
   | _,_=>none
 | _=>none
theorem deferOf_last : ∀ {l : List Oper} {t : Nat},deferOf l=some t→∃ (m : List Oper) (o : Oper) (args : Array Operand) (ats : Array TypeId),l=m ++ [o] ∧ o.op = .defer { callee:=.value (.tmp t),args:=args,argTypes:=ats } ∧ args.isEmpty=true ∧ o.dst=none ∧ o.guard=none
 | [],t,h=>by simp[deferOf] at h
 | [o],t,h=>by
  simp only[deferOf] at h
  split at h
  ·rename_i t' args ats e1 e2 e3
   split at h
   ·rename_i he
    cases h
    exact ⟨[],o,args,ats,rfl,e1,he,e2,e3⟩
   ·simp at h
  ·simp at h
 | x :: y :: r,t,h=>by
  simp only[deferOf] at h
  obtain ⟨m,o,args,ats,h1,h2⟩:=deferOf_last (l:=y :: r) h
  exact ⟨x :: m,o,args,ats,by rw[h1];rfl,h2⟩
section
variable {P : Program}
theorem runOps_part {b : Bool} {ops : Array Oper} {Q : Exit→Act→World→Prop} {K : List AV→AHeap→Prop} {Kp : AV→List AV→AHeap→Prop} {tail : List Nat} : ∀ (n i : Nat) (l : List IO') (ts : List AV) (H : AHeap) (φ : Phi) (w : World) (a : Act),
  i+n ≤ ops.size→compOps P b ops ((ops.toList.drop i).take n)=some l→Rel φ H w→FR φ (Own φ H) w ts a→runOps P K Kp l ts H →
  (∀ ts' a' φ' H' w',K ts' H'→FR φ' (Own φ' H') w' ts' a'→Rel φ' H' w'→Step φ H w φ' H' w'→a'.defers=a.defers→wpOps P ops Q tail a' w')→PanOk Q Kp φ H w a.defers→wpOps P ops Q (List.range' i n ++ tail) a w
 | 0,i,l,ts,H,φ,w,a,hi,hc,hR,hF,h,hk,hp=>by
  simp[compOps] at hc
  subst hc
  exact hk _ _ _ _ _ h hF hR (Step.refl _ _ _) rfl
 | n+1,i,l,ts,H,φ,w,a,hi,hc,hR,hF,h,hk,hp=>by
  have hlt : i < ops.toList.length:=by simp;omega
  rw[List.drop_eq_getElem_cons hlt,List.take_succ_cons] at hc
  unfold compOps at hc
  split at hc
  case h_2=>simp at hc
  rename_i x s hx hs
  cases hc
  have hoi : ops[i]? = some (ops.toList[i]):=by simp at hlt;simp[hlt]
  obtain ⟨hd,hg⟩:=compO_dst hx
  simp only[runOps] at h
  have hcont : ∀ φ' H' w',Step φ H w φ' H' w'→∀ a' : Act,a'.defers=a.defers→(∀ ts2 a2 φ2 H2 w2,K ts2 H2→FR φ2 (Own φ2 H2) w2 ts2 a2→Rel φ2 H2 w2→Step φ' H' w' φ2 H2 w2→a2.defers=a'.defers→wpOps P ops Q tail a2 w2) ∧ PanOk Q Kp φ' H' w' a'.defers:=by
   intro φ' H' w' hst a' ha
   exact ⟨fun ts2 a2 φ2 H2 w2 k1 k2 k3 k4 k5=>hk ts2 a2 φ2 H2 w2 k1 k2 k3 (hst.trans k4) (by rw[k5,ha]),fun v u ts2 a2 φ2 H2 w2 k1 k2 k3 k4 k5 k6=>hp v u ts2 a2 φ2 H2 w2 k1 k2 k3 k4 (hst.trans k5) (by rw[k6,ha])⟩
  rw[show List.range' i (n+1) ++ tail=i :: (List.range' (i+1) n ++ tail) from rfl]
  simp only[wpOps,hoi]
  rcases guard_wanted hg hF h with ⟨hw,hy⟩ | ⟨hw,hno⟩
  ·rw[if_pos hw]
   left
   refine op_wpR hx hR hF hy (fun v u φ' H' w' k1 k2 k3 k4=>?_) (fun v u φ' H' w' k1 k2 k3 k4=>?_)
   ·have hF':=(FR.step k4 hF).put (ops.toList[i]).dst k2
    rw[hd] at k1
    have:=hcont φ' H' w' k4 (a.put (ops.toList[i]).dst u) (put_defers _ _ _)
    exact runOps_part n (i+1) s _ H' φ' w' _ (by omega) hs k3 hF' k1 this.1 this.2
   ·exact hp v u ts a φ' H' w' k1 k2 (FR.step k4 hF) k3 k4 rfl
  ·rw[if_neg (by rw[hw];simp)]
   have hF':=hF.put (ops.toList[i]).dst (vr_undef (φ:=φ) (O:=Own φ H) (w:=w))
   rw[hd] at hno
   have:=hcont φ H w (Step.refl _ _ _) (a.put (ops.toList[i]).dst undef) (put_defers _ _ _)
   exact runOps_part n (i+1) s _ H φ w _ (by omega) hs hR hF' hno this.1 this.2
def Dfr (φ : Phi) (O : Nat→Prop) (w : World) (g : FuncId) (caps : List AV) (ds : List Deferred) : Prop:=∃ ws : Array Value,ds=[{ target:=.fn (.func g) ws,args:=#[] }] ∧ Rt φ O w caps ws.toList
def defK (g : FuncId) (K : List AV→List AV→AHeap→Prop) (t : Nat) : List AV→AHeap→Prop:=fun ts H=>match ts.getD t .top with
 | .fn (.func f) [] caps=>f=g ∧ K caps ts H
 | _=>False
theorem region_defer {vecs : List Nat} {c : Code} {l : List IO'} {t : Nat} (hc : defReg P vecs c=some (l,t)) {g : FuncId} {Q : Exit→Act→World→Prop} {K : List AV→List AV→AHeap→Prop} {Kp : AV→List AV→AHeap→Prop} {φ : Phi} {H : AHeap} {w : World} {ts : List AV} {a : Act}
  (hR : Rel φ H w) (hF : FR φ (Own φ H) w ts a) (hd : a.defers=[]) (h : runOps P (defK g K t) Kp l ts H) (hk : ∀ caps ts' a' φ' H' w',K caps ts' H'→FR φ' (Own φ' H') w' ts' a'→Rel φ' H' w'→Step φ H w φ' H' w'→Dfr φ' (Own φ' H') w' g caps a'.defers→Q .normal a' w') (hp : PanOk Q Kp φ H w a.defers) : c.wp P Q a w:=by
 unfold defReg at hc
 split at hc
 case h_2=>simp at hc
 rename_i id ops
 split at hc
 case h_2=>simp at hc
 rename_i t' hdo
 simp only[Option.map_eq_some_iff] at hc
 obtain ⟨l',hl,he⟩:=hc
 cases he
 obtain ⟨m,o,args,ats,hm,ho,hargs,hdst,hgd⟩:=deferOf_last hdo
 have hsz : ops.size=m.length+1:=by rw[← Array.length_toList,hm];simp
 rw[hm,List.dropLast_concat] at hl
 refine wp_region ?_
 have hrange : List.range ops.size=List.range' 0 m.length ++ [m.length]:=by rw[hsz,List.range_succ,List.range_eq_range']
 rw[hrange]
 refine runOps_part m.length 0 l ts H φ w a (by omega) (by rw[hm];simpa using hl) hR hF h (fun ts' a' φ' H' w' k1 k2 k3 k4 k5=>?_) hp
 have hoi : ops[m.length]? = some o:=by
  rw[← Array.getElem?_toList,hm]
  simp
 simp only[wpOps,hoi]
 have hw : Region.wanted o (yielded ops a'.tmps)=true:=by unfold Region.wanted;rw[hgd]
 rw[if_pos hw]
 left
 have hv:=k2.2 t
 unfold defK at k1
 split at k1
 case h_2=>exact k1.elim
 rename_i f caps hf
 rw[hf] at hv
 obtain ⟨us,ws,hu,h1,h2⟩:=VR_fn hv
 have hus : us=#[]:=by
  have : us.toList=[]:=h1
  cases us;simp_all
 subst hus
 unfold Oper.wp
 have hargs' : args=#[]:=by
  cases args with
  | mk l=>cases l <;> first | rfl | (simp at hargs)
 have hrun : (execOp a'.eval o).run P w' = .ok (.defer { target:=.fn (.func f) ws,args:=#[] }) w':=by
  have he : a'.eval (.tmp t) = .func (.func f) #[] ws:=hu
  simp[execOp,ho,resolve,he,Deferred.ofValue,hargs']
 rw[hrun]
 show Q .normal ({ a' with defers:=_ :: a'.defers }.put o.dst undef) w'
 rw[hdst]
 refine hk caps ts' _ φ' H' w' k1.2 ?_ k3 k4 ⟨ws,?_,h2⟩
 ·exact k2
 ·show _ :: a'.defers=_
  rw[k5,hd,k1.1]
def preK (P : Program) (g t : Nat) (ic : IC) (Kd : List AV→Post) (K : Post) : Post
 | .normal,ts,H=>defK g (fun caps ts H=>E P ic (Kd caps) ts H) t ts H
 | x,ts,H=>K x ts H
def CKD (g : FuncId) (Kd : List AV→Post) (φ : Phi) (H : AHeap) (w : World) : Exit→Act→World→Prop:=fun e a' w' =>
 ∃ caps x ts' H' φ',XR φ' (Own φ' H') w' x e ∧ Kd caps x ts' H' ∧ FR φ' (Own φ' H') w' ts' a' ∧ Rel φ' H' w' ∧ Step φ H w φ' H' w' ∧ Dfr φ' (Own φ' H') w' g caps a'.defers
theorem Dfr.step {φ φ' : Phi} {H H' : AHeap} {w w' : World} (hs : Step φ H w φ' H' w') {g : FuncId} {caps : List AV} {ds : List Deferred} (h : Dfr φ (Own φ H) w g caps ds) : Dfr φ' (Own φ' H') w' g caps ds:=by
 obtain ⟨ws,h1,h2⟩:=h
 exact ⟨ws,h1,Rt_later hs.toLater _ _ (AV.idsL_true _) h2⟩
theorem XR_cases {φ : Phi} {O : Nat→Prop} {w : World} {x : AX} {e : Exit} (h : XR φ O w x e) : (x = .normal ∧ e = .normal) ∨ (x ≠ .normal ∧ e ≠ .normal):=by
 cases x <;> cases e <;> first | exact h.elim | exact .inl ⟨rfl,rfl⟩ | exact .inr ⟨by simp,by simp⟩
theorem then_ne {e : Exit} {next : Act→World→Prop} {Q : Exit→Act→World→Prop} {a : Act} {w : World} (h : e ≠ .normal) (hq : Q e a w) : Exit.then next Q e a w:=by
 cases e <;> first | exact (h rfl).elim | exact hq
theorem def_sound {vecs : List Nat} {g : FuncId} {Kd : List AV→Post} {K : Post} : ∀ (c : Code) (pre : IC) (t : Nat) (ic : IC),compDef P vecs c=some (pre,t,ic)→∀ (φ : Phi) (H : AHeap) (w : World) (ts : List AV) (a : Act),Rel φ H w→FR φ (Own φ H) w ts a→a.defers=[]→E P pre (preK P g t ic Kd K) ts H →
  c.wp P (fun e a' w'=>CKD g Kd φ H w e a' w' ∨ (e ≠ .normal ∧ CK K φ H w [] e a' w')) a w:=by
 intro c
 induction c with
 | seq x y ihx ihy =>
  intro pre t ic hc φ H w ts a hR hF hd h
  simp only[compDef] at hc
  split at hc
  ·rename_i l t' hreg
   simp only[Option.map_eq_some_iff] at hc
   obtain ⟨ib,hb,he⟩:=hc
   cases he
   refine wp_seq (region_defer (g:=g) (K:=fun caps ts H=>E P ic (Kd caps) ts H) (Kp:=fun v ts' H'=>K (.pan v) ts' H') hreg hR hF hd h (fun caps ts' a' φ' H' w' k1 k2 k3 k4 k5=>?_) (fun v u ts' a' φ' H' w' k1 k2 k3 k4 k5 k6=>.inr ⟨by simp,.pan v,ts',H',φ',k2,k1,k3,k4,k5,by rw[k6,hd]⟩))
   show y.wp P _ a' w'
   refine wp_mono (E_sound y ic hb _ φ' H' w' ts' a' k3 k2 k1) ?_
   rintro e a2 w2 ⟨x2,ts2,H2,φ2,m1,m2,m3,m4,m5,m6⟩
   exact .inl ⟨caps,x2,ts2,H2,φ2,m1,m2,m3,m4,k4.trans m5,by rw[m6];exact k5.step m5⟩
  ·split at hc
   case h_2=>simp at hc
   rename_i ia pre' t' ib h1 h2
   cases hc
   refine wp_seq (wp_mono (E_sound x ia h1 _ φ H w ts a hR hF h) ?_)
   rintro e a' w' ⟨x',ts',H',φ',k1,k2,k3,k4,k5,k6⟩
   rcases XR_cases k1 with ⟨rfl,rfl⟩ | ⟨n1,n2⟩
   ·show y.wp P _ a' w'
    refine wp_mono (ihy pre' t ic h2 φ' H' w' ts' a' k4 k3 (by rw[k6,hd]) k2) ?_
    rintro e2 a2 w2 (⟨caps,x2,ts2,H2,φ2,m1,m2,m3,m4,m5,m6⟩ | ⟨n,m⟩)
    ·exact .inl ⟨caps,x2,ts2,H2,φ2,m1,m2,m3,m4,k5.trans m5,m6⟩
    ·exact .inr ⟨n,m.step k5⟩
   ·refine then_ne n2 (.inr ⟨n2,x',ts',H',φ',k1,?_,k3,k4,k5,by rw[k6,hd]⟩)
    cases x' <;> first | exact (n1 rfl).elim | exact k2
 | _=>intro pre t ic hc;simp[compDef] at hc
theorem FR_enter {φ : Phi} {H : AHeap} {w : World} {args : List AV} {vs : Array Value} {n : Nat} (ha : Rt φ (Own φ H) w args vs.toList) : FR φ (Own φ H) w (args ++ List.replicate (n - args.length) (.tup [])) { tmps:=vs ++ Array.replicate (n - vs.size) undef,defers:=[] }:=by
 have hlen:=Rt_len ha
 have hsz : vs.size=args.length:=by simpa using hlen
 refine ⟨by simp[hsz],fun i=>?_⟩
 by_cases h1 : i < args.length
 ·obtain ⟨u,g1,g2⟩:=Rt_nth ha (i:=i) (x:=args[i]) (by simp[h1])
  have e1 : (args ++ List.replicate (n - args.length) (AV.tup [])).getD i .top=args[i]:=by simp[List.getD,List.getElem?_append_left h1,h1]
  have e2 : (vs ++ Array.replicate (n - vs.size) undef).getD i undef=u:=by
   rw[Array.getElem?_toList] at g1
   rw[Array.getD_eq_getD_getElem?,Array.getElem?_append_left (by omega),g1]
   rfl
  rw[e1,e2]
  exact g2
 ·by_cases h2 : i < args.length+(n - args.length)
  ·have e1 : (args ++ List.replicate (n - args.length) (AV.tup [])).getD i .top = .tup []:=by
    simp only[List.getD]
    rw[List.getElem?_append_right (by omega),List.getElem?_replicate,if_pos (by omega)]
    rfl
   have e2 : (vs ++ Array.replicate (n - vs.size) undef).getD i undef=undef:=by
    rw[Array.getD_eq_getD_getElem?,Array.getElem?_append_right (by omega),Array.getElem?_replicate]
    split <;> rfl
   rw[e1,e2]
   exact vr_undef
  ·have e1 : (args ++ List.replicate (n - args.length) (AV.tup [])).getD i .top = .top:=by
    simp only[List.getD]
    rw[List.getElem?_eq_none (by simp;omega)]
    rfl
   rw[e1]
   exact vr_top _
inductive AMode where
 | ret
 | pan (v : AV) (met : Bool)
def ModeR (φ : Phi) (O : Nat→Prop) (w : World) : AMode→FrameMode→Prop
 | .ret,.returning=>True
 | .pan x r,.panicking c=>∃ v older,c={ v:=v,recovered:=r } :: older ∧ (∀ p ∈ older,p.goexit=false) ∧ VR φ O w x v
 | _,_=>False
def recOf : List Oper→Option Nat
 | o :: _=>match o.op,o.dst,o.guard with
  | .call { callee:=.builtin .recover,args,.. },some d,none=>if args.isEmpty then some d else none
  | _,_,_=>none
 | []=>none
def compRec (P : Program) (vecs : List Nat) : Code→Option (Nat × List IO' × IC)
 | .seq (.region id ops false) b=>match recOf ops.toList,compOps P (vecs.contains id) ops (ops.toList.drop 1),compC P vecs b with
  | some d,some l,some ib=>some (d,l,ib)
  | _,_,_=>none
 | _=>none
def recK (Kr : AHeap→Prop) (Kq : AV→AHeap→Prop) : Post
 | .normal,_,H=>Kr H
 | .ret,_,H=>Kr H
 | .pan v,_,H=>Kq v H
 | _,_,_=>False
theorem recOf_head {l : List Oper} {d : Nat} (h : recOf l=some d) : ∃ (o : Oper) (r : List Oper) (ats : Array TypeId),l=o :: r ∧ o.op = .call { callee:=.builtin .recover,args:=#[],argTypes:=ats } ∧ o.dst=some d ∧ o.guard=none:=by
 cases l with
 | nil=>simp[recOf] at h
 | cons o r =>
  simp only[recOf] at h
  split at h
  ·rename_i args ats d' e1 e2 e3
   split at h
   ·rename_i he
    cases h
    have : args=#[]:=by
     cases args with
     | mk l=>cases l <;> first | rfl | (simp at he)
    subst this
    exact ⟨o,r,ats,rfl,e1,e2,e3⟩
   ·simp at h
  ·simp at h
theorem upon_next {o : Oper} {a : Act} {next next' : Act→World→Prop} {Q : Exit→Act→World→Prop} (hn : ∀ a w,next a w→next' a w) {r : Result Next} (h : o.upon P a next Q r) : o.upon P a next' Q r:=by
 unfold Oper.upon at h ⊢
 split at h
 ·exact hn _ _ h
 ·exact hn _ _ h
 ·exact hn _ _ h
 ·refine h.mono fun e w' he=>?_
  cases e <;> first | exact hn _ _ he | exact he
 ·exact h.mono fun v w' he=>hn _ _ he
 ·exact h
 ·exact h.elim
theorem wpOpsS_of {ops : Array Oper} {Q : Exit→Act→List Frame→World→Prop} {cs : List Frame} (hq : ¬ LetsOut (fun e a w=>Q e a cs w)) : ∀ {l : List Nat} {a : Act} {w : World},wpOps P ops (fun e a w=>Q e a cs w) l a w→wpOpsS P ops Q l a cs w:=by
 intro l
 induction l with
 | nil=>intro a w h;exact h
 | cons i r ih =>
  intro a w h
  simp only[wpOps] at h
  simp only[wpOpsS]
  split at h
  ·rename_i e;simp only[e];exact ih h
  ·rename_i o e
   simp only[e]
   split at h
   ·rename_i hw
    rw[if_pos hw]
    rcases h with h | h
    ·unfold Oper.wp at h
     split
     ·rename_i w' hr
      rw[hr] at h
      exact h.elim
     ·exact upon_next (fun a w h=>ih h) h
    ·exact (hq h.2).elim
   ·rename_i hw
    rw[if_neg hw]
    exact ih h
theorem rec_sound {vecs : List Nat} {g : FuncId} {fn : Func} {c : Code} {d : Nat} {l : List IO'} {ib : IC} (hf : P.funcs[g]? = some fn) (hb : fn.body=some c) (hc : compRec P vecs c=some (d,l,ib)) (hres : fn.results=#[]) {caps : List AV} {φ : Phi} {H : AHeap} {w : World} {ws : Array Value} (hR : Rel φ H w) (ha : Rt φ (Own φ H) w caps ws.toList)
  {M M' : AMode} {u : FrameMode} {x : AV} (hu : ModeR φ (Own φ H) w M u) (hm : (M = .ret ∧ M' = .ret ∧ x = .sc .nilIface) ∨ (M = .pan x false ∧ M' = .pan x true)) {Kr : AHeap→Prop} {Kq : AV→AHeap→Prop}
  (h : runOps P (fun ts H=>E P ib (recK Kr Kq) ts H) (fun v _ H=>Kq v H) l ((caps ++ List.replicate (fn.ntmps - caps.length) (AV.tup [])).set d x) H) :
  CallsD P g ws u w fun e u' w'=>∃ H' φ',(((∃ v,e = .returned v) ∧ Kr H') ∨ ∃ y c,e = .panicked c ∧ ChR φ' (Own φ' H') w' y c ∧ Kq y H') ∧ ModeR φ' (Own φ' H') w' M' u' ∧ Rel φ' H' w' ∧ Step φ H w φ' H' w':=by
 refine callsD_of_wpS hf hb fun c₀ cs hcm=>?_
 unfold compRec at hc
 split at hc
 case h_2=>simp at hc
 rename_i id ops b
 split at hc
 case h_2=>simp at hc
 rename_i d' l' ib' h1 h2 h3
 cases hc
 obtain ⟨o,r,ats,hops,hop,hdst,hgd⟩:=recOf_head h1
 have hsz : ops.size=r.length+1:=by rw[← Array.length_toList,hops];simp
 refine wpS_seq (wpS_region ?_)
 have hrange : List.range ops.size=0 :: List.range' 1 r.length:=by rw[hsz,List.range_eq_range'];rfl
 rw[hrange]
 have hoi : ops[0]? = some o:=by rw[← Array.getElem?_toList,hops];rfl
 have hw : ∀ a : Act,Region.wanted o (yielded ops a.tmps)=true:=fun a=>by unfold Region.wanted;rw[hgd]
 have hF0 : FR φ (Own φ H) w (caps ++ List.replicate (fn.ntmps - caps.length) (AV.tup [])) { tmps:=ws ++ Array.replicate (fn.ntmps - ws.size) undef,defers:=[] }:=FR_enter ha
 have hrun : ∀ a : Act,(execOp a.eval o).run P w = .ok .recover w:=fun a=>by
  simp only[execOp,hop]
  rfl
 simp only[wpOpsS,hoi,hw,if_true,hrun]
 have key : ∃ v u',VR φ (Own φ H) w x v ∧ ModeR φ (Own φ H) w M' u' ∧ (match recoverD (c₀ :: cs) with | some (v',cs')=>v'=v ∧ cs'={ c₀ with mode:=u' } :: cs | none=>v = .nilIface ∧ u'=u):=by
  rcases hm with ⟨rfl,rfl,rfl⟩ | ⟨rfl,rfl⟩
  ·refine ⟨.nilIface,u,⟨rfl,rfl⟩,hu,?_⟩
   cases u <;> first | exact hu.elim | skip
   simp[recoverD,hcm]
  ·cases u <;> first | exact hu.elim | skip
   obtain ⟨v,older,rfl,hol,hv⟩:=hu
   refine ⟨v,.panicking ({ v:=v,recovered:=true } :: older),hv,⟨v,older,rfl,hol,hv⟩,?_⟩
   simp[recoverD,hcm]
 obtain ⟨v,u',hv,hM',hrec⟩:=key
 have hc₀ : ({ c₀ with mode:=u } : Frame)=c₀:=by subst hcm;rfl
 have hrest : ∀ cs',cs'={ c₀ with mode:=u' } :: cs→wpOpsS P ops (Exit.thenS (b.wpS P (bodyPostS P fn c₀ cs fun e u' w'=>∃ H' φ',(((∃ v,e = .returned v) ∧ Kr H') ∨ ∃ y c,e = .panicked c ∧ ChR φ' (Own φ' H') w' y c ∧ Kq y H') ∧ ModeR φ' (Own φ' H') w' M' u' ∧ Rel φ' H' w' ∧ Step φ H w φ' H' w')) (bodyPostS P fn c₀ cs fun e u' w'=>∃ H' φ',(((∃ v,e = .returned v) ∧ Kr H') ∨ ∃ y c,e = .panicked c ∧ ChR φ' (Own φ' H') w' y c ∧ Kq y H') ∧ ModeR φ' (Own φ' H') w' M' u' ∧ Rel φ' H' w' ∧ Step φ H w φ' H' w'))
   (List.range' 1 r.length) (Act.put { tmps:=ws ++ Array.replicate (fn.ntmps - ws.size) undef,defers:=[] } o.dst v) cs' w:=by
  rintro cs' rfl
  refine wpOpsS_of ?_ ?_
  ·rintro ⟨a,w',u2,H',φ',(⟨⟨v,hv⟩,_⟩ | ⟨y,c,hv,_⟩),_⟩
   ·simp at hv
   ·simp at hv
  ·have hF1 : FR φ (Own φ H) w ((caps ++ List.replicate (fn.ntmps - caps.length) (AV.tup [])).set d x) (Act.put { tmps:=ws ++ Array.replicate (fn.ntmps - ws.size) undef,defers:=[] } o.dst v):=by
    have:=hF0.put o.dst hv
    rwa [hdst] at this ⊢
   have hl : ops.toList.drop 1=r:=by rw[hops];rfl
   have hpart:=runOps_part (P:=P) (ops:=ops) (tail:=[]) (K:=fun ts H=>E P ib (recK Kr Kq) ts H) (Kp:=fun v _ H=>Kq v H) r.length 1 l _ H φ w _ (by omega) (by rw[hl,List.take_length];rw[hl] at h2;exact h2) hR hF1 h
    (Q:=fun e a w2=>Exit.thenS (b.wpS P (bodyPostS P fn c₀ cs fun e u' w'=>∃ H' φ',(((∃ v,e = .returned v) ∧ Kr H') ∨ ∃ y c,e = .panicked c ∧ ChR φ' (Own φ' H') w' y c ∧ Kq y H') ∧ ModeR φ' (Own φ' H') w' M' u' ∧ Rel φ' H' w' ∧ Step φ H w φ' H' w')) (bodyPostS P fn c₀ cs fun e u' w'=>∃ H' φ',(((∃ v,e = .returned v) ∧ Kr H') ∨ ∃ y c,e = .panicked c ∧ ChR φ' (Own φ' H') w' y c ∧ Kq y H') ∧ ModeR φ' (Own φ' H') w' M' u' ∧ Rel φ' H' w' ∧ Step φ H w φ' H' w') e a ({ c₀ with mode:=u' } :: cs) w2)
   rw[List.append_nil] at hpart
   have hmode : ∀ {φ2 : Phi} {H2 : AHeap} {w2 : World},Step φ H w φ2 H2 w2→ModeR φ2 (Own φ2 H2) w2 M' u':=by
    intro φ2 H2 w2 hst
    cases M' <;> cases u' <;> first | exact hM'.elim | exact trivial | skip
    obtain ⟨v,older,e1,e3,e2⟩:=hM'
    exact ⟨v,older,e1,e3,hst.vr e2⟩
   refine hpart (fun ts' a' φ' H' w' k1 k2 k3 k4 k5=>?_) (fun v c ts' a' φ' H' w' k1 k2 k3 k4 k5 k6=>⟨by rw[k6];exact put_defers _ _ _,u',rfl,H',φ',.inr ⟨v,c,rfl,k2,k1⟩,hmode k5,k4,k5⟩)
   show b.wpS P _ a' _ w'
   refine wpS_of_wp (wp_mono (E_sound b ib h3 _ φ' H' w' ts' a' k3 k2 k1) ?_)
   rintro e a2 w2 ⟨x2,ts2,H2,φ2,m1,m2,m3,m4,m5,m6⟩
   have hd : a2.defers=[]:=by
    rw[m6,k5]
    exact put_defers _ _ _
   have hst:=k4.trans m5
   have hr : (results fn a2.tmps).run P w2 = .ok (.tuple #[]) w2:=by
    unfold results
    rw[hres]
    simp
   cases x2 with
   | normal =>
    cases e <;> try exact m1.elim
    exact ⟨hd,u',rfl,_,hr,H2,φ2,.inl ⟨⟨_,rfl⟩,m2⟩,hmode hst,m4,hst⟩
   | ret =>
    cases e <;> try exact m1.elim
    exact ⟨hd,u',rfl,_,hr,H2,φ2,.inl ⟨⟨_,rfl⟩,m2⟩,hmode hst,m4,hst⟩
   | exit i=>exact m2.elim
   | pan v =>
    cases e <;> try exact m1.elim
    exact ⟨hd,u',rfl,H2,φ2,.inr ⟨v,_,rfl,m1,m2⟩,hmode hst,m4,hst⟩
 cases hrd : recoverD (c₀ :: cs) with
 | none =>
  rw[hrd] at hrec
  obtain ⟨rfl,rfl⟩:=hrec
  rw[if_pos (hw { tmps:=ws ++ Array.replicate (fn.ntmps - ws.size) undef,defers:=[] })]
  exact hrest _ (by rw[hc₀])
 | some p =>
  obtain ⟨v',cs'⟩:=p
  rw[hrd] at hrec
  obtain ⟨rfl,rfl⟩:=hrec
  rw[if_pos (hw { tmps:=ws ++ Array.replicate (fn.ntmps - ws.size) undef,defers:=[] })]
  exact hrest _ rfl
theorem runS_mono2 {K K' : List AV→AHeap→Prop} {Kp : AV→List AV→AHeap→Prop} (h : ∀ ts H,K ts H→K' ts H) {l : List IO'} {ts : List AV} {H : AHeap} (hr : runS P K Kp l ts H) : runS P K' Kp l ts H:=runOps_mono h (fun _ _ _ h=>h) hr
def recS (P : Program) (d : Nat) (l : List IO') (ib : IC) (n : Nat) (caps : List AV) (x : AV) (Kr : AHeap→Prop) (Kq : AV→AHeap→Prop) (H : AHeap) : Prop :=
 runS P (fun ts H=>ES P ib (recK Kr Kq) ts H) (fun v _ H=>Kq v H) l ((caps ++ List.replicate (n - caps.length) (AV.tup [])).set d x) H
def bodyD (P : Program) (d : Nat) (l : List IO') (ib : IC) (n : Nat) (rs : List RV) (Kr : AEnd→AHeap→Prop) (caps : List AV) : Post
 | .normal,ts,H=>recS P d l ib n caps (.sc .nilIface) (fun H'=>resOk rs ts H' ∧ Kr (.ret (oneOf (resV rs ts H'))) H') (fun v H'=>Kr (.pan v) H') H
 | .ret,ts,H=>recS P d l ib n caps (.sc .nilIface) (fun H'=>resOk rs ts H' ∧ Kr (.ret (oneOf (resV rs ts H'))) H') (fun v H'=>Kr (.pan v) H') H
 | .pan v,ts,H=>recS P d l ib n caps v (fun H'=>resOk rs ts H' ∧ Kr (.ret (oneOf (resV rs ts H'))) H') (fun v H'=>Kr (.pan v) H') H
 | .exit _,_,_=>False
def defR (P : Program) (ic : IC) (Kd : List AV→Post) (g : Nat) (ts : List AV) (H : AHeap) (v : AV) : Prop:=match v with
 | .fn (.func f) [] caps=>f=g ∧ ES P ic (Kd caps) ts H
 | _=>False
theorem defR_fn {ic : IC} {Kd : List AV→Post} {g : Nat} {ts : List AV} {H : AHeap} {caps : List AV} : defR P ic Kd g ts H (.fn (.func g) [] caps)=ES P ic (Kd caps) ts H:=by simp[defR]
def preS (P : Program) (g t : Nat) (ic : IC) (Kd : List AV→Post) (K : Post) : Post
 | .normal,ts,H=>defR P ic Kd g ts H (ts.getD t .top)
 | x,ts,H=>K x ts H
section
variable {g t : Nat} {ic : IC} {Kd : List AV→Post} {K : Post} {ts : List AV} {H : AHeap}
theorem preS_n : preS P g t ic Kd K .normal ts H=defR P ic Kd g ts H (ts.getD t .top):=rfl
theorem preS_e {i : Nat} : preS P g t ic Kd K (.exit i) ts H=K (.exit i) ts H:=rfl
theorem preS_r : preS P g t ic Kd K .ret ts H=K .ret ts H:=rfl
theorem preS_p {v : AV} : preS P g t ic Kd K (.pan v) ts H=K (.pan v) ts H:=rfl
end
section
variable {d n : Nat} {l : List IO'} {ib : IC} {rs : List RV} {Kr : AEnd→AHeap→Prop} {caps ts : List AV} {H : AHeap} {x : AV} {Kh : AHeap→Prop} {Kq : AV→AHeap→Prop}
theorem bodyD_n : bodyD P d l ib n rs Kr caps .normal ts H=recS P d l ib n caps (.sc .nilIface) (fun H'=>resOk rs ts H' ∧ Kr (.ret (oneOf (resV rs ts H'))) H') (fun v H'=>Kr (.pan v) H') H:=rfl
theorem bodyD_r : bodyD P d l ib n rs Kr caps .ret ts H=recS P d l ib n caps (.sc .nilIface) (fun H'=>resOk rs ts H' ∧ Kr (.ret (oneOf (resV rs ts H'))) H') (fun v H'=>Kr (.pan v) H') H:=rfl
theorem bodyD_p {v : AV} : bodyD P d l ib n rs Kr caps (.pan v) ts H=recS P d l ib n caps v (fun H'=>resOk rs ts H' ∧ Kr (.ret (oneOf (resV rs ts H'))) H') (fun v H'=>Kr (.pan v) H') H:=rfl
theorem recS_run : recS P d l ib n caps x Kh Kq H=runS P (fun ts H=>ES P ib (recK Kh Kq) ts H) (fun v _ H=>Kq v H) l ((caps ++ List.replicate (n - caps.length) (AV.tup [])).set d x) H:=rfl
theorem recK_n : recK Kh Kq .normal ts H=Kh H:=rfl
theorem recK_r : recK Kh Kq .ret ts H=Kh H:=rfl
theorem recK_p {v : AV} : recK Kh Kq (.pan v) ts H=Kq v H:=rfl
end
theorem invoke_run {g : FuncId} (h : callable P g=true) (ws : Array Value) (w : World) : (invoke (.fn (.func g) ws) #[]).run P w = .ok (.enter g ws) w:=by
 obtain ⟨fn,h1,h2,h3⟩:=callable_spec h
 show (callFunc g (#[] ++ ws)).run P w=_
 rw[Array.empty_append]
 exact callFunc_run h1 h2 h3 ws w
theorem DK_of_defer {f : FuncId} {fn : Func} {c : Code} {pre : IC} {t : Nat} {ic : IC} {rs : List RV} {vecs gvecs : List Nat} (hf : P.funcs[f]? = some fn) (hb : fn.body=some c) (hc : compDef P vecs c=some (pre,t,ic)) (hr : compR P fn.results.toList=some rs)
  {g : FuncId} {gn : Func} {gc : Code} {d : Nat} {l : List IO'} {ib : IC} (hg : P.funcs[g]? = some gn) (hgb : gn.body=some gc) (hgc : compRec P gvecs gc=some (d,l,ib)) (hgr : gn.results=#[]) (hcall : callable P g=true) {args : List AV} {H : AHeap} {Kr : AEnd→AHeap→Prop}
  (h : ES P pre (preS P g t ic (bodyD P d l ib gn.ntmps rs Kr) (bodyS rs Kr)) (args ++ List.replicate (fn.ntmps - args.length) (.tup [])) H) : DK P f args H Kr:=by
 intro φ w vs hR ha
 have hF : FR φ (Own φ H) w (args ++ List.replicate (fn.ntmps - args.length) (.tup [])) { tmps:=vs ++ Array.replicate (fn.ntmps - vs.size) undef,defers:=[] }:=FR_enter ha
 have hE : E P pre (preK P g t ic (bodyD P d l ib gn.ntmps rs Kr) (bodyK rs Kr)) (args ++ List.replicate (fn.ntmps - args.length) (.tup [])) H:=by
  refine ES_E (ES_mono (fun x ts H hx=>?_) h)
  cases x with
  | normal =>
   show defK g _ t ts H
   have hx' : defR P ic _ g ts H (ts.getD t .top):=hx
   unfold defR at hx'
   unfold defK
   split at hx'
   ·rename_i he
    simp only[he]
    exact ⟨hx'.1,ES_E hx'.2⟩
   ·exact hx'.elim
  | exit i=>exact bodyS_bodyK (rs:=rs) (Kr:=Kr) (.exit i) ts H hx
  | ret=>exact bodyS_bodyK (rs:=rs) (Kr:=Kr) .ret ts H hx
  | pan v=>exact bodyS_bodyK (rs:=rs) (Kr:=Kr) (.pan v) ts H hx
 refine calls_of_wp_defers hf hb (wp_mono (def_sound (K:=bodyK rs Kr) c pre t ic hc φ H w _ _ hR hF rfl hE) ?_)
 rintro e a' w' (⟨caps,x,ts',H',φ',k1,k2,k3,k4,k5,k6⟩ | ⟨hn,x,ts',H',φ',k1,k2,k3,k4,k5,k6⟩)
 ·obtain ⟨ws,hds,hws⟩:=k6
  have main : ∀ {M M' : AMode} {u : FrameMode} {x : AV},u ≠ .run→ModeR φ' (Own φ' H') w' M u→((M = .ret ∧ M' = .ret ∧ x = .sc .nilIface) ∨ (M = .pan x false ∧ M' = .pan x true))→recS P d l ib gn.ntmps caps x (fun H'=>resOk rs ts' H' ∧ Kr (.ret (oneOf (resV rs ts' H'))) H') (fun v H'=>Kr (.pan v) H') H' →
    Leaves P fn a'.tmps (fun en w'=>∃ e H' φ',EndR φ' (Own φ' H') w' e en ∧ Kr e H' ∧ Rel φ' H' w' ∧ Step φ H w φ' H' w') a'.defers u w':=by
   intro M M' u x hu hm hM hrec
   rw[hds]
   refine leaves_cons hu (invoke_run hcall ws w') ?_
   refine (rec_sound hg hgb hgc hgr k4 hws hm hM (Kr:=fun H'=>resOk rs ts' H' ∧ Kr (.ret (oneOf (resV rs ts' H'))) H') (Kq:=fun v H'=>Kr (.pan v) H') (runS_runOps (runS_mono2 (fun ts H h=>ES_E h) hrec))).mono fun e u' w2 ⟨H2,φ2,hend,hmode,hR2,hS2⟩=>?_
   rcases hend with ⟨⟨v,hv⟩,hk⟩ | ⟨y,c,hv,hch,hk⟩
   ·subst hv
    show Leaves P fn a'.tmps _ [] (settle u') w2
    have hset : settle u' = .returning:=by
     rcases hM with ⟨_,rfl,_⟩ | ⟨_,rfl⟩
     ·cases u' <;> first | exact hmode.elim | rfl
     ·cases u' <;> first | exact hmode.elim | skip
      obtain ⟨v',older,rfl,hol,_⟩:=hmode
      have hdw : ∀ l : List PanicEntry,(∀ p ∈ l,p.goexit=false)→l.dropWhile (fun p=>!p.goexit)=[]:=by
       intro l hl
       induction l with
       | nil=>rfl
       | cons p r ih =>
        rw[List.dropWhile_cons,hl p (by simp)]
        simpa using ih fun q hq=>hl q (by simp[hq])
      simp only[settle,hdw older hol]
    rw[hset]
    have hF2 : FR φ2 (Own φ2 H2) w2 ts' a':=FR.step hS2 k3
    obtain ⟨y,v2,g1,g2,g3⟩:=results_run hR2 hF2 hr (K:=fun y=>Kr (.ret y) H2) (resL_of hk.1 hk.2)
    exact ⟨v2,g3,.ret y,H2,φ2,g2,g1,hR2,k5.trans hS2⟩
   ·subst hv
    show Leaves P fn a'.tmps _ [] (raised u' c) w2
    obtain ⟨v',older',hc',hol',hv'⟩:=hch
    rcases hM with ⟨_,rfl,_⟩ | ⟨_,rfl⟩
    ·cases u' <;> first | exact hmode.elim | skip
     exact ⟨.pan y,H2,φ2,⟨v',older',hc',hol',hv'⟩,hk,hR2,k5.trans hS2⟩
    ·cases u' <;> first | exact hmode.elim | skip
     obtain ⟨v1,older,rfl,hol,_⟩:=hmode
     subst hc'
     refine ⟨.pan y,H2,φ2,⟨v',older' ++ ({ v:=v1,recovered:=true } :: older),by simp[raised],fun p hp=>?_,hv'⟩,hk,hR2,k5.trans hS2⟩
     rcases List.mem_append.1 hp with hp | hp
     ·exact hol' p hp
     ·rcases List.mem_cons.1 hp with rfl | hp
      ·rfl
      ·exact hol p hp
  cases x with
  | normal =>
   cases e <;> try exact k1.elim
   exact main (M:=.ret) (M':=.ret) (by simp) trivial (.inl ⟨rfl,rfl,rfl⟩) k2
  | ret =>
   cases e <;> try exact k1.elim
   exact main (M:=.ret) (M':=.ret) (by simp) trivial (.inl ⟨rfl,rfl,rfl⟩) k2
  | exit i=>exact k2.elim
  | pan v =>
   cases e <;> try exact k1.elim
   obtain ⟨u,older,rfl,hol,hu⟩:=k1
   exact main (M:=.pan v false) (M':=.pan v true) (by simp) ⟨u,older,rfl,hol,hu⟩ (.inr ⟨rfl,rfl⟩) k2
 ·cases x with
  | normal =>
   cases e <;> try exact k1.elim
   exact (hn rfl).elim
  | ret =>
   cases e <;> try exact k1.elim
   obtain ⟨y,v,g1,g2,g3⟩:=results_run k4 k3 hr (K:=fun x=>Kr (.ret x) H') k2
   show Leaves P fn a'.tmps _ a'.defers _ w'
   rw[k6]
   exact ⟨v,g3,.ret y,H',φ',g2,g1,k4,k5⟩
  | exit i=>exact k2.elim
  | pan v =>
   cases e <;> try exact k1.elim
   show Leaves P fn a'.tmps _ a'.defers _ w'
   rw[k6]
   exact ⟨.pan v,H',φ',k1,k2,k4,k5⟩
end
end Go.Proofs.YtdjnccnecgblmaaGreatDoor
namespace Go.Proofs.YtdjnccnecgblmaaGreatDoor
open Go.RowKit
set_option linter.unusedVariables false
set_option linter.unusedSimpArgs false
def newId (n0 : Nat) (src : List Nat) (id : Nat) : Option Nat:=if id < n0 then some id else (src.idxOf? id).map (n0+·)
mutual
inductive Gz (H1 : AHeap) (n0 : Nat) (src : List Nat) : AV→AV→Prop where
 | same {x : AV} : x.ids (fun id=>newId n0 src id=some id)→Gz H1 n0 src x x
 | vecR {k id id' off n : Nat} {c c' : Option Nat} : newId n0 src id=some id'→(c'=c ∨ c'=none)→Gz H1 n0 src (.vec k id off n c) (.vec k id' off n c')
 | ptrR {k id id' j f : Nat} : newId n0 src id=some id'→Gz H1 n0 src (.ptr k id j f) (.ptr k id' j f)
 | vec {k id off n : Nat} {c : Option Nat} {blk : ABlk} {ys : List AV} : newId n0 src id=none→AHeap.find H1 id=some blk→blk.k=k→off+n ≤ blk.es.length→GzL H1 n0 src ((blk.es.drop off).take n) ys→Gz H1 n0 src (.vec k id off n c) (.lst k ys none)
 | lst {k : Nat} {xs ys : List AV} {room : Option (List AV)} : GzL H1 n0 src xs ys→Gz H1 n0 src (.lst k xs room) (.lst k ys none)
 | lst0 {k : Nat} {xs ys : List AV} : GzL H1 n0 src xs ys→Gz H1 n0 src (.lst k xs (some [])) (.lst k ys (some []))
 | nil {k : Nat} {room : Option (List AV)} {k' : Nat} : Gz H1 n0 src (.lst k' [] room) (.lst k [] none)
 | nil0 {k k' : Nat} : Gz H1 n0 src (.lst k' [] (some [])) (.lst k [] (some []))
 | agg {xs ys : List AV} : GzL H1 n0 src xs ys→Gz H1 n0 src (.agg xs) (.agg ys)
 | tup {xs ys : List AV} : GzL H1 n0 src xs ys→Gz H1 n0 src (.tup xs) (.tup ys)
 | ifc {t : TypeId} {x y : AV} : Gz H1 n0 src x y→Gz H1 n0 src (.ifc t x) (.ifc t y)
 | fn {f : Fn} {a b a' b' : List AV} : GzL H1 n0 src a a'→GzL H1 n0 src b b'→Gz H1 n0 src (.fn f a b) (.fn f a' b')
inductive GzL (H1 : AHeap) (n0 : Nat) (src : List Nat) : List AV→List AV→Prop where
 | nil : GzL H1 n0 src [] []
 | cons {x y : AV} {r s : List AV} : Gz H1 n0 src x y→GzL H1 n0 src r s→GzL H1 n0 src (x :: r) (y :: s)
end
section
variable {H1 : AHeap} {n0 : Nat} {src : List Nat}
theorem GzL.len : ∀ {xs ys : List AV},GzL H1 n0 src xs ys→ys.length=xs.length
 | _,_,.nil=>rfl
 | _,_,.cons _ h=>by simp[h.len]
theorem Gz.isAgg {x y : AV} (h : Gz H1 n0 src x y) : y.isAgg=x.isAgg ∧ y.ncells=x.ncells:=by
 cases h with
 | agg h=>exact ⟨rfl,h.len⟩
 | _=>exact ⟨rfl,rfl⟩
theorem Gz.okA {x y : AV} (h : Gz H1 n0 src x y) {u : Value} (hk : okA x u) : okA y u:=by
 cases h with
 | agg h=>obtain ⟨us,h1,h2⟩:=hk;exact ⟨us,h1,by rw[h2,h.len]⟩
 | _=>exact hk
theorem newId_old {id : Nat} (h : id < n0) : newId n0 src id=some id:=by unfold newId;rw[if_pos h]
end
def phiN (φ1 : Phi) (n0 : Nat) (src : List Nat) : Phi:=fun i=>if i < n0 then φ1 i else (src[i - n0]?).bind φ1
structure GzC (φ1 : Phi) (H1 : AHeap) (n0 : Nat) (src : List Nat) (H2 : AHeap) : Prop where
 nodup : src.Nodup
 above : ∀ s ∈ src,n0 ≤ s
 len : H2.length=n0+src.length
 live : ∀ id k,AHeap.find H2 id=some k→(id < n0 ∧ ∃ k1,AHeap.find H1 id=some k1) ∨ ∃ s,src[id - n0]? = some s ∧ n0 ≤ id ∧ ∃ k1,AHeap.find H1 s=some k1
section
variable {φ1 : Phi} {H1 : AHeap} {n0 : Nat} {src : List Nat} {H2 : AHeap}
theorem idxOf?_get {s : Nat} {i : Nat} {l : List Nat} (h : l.idxOf? s=some i) : l[i]? = some s:=by
 induction l generalizing i with
 | nil=>simp at h
 | cons x r ih =>
  rw[List.idxOf?_cons] at h
  split at h
  ·rename_i e
   cases h
   simp at e
   simp[e]
  ·rw[Option.map_eq_some_iff] at h
   obtain ⟨j,h1,rfl⟩:=h
   simpa using ih h1
theorem get_idxOf? {s : Nat} {i : Nat} {l : List Nat} (hn : l.Nodup) (h : l[i]? = some s) : l.idxOf? s=some i:=by
 induction l generalizing i with
 | nil=>simp at h
 | cons x r ih =>
  rw[List.idxOf?_cons]
  cases i with
  | zero=>simp at h;simp[h]
  | succ i =>
   simp at h
   have hx : ¬ (x == s)=true:=by
    intro e
    have e' : x=s:=by simpa using e
    have:=(List.nodup_cons.1 hn).1
    exact this (e' ▸ List.mem_of_getElem? h)
   rw[if_neg hx,ih (List.nodup_cons.1 hn).2 h]
   rfl
theorem phiN_new {id id' : Nat} (h : newId n0 src id=some id') : phiN φ1 n0 src id'=φ1 id:=by
 unfold newId at h
 unfold phiN
 split at h
 ·cases h;rw[if_pos (by assumption)]
 ·rw[Option.map_eq_some_iff] at h
  obtain ⟨i,h1,rfl⟩:=h
  rw[if_neg (by omega),show n0+i - n0=i from by omega,idxOf?_get h1]
  rfl
theorem own_new (hc : GzC φ1 H1 n0 src H2) {b : Nat} (h : Own (phiN φ1 n0 src) H2 b) : ∃ id,φ1 id=some b ∧ (∃ k1,AHeap.find H1 id=some k1) ∧ newId n0 src id ≠ none:=by
 obtain ⟨id,k,h1,h2⟩:=h
 unfold phiN at h1
 rcases hc.live id k h2 with ⟨g1,g2⟩ | ⟨s,g1,g2,g3⟩
 ·rw[if_pos g1] at h1
  exact ⟨id,h1,g2,by rw[newId_old g1];simp⟩
 ·rw[if_neg (by omega),g1] at h1
  refine ⟨s,h1,g3,?_⟩
  unfold newId
  rw[if_neg (by have:=hc.above s (List.mem_of_getElem? g1);omega),get_idxOf? hc.nodup g1]
  simp
theorem own_new' (hc : GzC φ1 H1 n0 src H2) {b : Nat} (h : Own (phiN φ1 n0 src) H2 b) : Own φ1 H1 b:=by
 obtain ⟨id,h1,⟨k1,h2⟩,_⟩:=own_new hc h
 exact ⟨id,k1,h1,h2⟩
theorem later_new (hc : GzC φ1 H1 n0 src H2) {w1 : World} : Later (fun id=>newId n0 src id=some id) φ1 (phiN φ1 n0 src) (Own φ1 H1) (Own (phiN φ1 n0 src) H2) w1 w1 :=
 ⟨fun id b hid hm=>by rw[phiN_new hid];exact hm,Nat.le_refl _,fun b hb ho ho'=>ho (own_new' hc ho'),fun _ _ _=>rfl,fun _ _=>rfl⟩
mutual
theorem Gz.R {w1 : World} (hR : Rel φ1 H1 w1) (hc : GzC φ1 H1 n0 src H2) : ∀ {x y : AV},Gz H1 n0 src x y→∀ {g : Nat→Option Value},R φ1 (Own φ1 H1) w1 x g→R (phiN φ1 n0 src) (Own (phiN φ1 n0 src) H2) w1 y g
 | _,_,.same hi,g,h=>R_later (later_new hc) _ _ _ hi (fun _ _ h=>h) h
 | _,_,.vecR hi hcc,g,h=>by
  obtain ⟨b,c',cur,e,fr,v1,v2,v3,v4,v5,v6,v7⟩:=h
  refine ⟨b,c',cur,e,fr,by rw[phiN_new hi];exact v1,v2,v3,v4,fun m hm=>?_,v6,v7⟩
  rcases hcc with rfl | rfl
  ·exact v5 m hm
  ·simp at hm
 | _,_,.ptrR hi,g,h=>by
  obtain ⟨b,h1,h2⟩:=h
  exact ⟨b,by rw[phiN_new hi];exact h1,h2⟩
 | _,_,.vec (k:=k) (id:=id) (off:=off) (n:=n) (c:=c) (blk:=blk) (ys:=ys) h1 h2 h3 h4 h5,g,h=>by
  obtain ⟨b,c',cur,e,fr,v1,v2,v3,v4,v5,v6,v7⟩:=h
  have hln : ((blk.es.drop off).take n).length=n:=by simp;omega
  have hyl : ys.length=n:=by rw[h5.len,hln]
  refine ⟨_,c',by rw[hyl];exact v2,by omega,v4,fun h=>by simp at h,fun hp=>⟨b,off * k,rfl,?_,heap_lt v6,?_⟩,trivial⟩
  ·intro ho
   obtain ⟨id',g1,⟨k1,g2⟩,g3⟩:=own_new hc ho
   have:=hR.inj id' id b g1 v1 (by rw[g2];rfl) (by rw[h2];rfl)
   rw[this] at g3
   exact g3 h1
  ·obtain ⟨_,cur2,cap,a1,a2,a3,a4,a5,a6⟩:=(hR.blk id b blk v1 h2).atCells v6
   have h7:=Rl_take (n:=n) (Rl_drop (f:=off) a6)
   rw[h3,Nat.zero_add] at h7
   exact GzL.Rl hR hc h5 h7
 | _,_,.lst (k:=k) (xs:=xs) (ys:=ys) hl,g,h=>by
  obtain ⟨a,c,h1,h2,h3,h4,h5,h6⟩:=h
  have hyl:=hl.len
  refine ⟨a,c,by rw[hyl];exact h1,by omega,h3,h4,fun hp=>?_,trivial⟩
  obtain ⟨b,off,e1,e2,e3,e4⟩:=h5 (by omega)
  exact ⟨b,off,e1,fun ho=>e2 (own_new' hc ho),e3,GzL.Rl hR hc hl e4⟩
 | _,_,.lst0 (k:=k) (xs:=xs) (ys:=ys) hl,g,h=>by
  obtain ⟨a,c,h1,h2,h3,h4,h5,h6⟩:=h
  have hyl:=hl.len
  refine ⟨a,c,by rw[hyl];exact h1,by omega,h3,h4,fun hp=>?_,by rw[hyl];exact h6.1,fun hp=>by simp at hp⟩
  obtain ⟨b,off,e1,e2,e3,e4⟩:=h5 (by omega)
  exact ⟨b,off,e1,fun ho=>e2 (own_new' hc ho),e3,GzL.Rl hR hc hl e4⟩
 | _,_,.nil,g,h=>by
  obtain ⟨a,c,h1,h2,h3,h4,h5,h6⟩:=h
  exact ⟨a,c,h1,h2,h3,h4,fun hp=>by simp at hp,trivial⟩
 | _,_,.nil0,g,h=>by
  obtain ⟨a,c,h1,h2,h3,h4,h5,h6⟩:=h
  exact ⟨a,c,h1,h2,h3,h4,fun hp=>by simp at hp,h6.1,fun hp=>by simp at hp⟩
 | _,_,.agg hl,g,h=>GzL.Rs hR hc hl h
 | _,_,.tup hl,g,h=>by
  obtain ⟨us,h1,h2⟩:=h
  exact ⟨us,h1,GzL.Rt hR hc hl h2⟩
 | _,_,.ifc hx,g,h=>by
  obtain ⟨u,h1,h2,h3⟩:=h
  exact ⟨u,h1,hx.okA h2,Gz.R hR hc hx h3⟩
 | _,_,.fn ha hb,g,h=>by
  obtain ⟨us,ws,h1,h2,h3⟩:=h
  exact ⟨us,ws,h1,GzL.Rt hR hc ha h2,GzL.Rt hR hc hb h3⟩
theorem GzL.Rl {w1 : World} (hR : Rel φ1 H1 w1) (hc : GzC φ1 H1 n0 src H2) : ∀ {xs ys : List AV},GzL H1 n0 src xs ys→∀ {b k off : Nat},Rl φ1 (Own φ1 H1) w1 b k xs off→Rl (phiN φ1 n0 src) (Own (phiN φ1 n0 src) H2) w1 b k ys off
 | _,_,.nil,b,k,off,_=>trivial
 | _,_,.cons hx hr,b,k,off,h=>⟨by rw[hx.isAgg.2];exact h.1,by rw[hx.isAgg.1];exact h.2.1,Gz.R hR hc hx h.2.2.1,GzL.Rl hR hc hr h.2.2.2⟩
theorem GzL.Rs {w1 : World} (hR : Rel φ1 H1 w1) (hc : GzC φ1 H1 n0 src H2) : ∀ {xs ys : List AV},GzL H1 n0 src xs ys→∀ {g : Nat→Option Value},Rs φ1 (Own φ1 H1) w1 xs g→Rs (phiN φ1 n0 src) (Own (phiN φ1 n0 src) H2) w1 ys g
 | _,_,.nil,g,_=>trivial
 | _,_,.cons hx hr,g,h=>⟨by rw[hx.isAgg.1];exact h.1,Gz.R hR hc hx h.2.1,h.2.2.1,GzL.Rs hR hc hr h.2.2.2⟩
theorem GzL.Rt {w1 : World} (hR : Rel φ1 H1 w1) (hc : GzC φ1 H1 n0 src H2) : ∀ {xs ys : List AV},GzL H1 n0 src xs ys→∀ {us : List Value},Rt φ1 (Own φ1 H1) w1 xs us→Rt (phiN φ1 n0 src) (Own (phiN φ1 n0 src) H2) w1 ys us
 | _,_,.nil,us,h=>h
 | _,_,.cons hx hr,us,h=>by
  obtain ⟨v,s,h1,h2,h3,h4⟩:=h
  exact ⟨v,s,h1,hx.okA h2,Gz.R hR hc hx h3,GzL.Rt hR hc hr h4⟩
end
end
theorem GzL.RE {φ1 : Phi} {H1 H2 : AHeap} {n0 : Nat} {src : List Nat} {w1 : World} (hR : Rel φ1 H1 w1) (hc : GzC φ1 H1 n0 src H2) : ∀ {xs ys : List AV},GzL H1 n0 src xs ys→∀ {es : List MapEntry},RE φ1 (Own φ1 H1) w1 xs es→RE (phiN φ1 n0 src) (Own (phiN φ1 n0 src) H2) w1 ys es
 | _,_,.nil,_,h=>h
 | _,_,.cons hx hr,_,h=>by
  obtain ⟨e,s,h1,h2,h3⟩:=h
  exact ⟨e,s,h1,⟨hx.okA h2.1,Gz.R hR hc hx h2.2⟩,GzL.RE hR hc hr h3⟩
def BlkZ (H1 : AHeap) (n0 : Nat) (src : List Nat) (k1 k : ABlk) : Prop:=k.k=k1.k ∧ k.ty=k1.ty ∧ (k.exact=true→k1.exact=true) ∧ GzL H1 n0 src k1.es k.es
def EndZ (H1 : AHeap) (n0 : Nat) (src : List Nat) : AEnd→AEnd→Prop
 | .ret x,.ret y=>Gz H1 n0 src x y
 | .pan x,.pan y=>Gz H1 n0 src x y
 | _,_=>False
theorem weak_gen {H H1 H2 : AHeap} (src : List Nat) {e1 e : AEnd} (hl : H2.length=H.length+src.length) (hn : src.Nodup) (ha : ∀ s ∈ src,H.length ≤ s)
  (hold : ∀ id k,id < H.length→AHeap.find H2 id=some k→(AHeap.find H id=some k ∧ AHeap.find H1 id=some k) ∨ ∃ k1,AHeap.find H1 id=some k1 ∧ BlkZ H1 H.length src k1 k)
  (hnew : ∀ i s k,src[i]? = some s→AHeap.find H2 (H.length+i)=some k→∃ k1,AHeap.find H1 s=some k1 ∧ BlkZ H1 H.length src k1 k)
  (hz : EndZ H1 H.length src e1 e) : Weak H e1 H1 e H2:=by
 intro φ w φ1 w1 en hR0 he hR hS
 have hc : GzC φ1 H1 H.length src H2:=by
  refine ⟨hn,ha,hl,fun id k hk=>?_⟩
  by_cases hid : id < H.length
  ·left
   rcases hold id k hid hk with ⟨_,h2⟩ | ⟨k1,h2,_⟩
   ·exact ⟨hid,k,h2⟩
   ·exact ⟨hid,k1,h2⟩
  ·right
   have hlt:=AHeap.find_lt hk
   have hi : id - H.length < src.length:=by omega
   have hs : src[id - H.length]? = some src[id - H.length]:=by simp[hi]
   obtain ⟨k1,h1,_⟩:=hnew _ _ k hs (by rw[show H.length+(id - H.length)=id from by omega];exact hk)
   exact ⟨_,hs,by omega,k1,h1⟩
 have hphi : ∀ id b,phiN φ1 H.length src id=some b→(id < H.length ∧ φ1 id=some b) ∨ ∃ s,src[id - H.length]? = some s ∧ H.length ≤ id ∧ φ1 s=some b:=by
  intro id b h
  unfold phiN at h
  split at h
  ·exact .inl ⟨by assumption,h⟩
  ·rw[Option.bind_eq_some_iff] at h
   obtain ⟨s,h1,h2⟩:=h
   exact .inr ⟨s,h1,by omega,h2⟩
 have hsrcid : ∀ id k b,AHeap.find H2 id=some k→phiN φ1 H.length src id=some b→∃ s,φ1 s=some b ∧ (AHeap.find H1 s).isSome ∧ newId H.length src s=some id:=by
  intro id k b h1 h2
  rcases hphi id b h2 with ⟨g1,g2⟩ | ⟨s,g1,g2,g3⟩
  ·refine ⟨id,g2,?_,newId_old g1⟩
   rcases hc.live id k h1 with ⟨_,k1,g⟩ | ⟨s,_,g,_⟩
   ·rw[g];rfl
   ·omega
  ·refine ⟨s,g3,?_,?_⟩
   ·rcases hc.live id k h1 with ⟨g,_⟩ | ⟨s',g4,_,k1,g5⟩
    ·omega
    ·rw[g1] at g4;cases g4;rw[g5];rfl
   ·unfold newId
    rw[if_neg (by have:=ha s (List.mem_of_getElem? g1);omega),get_idxOf? hn g1]
    simp only[Option.map_some]
    congr 1
    omega
 refine ⟨phiN φ1 H.length src,?_,⟨hR.glob.less fun b ho=>own_new' hc ho,fun id b h=>?_,fun i j b hi hj hfi hfj=>?_,fun id b k h1 h2=>?_⟩,⟨⟨fun id b _ h=>?_,hS.size,fun b hb ho ho'=>hS.own b hb ho (own_new' hc ho'),hS.same,hS.shape⟩,hS.os,hS.tape,hS.output,by omega,fun id hid=>?_⟩⟩
 ·cases e1 with
  | ret x =>
   cases e with
   | pan y=>exact hz.elim
   | ret y =>
    cases en with
    | returned v=>exact ⟨Gz.okA hz he.1,Gz.R hR hc hz he.2⟩
    | _=>exact he.elim
  | pan x =>
   cases e with
   | ret y=>exact hz.elim
   | pan y =>
    cases en with
    | panicked c=>obtain ⟨v,older,rfl,ho,hv⟩:=he;exact ⟨v,older,rfl,ho,Gz.okA hz hv.1,Gz.R hR hc hz hv.2⟩
    | _=>exact he.elim
 ·rcases hphi id b h with ⟨g1,g2⟩ | ⟨s,g1,g2,g3⟩
  ·exact ⟨by omega,(hR.dom id b g2).2⟩
  ·have:=(List.getElem?_eq_some_iff.1 g1).1
   exact ⟨by omega,(hR.dom s b g3).2⟩
 ·obtain ⟨k1,e1⟩:=Option.isSome_iff_exists.1 hfi
  obtain ⟨k2,e2⟩:=Option.isSome_iff_exists.1 hfj
  obtain ⟨s1,a1,a2,a3⟩:=hsrcid i k1 b e1 hi
  obtain ⟨s2,b1,b2,b3⟩:=hsrcid j k2 b e2 hj
  have:=hR.inj s1 s2 b a1 b1 a2 b2
  rw[this,b3] at a3
  exact (Option.some.inj a3).symm
 ·have hblk : ∀ {s : Nat} {k1 : ABlk},φ1 s=some b→AHeap.find H1 s=some k1→BlkZ H1 H.length src k1 k→BlkR (phiN φ1 H.length src) (Own (phiN φ1 H.length src) H2) w1 k b:=by
   intro s k1 g1 g2 ⟨z1,z2,z3,z4⟩
   rcases hR.blk s b k1 g1 g2 with ⟨h0,c1,c2,a1,a2,a3,a4,a5,a6⟩ | ⟨h0,ht,ents,clock,a1,a2,a3,a4⟩ | ⟨h0,ht,r,ts,tm,e,a1,a2⟩ | ⟨h0,ht,ents,clock,x,r,e,a1,a2,a3,a4,a5⟩ | ⟨h0,ht,bm,clock,seen,a1,a2⟩
   ·refine .inl ⟨by rw[z1];exact h0,c1,c2,by rw[z2];exact a1,by rw[z1];exact a2,by rw[z4.len];exact a3,fun h=>by rw[z4.len];exact a4 (z3 h),a5,?_⟩
    rw[z1]
    exact GzL.Rl hR hc z4 a6
   ·exact .inr (.inl ⟨by rw[z1];exact h0,by rw[z2];exact ht,ents,clock,a1,a2,a3,GzL.RE hR hc z4 a4⟩)
   ·rw[e] at z4
    generalize hes : k.es=es at z4
    cases z4 with
    | cons zx zr =>
     cases zx with
     | same hi=>exact .inr (.inr (.inl ⟨by rw[z1];exact h0,by rw[z2];exact ht,r,_,tm,hes,a1,GzL.Rt hR hc zr a2⟩))
   ·rw[e] at z4
    generalize hes : k.es=es at z4
    cases z4 with
    | cons zx zr=>exact .inr (.inr (.inr (.inl ⟨by rw[z1];exact h0,by rw[z2];exact ht,ents,clock,_,_,hes,a1,a2,a3,⟨Gz.okA zx a4.1,Gz.R hR hc zx a4.2⟩,GzL.RE hR hc zr a5⟩)))
   ·exact .inr (.inr (.inr (.inr ⟨by rw[z1];exact h0,by rw[z2];exact ht,bm,clock,seen,a1,GzL.Rt hR hc z4 a2⟩)))
  rcases hphi id b h1 with ⟨g1,g2⟩ | ⟨s,g1,g2,g3⟩
  ·rcases hold id k g1 h2 with ⟨h3,h4⟩ | ⟨k1,h3,h4⟩
   ·have h5 : φ id=some b:=by rw[← hS.old id g1];exact g2
    have hids:=AV.idsL_mono (q:=fun i=>newId H.length src i=some i) (fun i ⟨b',hb'⟩=>newId_old (hR0.dom i b' hb').1) _ (hR0.blk id b k h5 h3).ids
    exact (hR.blk id b k g2 h4).later (later_new hc) rfl hids
   ·exact hblk g2 h3 h4
  ·obtain ⟨k1,h3,h4⟩:=hnew (id - H.length) s k g1 (by rw[show H.length+(id - H.length)=id from by omega];exact h2)
   exact hblk g3 h3 h4
 ·have h4:=(hR0.dom id b h).1
  unfold phiN
  rw[if_pos h4,hS.old id h4]
  exact h
 ·unfold phiN
  rw[if_pos hid]
  exact hS.old id hid
mutual
inductive Le : AV→AV→Prop where
 | refl {x : AV} : Le x x
 | lst {k : Nat} {xs ys : List AV} {room : Option (List AV)} : LeL xs ys→Le (.lst k xs room) (.lst k ys none)
 | nil {k k' : Nat} {room : Option (List AV)} : Le (.lst k [] room) (.lst k' [] none)
 | agg {xs ys : List AV} : LeL xs ys→Le (.agg xs) (.agg ys)
 | vec {k id off n : Nat} {c : Option Nat} : Le (.vec k id off n c) (.vec k id off n none)
inductive LeL : List AV→List AV→Prop where
 | nil : LeL [] []
 | cons {x y : AV} {r s : List AV} : Le x y→LeL r s→LeL (x :: r) (y :: s)
end
theorem LeL.refl : ∀ {l : List AV},LeL l l
 | []=>.nil
 | _ :: _=>.cons .refl LeL.refl
theorem LeL.len : ∀ {xs ys : List AV},LeL xs ys→ys.length=xs.length
 | _,_,.nil=>rfl
 | _,_,.cons _ h=>by simp[h.len]
theorem Le.isAgg {x y : AV} (h : Le x y) : y.isAgg=x.isAgg ∧ y.ncells=x.ncells:=by
 cases h with
 | agg h=>exact ⟨rfl,h.len⟩
 | _=>exact ⟨rfl,rfl⟩
theorem Le.okA {x y : AV} (h : Le x y) {u : Value} (hk : okA x u) : okA y u:=by
 cases h with
 | agg h=>obtain ⟨us,h1,h2⟩:=hk;exact ⟨us,h1,by rw[h2,h.len]⟩
 | _=>exact hk
section
variable {φ : Phi} {O : Nat→Prop} {w : World}
mutual
theorem Le.R : ∀ {x y : AV},Le x y→∀ {g : Nat→Option Value},R φ O w x g→R φ O w y g
 | _,_,.refl,g,h=>h
 | _,_,.lst hl,g,h=>by
  obtain ⟨a,c,h1,h2,h3,h4,h5,h6⟩:=h
  have hyl:=hl.len
  refine ⟨a,c,by rw[hyl];exact h1,by omega,h3,h4,fun hp=>?_,trivial⟩
  obtain ⟨b,off,e1,e2,e3,e4⟩:=h5 (by omega)
  exact ⟨b,off,e1,e2,e3,LeL.Rl hl e4⟩
 | _,_,.nil,g,h=>by
  obtain ⟨a,c,h1,h2,h3,h4,h5,h6⟩:=h
  exact ⟨a,c,h1,h2,h3,h4,fun hp=>by simp at hp,trivial⟩
 | _,_,.agg hl,g,h=>LeL.Rs hl h
 | _,_,.vec,g,h=>by
  obtain ⟨b,c',cur,e,fr,v1,v2,v3,v4,v5,v6,v7⟩:=h
  exact ⟨b,c',cur,e,fr,v1,v2,v3,v4,fun m hm=>by simp at hm,v6,v7⟩
theorem LeL.Rl : ∀ {xs ys : List AV},LeL xs ys→∀ {b k off : Nat},Rl φ O w b k xs off→Rl φ O w b k ys off
 | _,_,.nil,b,k,off,_=>trivial
 | _,_,.cons hx hr,b,k,off,h=>⟨by rw[hx.isAgg.2];exact h.1,by rw[hx.isAgg.1];exact h.2.1,Le.R hx h.2.2.1,LeL.Rl hr h.2.2.2⟩
theorem LeL.Rs : ∀ {xs ys : List AV},LeL xs ys→∀ {g : Nat→Option Value},Rs φ O w xs g→Rs φ O w ys g
 | _,_,.nil,g,_=>trivial
 | _,_,.cons hx hr,g,h=>⟨by rw[hx.isAgg.1];exact h.1,Le.R hx h.2.1,h.2.2.1,LeL.Rs hr h.2.2.2⟩
theorem LeL.Rt : ∀ {xs ys : List AV},LeL xs ys→∀ {us : List Value},Rt φ O w xs us→Rt φ O w ys us
 | _,_,.nil,us,h=>h
 | _,_,.cons hx hr,us,h=>by
  obtain ⟨v,s,h1,h2,h3,h4⟩:=h
  exact ⟨v,s,h1,hx.okA h2,Le.R hx h3,LeL.Rt hr h4⟩
end
end
theorem D_le {P : Program} {f : FuncId} {args args' : List AV} {H H' : AHeap} {e : AEnd} (hl : LeL args args') (h : D P f args' H e H') : D P f args H e H' :=
 ⟨h.1,fun φ w vs hR ha=>h.2 φ w vs hR (hl.Rt ha)⟩
inductive FrzL (id : Nat) (blk : ABlk) : List AV→List AV→Prop where
 | nil : FrzL id blk [] []
 | keep {x : AV} {r s : List AV} : FrzL id blk r s→FrzL id blk (x :: r) (x :: s)
 | vec {k off n : Nat} {c : Option Nat} {r s : List AV} : blk.k=k→off+n ≤ blk.es.length→FrzL id blk r s→FrzL id blk (.vec k id off n c :: r) (.lst k ((blk.es.drop off).take n) none :: s)
theorem later_kill {φ : Phi} {H : AHeap} {id : Nat} {w : World} : Later (fun _=>True) φ φ (Own φ H) (Own φ (AHeap.set H id none)) w w :=
 ⟨fun _ _ _ h=>h,Nat.le_refl _,fun b _ ho ho'=>ho (own_kill ho'),fun _ _ _=>rfl,fun _ _=>rfl⟩
theorem FrzL.Rt {φ : Phi} {H : AHeap} {w : World} (hR : Rel φ H w) {id : Nat} {blk : ABlk} (hf : AHeap.find H id=some blk) : ∀ {xs ys : List AV},FrzL id blk xs ys→∀ {us : List Value},Rt φ (Own φ H) w xs us→Rt φ (Own φ (AHeap.set H id none)) w ys us
 | _,_,.nil,us,h=>h
 | _,_,.keep hr,us,h=>by
  obtain ⟨v,s,h1,h2,h3,h4⟩:=h
  exact ⟨v,s,h1,h2,R_later later_kill _ _ _ (AV.ids_true _) (fun _ _ h=>h) h3,FrzL.Rt hR hf hr h4⟩
 | _,_,.vec (k:=k) (off:=off) (n:=n) hk hn hr,us,h=>by
  obtain ⟨v,s,h1,h2,h3,h4⟩:=h
  refine ⟨v,s,h1,h2,?_,FrzL.Rt hR hf hr h4⟩
  obtain ⟨b,c',cur,e,fr,v1,v2,v3,v4,v5,v6,v7⟩:=h3
  have hln : ((blk.es.drop off).take n).length=n:=by simp;omega
  refine ⟨_,c',by rw[hln];exact v2,by omega,v4,fun h=>by simp at h,fun hp=>⟨b,off * k,rfl,?_,heap_lt v6,?_⟩,trivial⟩
  ·rintro ⟨i,k2,g1,g2⟩
   obtain ⟨g3,g4⟩:=find_kill g2
   exact g3 (hR.inj i id b g1 v1 (by rw[g4];rfl) (by rw[hf];rfl))
  ·obtain ⟨_,cur2,cap,a1,a2,a3,a4,a5,a6⟩:=(hR.blk id b blk v1 hf).atCells v6
   have h7:=Rl_take (n:=n) (Rl_drop (f:=off) a6)
   rw[hk,Nat.zero_add] at h7
   exact Rl_later later_kill b rfl _ _ _ (AV.idsL_true _) h7
theorem find_top {H : AHeap} {b : Option ABlk} {i : Nat} (h : i=H.length) : AHeap.find (b :: H) i=b:=by subst h;exact AHeap.find_new
theorem find_past {H : AHeap} {b : Option ABlk} {i : Nat} (h : i < H.length) : AHeap.find (b :: H) i=AHeap.find H i:=AHeap.find_cons h
theorem find_set_eq {H : AHeap} {i j : Nat} {x : Option ABlk} (h : i=j) (hl : i < H.length) : AHeap.find (AHeap.set H i x) j=x:=by subst h;exact AHeap.find_set_same hl
theorem set_past {H : AHeap} {i : Nat} {b x : Option ABlk} (h : i < H.length) : AHeap.set (b :: H) i x=b :: AHeap.set H i x:=by
 show (if i=H.length then _ else _)=_
 rw[if_neg (by omega)]
theorem set_top {H : AHeap} {i : Nat} {b x : Option ABlk} (h : i=H.length) : AHeap.set (b :: H) i x=x :: H:=by
 show (if i=H.length then _ else _)=_
 rw[if_pos h]
theorem find_set_other {H : AHeap} {i j : Nat} {x : Option ABlk} (h : j ≠ i) : AHeap.find (AHeap.set H i x) j=AHeap.find H j:=AHeap.find_set_ne h
end Go.Proofs.YtdjnccnecgblmaaGreatDoor
namespace Go.Proofs.YtdjnccnecgblmaaGreatDoor
open Go.RowKit
set_option linter.unusedVariables false
set_option linter.unusedSimpArgs false
def OwnV (k : Nat) (xs : List AV) (id : Nat) : AV:=match xs with
 | []=>.lst 0 [] (some [])
 | _ :: _=>.vec k id 0 xs.length none
def OwnB (k : Nat) (ty : TypeId) (xs : List AV) : Option ABlk:=match xs with
 | []=>none
 | _ :: _=>some ⟨k,xs,false,ty⟩
def killO (xs : List AV) (id : Nat) (H : AHeap) : AHeap:=match xs with
 | []=>H
 | _ :: _=>AHeap.set H id none
section
variable {k id i : Nat} {ty : TypeId} {xs : List AV} {H : AHeap}
theorem OwnV_ne (h : xs ≠ []) : OwnV k xs id = .vec k id 0 xs.length none:=by cases xs <;> first | exact (h rfl).elim | rfl
theorem OwnB_ne (h : xs ≠ []) : OwnB k ty xs=some ⟨k,xs,false,ty⟩:=by cases xs <;> first | exact (h rfl).elim | rfl
theorem killO_length : (killO xs id H).length=H.length:=by cases xs <;> simp[killO,AHeap.set_length]
theorem find_killO (h : i ≠ id) : AHeap.find (killO xs id H) i=AHeap.find H i:=by
 cases xs with
 | nil=>rfl
 | cons x r=>exact AHeap.find_set_ne h
theorem killO_past {b : Option ABlk} (h : id < H.length) : killO xs id (b :: H)=b :: killO xs id H:=by
 cases xs with
 | nil=>rfl
 | cons x r=>exact set_past h
theorem OwnB_some {b : ABlk} (h : OwnB k ty xs=some b) : xs ≠ [] ∧ b=⟨k,xs,false,ty⟩:=by
 cases xs with
 | nil=>simp[OwnB] at h
 | cons x r=>simp[OwnB] at h;exact ⟨by simp,h.symm⟩
theorem OwnV_top : (OwnV k xs id).isTop=false:=by cases xs <;> rfl
theorem OwnV_ncells : (OwnV k xs id).ncells=1:=by cases xs <;> rfl
theorem OwnV_isAgg : (OwnV k xs id).isAgg=false:=by cases xs <;> rfl
theorem OwnV_cells : (OwnV k xs id).cells=[OwnV k xs id]:=by cases xs <;> rfl
theorem OwnV_lenN : lenN (OwnV k xs id)=xs.length:=by cases xs <;> rfl
theorem OwnV_lenOk : lenOk (OwnV k xs id)=True:=by cases xs <;> rfl
end
theorem OwnV_gz {H1 : AHeap} {n0 : Nat} {src : List Nat} {k id id' : Nat} {xs : List AV} (h : xs ≠ []→newId n0 src id=some id') : Gz H1 n0 src (OwnV k xs id) (OwnV k xs id'):=by
 cases xs with
 | nil=>exact .same ⟨trivial,trivial⟩
 | cons x r=>exact .vecR (h (by simp)) (.inl rfl)
theorem OwnV_fz {H1 : AHeap} {n0 : Nat} {src : List Nat} {k id : Nat} {ty : TypeId} {xs ys : List AV} (h : xs ≠ []→newId n0 src id=none) (hf : xs ≠ []→AHeap.find H1 id=OwnB k ty xs) (hz : GzL H1 n0 src xs ys) : Gz H1 n0 src (OwnV k xs id) (.lst k ys none):=by
 cases xs with
 | nil =>
  cases hz
  exact .nil
 | cons x r =>
  refine .vec (h (by simp)) (hf (by simp)) rfl (by simp) ?_
  simpa using hz
theorem newId_one {n0 s : Nat} (h : n0 ≤ s) : newId n0 [s] s=some n0:=by
 unfold newId
 rw[if_neg (by omega)]
 simp
theorem FrzL.refl {id : Nat} {blk : ABlk} : ∀ {l : List AV},FrzL id blk l l
 | []=>.nil
 | _ :: _=>.keep FrzL.refl
theorem apOwn {H : AHeap} {k : Nat} {ty : TypeId} {xs ys : List AV} {id : Nat} (hf : xs ≠ []→AHeap.find H id=OwnB k ty xs) (hl : xs.length+ys.length ≤ 100000000) : apOk H k ty ys (OwnV k xs id) ∧ (ys ≠ [] ∨ xs ≠ []→apV H k ys (OwnV k xs id)=OwnV k (xs ++ ys) H.length ∧ apH H k ty ys (OwnV k xs id)=OwnB k ty (xs ++ ys) :: killO xs id H) ∧
  (ys=[]→xs=[]→apV H k ys (OwnV k xs id) = .lst 0 [] (some []) ∧ apH H k ty ys (OwnV k xs id)=H):=by
 cases xs with
 | nil =>
  cases ys with
  | nil=>refine ⟨?_,fun h=>by simp at h,fun _ _=>⟨rfl,rfl⟩⟩;simp[apOk,OwnV]
  | cons y s=>
   refine ⟨?_,fun _=>⟨?_,?_⟩,fun h=>by simp at h⟩
   ·simp[apOk,OwnV] at hl ⊢;exact hl
   ·simp[apV,OwnV]
   ·simp[apH,OwnV,OwnB,killO]
 | cons x r =>
  have h1 : AHeap.find H id=some ⟨k,x :: r,false,ty⟩:=hf (by simp)
  refine ⟨?_,fun _=>⟨?_,?_⟩,fun _ h=>by simp at h⟩
  ·simp only[apOk,OwnV,h1]
   simp at hl ⊢
   exact hl
  ·simp only[apV,OwnV,h1]
   simp
   omega
  ·simp only[apH,OwnV,h1]
   simp[OwnB,killO]
theorem ES_loopL {P : Program} {c : IC} {K : Post} {ts : List AV} {H : AHeap} (I : List AV→AHeap→Prop) (μ : List AV→AHeap→Nat) (h0 : I ts H) (h : ∀ ts H,I ts H→∀ L : List AV→AHeap→Prop,(∀ ts' H',I ts' H'→μ ts' H' < μ ts H→L ts' H')→ES P c (thenK L K) ts H) : ES P (.loop c) K ts H :=
 ES_loop I μ h0 fun ts H hI=>h ts H hI _ fun _ _ h1 h2=>⟨h1,h2⟩
end Go.Proofs.YtdjnccnecgblmaaGreatDoor
namespace Go.Proofs.YtdjnccnecgblmaaGreatDoor
open Go.RowKit
set_option linter.unusedVariables false
set_option linter.unusedSimpArgs false
mutual
inductive View (H : AHeap) : AV→AV→Prop where
 | sc {v : Value} : View H (.sc v) (.sc v)
 | ub : View H .ub .ub
 | lst {k : Nat} {xs ys : List AV} {room : Option (List AV)} : ViewL H xs ys→View H (.lst k xs room) (.lst k ys none)
 | nil {k k' : Nat} {room : Option (List AV)} : View H (.lst k [] room) (.lst k' [] none)
 | vec {k id off n : Nat} {c : Option Nat} {blk : ABlk} {ys : List AV} : AHeap.find H id=some blk→blk.k=k→off+n ≤ blk.es.length→ViewL H ((blk.es.drop off).take n) ys→View H (.vec k id off n c) (.lst k ys none)
 | ptr {k id j f : Nat} {blk : ABlk} {e y : AV} : AHeap.find H id=some blk→blk.es[j]? = some e→blk.k=k→0 < k→View H e y→View H (.ptr k id j f) (.lp y f)
 | lp {x y : AV} {f : Nat} : View H x y→View H (.lp x f) (.lp y f)
 | agg {xs ys : List AV} : ViewL H xs ys→View H (.agg xs) (.agg ys)
 | tup {xs ys : List AV} : ViewL H xs ys→View H (.tup xs) (.tup ys)
 | ifc {t : TypeId} {x y : AV} : View H x y→View H (.ifc t x) (.ifc t y)
 | fn {f : Fn} {a b a' b' : List AV} : ViewL H a a'→ViewL H b b'→View H (.fn f a b) (.fn f a' b')
inductive ViewL (H : AHeap) : List AV→List AV→Prop where
 | nil : ViewL H [] []
 | cons {x y : AV} {r s : List AV} : View H x y→ViewL H r s→ViewL H (x :: r) (y :: s)
end
section
variable {H : AHeap}
theorem ViewL.len : ∀ {xs ys : List AV},ViewL H xs ys→ys.length=xs.length
 | _,_,.nil=>rfl
 | _,_,.cons _ h=>by simp[h.len]
theorem View.isAgg {x y : AV} (h : View H x y) : y.isAgg=x.isAgg ∧ y.ncells=x.ncells:=by
 cases h with
 | agg h=>exact ⟨rfl,h.len⟩
 | _=>exact ⟨rfl,rfl⟩
theorem View.okA {x y : AV} (h : View H x y) {u : Value} (hk : okA x u) : okA y u:=by
 cases h with
 | agg h=>obtain ⟨us,h1,h2⟩:=hk;exact ⟨us,h1,by rw[h2,h.len]⟩
 | _=>exact hk
theorem View.agg1 {x y : AV} (h : View H x y) : y.isAgg=true→x.isAgg=true:=by
 cases h <;> simp[AV.isAgg]
end
section
variable {φ : Phi} {H : AHeap} {w : World}
mutual
theorem View.R (hR : Rel φ H w) : ∀ {x y : AV},View H x y→∀ {g : Nat→Option Value},R φ (Own φ H) w x g→R phi0 O0 w y g
 | _,_,.sc,g,h=>h
 | _,_,.ub,g,h=>h
 | _,_,.lst hl,g,h=>by
  obtain ⟨a,c,h1,h2,h3,h4,h5,h6⟩:=h
  have hyl:=hl.len
  refine ⟨a,c,by rw[hyl];exact h1,by omega,h3,h4,fun hp=>?_,trivial⟩
  obtain ⟨b,off,e1,e2,e3,e4⟩:=h5 (by omega)
  exact ⟨b,off,e1,own0,e3,ViewL.Rl hR hl e4⟩
 | _,_,.nil,g,h=>by
  obtain ⟨a,c,h1,h2,h3,h4,h5,h6⟩:=h
  exact ⟨a,c,h1,h2,h3,h4,fun hp=>by simp at hp,trivial⟩
 | _,_,.vec (k:=k) (id:=id) (off:=off) (n:=n) (blk:=blk) h1 h2 h3 h4,g,h=>by
  obtain ⟨b,c',cur,e,fr,v1,v2,v3,v4,v5,v6,v7⟩:=h
  have hln : ((blk.es.drop off).take n).length=n:=by simp;omega
  have hyl:=h4.len
  rw[hln] at hyl
  refine ⟨_,c',by rw[hyl];exact v2,by omega,v4,fun h=>by simp at h,fun hp=>⟨b,off * k,rfl,own0,heap_lt v6,?_⟩,trivial⟩
  obtain ⟨_,cur2,cap,a1,a2,a3,a4,a5,a6⟩:=(hR.blk id b blk v1 h1).atCells v6
  have h7:=Rl_take (n:=n) (Rl_drop (f:=off) a6)
  rw[h2,Nat.zero_add] at h7
  exact ViewL.Rl hR h4 h7
 | _,_,.ptr (k:=k) (id:=id) (j:=j) (f:=f) (blk:=blk) (e:=e) h1 h2 h3 hk0 hv,g,h=>by
  obtain ⟨b,g1,g2⟩:=h
  obtain ⟨cur2,cap,a1,a2,a3,a4,a5,a6⟩:=(hR.blk id b blk g1 h1).cells (by rw[h3];exact hk0)
  rw[ptrV_pos hk0] at g2
  obtain ⟨n1,n2,n3⟩:=Rl_nth a6 h2
  rw[h3,Nat.zero_add] at n2 n3
  refine ⟨b,j * k,by rw[g2],own0,heap_lt a1,fun hx=>?_,View.R hR hv n3⟩
  have hxa : e.isAgg=false:=by
   cases hq : e.isAgg with
   | false=>rfl
   | true =>
    have:=hv.isAgg.1
    rw[hx,hq] at this
    simp at this
  exact n2 hxa
 | _,_,.lp hv,g,h=>by
  obtain ⟨b,off,h1,ho,hb,h3,h2⟩:=h
  refine ⟨b,off,h1,own0,hb,fun hx=>h3 ?_,View.R hR hv h2⟩
  rename_i x y f
  cases hq : x.isAgg with
  | false=>rfl
  | true =>
   have:=hv.isAgg.1
   rw[hx,hq] at this
   simp at this
 | _,_,.agg hl,g,h=>ViewL.Rs hR hl h
 | _,_,.tup hl,g,h=>by
  obtain ⟨us,h1,h2⟩:=h
  exact ⟨us,h1,ViewL.Rt hR hl h2⟩
 | _,_,.ifc hx,g,h=>by
  obtain ⟨u,h1,h2,h3⟩:=h
  exact ⟨u,h1,hx.okA h2,View.R hR hx h3⟩
 | _,_,.fn ha hb,g,h=>by
  obtain ⟨us,ws,h1,h2,h3⟩:=h
  exact ⟨us,ws,h1,ViewL.Rt hR ha h2,ViewL.Rt hR hb h3⟩
theorem ViewL.Rl (hR : Rel φ H w) : ∀ {xs ys : List AV},ViewL H xs ys→∀ {b k off : Nat},Rl φ (Own φ H) w b k xs off→Rl phi0 O0 w b k ys off
 | _,_,.nil,b,k,off,_=>trivial
 | _,_,.cons (x:=x) (y:=y) hx hr,b,k,off,h=>by
  have he:=hx.isAgg
  exact ⟨by rw[he.2];exact h.1,by rw[he.1];exact h.2.1,View.R hR hx h.2.2.1,ViewL.Rl hR hr h.2.2.2⟩
theorem ViewL.Rs (hR : Rel φ H w) : ∀ {xs ys : List AV},ViewL H xs ys→∀ {g : Nat→Option Value},Rs φ (Own φ H) w xs g→Rs phi0 O0 w ys g
 | _,_,.nil,g,_=>trivial
 | _,_,.cons (x:=x) (y:=y) hx hr,g,h=>by
  refine ⟨?_,View.R hR hx h.2.1,h.2.2.1,ViewL.Rs hR hr h.2.2.2⟩
  cases hq : y.isAgg with
  | false=>rfl
  | true=>have:=hx.agg1 hq;rw[h.1] at this;simp at this
theorem ViewL.Rt (hR : Rel φ H w) : ∀ {xs ys : List AV},ViewL H xs ys→∀ {us : List Value},Rt φ (Own φ H) w xs us→Rt phi0 O0 w ys us
 | _,_,.nil,us,h=>h
 | _,_,.cons hx hr,us,h=>by
  obtain ⟨v,s,h1,h2,h3,h4⟩:=h
  exact ⟨v,s,h1,hx.okA h2,View.R hR hx h3,ViewL.Rt hR hr h4⟩
end
end
inductive Plain : AV→Prop where
 | sc {v : Value} : Plain (.sc v)
 | ub : Plain .ub
 | nil {k : Nat} {room : Option (List AV)} : (room=none ∨ room=some [])→Plain (.lst k [] room)
 | tup0 : Plain (.tup [])
 | tup {x : AV} {r : List AV} : Plain x→Plain (.tup r)→Plain (.tup (x :: r))
theorem Plain.R {x : AV} (h : Plain x) : ∀ {φ φ' : Phi} {O O' : Nat→Prop} {w w' : World} {g : Nat→Option Value},R φ O w x g→R φ' O' w' x g:=by
 induction h with
 | sc=>intro φ φ' O O' w w' g h;exact h
 | ub=>intro φ φ' O O' w w' g h;exact h
 | nil hr =>
  intro φ φ' O O' w w' g h
  obtain ⟨a,c,h1,h2,h3,h4,h5,h6⟩:=h
  refine ⟨a,c,h1,h2,h3,h4,fun hp=>by simp at hp,?_⟩
  rcases hr with rfl | rfl
  ·trivial
  ·exact ⟨h6.1,fun hp=>by simp at hp⟩
 | tup0 =>
  intro φ φ' O O' w w' g h
  obtain ⟨us,h1,h2⟩:=h
  exact ⟨us,h1,h2⟩
 | tup _ _ ih1 ih2 =>
  intro φ φ' O O' w w' g h
  obtain ⟨us,h1,v,s,h2,h3,h4,h5⟩:=h
  obtain ⟨us',e1,e2⟩:=ih2 (φ:=φ) (φ':=φ') (O:=O) (O':=O') (w:=w) (w':=w') (g:=fun _=>some (.tuple s.toArray)) ⟨s.toArray,rfl,h5⟩
  have : us'=s.toArray:=by simpa using e1.symm
  subst this
  exact ⟨us,h1,v,s,h2,h3,ih1 h4,e2⟩
theorem ViewL.own {H : AHeap} {k id : Nat} {ty : TypeId} {xs ys : List AV} (hf : xs ≠ []→AHeap.find H id=OwnB k ty xs) (hl : ViewL H xs ys) : View H (OwnV k xs id) (.lst k ys none):=by
 cases xs with
 | nil=>cases hl;exact .nil
 | cons x r =>
  refine .vec (hf (by simp)) rfl (by simp) ?_
  simpa using hl
end Go.Proofs.YtdjnccnecgblmaaGreatDoor
namespace Go.Proofs.YtdjnccnecgblmaaGreatDoor
open Go Go.RowKit
set_option linter.defProp false
def kI (n : Int) : X:=.k (.sc (.int .i64 n))
def kT : X:=.k (.sc (.bool true))
def kF : X:=.k (.sc (.bool false))
def nlA : AV:=.lst 0 [] (some [])
def xI (n : Int) : PO:=.mv (kI n)
def xA (k s i : Nat) : PO:=.iaddr k (.t s) (.t i)
def xL (s : Nat) : PO:=.len (.t s)
def xB (op : BinOp) (a b : Nat) : PO:=.bin op (.t a) (.t b)
def xN (a : Nat) : PO:=.un .not (.t a)
def yD (k a : Nat) : HO:=.load k false (.t a)
def yA (k a : Nat) : HO:=.load k true (.t a)
def yC (f a b : Nat) : HO:=.call f [.t a,.t b]
def iM (n a : Nat) : IO':=⟨some n,none,.p (.mv (.t a))⟩
def iP (n : Nat) (p : PO) : IO':=⟨some n,none,.p p⟩
def iH (n : Nat) (h : HO) : IO':=⟨some n,none,.h h⟩
def iS (k a x : Nat) : IO':=⟨none,none,.h (.store k (.t a) (.t x))⟩
def gM (n g : Nat) (b : Bool) (a : Nat) : IO':=⟨some n,some (g,b),.p (.mv (.t a))⟩
def gP (n g : Nat) (b : Bool) (p : PO) : IO':=⟨some n,some (g,b),.p p⟩
def gH (n g : Nat) (b : Bool) (h : HO) : IO':=⟨some n,some (g,b),.h h⟩
theorem kI_eq : ∀ n,kI n = .k (.sc (.int .i64 n)):=fun _=>rfl
theorem kT_eq : kT = .k (.sc (.bool true)):=rfl
theorem kF_eq : kF = .k (.sc (.bool false)):=rfl
theorem nlA_eq : nlA = .lst 0 [] (some []):=rfl
theorem xI_eq : ∀ n,xI n = .mv (.k (.sc (.int .i64 n))):=fun _=>rfl
theorem xA_eq : ∀ k s i,xA k s i = .iaddr k (.t s) (.t i):=fun _ _ _=>rfl
theorem xL_eq : ∀ s,xL s = .len (.t s):=fun _=>rfl
theorem xB_eq : ∀ op a b,xB op a b = .bin op (.t a) (.t b):=fun _ _ _=>rfl
theorem xN_eq : ∀ a,xN a = .un .not (.t a):=fun _=>rfl
theorem yD_eq : ∀ k a,yD k a = .load k false (.t a):=fun _ _=>rfl
theorem yA_eq : ∀ k a,yA k a = .load k true (.t a):=fun _ _=>rfl
theorem yC_eq : ∀ f a b,yC f a b = .call f [.t a,.t b]:=fun _ _ _=>rfl
theorem iM_eq : ∀ n a,iM n a=⟨some n,none,.p (.mv (.t a))⟩:=fun _ _=>rfl
theorem iP_eq : ∀ n p,iP n p=⟨some n,none,.p p⟩:=fun _ _=>rfl
theorem iH_eq : ∀ n h,iH n h=⟨some n,none,.h h⟩:=fun _ _=>rfl
theorem iS_eq : ∀ k a x,iS k a x=⟨none,none,.h (.store k (.t a) (.t x))⟩:=fun _ _ _=>rfl
theorem gM_eq : ∀ n g b a,gM n g b a=⟨some n,some (g,b),.p (.mv (.t a))⟩:=fun _ _ _ _=>rfl
theorem gP_eq : ∀ n g b p,gP n g b p=⟨some n,some (g,b),.p p⟩:=fun _ _ _ _=>rfl
theorem gH_eq : ∀ n g b h,gH n g b h=⟨some n,some (g,b),.h h⟩:=fun _ _ _ _=>rfl
def ux:=And.intro kI_eq <| And.intro kT_eq <| And.intro kF_eq <| And.intro nlA_eq <| And.intro xI_eq <| And.intro xA_eq <| And.intro xL_eq <| And.intro xB_eq <| And.intro xN_eq <| And.intro yD_eq <| And.intro yA_eq <| And.intro yC_eq <| And.intro iM_eq <| And.intro iP_eq <| And.intro iH_eq <| And.intro iS_eq <| And.intro gM_eq <| And.intro gP_eq gH_eq
def Dk (P : Program) (f : FuncId) (c : IC) (rs : List RV) (n : Nat) : Prop :=
 ∀ {args : List AV} {H : AHeap} {Kr : AEnd→AHeap→Prop},E P c (bodyK rs Kr) (args ++ List.replicate (n - args.length) (.tup [])) H→DK P f args H Kr
theorem dk_of {P : Program} {f : FuncId} {fn : Func} {ic : IC} {rs : List RV} (hf : P.funcs[f]? = some fn) (hb : fn.body=some (fn.body.getD .skip)) (hc : compC P [] (fn.body.getD .skip)=some ic) (hr : compR P fn.results.toList=some rs) : Dk P f ic rs fn.ntmps :=
 fun h=>DK_of_body (vecs:=[]) hf hb hc hr h
end Go.Proofs.YtdjnccnecgblmaaGreatDoor
