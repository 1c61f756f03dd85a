import Derived.Test.YtdjnccnecgblmaaGreatDoorSA
import Derived.Test.YtdjnccnecgblmaaGreatDoorSI
import Derived.Test.YtdjnccnecgblmaaGreatDoorIc40
import Derived.Test.YtdjnccnecgblmaaGreatDoorIc44
import Derived.Test.YtdjnccnecgblmaaGreatDoorIc45
import Derived.Test.YtdjnccnecgblmaaGreatDoorIc41
namespace Go.Proofs.YtdjnccnecgblmaaGreatDoor
open Go.RowKit
set_option linter.unusedVariables false
set_option linter.unusedSimpArgs false
inductive Nd where
 | mk (kind : Int) (text : ByteArray) (num : Int) (kids : List Nd)
def Nd.kind : Nd→Int | ⟨k,_,_,_⟩=>k
def Nd.text : Nd→ByteArray | ⟨_,s,_,_⟩=>s
def Nd.num : Nd→Int | ⟨_,_,n,_⟩=>n
def Nd.kids : Nd→List Nd | ⟨_,_,_,l⟩=>l
theorem Nd.eta (t : Nd) : t=⟨t.kind,t.text,t.num,t.kids⟩:=by cases t;rfl
theorem Nd.ext' {a b : Nd} (h1 : a.kind=b.kind) (h2 : a.text=b.text) (h3 : a.num=b.num) (h4 : a.kids=b.kids) : a=b:=by
 cases a;cases b
 simp only[Nd.kind,Nd.text,Nd.num,Nd.kids] at h1 h2 h3 h4
 subst h1 h2 h3 h4
 rfl
mutual
def Nd.size : Nd→Nat
 | ⟨_,_,_,l⟩=>1+Nd.sizeL l
def Nd.sizeL : List Nd→Nat
 | []=>0
 | t :: r=>t.size+Nd.sizeL r
end
theorem Nd.size_eq (t : Nd) : t.size=1+Nd.sizeL t.kids:=by cases t;simp[Nd.size,Nd.kids]
theorem Nd.size_pos (t : Nd) : 0 < t.size:=by rw[Nd.size_eq];omega
theorem Nd.sizeL_mem {l : List Nd} {t : Nd} (h : t ∈ l) : t.size ≤ Nd.sizeL l:=by
 induction l with
 | nil=>cases h
 | cons x r ih =>
  rcases List.mem_cons.1 h with rfl | h
  ·simp only[Nd.sizeL];omega
  ·have:=ih h;simp only[Nd.sizeL];omega
theorem Nd.kid_lt {t k : Nd} (h : k ∈ t.kids) : k.size < t.size:=by
 have:=Nd.sizeL_mem h
 rw[Nd.size_eq t]
 omega
theorem Nd.ind {p : Nd→Prop} (h : ∀ t,(∀ k ∈ t.kids,p k)→p t) (t : Nd) : p t:=by
 have key : ∀ n : Nat,∀ t : Nd,t.size ≤ n→p t:=by
  intro n
  induction n with
  | zero=>intro t ht;have:=t.size_pos;omega
  | succ n ih=>intro t ht;exact h t fun k hk=>ih k (by have:=Nd.kid_lt hk;omega)
 exact key _ t (Nat.le_refl _)
mutual
def ndA : Nd→AV
 | ⟨k,s,n,l⟩=>.agg [.sc (.int .u8 k),.sc (.string s),.sc (.int .i64 n),.lst 4 (ndL l) none]
def ndL : List Nd→List AV
 | []=>[]
 | t :: r=>ndA t :: ndL r
end
theorem ndA_eq (t : Nd) : ndA t = .agg [.sc (.int .u8 t.kind),.sc (.string t.text),.sc (.int .i64 t.num),.lst 4 (ndL t.kids) none]:=by cases t;simp[ndA,Nd.kind,Nd.text,Nd.num,Nd.kids]
theorem ndL_map (l : List Nd) : ndL l=l.map ndA:=by
 induction l with
 | nil=>rfl
 | cons x r ih=>simp[ndL,ih]
theorem ndL_length (l : List Nd) : (ndL l).length=l.length:=by simp[ndL_map]
theorem ndL_nil : ndL []=[]:=rfl
theorem ndL_cons (t : Nd) (l : List Nd) : ndL (t :: l)=ndA t :: ndL l:=by simp[ndL]
def Nd.none : Nd:=⟨0,⟨#[]⟩,0,[]⟩
def nthN (l : List Nd) (k : Nat) : Nd:=l.getD k Nd.none
theorem nthN_eq {l : List Nd} {k : Nat} (h : k < l.length) : nthN l k=l[k]:=by simp[nthN,List.getD,h]
theorem nthN_mem {l : List Nd} {k : Nat} (h : k < l.length) : nthN l k ∈ l:=by rw[nthN_eq h];exact List.getElem_mem _
theorem ndL_getA {l : List Nd} {k : Nat} (h : k < l.length) : (ndL l).getD k .top=ndA (nthN l k):=by simp[ndL_map,nthN,List.getD,h]
theorem ndL_get {l : List Nd} {k : Nat} (h : k < l.length) : (ndL l).getD k .top = .agg [.sc (.int .u8 (nthN l k).kind),.sc (.string (nthN l k).text),.sc (.int .i64 (nthN l k).num),.lst 4 (ndL (nthN l k).kids) none]:=by rw[ndL_getA h,ndA_eq]
def ndR (t : Nd) (ro : Option (List AV)) : AV:=.agg [.sc (.int .u8 t.kind),.sc (.string t.text),.sc (.int .i64 t.num),.lst 4 (ndL t.kids) ro]
theorem ndR_eq (t : Nd) (ro : Option (List AV)) : ndR t ro = .agg [.sc (.int .u8 t.kind),.sc (.string t.text),.sc (.int .i64 t.num),.lst 4 (ndL t.kids) ro]:=rfl
theorem ndR_none (t : Nd) : ndR t none=ndA t:=(ndA_eq t).symm
mutual
def sameN : Nd→Nd→Bool
 | ⟨k,s,n,l⟩,⟨k',s',n',l'⟩=>decide (k=k') && decide (s=s') && decide (n=n') && sameL l l'
def sameL : List Nd→List Nd→Bool
 | [],[]=>true
 | a :: r,b :: q=>sameN a b && sameL r q
 | _,_=>false
end
theorem sameL_of (l : List Nd) (ih : ∀ a ∈ l,∀ b,sameN a b=true ↔ a=b) : ∀ m,sameL l m=true ↔ l=m:=by
 induction l with
 | nil=>intro m;cases m <;> simp[sameL]
 | cons x r ihr =>
  intro m
  cases m with
  | nil=>simp[sameL]
  | cons y q =>
   simp only[sameL,Bool.and_eq_true,List.cons.injEq]
   rw[ih x (by simp),ihr (fun a ha=>ih a (by simp[ha]))]
theorem sameN_iff (a b : Nd) : sameN a b=true ↔ a=b:=by
 revert b
 induction a using Nd.ind with
 | _ a ih =>
  intro b
  cases a with
  | mk k s n l =>
   cases b with
   | mk k' s' n' l' =>
    simp only[sameN,Bool.and_eq_true,decide_eq_true_eq,Nd.mk.injEq]
    rw[sameL_of l ih]
    constructor
    ·rintro ⟨⟨⟨a,b⟩,c⟩,d⟩;exact ⟨a,b,c,d⟩
    ·rintro ⟨a,b,c,d⟩;exact ⟨⟨⟨a,b⟩,c⟩,d⟩
theorem sameL_iff (l m : List Nd) : sameL l m=true ↔ l=m:=sameL_of l (fun a _=>sameN_iff a) m
theorem sameN_refl (a : Nd) : sameN a a=true:=(sameN_iff a a).2 rfl
theorem sameN_eq (a b : Nd) : sameN a b=(decide (a.kind=b.kind) && decide (a.text=b.text) && decide (a.num=b.num) && sameL a.kids b.kids):=by cases a;cases b;rfl
end Go.Proofs.YtdjnccnecgblmaaGreatDoor
namespace Go.Proofs.YtdjnccnecgblmaaGreatDoor
open Go.RowKit
set_option linter.unusedVariables false
set_option linter.unusedSimpArgs false
def rowsL : List (Int × (List Int × Bool)):=[(1,[2],true),(2,[3,5],false),(3,[4],true),(4,[],false),(5,[201],true),(6,[200],false),(7,[202,200],false),(8,[200,5,5],false),(9,[200,5],false),(10,[200],false),(11,[200],false),(12,[25],false),(20,[],false),(21,[],false),(22,[],false),(23,[200],false),(24,[200,200],false),(25,[200],true),(26,[200,200],false),(27,[200,200],false),(28,[200],false),(29,[],false)]
def rowR (k : Int) : Option (List Int × Bool):=iGet k rowsL
def exprP (k : Int) : Bool:=decide (20 ≤ k) && decide (k ≤ 29)
def stmtP (k : Int) : Bool:=decide (6 ≤ k) && decide (k ≤ 12) || decide (k=5)
def isP (k f : Int) : Bool:=if f=200 then exprP k else if f=201 then stmtP k else if f=202 then decide (k=22) || decide (k=26) else decide (k=f)
def fitsP (p k at_ : Int) : Bool :=
 if at_ < 0 then false
 else if ((rowR p).getD ([],false)).2 then isP k (((rowR p).getD ([],false)).1.getD 0 0)
 else decide (at_ < ((rowR p).getD ([],false)).1.length) && isP k (((rowR p).getD ([],false)).1.getD at_.toNat 0)
def namedP (k : Int) : Bool:=decide (k=2) || decide (k=4) || decide (k=6) || decide (k=22) || decide (k=25)
def manyQ (k : Int) : Int :=
 if k=1 ∨ k=3 ∨ k=5 ∨ k=25 then -1
 else if k=2 ∨ k=7 ∨ k=9 ∨ k=24 ∨ k=26 ∨ k=27 then 2
 else if k=8 then 3
 else if k=6 ∨ k=10 ∨ k=11 ∨ k=23 ∨ k=28 ∨ k=12 then 1
 else 0
def fitsQ (p k at_ : Int) : Bool :=
 if at_ < 0 ∨ (manyQ p ≥ 0 ∧ at_ ≥ manyQ p) then false
 else if p=1 then decide (k=2)
 else if p=2 then decide (at_=0 ∧ k=3) || decide (at_=1 ∧ k=5)
 else if p=3 then decide (k=4)
 else if p=5 then stmtP k
 else if p=7 then decide (at_=0 ∧ (k=22 ∨ k=26)) || (decide (at_=1) && exprP k)
 else if p=8 ∨ p=9 then (decide (at_=0) && exprP k) || decide (at_ > 0 ∧ k=5)
 else if p=12 then decide (k=25)
 else exprP k
theorem rowR_cases (p : Int) : (rowR p=none ∧ ∀ x ∈ rowsL,p ≠ x.1) ∨ p ∈ rowsL.map (·.1):=by
 by_cases h : p ∈ rowsL.map (·.1)
 ·exact .inr h
 ·refine .inl ⟨?_,fun x hx e=>h (List.mem_map.2 ⟨x,hx,e.symm⟩)⟩
  cases hr : rowR p with
  | none=>rfl
  | some v=>exact absurd (iGet_mem.2 (by unfold rowR at hr;rw[hr];rfl)) h
theorem fits_same (p k at_ : Int) : fitsP p k at_=fitsQ p k at_:=by
 rcases rowR_cases p with ⟨h,hn⟩ | h
 ·have e : fitsP p k at_=false:=by
   unfold fitsP
   rw[h]
   split
   ·rfl
   ·simp
    intro h1;omega
  rw[e]
  have h0 : manyQ p=0:=by
   have g : ∀ n : Int,n ∈ rowsL.map (·.1)→p ≠ n:=fun n hm=>by
    obtain ⟨x,hx,rfl⟩:=List.mem_map.1 hm
    exact hn x hx
   have g1:=fun n=>g n
   unfold manyQ
   rw[if_neg,if_neg,if_neg (g 8 (by decide)),if_neg]
   ·rintro (h | h | h | h | h | h)
    ·exact g 6 (by decide) h
    ·exact g 10 (by decide) h
    ·exact g 11 (by decide) h
    ·exact g 23 (by decide) h
    ·exact g 28 (by decide) h
    ·exact g 12 (by decide) h
   ·rintro (h | h | h | h | h | h)
    ·exact g 2 (by decide) h
    ·exact g 7 (by decide) h
    ·exact g 9 (by decide) h
    ·exact g 24 (by decide) h
    ·exact g 26 (by decide) h
    ·exact g 27 (by decide) h
   ·rintro (h | h | h | h)
    ·exact g 1 (by decide) h
    ·exact g 3 (by decide) h
    ·exact g 5 (by decide) h
    ·exact g 25 (by decide) h
  unfold fitsQ
  rw[h0,if_pos (by omega)]
 ·by_cases c : at_ < 0
  ·unfold fitsP fitsQ
   rw[if_pos c,if_pos (.inl c)]
  obtain ⟨a,rfl⟩ : ∃ a : Nat,at_=a:=⟨at_.toNat,by omega⟩
  simp only[rowsL,List.map_cons,List.map_nil,List.mem_cons,List.not_mem_nil,or_false] at h
  have q0 : ∀ a : Nat,¬ ((a : Int)+1+1+1 < 0):=fun a=>by omega
  have q1 : ∀ a : Nat,¬ ((a : Int)+1+1+1 < 1):=fun a=>by omega
  have q2 : ∀ a : Nat,¬ ((a : Int)+1+1+1 < 2):=fun a=>by omega
  have q3 : ∀ a : Nat,¬ ((a : Int)+1+1+1 < 3):=fun a=>by omega
  have q4 : ∀ a : Nat,0 ≤ (a : Int)+1+1+1:=fun a=>by omega
  have r1 : ∀ a : Nat,1 ≤ (a : Int)+1+1+1:=fun a=>by omega
  have r2 : ∀ a : Nat,2 ≤ (a : Int)+1+1+1:=fun a=>by omega
  have r3 : ∀ a : Nat,3 ≤ (a : Int)+1+1+1:=fun a=>by omega
  have r4 : ∀ a : Nat,¬ (a : Int)+1+1+1=0:=fun a=>by omega
  have r5 : ∀ a : Nat,0 < (a : Int)+1+1+1:=fun a=>by omega
  rcases h with rfl | rfl | rfl | rfl | rfl | rfl | rfl | rfl | rfl | rfl | rfl | rfl | rfl | rfl | rfl | rfl | rfl | rfl | rfl | rfl | rfl | rfl <;>
   rcases a with _ | _ | _ | a <;> simp[fitsP,fitsQ,manyQ,rowR,rowsL,iGet,isP,exprP,stmtP] <;> simp only[q0,q1,q2,q3,q4,r1,r2,r3,r4,r5,decide_false,decide_true,Bool.not_false,Bool.not_true,Bool.false_and,Bool.true_and,Bool.and_false]
end Go.Proofs.YtdjnccnecgblmaaGreatDoor
namespace Go.Proofs.YtdjnccnecgblmaaGreatDoor
open Go.RowKit
set_option maxRecDepth 100000
set_option linter.unusedVariables false
set_option linter.unusedSimpArgs false
theorem over_bN {F H : AHeap} (h : Over H F) {a b : Bool} (e : a=b) : Weak H (.ret (.sc (.bool a))) F (.ret (.sc (.bool b))) H:=by
 subst e
 exact weak_over h (.same trivial)
def idN (x : AV) : AV:=x
theorem mPutN (q : IntKind) (k : Int) (v : AV) (M : List (Int × AV)) : mPut (.int q k) v (mI q idN M)=mI q idN (iSetL k v M):=mPut_mI (f:=idN) (a:=v)
theorem mPutN0 (q : IntKind) (k : Int) (v : AV) : mPut (.int q k) v []=mI q idN [(k,v)]:=mPut_mI (f:=idN) (a:=v) (M:=[])
theorem iSetL_nil (k : Int) (v : AV) : iSetL k v ([] : List (Int × AV))=[(k,v)]:=rfl
theorem iSetL_cons (k j : Int) (v u : AV) (r : List (Int × AV)) : iSetL k v ((j,u) :: r)=if k=j then (k,v) :: r else (j,u) :: iSetL k v r:=rfl
def klA (l : List Int) : AV:=if l=[] then .lst 0 [] (some []) else .lst 1 (l.map fun n=>.sc (.int .u8 n)) (some [])
def rwA (r : List Int × Bool) : AV:=.agg [klA r.1,.sc (.bool r.2)]
def rowsA : List (Int × AV):=rowsL.map fun p=>(p.1,rwA p.2)
theorem iGet_map {α β : Type} (g : α→β) (k : Int) : ∀ (M : List (Int × α)),iGet k (M.map fun p=>(p.1,g p.2))=(iGet k M).map g
 | []=>rfl
 | p :: r=>by
  have ih:=iGet_map g k r
  simp only[List.map_cons,iGet]
  split
  ·rfl
  ·exact ih
def rowG (k : Int) : List Int × Bool:=(rowR k).getD ([],false)
theorem rows_get (k : Int) : (iGet k rowsA).getD (.agg [.lst 0 [] (some []),.sc (.bool false)])=rwA (rowG k):=by
 unfold rowsA rowG rowR
 rw[iGet_map]
 cases iGet k rowsL <;> rfl
theorem rows_some (k : Int) : (iGet k rowsA).isSome=(rowR k).isSome:=by
 unfold rowsA rowR
 rw[iGet_map]
 cases iGet k rowsL <;> rfl
theorem one_d (x : AV) (H : AHeap) (h1 : x.isTop=false ∧ x.isAgg=false ∧ x.ncells=1 ∧ x.cells=[x]) (h2 : x.ids (· < H.length)) : D Tryz.prog 212 [x] H (.ret (.agg [x,.sc (.bool false)])) H:=by
 obtain ⟨a1,a2,a3,a4⟩:=h1
 refine D_of_DK (Nat.le_refl _) (dk212 (E_of_ES ?_))
 simp only[ic212,ux]
 simp -implicitDefEqProofs (maxSteps:=99999999) (disch:=first | omega | (simp only[vl];first | done | omega)) only[a1,a2,a3,a4,va,vg,vs,vw,vk,simprocAttr]
 exact weak_over (.cons .refl) (.same ⟨h2,trivial,trivial⟩)
theorem many_d (k : Int) (H : AHeap) : D Tryz.prog 213 [.sc (.int .u8 k)] H (.ret (.agg [.lst 1 [.sc (.int .u8 k)] (some []),.sc (.bool true)])) H:=by
 refine D_of_DK (Nat.le_refl _) (dk213 (E_of_ES ?_))
 simp only[ic213,ux]
 simp -implicitDefEqProofs (maxSteps:=99999999) (disch:=first | omega | (simp only[vl];first | done | omega)) only[vu,va,vg,vs,vw,vk,simprocAttr]
 exact weak_over (.cons .refl) (.same ⟨⟨⟨trivial,trivial⟩,trivial⟩,trivial,trivial⟩)
theorem mVal_idN {q : IntKind} {k : Int} {z : AV} {M : List (Int × AV)} : mVal (.int q k) z (mI q idN M)=(iGet k M).getD z:=by
 rw[mVal_mI]
 cases iGet k M <;> rfl
theorem mHas_idN {q : IntKind} {k : Int} {M : List (Int × AV)} : (decide (mIdx (.int q k) (mI q idN M) < M.length))=(iGet k M).isSome:=by rw[mIdx_mI];exact iIdx_lt
set_option maxHeartbeats 0 in
theorem rows_d (k : Int) (H : AHeap) : D Tryz.prog 198 [.sc (.int .u8 k)] H (.ret (.tup [rwA (rowG k),.sc (.bool (rowR k).isSome)])) H:=by
 have ok:=mI_okT (α:=AV)
 have g1:=fun (n : Int) (H : AHeap)=>many_d n H
 have g2:=fun (x : AV) (H : AHeap)=>one_d x H
 have c1 : callable Tryz.prog 212=true:=by kernel_rfl
 have c2 : callable Tryz.prog 213=true:=by kernel_rfl
 refine D_of_DK (Nat.le_refl _) (dk198 (E_of_ES ?_))
 simp only[ic198,ux]
 refine ES_seq_gen fun L hL=>?_
 simp -implicitDefEqProofs (maxSteps:=99999999) (disch:=first | omega | (simp only[vl];first | done | omega)) only[vu,va,vg,vs,vw,vk,simprocAttr]
 refine hL _ _ ?_
 clear hL
 refine ES_seq_gen fun L hL=>?_
 simp -implicitDefEqProofs (maxSteps:=99999999) (disch:=first | omega | (simp only[vl];first | done | omega)) only[vu,va,vg,vs,vw,vk,simprocAttr]
 refine hL _ _ ?_
 clear hL
 refine ES_seq_gen fun L hL=>?_
 simp -implicitDefEqProofs (maxSteps:=99999999) (disch:=first | omega | (simp only[vl];first | done | omega)) only[vu,va,vg,vs,vw,vk,simprocAttr]
 refine hL _ _ ?_
 clear hL
 refine ES_seq_gen fun L hL=>?_
 simp -implicitDefEqProofs (maxSteps:=99999999) (disch:=first | omega | (simp only[vl];first | done | omega)) only[vu,c1,c2,va,vg,vs,vw,vk,simprocAttr]
 refine callR_ret (g1 _ _) ?_
 simp -implicitDefEqProofs (maxSteps:=99999999) (disch:=first | omega | (simp only[vl];first | done | omega)) only[vu,c1,c2,ok,mPutN,mPutN0,iSetL_cons,iSetL_nil,va,vg,vs,vw,vk,simprocAttr]
 refine callR_ret (g2 _ _ ⟨rfl,rfl,rfl,rfl⟩ (by simp[AV.ids,AV.idsL,AV.idsM])) ?_
 simp -implicitDefEqProofs (maxSteps:=99999999) (disch:=first | omega | (simp only[vl];first | done | omega)) only[vu,c1,c2,ok,mPutN,mPutN0,iSetL_cons,iSetL_nil,va,vg,vs,vw,vk,simprocAttr]
 refine callR_ret (g1 _ _) ?_
 simp -implicitDefEqProofs (maxSteps:=99999999) (disch:=first | omega | (simp only[vl];first | done | omega)) only[vu,c1,c2,ok,mPutN,mPutN0,iSetL_cons,iSetL_nil,va,vg,vs,vw,vk,simprocAttr]
 refine callR_ret (g2 _ _ ⟨rfl,rfl,rfl,rfl⟩ (by simp[AV.ids,AV.idsL,AV.idsM])) ?_
 simp -implicitDefEqProofs (maxSteps:=99999999) (disch:=first | omega | (simp only[vl];first | done | omega)) only[vu,c1,c2,ok,mPutN,mPutN0,iSetL_cons,iSetL_nil,va,vg,vs,vw,vk,simprocAttr]
 refine callR_ret (g1 _ _) ?_
 simp -implicitDefEqProofs (maxSteps:=99999999) (disch:=first | omega | (simp only[vl];first | done | omega)) only[vu,c1,c2,ok,mPutN,mPutN0,iSetL_cons,iSetL_nil,va,vg,vs,vw,vk,simprocAttr]
 refine callR_ret (g2 _ _ ⟨rfl,rfl,rfl,rfl⟩ (by simp[AV.ids,AV.idsL,AV.idsM])) ?_
 simp -implicitDefEqProofs (maxSteps:=99999999) (disch:=first | omega | (simp only[vl];first | done | omega)) only[vu,c1,c2,ok,mPutN,mPutN0,iSetL_cons,iSetL_nil,va,vg,vs,vw,vk,simprocAttr]
 refine callR_ret (g2 _ _ ⟨rfl,rfl,rfl,rfl⟩ (by simp[AV.ids,AV.idsL,AV.idsM])) ?_
 simp -implicitDefEqProofs (maxSteps:=99999999) (disch:=first | omega | (simp only[vl];first | done | omega)) only[vu,c1,c2,ok,mPutN,mPutN0,iSetL_cons,iSetL_nil,va,vg,vs,vw,vk,simprocAttr]
 refine callR_ret (g2 _ _ ⟨rfl,rfl,rfl,rfl⟩ (by simp[AV.ids,AV.idsL,AV.idsM])) ?_
 simp -implicitDefEqProofs (maxSteps:=99999999) (disch:=first | omega | (simp only[vl];first | done | omega)) only[vu,c1,c2,ok,mPutN,mPutN0,iSetL_cons,iSetL_nil,va,vg,vs,vw,vk,simprocAttr]
 refine callR_ret (g2 _ _ ⟨rfl,rfl,rfl,rfl⟩ (by simp[AV.ids,AV.idsL,AV.idsM])) ?_
 simp -implicitDefEqProofs (maxSteps:=99999999) (disch:=first | omega | (simp only[vl];first | done | omega)) only[vu,c1,c2,ok,mPutN,mPutN0,iSetL_cons,iSetL_nil,va,vg,vs,vw,vk,simprocAttr]
 refine callR_ret (g2 _ _ ⟨rfl,rfl,rfl,rfl⟩ (by simp[AV.ids,AV.idsL,AV.idsM])) ?_
 simp -implicitDefEqProofs (maxSteps:=99999999) (disch:=first | omega | (simp only[vl];first | done | omega)) only[vu,c1,c2,ok,mPutN,mPutN0,iSetL_cons,iSetL_nil,va,vg,vs,vw,vk,simprocAttr]
 refine callR_ret (g2 _ _ ⟨rfl,rfl,rfl,rfl⟩ (by simp[AV.ids,AV.idsL,AV.idsM])) ?_
 simp -implicitDefEqProofs (maxSteps:=99999999) (disch:=first | omega | (simp only[vl];first | done | omega)) only[vu,c1,c2,ok,mPutN,mPutN0,iSetL_cons,iSetL_nil,va,vg,vs,vw,vk,simprocAttr]
 refine callR_ret (g2 _ _ ⟨rfl,rfl,rfl,rfl⟩ (by simp[AV.ids,AV.idsL,AV.idsM])) ?_
 simp -implicitDefEqProofs (maxSteps:=99999999) (disch:=first | omega | (simp only[vl];first | done | omega)) only[vu,c1,c2,ok,mPutN,mPutN0,iSetL_cons,iSetL_nil,va,vg,vs,vw,vk,simprocAttr]
 refine callR_ret (g2 _ _ ⟨rfl,rfl,rfl,rfl⟩ (by simp[AV.ids,AV.idsL,AV.idsM])) ?_
 simp -implicitDefEqProofs (maxSteps:=99999999) (disch:=first | omega | (simp only[vl];first | done | omega)) only[vu,c1,c2,ok,mPutN,mPutN0,iSetL_cons,iSetL_nil,va,vg,vs,vw,vk,simprocAttr]
 refine callR_ret (g2 _ _ ⟨rfl,rfl,rfl,rfl⟩ (by simp[AV.ids,AV.idsL,AV.idsM])) ?_
 simp -implicitDefEqProofs (maxSteps:=99999999) (disch:=first | omega | (simp only[vl];first | done | omega)) only[vu,c1,c2,ok,mPutN,mPutN0,iSetL_cons,iSetL_nil,va,vg,vs,vw,vk,simprocAttr]
 refine callR_ret (g2 _ _ ⟨rfl,rfl,rfl,rfl⟩ (by simp[AV.ids,AV.idsL,AV.idsM])) ?_
 simp -implicitDefEqProofs (maxSteps:=99999999) (disch:=first | omega | (simp only[vl];first | done | omega)) only[vu,c1,c2,ok,mPutN,mPutN0,iSetL_cons,iSetL_nil,va,vg,vs,vw,vk,simprocAttr]
 refine callR_ret (g2 _ _ ⟨rfl,rfl,rfl,rfl⟩ (by simp[AV.ids,AV.idsL,AV.idsM])) ?_
 simp -implicitDefEqProofs (maxSteps:=99999999) (disch:=first | omega | (simp only[vl];first | done | omega)) only[vu,c1,c2,ok,mPutN,mPutN0,iSetL_cons,iSetL_nil,va,vg,vs,vw,vk,simprocAttr]
 refine callR_ret (g2 _ _ ⟨rfl,rfl,rfl,rfl⟩ (by simp[AV.ids,AV.idsL,AV.idsM])) ?_
 simp -implicitDefEqProofs (maxSteps:=99999999) (disch:=first | omega | (simp only[vl];first | done | omega)) only[vu,c1,c2,ok,mPutN,mPutN0,iSetL_cons,iSetL_nil,va,vg,vs,vw,vk,simprocAttr]
 refine callR_ret (g1 _ _) ?_
 simp -implicitDefEqProofs (maxSteps:=99999999) (disch:=first | omega | (simp only[vl];first | done | omega)) only[vu,c1,c2,ok,mPutN,mPutN0,iSetL_cons,iSetL_nil,va,vg,vs,vw,vk,simprocAttr]
 refine callR_ret (g2 _ _ ⟨rfl,rfl,rfl,rfl⟩ (by simp[AV.ids,AV.idsL,AV.idsM])) ?_
 simp -implicitDefEqProofs (maxSteps:=99999999) (disch:=first | omega | (simp only[vl];first | done | omega)) only[vu,c1,c2,ok,mPutN,mPutN0,iSetL_cons,iSetL_nil,va,vg,vs,vw,vk,simprocAttr]
 refine callR_ret (g2 _ _ ⟨rfl,rfl,rfl,rfl⟩ (by simp[AV.ids,AV.idsL,AV.idsM])) ?_
 simp -implicitDefEqProofs (maxSteps:=99999999) (disch:=first | omega | (simp only[vl];first | done | omega)) only[vu,c1,c2,ok,mPutN,mPutN0,iSetL_cons,iSetL_nil,va,vg,vs,vw,vk,simprocAttr]
 refine callR_ret (g2 _ _ ⟨rfl,rfl,rfl,rfl⟩ (by simp[AV.ids,AV.idsL,AV.idsM])) ?_
 simp -implicitDefEqProofs (maxSteps:=99999999) (disch:=first | omega | (simp only[vl];first | done | omega)) only[vu,c1,c2,ok,mPutN,mPutN0,iSetL_cons,iSetL_nil,va,vg,vs,vw,vk,simprocAttr]
 refine callR_ret (g2 _ _ ⟨rfl,rfl,rfl,rfl⟩ (by simp[AV.ids,AV.idsL,AV.idsM])) ?_
 have hget:=rows_get k
 have hsome:=(mHas_idN (q:=.u8) (k:=k) (M:=rowsA)).trans (rows_some k)
 rw[show rowsA.length=22 from rfl] at hsome
 obtain ⟨x,b,hR⟩ : ∃ x b,rwA (rowG k) = .agg [x,.sc (.bool b)]:=⟨_,_,rfl⟩
 have hx : x.ids (· < H.length) ∧ x.isAgg=false ∧ x.isTop=false ∧ x.ncells=1 ∧ x.cells=[x]:=by
  have e : x=klA (rowG k).1:=by unfold rwA at hR;cases hR;rfl
  rw[e]
  unfold klA
  split
  ·exact ⟨⟨trivial,trivial⟩,rfl,rfl,rfl,rfl⟩
  ·exact ⟨⟨AV.idsL_iff.2 (by intro y hy;obtain ⟨n,_,rfl⟩:=List.mem_map.1 hy;trivial),trivial⟩,rfl,rfl,rfl,rfl⟩
 rw[hR] at hget
 generalize (rowR k).isSome=s at *
 simp only[rowsA,rowsL,rwA,klA,List.map_cons,List.map_nil,reduceCtorEq,if_false,if_true] at hget hsome
 simp -implicitDefEqProofs (maxSteps:=99999999) (disch:=first | omega | (simp only[vl];first | done | omega)) only[vu,c1,c2,ok,mPutN,mPutN0,iSetL_cons,iSetL_nil,mVal_idN,mI_length,hget,hsome,hx.2.1,hx.2.2.1,hx.2.2.2.1,hx.2.2.2.2,va,vg,vs,vw,vk,simprocAttr]
 refine hL _ _ ?_
 clear hL
 simp -implicitDefEqProofs (maxSteps:=99999999) (disch:=first | omega | (simp only[vl];first | done | omega)) only[vu,hx.2.1,hx.2.2.1,hx.2.2.2.1,hx.2.2.2.2,va,vg,vs,vw,vk,simprocAttr]
 rw[hR]
 refine weak_over (.cons (.cons (.cons .refl))) (.same ?_)
 exact ⟨⟨hx.1,trivial,trivial⟩,trivial,trivial⟩
end Go.Proofs.YtdjnccnecgblmaaGreatDoor
namespace Go.Proofs.YtdjnccnecgblmaaGreatDoor
open Go.RowKit
set_option maxRecDepth 100000
set_option linter.unusedVariables false
set_option linter.unusedSimpArgs false
def kds (l : List Int) : List AV:=l.map fun n=>.sc (.int .u8 n)
theorem kds_length (l : List Int) : (kds l).length=l.length:=by simp[kds]
def nthK (xs : List Int) (k : Nat) : Int:=xs.getD k 0
theorem kds_get {l : List Int} {k : Nat} (h : k < l.length) : (kds l).getD k .top = .sc (.int .u8 (nthK l k)):=by
 simp[kds,nthK,List.getD,h]
def memK (l : List Int) (s : Int) : Bool:=l.any fun x=>decide (x=s)
def idxK (l : List Int) (s : Int) : Int:=if memK l s=true then (l.findIdx (fun x=>decide (x=s)) : Nat) else -1
theorem nthK_get {l : List Int} {k : Nat} (h : k < l.length) : nthK l k=l[k]:=by simp[nthK,List.getD,h]
theorem memK_at {l : List Int} {s : Int} {k : Nat} (h : k < l.length) (h1 : nthK l k=s) : memK l s=true:=by
 rw[nthK_get h] at h1
 exact List.any_eq_true.2 ⟨l[k],List.getElem_mem h,by simp[h1]⟩
theorem memK_none {l : List Int} {s : Int} (h2 : ∀ j,j < l.length→¬ nthK l j=s) : memK l s=false:=by
 cases h : memK l s
 ·rfl
 ·obtain ⟨x,hx,e⟩:=List.any_eq_true.1 h
  obtain ⟨j,hj,rfl⟩:=List.getElem_of_mem hx
  exact absurd (by rw[nthK_get hj];simpa using e) (h2 j hj)
theorem idxK_at {l : List Int} {s : Int} {k : Nat} (h : k < l.length) (h1 : nthK l k=s) (h2 : ∀ j,j < k→¬ nthK l j=s) : idxK l s=k:=by
 unfold idxK
 rw[if_pos (memK_at h h1),(List.findIdx_eq h).2 ⟨by rw[nthK_get h] at h1;simp[h1],fun j hj=>?_⟩]
 have:=h2 j hj
 rw[nthK_get (by omega)] at this
 simp[this]
theorem idxK_none {l : List Int} {s : Int} (h2 : ∀ j,j < l.length→¬ nthK l j=s) : idxK l s=-1:=by
 unfold idxK
 rw[memK_none h2]
 rfl
theorem idxK_ge (l : List Int) (s : Int) : decide (idxK l s ≥ 0)=memK l s:=by
 unfold idxK
 cases memK l s <;> simp
set_option maxHeartbeats 4000000 in
theorem indexK_d (l : List Int) (ro : Option (List AV)) (s : Int) (hl : l.length ≤ 1000000) (H : AHeap) : D Tryz.prog 230 [.lst 1 (kds l) ro,.sc (.int .u8 s)] H (.ret (.sc (.int .i64 (idxK l s)))) H:=by
 refine D_of_DK (Nat.le_refl _) (dk230 (E_of_ES ?_))
 simp only[ic230,ux]
 refine ES_seq_gen fun L hL=>?_
 simp -implicitDefEqProofs (maxSteps:=99999999) (disch:=first | omega | (simp only[vl];first | done | omega)) only[kds_length,va,vg,vs,vw,vk,simprocAttr]
 refine hL _ _ ?_
 clear hL
 refine ES_seq_gen fun L hL=>?_
 simp -implicitDefEqProofs (maxSteps:=99999999) (disch:=first | omega | (simp only[vl];first | done | omega)) only[kds_length,va,vg,vs,vw,vk,simprocAttr]
 refine ES_loopL (fun ts F=>∃ k : Nat,(k ≤ l.length ∧ ∀ j,j < k→¬ nthK l j=s) ∧ F=H ∧ Fr [some (.lst 1 (kds l) ro),some (.sc (.int .u8 s)),none,none,none,none,none,some (.sc (.int .i64 l.length)),some (.sc (.int .i64 k)),none,none,none,none,none,none,none,none,none,none] ts) (fun ts _=>l.length - (intV (ts.getD 8 .top)).toNat) ?_ ?_
 ·exact ⟨0,⟨Nat.zero_le _,fun j h=>absurd h (Nat.not_lt_zero _)⟩,rfl,by simp[Fr]⟩
 rintro ts F ⟨k,⟨hk,hp⟩,rfl,hfr⟩ L2 hL2
 obtain ⟨js,rfl⟩:=hfr.opened
 clear hfr
 by_cases hd : k < l.length
 ·have c1 : (k : Int) < l.length:=by omega
  have hg:=kds_get hd
  by_cases e : s=nthK l k
  ·have hi:=idxK_at hd e.symm hp
   simp -implicitDefEqProofs (maxSteps:=99999999) (disch:=first | omega | (simp only[vl];first | done | omega)) only[mk,c1,hg,kds_length,← e,va,vg,vs,vw,vk,simprocAttr]
   rw[hi]
   exact ⟨by omega,weak_sc .refl⟩
  ·simp -implicitDefEqProofs (maxSteps:=99999999) (disch:=first | omega | (simp only[vl];first | done | omega)) only[mk,c1,hg,kds_length,e,va,vg,vs,vw,vk,simprocAttr]
   refine ⟨by omega,hL2 _ _ ⟨k+1,⟨by omega,fun j hj=>?_⟩,rfl,by simp[Fr]⟩ (by simp[intV,mk];omega)⟩
   rcases Nat.lt_succ_iff_lt_or_eq.1 hj with h' | rfl
   ·exact hp j h'
   ·exact fun h=>e h.symm
 ·have c1 : ¬ (k : Int) < l.length:=by omega
  have hi:=idxK_none fun j hj=>hp j (by omega)
  simp -implicitDefEqProofs (maxSteps:=99999999) (disch:=first | omega | (simp only[vl];first | done | omega)) only[mk,c1,va,vg,vs,vw,vk,simprocAttr]
  refine hL _ _ ?_
  clear hL
  simp -implicitDefEqProofs (maxSteps:=99999999) (disch:=first | omega | (simp only[vl];first | done | omega)) only[va,vg,vs,vw,vk,simprocAttr]
  rw[hi]
  exact weak_sc .refl
theorem containsK_d (l : List Int) (ro : Option (List AV)) (s : Int) (hl : l.length ≤ 1000000) (H : AHeap) : D Tryz.prog 224 [.lst 1 (kds l) ro,.sc (.int .u8 s)] H (.ret (.sc (.bool (memK l s)))) H:=by
 refine D_of_DK (Nat.le_refl _) (dk224 (E_of_ES ?_))
 have he:=idxK_ge l s
 simp -implicitDefEqProofs (maxSteps:=99999999) (disch:=first | omega | (simp only[vl];first | done | omega)) only[vu,ic224,va,vg,vs,vw,vk,simprocAttr]
 refine callR_ret (indexK_d l ro s hl _) ?_
 simp -implicitDefEqProofs (maxSteps:=99999999) (disch:=first | omega | (simp only[vl];first | done | omega)) only[vu,va,vg,vs,vw,vk,simprocAttr]
 exact over_bN .refl he
def memS (l : List ByteArray) (s : ByteArray) : Bool:=l.any fun x=>decide (x=s)
def idxS (l : List ByteArray) (s : ByteArray) : Int:=if memS l s=true then (l.findIdx (fun x=>decide (x=s)) : Nat) else -1
theorem nthS_get {l : List ByteArray} {k : Nat} (h : k < l.length) : nthS l k=l[k]:=by simp[nthS,List.getD,h]
theorem memS_at {l : List ByteArray} {s : ByteArray} {k : Nat} (h : k < l.length) (h1 : nthS l k=s) : memS l s=true:=by
 rw[nthS_get h] at h1
 exact List.any_eq_true.2 ⟨l[k],List.getElem_mem h,by simp[h1]⟩
theorem memS_none {l : List ByteArray} {s : ByteArray} (h2 : ∀ j,j < l.length→¬ nthS l j=s) : memS l s=false:=by
 cases h : memS l s
 ·rfl
 ·obtain ⟨x,hx,e⟩:=List.any_eq_true.1 h
  obtain ⟨j,hj,rfl⟩:=List.getElem_of_mem hx
  exact absurd (by rw[nthS_get hj];simpa using e) (h2 j hj)
theorem idxS_at {l : List ByteArray} {s : ByteArray} {k : Nat} (h : k < l.length) (h1 : nthS l k=s) (h2 : ∀ j,j < k→¬ nthS l j=s) : idxS l s=k:=by
 unfold idxS
 rw[if_pos (memS_at h h1),(List.findIdx_eq h).2 ⟨by rw[nthS_get h] at h1;simp[h1],fun j hj=>?_⟩]
 have:=h2 j hj
 rw[nthS_get (by omega)] at this
 simp[this]
theorem idxS_none {l : List ByteArray} {s : ByteArray} (h2 : ∀ j,j < l.length→¬ nthS l j=s) : idxS l s=-1:=by
 unfold idxS
 rw[memS_none h2]
 rfl
theorem idxS_ge (l : List ByteArray) (s : ByteArray) : decide (idxS l s ≥ 0)=memS l s:=by
 unfold idxS
 cases memS l s <;> simp
set_option maxHeartbeats 4000000 in
theorem indexS_d (l : List ByteArray) (ro : Option (List AV)) (s : ByteArray) (hl : l.length ≤ 1000000) (H : AHeap) : D Tryz.prog 195 [.lst 1 (strs l) ro,.sc (.string s)] H (.ret (.sc (.int .i64 (idxS l s)))) H:=by
 refine D_of_DK (Nat.le_refl _) (dk195 (E_of_ES ?_))
 simp only[ic195,ux]
 refine ES_seq_gen fun L hL=>?_
 simp -implicitDefEqProofs (maxSteps:=99999999) (disch:=first | omega | (simp only[vl];first | done | omega)) only[strs_length,va,vg,vs,vw,vk,simprocAttr]
 refine hL _ _ ?_
 clear hL
 refine ES_seq_gen fun L hL=>?_
 simp -implicitDefEqProofs (maxSteps:=99999999) (disch:=first | omega | (simp only[vl];first | done | omega)) only[strs_length,va,vg,vs,vw,vk,simprocAttr]
 refine ES_loopL (fun ts F=>∃ k : Nat,(k ≤ l.length ∧ ∀ j,j < k→¬ nthS l j=s) ∧ F=H ∧ Fr [some (.lst 1 (strs l) ro),some (.sc (.string s)),none,none,none,none,none,some (.sc (.int .i64 l.length)),some (.sc (.int .i64 k)),none,none,none,none,none,none,none,none,none,none] ts) (fun ts _=>l.length - (intV (ts.getD 8 .top)).toNat) ?_ ?_
 ·exact ⟨0,⟨Nat.zero_le _,fun j h=>absurd h (Nat.not_lt_zero _)⟩,rfl,by simp[Fr]⟩
 rintro ts F ⟨k,⟨hk,hp⟩,rfl,hfr⟩ L2 hL2
 obtain ⟨js,rfl⟩:=hfr.opened
 clear hfr
 by_cases hd : k < l.length
 ·have c1 : (k : Int) < l.length:=by omega
  have hg:=strs_get hd
  by_cases e : s=nthS l k
  ·have hi:=idxS_at hd e.symm hp
   simp -implicitDefEqProofs (maxSteps:=99999999) (disch:=first | omega | (simp only[vl];first | done | omega)) only[mk,c1,hg,strs_length,← e,va,vg,vs,vw,vk,simprocAttr]
   rw[hi]
   exact ⟨by omega,weak_sc .refl⟩
  ·simp -implicitDefEqProofs (maxSteps:=99999999) (disch:=first | omega | (simp only[vl];first | done | omega)) only[mk,c1,hg,strs_length,e,va,vg,vs,vw,vk,simprocAttr]
   refine ⟨by omega,hL2 _ _ ⟨k+1,⟨by omega,fun j hj=>?_⟩,rfl,by simp[Fr]⟩ (by simp[intV,mk];omega)⟩
   rcases Nat.lt_succ_iff_lt_or_eq.1 hj with h' | rfl
   ·exact hp j h'
   ·exact fun h=>e h.symm
 ·have c1 : ¬ (k : Int) < l.length:=by omega
  have hi:=idxS_none fun j hj=>hp j (by omega)
  simp -implicitDefEqProofs (maxSteps:=99999999) (disch:=first | omega | (simp only[vl];first | done | omega)) only[mk,c1,va,vg,vs,vw,vk,simprocAttr]
  refine hL _ _ ?_
  clear hL
  simp -implicitDefEqProofs (maxSteps:=99999999) (disch:=first | omega | (simp only[vl];first | done | omega)) only[va,vg,vs,vw,vk,simprocAttr]
  rw[hi]
  exact weak_sc .refl
theorem containsS_d (l : List ByteArray) (ro : Option (List AV)) (s : ByteArray) (hl : l.length ≤ 1000000) (H : AHeap) : D Tryz.prog 156 [.lst 1 (strs l) ro,.sc (.string s)] H (.ret (.sc (.bool (memS l s)))) H:=by
 refine D_of_DK (Nat.le_refl _) (dk156 (E_of_ES ?_))
 have he:=idxS_ge l s
 simp -implicitDefEqProofs (maxSteps:=99999999) (disch:=first | omega | (simp only[vl];first | done | omega)) only[vu,ic156,va,vg,vs,vw,vk,simprocAttr]
 refine callR_ret (indexS_d l ro s hl _) ?_
 simp -implicitDefEqProofs (maxSteps:=99999999) (disch:=first | omega | (simp only[vl];first | done | omega)) only[vu,va,vg,vs,vw,vk,simprocAttr]
 exact over_bN .refl he
end Go.Proofs.YtdjnccnecgblmaaGreatDoor
namespace Go.Proofs.YtdjnccnecgblmaaGreatDoor
open Go.RowKit
set_option maxRecDepth 100000
set_option linter.unusedVariables false
set_option linter.unusedSimpArgs false
theorem klA_kds {l : List Int} (h : l ≠ []) : klA l = .lst 1 (kds l) (some []):=if_neg h
theorem is_d (k f : Int) (H : AHeap) : D Tryz.prog 216 [.sc (.int .u8 k),.sc (.int .u8 f)] H (.ret (.sc (.bool (isP k f)))) H:=by
 refine D_of_DK (Nat.le_refl _) (dk216 (E_of_ES ?_))
 simp only[ic216,ux]
 by_cases c1 : f=200
 ·by_cases g1 : k ≥ 20
  ·simp -implicitDefEqProofs (maxSteps:=99999999) (disch:=first | omega | (simp only[vl];first | done | omega)) only[vu,c1,g1,va,vg,vs,vw,vk,simprocAttr]
   exact over_bN .refl (by simp[isP,c1,exprP];intro;omega)
  ·simp -implicitDefEqProofs (maxSteps:=99999999) (disch:=first | omega | (simp only[vl];first | done | omega)) only[vu,c1,g1,va,vg,vs,vw,vk,simprocAttr]
   exact over_bN .refl (by simp[isP,c1,exprP];omega)
 by_cases c2 : f=201
 ·by_cases g1 : k ≥ 6
  ·by_cases g2 : k ≤ 12
   ·simp -implicitDefEqProofs (maxSteps:=99999999) (disch:=first | omega | (simp only[vl];first | done | omega)) only[vu,c2,g1,g2,va,vg,vs,vw,vk,simprocAttr]
    exact over_bN .refl (by simp[isP,c2,stmtP];omega)
   ·simp -implicitDefEqProofs (maxSteps:=99999999) (disch:=first | omega | (simp only[vl];first | done | omega)) only[vu,c2,g1,g2,va,vg,vs,vw,vk,simprocAttr]
    exact over_bN .refl (by simp[isP,c2,stmtP];omega)
  ·simp -implicitDefEqProofs (maxSteps:=99999999) (disch:=first | omega | (simp only[vl];first | done | omega)) only[vu,c2,g1,va,vg,vs,vw,vk,simprocAttr]
   exact over_bN .refl (by simp[isP,c2,stmtP];omega)
 by_cases c3 : f=202
 ·by_cases g1 : k=22
  ·simp -implicitDefEqProofs (maxSteps:=99999999) (disch:=first | omega | (simp only[vl];first | done | omega)) only[vu,c3,g1,va,vg,vs,vw,vk,simprocAttr]
   exact over_bN .refl (by simp[isP,c3,g1])
  ·simp -implicitDefEqProofs (maxSteps:=99999999) (disch:=first | omega | (simp only[vl];first | done | omega)) only[vu,c3,g1,va,vg,vs,vw,vk,simprocAttr]
   exact over_bN .refl (by simp[isP,c3,g1])
 simp -implicitDefEqProofs (maxSteps:=99999999) (disch:=first | omega | (simp only[vl];first | done | omega)) only[vu,c1,c2,c3,va,vg,vs,vw,vk,simprocAttr]
 exact over_bN .refl (by simp[isP,c1,c2,c3])
theorem rowG_all {p : Int} (h : (rowG p).2=true) : (rowG p).1 ≠ []:=by
 rcases rowR_cases p with ⟨hn,_⟩ | hm
 ·unfold rowG at h;rw[hn] at h;cases h
 ·simp only[rowsL,List.map_cons,List.map_nil,List.mem_cons,List.not_mem_nil,or_false] at hm
  rcases hm with rfl | rfl | rfl | rfl | rfl | rfl | rfl | rfl | rfl | rfl | rfl | rfl | rfl | rfl | rfl | rfl | rfl | rfl | rfl | rfl | rfl | rfl <;> first | (exact absurd h (by decide)) | (simp[rowG,rowR,rowsL,iGet])
theorem klA_len (l : List Int) : lenN (klA l)=l.length ∧ lenOk (klA l) ∧ (klA l).isTop=false ∧ (klA l).isAgg=false ∧ (klA l).ncells=1 ∧ (klA l).cells=[klA l]:=by
 unfold klA
 split
 ·rename_i h;subst h;exact ⟨rfl,trivial,rfl,rfl,rfl,rfl⟩
 ·exact ⟨by simp[lenN],trivial,rfl,rfl,rfl,rfl⟩
set_option maxHeartbeats 4000000 in
theorem fits_d (p k a : Int) (H : AHeap) : D Tryz.prog 200 [.sc (.int .u8 p),.sc (.int .u8 k),.sc (.int .i64 a)] H (.ret (.sc (.bool (fitsP p k a)))) H:=by
 refine D_of_DK (Nat.le_refl _) (dk200 (E_of_ES ?_))
 simp only[ic200,ux]
 have hr:=rows_d p
 unfold rwA at hr
 have hP : fitsP p k a=if a < 0 then false else if (rowG p).2 then isP k ((rowG p).1.getD 0 0) else decide (a < (rowG p).1.length) && isP k ((rowG p).1.getD a.toNat 0):=rfl
 have hall:=rowG_all (p:=p)
 generalize (rowR p).isSome=s at *
 obtain ⟨l,b,hG⟩ : ∃ l b,rowG p=(l,b):=⟨_,_,rfl⟩
 rw[hG] at hr hP hall
 simp only at hr hP hall
 obtain ⟨k1,k2,k3,k4,k5,k6⟩:=klA_len l
 refine ES_seq_gen fun L hL=>?_
 simp -implicitDefEqProofs (maxSteps:=99999999) (disch:=first | omega | (simp only[vl];first | done | omega)) only[vu,va,vg,vs,vw,vk,simprocAttr]
 refine hL _ _ ?_
 clear hL
 refine ES_seq_gen fun L hL=>?_
 simp -implicitDefEqProofs (maxSteps:=99999999) (disch:=first | omega | (simp only[vl];first | done | omega)) only[vu,va,vg,vs,vw,vk,simprocAttr]
 refine callR_ret (hr _) ?_
 simp -implicitDefEqProofs (maxSteps:=99999999) (disch:=first | omega | (simp only[vl];first | done | omega)) only[vu,k3,k4,k5,k6,va,vg,vs,vw,vk,simprocAttr]
 refine hL _ _ ?_
 clear hL
 refine ES_seq_gen fun L hL=>?_
 by_cases c1 : a < 0
 ·simp -implicitDefEqProofs (maxSteps:=99999999) (disch:=first | omega | (simp only[vl];first | done | omega)) only[vu,c1,k3,k4,k5,k6,va,vg,vs,vw,vk,simprocAttr]
  exact over_bN (.cons .refl) (by rw[hP,if_pos c1])
 rw[if_neg c1] at hP
 cases b
 case true =>
  have hne:=hall rfl
  obtain ⟨x,r,rfl⟩:=List.exists_cons_of_ne_nil hne
  rw[klA_kds hne] at *
  simp -implicitDefEqProofs (maxSteps:=99999999) (disch:=first | omega | (simp only[vl];first | done | omega)) only[vu,c1,kds_length,kds,List.map_cons,va,vg,vs,vw,vk,simprocAttr]
  refine ⟨by omega,callR_ret (is_d _ _ _) ?_⟩
  simp -implicitDefEqProofs (maxSteps:=99999999) (disch:=first | omega | (simp only[vl];first | done | omega)) only[vu,va,vg,vs,vw,vk,simprocAttr]
  exact over_bN (.cons .refl) (by rw[hP];rfl)
 case false =>
  simp only[Bool.false_eq_true,if_false] at hP
  simp -implicitDefEqProofs (maxSteps:=99999999) (disch:=first | omega | (simp only[vl];first | done | omega)) only[vu,c1,k3,k4,k5,k6,va,vg,vs,vw,vk,simprocAttr]
  refine hL _ _ ?_
  clear hL
  by_cases c2 : a < l.length
  ·have hne : l ≠ []:=fun e=>by rw[e] at c2;simp at c2;omega
   obtain ⟨n,rfl⟩ : ∃ n : Nat,a=n:=⟨a.toNat,by omega⟩
   have hn : n < l.length:=by omega
   rw[klA_kds hne] at *
   simp -implicitDefEqProofs (maxSteps:=99999999) (disch:=first | omega | (simp only[vl];first | done | omega)) only[vu,c2,kds_length,kds_get hn,va,vg,vs,vw,vk,simprocAttr]
   refine ⟨by omega,callR_ret (is_d _ _ _) ?_⟩
   simp -implicitDefEqProofs (maxSteps:=99999999) (disch:=first | omega | (simp only[vl];first | done | omega)) only[vu,va,vg,vs,vw,vk,simprocAttr]
   exact over_bN (.cons .refl) (by rw[hP];simp[c2,hn,nthK])
  ·simp -implicitDefEqProofs (maxSteps:=99999999) (disch:=first | omega | (simp only[vl];first | done | omega)) only[vu,c2,k1,k2,k3,k4,k5,k6,va,vg,vs,vw,vk,simprocAttr]
   exact over_bN (.cons .refl) (by rw[hP];simp[c2])
theorem namedP_eq (k : Int) : memK [2,4,6,22,25] k=namedP k:=by
 simp[memK,namedP,eq_comm,Bool.or_assoc]
theorem named_d (k : Int) (H : AHeap) : D Tryz.prog 215 [.sc (.int .u8 k)] H (.ret (.sc (.bool (namedP k)))) H:=by
 refine D_of_DK (Nat.le_refl _) (dk215 (E_of_ES ?_))
 simp only[ic215,ux]
 have hc:=containsK_d [2,4,6,22,25] (some []) k (by decide)
 rw[show kds [2,4,6,22,25]=[.sc (.int .u8 2),.sc (.int .u8 4),.sc (.int .u8 6),.sc (.int .u8 22),.sc (.int .u8 25)] from rfl] at hc
 simp -implicitDefEqProofs (maxSteps:=99999999) (disch:=first | omega | (simp only[vl];first | done | omega)) only[vu,va,vg,vs,vw,vk,simprocAttr]
 refine callR_ret (hc _) ?_
 simp -implicitDefEqProofs (maxSteps:=99999999) (disch:=first | omega | (simp only[vl];first | done | omega)) only[vu,va,vg,vs,vw,vk,simprocAttr]
 exact over_bN .refl (namedP_eq k)
end Go.Proofs.YtdjnccnecgblmaaGreatDoor
namespace Go.Proofs.YtdjnccnecgblmaaGreatDoor
open Go.RowKit
set_option maxRecDepth 100000
set_option linter.unusedVariables false
set_option linter.unusedSimpArgs false
end Go.Proofs.YtdjnccnecgblmaaGreatDoor
namespace Go.Proofs.YtdjnccnecgblmaaGreatDoor
open Go.RowKit
set_option maxRecDepth 100000
set_option linter.unusedVariables false
set_option linter.unusedSimpArgs false
def or32 (k : Int) : Int:=IntKind.u8.wrap ↑(BitVec.ofInt IntKind.u8.bits k ||| BitVec.ofInt IntKind.u8.bits 32).toNat
theorem or32_eq (k : Int) : IntKind.u8.wrap ↑(BitVec.ofInt IntKind.u8.bits k ||| BitVec.ofInt IntKind.u8.bits 32).toNat=or32 k:=rfl
def letP (k : Int) : Bool:=decide (97 ≤ or32 k ∧ or32 k ≤ 122) || decide (k=95)
def letQ (k : Int) : Bool:=decide (97 ≤ k ∧ k ≤ 122) || decide (65 ≤ k ∧ k ≤ 90) || decide (k=95)
def digQ (k : Int) : Bool:=decide (48 ≤ k ∧ k ≤ 57)
theorem let_same {k : Int} (h0 : 0 ≤ k) (h1 : k < 256) : letP k=letQ k:=by
 have h : ∀ n : Fin 256,letP (n.val : Int)=letQ (n.val : Int):=by decide +kernel
 have:=h ⟨k.toNat,by omega⟩
 rwa [show ((k.toNat : Nat) : Int)=k by omega] at this
theorem letter_d (k : Int) (H : AHeap) : D Tryz.prog 155 [.sc (.int .u8 k)] H (.ret (.sc (.bool (letP k)))) H:=by
 refine D_of_DK (Nat.le_refl _) (dk155 (E_of_ES ?_))
 simp only[ic155,ux]
 by_cases g3 : k=95
 ·subst g3
  have g1 : or32 95 ≥ 97:=by decide +kernel
  have g2 : ¬ or32 95 ≤ 122:=by decide +kernel
  simp -implicitDefEqProofs (maxSteps:=99999999) (disch:=first | omega | (simp only[vl];first | done | omega)) only[vu,or32_eq,g1,g2,va,vg,vs,vw,vk,simprocAttr]
  exact over_bN .refl (by simp[letP])
 by_cases g1 : or32 k ≥ 97
 ·by_cases g2 : or32 k ≤ 122
  ·simp -implicitDefEqProofs (maxSteps:=99999999) (disch:=first | omega | (simp only[vl];first | done | omega)) only[vu,or32_eq,g1,g2,va,vg,vs,vw,vk,simprocAttr]
   exact over_bN .refl (by simp[letP,g1,g2])
  ·simp -implicitDefEqProofs (maxSteps:=99999999) (disch:=first | omega | (simp only[vl];first | done | omega)) only[vu,or32_eq,g1,g2,g3,va,vg,vs,vw,vk,simprocAttr]
   exact over_bN .refl (by simp[letP,g2,g3])
 ·have g2 : ¬ 97 ≤ or32 k:=g1
  simp -implicitDefEqProofs (maxSteps:=99999999) (disch:=first | omega | (simp only[vl];first | done | omega)) only[vu,or32_eq,g1,g3,va,vg,vs,vw,vk,simprocAttr]
  exact over_bN .refl (by simp[letP,g2,g3])
theorem wordy_d (k : Int) (H : AHeap) : D Tryz.prog 158 [.sc (.int .u8 k)] H (.ret (.sc (.bool (letP k || digQ k)))) H:=by
 refine D_of_DK (Nat.le_refl _) (dk158 (E_of_ES ?_))
 simp only[ic158,ux]
 simp -implicitDefEqProofs (maxSteps:=99999999) (disch:=first | omega | (simp only[vl];first | done | omega)) only[vu,va,vg,vs,vw,vk,simprocAttr]
 refine callR_ret (letter_d _ _) ?_
 cases h : letP k
 ·by_cases g1 : k ≥ 48
  ·by_cases g2 : k ≤ 57
   ·simp -implicitDefEqProofs (maxSteps:=99999999) (disch:=first | omega | (simp only[vl];first | done | omega)) only[vu,g1,g2,va,vg,vs,vw,vk,simprocAttr]
    exact over_bN .refl (by simp[digQ,g2];omega)
   ·simp -implicitDefEqProofs (maxSteps:=99999999) (disch:=first | omega | (simp only[vl];first | done | omega)) only[vu,g1,g2,va,vg,vs,vw,vk,simprocAttr]
    exact over_bN .refl (by simp[digQ,g2])
  ·simp -implicitDefEqProofs (maxSteps:=99999999) (disch:=first | omega | (simp only[vl];first | done | omega)) only[vu,g1,va,vg,vs,vw,vk,simprocAttr]
   exact over_bN .refl (by simp[digQ];omega)
 ·simp -implicitDefEqProofs (maxSteps:=99999999) (disch:=first | omega | (simp only[vl];first | done | omega)) only[vu,va,vg,vs,vw,vk,simprocAttr]
  exact over_bN .refl rfl
def wordsL : List ByteArray:=[⟨#[102,117,110,99]⟩,⟨#[118,97,114]⟩,⟨#[105,102]⟩,⟨#[101,108,115,101]⟩,⟨#[119,104,105,108,101]⟩,⟨#[114,101,116,117,114,110]⟩,⟨#[112,114,105,110,116]⟩,⟨#[116,114,117,101]⟩,⟨#[102,97,108,115,101]⟩,⟨#[108,101,110]⟩,⟨#[114,101,97,100]⟩]
end Go.Proofs.YtdjnccnecgblmaaGreatDoor
