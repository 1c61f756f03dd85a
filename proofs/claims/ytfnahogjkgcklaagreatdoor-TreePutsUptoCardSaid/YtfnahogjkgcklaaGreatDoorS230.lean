import Derived.Test.YtfnahogjkgcklaaGreatDoorSA
namespace Go.Proofs.YtfnahogjkgcklaaGreatDoor
open Go.RowKit
set_option linter.unusedVariables false
set_option linter.unusedSimpArgs false
inductive Nd where
 | mk (kind : Int) (text : ByteArray) (num : Int) (kids : List Nd)
def Nd.kind : Nd→Int | ⟨k,_,_,_⟩=>k
def Nd.text : Nd→ByteArray | ⟨_,s,_,_⟩=>s
def Nd.num : Nd→Int | ⟨_,_,n,_⟩=>n
def Nd.kids : Nd→List Nd | ⟨_,_,_,l⟩=>l
theorem Nd.eta (t : Nd) : t=⟨t.kind,t.text,t.num,t.kids⟩:=by cases t;rfl
theorem Nd.ext' {a b : Nd} (h1 : a.kind=b.kind) (h2 : a.text=b.text) (h3 : a.num=b.num) (h4 : a.kids=b.kids) : a=b:=by
 cases a;cases b
 simp only[Nd.kind,Nd.text,Nd.num,Nd.kids] at h1 h2 h3 h4
 subst h1 h2 h3 h4
 rfl
mutual
def Nd.size : Nd→Nat
 | ⟨_,_,_,l⟩=>1+Nd.sizeL l
def Nd.sizeL : List Nd→Nat
 | []=>0
 | t :: r=>t.size+Nd.sizeL r
end
theorem Nd.size_eq (t : Nd) : t.size=1+Nd.sizeL t.kids:=by cases t;simp[Nd.size,Nd.kids]
theorem Nd.size_pos (t : Nd) : 0 < t.size:=by rw[Nd.size_eq];omega
theorem Nd.sizeL_mem {l : List Nd} {t : Nd} (h : t ∈ l) : t.size ≤ Nd.sizeL l:=by
 induction l with
 | nil=>cases h
 | cons x r ih =>
  rcases List.mem_cons.1 h with rfl | h
  ·simp only[Nd.sizeL];omega
  ·have:=ih h;simp only[Nd.sizeL];omega
theorem Nd.kid_lt {t k : Nd} (h : k ∈ t.kids) : k.size < t.size:=by
 have:=Nd.sizeL_mem h
 rw[Nd.size_eq t]
 omega
theorem Nd.sizeL_append (a b : List Nd) : Nd.sizeL (a ++ b)=Nd.sizeL a+Nd.sizeL b:=by
 induction a with
 | nil=>simp[Nd.sizeL]
 | cons x r ih=>simp only[List.cons_append,Nd.sizeL,ih];omega
theorem Nd.ind {p : Nd→Prop} (h : ∀ t,(∀ k ∈ t.kids,p k)→p t) (t : Nd) : p t:=by
 have key : ∀ n : Nat,∀ t : Nd,t.size ≤ n→p t:=by
  intro n
  induction n with
  | zero=>intro t ht;have:=t.size_pos;omega
  | succ n ih=>intro t ht;exact h t fun k hk=>ih k (by have:=Nd.kid_lt hk;omega)
 exact key _ t (Nat.le_refl _)
mutual
def ndA : Nd→AV
 | ⟨k,s,n,l⟩=>.agg [.sc (.int .u8 k),.sc (.string s),.sc (.int .i64 n),.lst 4 (ndL l) none]
def ndL : List Nd→List AV
 | []=>[]
 | t :: r=>ndA t :: ndL r
end
theorem ndA_eq (t : Nd) : ndA t = .agg [.sc (.int .u8 t.kind),.sc (.string t.text),.sc (.int .i64 t.num),.lst 4 (ndL t.kids) none]:=by cases t;simp[ndA,Nd.kind,Nd.text,Nd.num,Nd.kids]
theorem ndL_map (l : List Nd) : ndL l=l.map ndA:=by
 induction l with
 | nil=>rfl
 | cons x r ih=>simp[ndL,ih]
theorem ndL_length (l : List Nd) : (ndL l).length=l.length:=by simp[ndL_map]
theorem ndL_nil : ndL []=[]:=rfl
theorem ndL_cons (t : Nd) (l : List Nd) : ndL (t :: l)=ndA t :: ndL l:=by simp[ndL]
def Nd.none : Nd:=⟨0,⟨#[]⟩,0,[]⟩
def nthN (l : List Nd) (k : Nat) : Nd:=l.getD k Nd.none
theorem nthN_eq {l : List Nd} {k : Nat} (h : k < l.length) : nthN l k=l[k]:=by simp[nthN,List.getD,h]
theorem nthN_mem {l : List Nd} {k : Nat} (h : k < l.length) : nthN l k ∈ l:=by rw[nthN_eq h];exact List.getElem_mem _
theorem ndL_getA {l : List Nd} {k : Nat} (h : k < l.length) : (ndL l).getD k .top=ndA (nthN l k):=by simp[ndL_map,nthN,List.getD,h]
theorem ndL_get {l : List Nd} {k : Nat} (h : k < l.length) : (ndL l).getD k .top = .agg [.sc (.int .u8 (nthN l k).kind),.sc (.string (nthN l k).text),.sc (.int .i64 (nthN l k).num),.lst 4 (ndL (nthN l k).kids) none]:=by rw[ndL_getA h,ndA_eq]
def ndR (t : Nd) (ro : Option (List AV)) : AV:=.agg [.sc (.int .u8 t.kind),.sc (.string t.text),.sc (.int .i64 t.num),.lst 4 (ndL t.kids) ro]
theorem ndR_eq (t : Nd) (ro : Option (List AV)) : ndR t ro = .agg [.sc (.int .u8 t.kind),.sc (.string t.text),.sc (.int .i64 t.num),.lst 4 (ndL t.kids) ro]:=rfl
theorem ndR_none (t : Nd) : ndR t none=ndA t:=(ndA_eq t).symm
mutual
def sameN : Nd→Nd→Bool
 | ⟨k,s,n,l⟩,⟨k',s',n',l'⟩=>decide (k=k') && decide (s=s') && decide (n=n') && sameL l l'
def sameL : List Nd→List Nd→Bool
 | [],[]=>true
 | a :: r,b :: q=>sameN a b && sameL r q
 | _,_=>false
end
theorem sameL_of (l : List Nd) (ih : ∀ a ∈ l,∀ b,sameN a b=true ↔ a=b) : ∀ m,sameL l m=true ↔ l=m:=by
 induction l with
 | nil=>intro m;cases m <;> simp[sameL]
 | cons x r ihr =>
  intro m
  cases m with
  | nil=>simp[sameL]
  | cons y q =>
   simp only[sameL,Bool.and_eq_true,List.cons.injEq]
   rw[ih x (by simp),ihr (fun a ha=>ih a (by simp[ha]))]
theorem sameN_iff (a b : Nd) : sameN a b=true ↔ a=b:=by
 revert b
 induction a using Nd.ind with
 | _ a ih =>
  intro b
  cases a with
  | mk k s n l =>
   cases b with
   | mk k' s' n' l' =>
    simp only[sameN,Bool.and_eq_true,decide_eq_true_eq,Nd.mk.injEq]
    rw[sameL_of l ih]
    constructor
    ·rintro ⟨⟨⟨a,b⟩,c⟩,d⟩;exact ⟨a,b,c,d⟩
    ·rintro ⟨a,b,c,d⟩;exact ⟨⟨⟨a,b⟩,c⟩,d⟩
theorem sameL_iff (l m : List Nd) : sameL l m=true ↔ l=m:=sameL_of l (fun a _=>sameN_iff a) m
theorem sameN_refl (a : Nd) : sameN a a=true:=(sameN_iff a a).2 rfl
theorem sameN_eq (a b : Nd) : sameN a b=(decide (a.kind=b.kind) && decide (a.text=b.text) && decide (a.num=b.num) && sameL a.kids b.kids):=by cases a;cases b;rfl
end Go.Proofs.YtfnahogjkgcklaaGreatDoor
