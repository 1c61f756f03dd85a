import Derived.Test.YtfnahogjkgcklaaGreatDoorTA
namespace Go.Proofs.YtfnahogjkgcklaaGreatDoor
open Go.RowKit
set_option maxRecDepth 100000
set_option linter.unusedVariables false
set_option linter.unusedSimpArgs false
theorem Over.len {H G : AHeap} (h : Over H G) : H.length ≤ G.length:=by
 obtain ⟨A,rfl⟩:=h.split
 simp
theorem Over.find {H G : AHeap} (h : Over H G) {i : Nat} (hi : i < H.length) : AHeap.find G i=AHeap.find H i:=by
 obtain ⟨A,rfl⟩:=h.split
 exact AHeap.find_append hi
theorem Over.trans {A B C : AHeap} (h : Over A B) (k : Over B C) : Over A C:=by
 induction k with
 | refl=>exact h
 | cons _ ih=>exact .cons ih
theorem Nd.len_le (l : List Nd) : l.length ≤ Nd.sizeL l:=by
 induction l with
 | nil=>simp[Nd.sizeL]
 | cons x r ih=>have:=x.size_pos;simp only[List.length_cons,Nd.sizeL];omega
theorem Nd.kids_le (t : Nd) : t.kids.length < t.size:=by
 have:=Nd.len_le t.kids
 rw[Nd.size_eq]
 omega
def setQ (k : Int) (l : List Nd) : Bool:=!decide (k=7) || !decide ((nthN l 0).kind=26) || decide ((nthN (nthN l 0).kids 0).kind=22)
mutual
def rightN : Nd→Nat→Bool
 | ⟨k,s,n,l⟩,m=>decide (1 ≤ m) && locQ ⟨k,s,n,l⟩ && rightL k l 0 (m - 1) && setQ k l
def rightL : Int→List Nd→Nat→Nat→Bool
 | _,[],_,_=>true
 | p,t :: r,a,m=>fitsQ p t.kind a && rightN t m && rightL p r (a+1) m
end
theorem rightN_eq (t : Nd) (m : Nat) : rightN t m=(decide (1 ≤ m) && locQ t && rightL t.kind t.kids 0 (m - 1) && setQ t.kind t.kids):=by
 cases t
 simp only[rightN,Nd.kind,Nd.kids]
theorem rightL_iff (p : Int) (m : Nat) : ∀ (l : List Nd) (a : Nat),rightL p l a m=true ↔ ∀ j,j < l.length→fitsQ p (nthN l j).kind (a+j : Nat)=true ∧ rightN (nthN l j) m=true
 | [],a=>by simp[rightL]
 | t :: r,a=>by
  have ih:=rightL_iff p m r (a+1)
  simp only[rightL,Bool.and_eq_true,ih]
  constructor
  ·rintro ⟨⟨h1,h2⟩,h3⟩ j hj
   cases j with
   | zero=>exact ⟨h1,h2⟩
   | succ j =>
    have:=h3 j (by simpa using hj)
    rw[show a+(j+1)=a+1+j by omega]
    simpa [nthN] using this
  ·intro h
   refine ⟨h 0 (by simp),fun j hj=>?_⟩
   have:=h (j+1) (by simpa using hj)
   rw[show a+(j+1)=a+1+j by omega] at this
   simpa [nthN] using this
theorem rightL_f {p : Int} {l : List Nd} {m k : Nat} (hk : k < l.length) (h : fitsQ p (nthN l k).kind k=false ∨ rightN (nthN l k) m=false) : rightL p l 0 m=false:=by
 cases e : rightL p l 0 m
 ·rfl
 ·have:=(rightL_iff p m l 0).1 e k hk
  rw[Nat.zero_add] at this
  rcases h with h | h
  ·rw[h] at this;exact absurd this.1 (by simp)
  ·rw[h] at this;exact absurd this.2 (by simp)
theorem rightL_t {p : Int} {l : List Nd} {m k : Nat} (hk : ¬ k < l.length) (h : ∀ j,j < k→fitsQ p (nthN l j).kind j=true ∧ rightN (nthN l j) m=true) : rightL p l 0 m=true :=
 (rightL_iff p m l 0).2 fun j hj=>by rw[Nat.zero_add];exact h j (by omega)
theorem set_two {t : Nd} (hk : t.kind=7) (h : locQ t=true) : t.kids.length=2:=by
 simp only[locQ,hk,Bool.and_eq_true] at h
 have:=h.2
 simp[manyQ] at this
 omega
theorem index_two {t : Nd} {m : Nat} (hk : t.kind=26) (h : rightN t m=true) : t.kids.length=2:=by
 rw[rightN_eq] at h
 simp only[Bool.and_eq_true] at h
 have h:=h.1.1.2
 simp only[locQ,hk,Bool.and_eq_true] at h
 have:=h.2
 simp[manyQ] at this
 omega
theorem set_kind {k : Int} (h : fitsQ 7 k 0=true) : k=22 ∨ k=26:=by
 simp[fitsQ,manyQ] at h
 omega
end Go.Proofs.YtfnahogjkgcklaaGreatDoor
