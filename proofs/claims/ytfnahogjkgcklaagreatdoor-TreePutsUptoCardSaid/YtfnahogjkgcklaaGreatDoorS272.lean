import Derived.Test.YtfnahogjkgcklaaGreatDoorTG
namespace Go.Proofs.YtfnahogjkgcklaaGreatDoor
open Go.RowKit
set_option linter.unusedVariables false
set_option linter.unusedSimpArgs false
theorem with_size {kid : Nd} : ∀ (p : List Int) (t : Nd),(withN t kid p).size ≤ t.size+kid.size
 | [],t=>by simp only[withN];omega
 | k :: r,t=>by
  have ih:=with_size (kid:=kid) r (nthN t.kids k.toNat)
  simp only[withN,Nd.size]
  rw[Nd.size_eq t]
  by_cases hk2 : k.toNat < t.kids.length
  ·have e : ∀ (l : List Nd) (x : Nd) (j : Nat),j < l.length→Nd.sizeL (l.set j x)+(nthN l j).size=Nd.sizeL l+x.size:=by
    intro l x
    induction l with
    | nil=>intro j hj;simp at hj
    | cons y q ihl =>
     intro j hj
     cases j with
     | zero=>simp[Nd.sizeL,nthN];omega
     | succ j =>
      have:=ihl j (by simpa using hj)
      simp only[List.set_cons_succ,Nd.sizeL,nthN,List.getD_cons_succ] at this ⊢
      omega
   have:=e t.kids (withN (nthN t.kids k.toNat) kid r) k.toNat hk2
   omega
  ·rw[List.set_eq_of_length_le (by omega)]
   omega
end Go.Proofs.YtfnahogjkgcklaaGreatDoor
