/- Plain laws of paths: what is put is got; what is got, put again, changes nothing; right trees have right parts. -/
import Derived.Test.YtfnahogjkgcklaaDoorS260
namespace Go.Proofs.YtfnahogjkgcklaaDoor
open Go.RowKit
set_option linter.unusedVariables false
set_option linter.unusedSimpArgs false
theorem kid_self {l : List Nd} {k : Nat} (h : k < l.length) : l.set k (nthN l k) = l := by
 rw [nthN_eq h]
 exact List.set_getElem_self h
theorem get_with {u : Nd} : ∀ {p : List Int} {t : Nd},getN t p = some u → withN t u p = t
 | [],t,h => by
  simp only [getN,Option.some.injEq] at h
  exact h.symm
 | k :: r,t,h => by
  simp only [getN] at h
  split at h
  ·rename_i hk
   simp only [withN]
   rw [get_with h,kid_self (by omega)]
   exact t.eta.symm
  ·cases h
theorem with_get {kid : Nd} : ∀ {p : List Int} {t u : Nd},getN t p = some u → getN (withN t kid p) p = some kid
 | [],t,u,h => rfl
 | k :: r,t,u,h => by
  simp only [getN] at h
  split at h
  ·rename_i hk
   have hk2 : k.toNat < t.kids.length := by omega
   cases t with
   | mk kd tx nm l =>
    have hk3 : k.toNat < l.length := hk2
    simp only [withN,getN,Nd.kids] at h ⊢
    have hc : 0 ≤ k ∧ k < (l.set k.toNat (withN (nthN l k.toNat) kid r)).length := by rw [List.length_set]; exact hk
    refine (if_pos hc).trans ?_
    rw [nth_set hk3,if_pos rfl]
    exact with_get h
  ·cases h
def apartB : List Int → List Int → Bool
 | q :: r,s :: z => !decide (q = s) || apartB r z
 | _,_ => false
theorem apartB_drop {p o : List Int} {i : Nat} (h1 : i < p.length) (h2 : i < o.length) : apartB (p.drop i) (o.drop i) = (!decide (p.getD i 0 = o.getD i 0) || apartB (p.drop (i + 1)) (o.drop (i + 1))) := by
 rw [List.drop_eq_getElem_cons h1,List.drop_eq_getElem_cons h2]
 simp [apartB,List.getD,h1,h2]
theorem apartB_end {p o : List Int} {i : Nat} (h : ¬ (i < p.length ∧ i < o.length)) : apartB (p.drop i) (o.drop i) = false := by
 by_cases h1 : i < p.length
 ·rw [List.drop_of_length_le (l := o) (by omega)]
  cases p.drop i <;> rfl
 ·rw [List.drop_of_length_le (l := p) (by omega)]
  rfl
theorem with_apart {kid : Nd} : ∀ {p o : List Int} {t u : Nd},getN t p = some u → apartB p o = true → getN (withN t kid p) o = getN t o
 | [],o,t,u,_,h => by cases o <;> cases h
 | k :: r,[],t,u,_,h => by cases h
 | k :: r,s :: z,t,u,hg,h => by
  simp only [getN] at hg
  split at hg
  ·rename_i hk
   have hk2 : k.toNat < t.kids.length := by omega
   cases t with
   | mk kd tx nm l =>
    have hk3 : k.toNat < l.length := hk2
    simp only [withN,getN,Nd.kids,List.length_set] at hg ⊢
    by_cases hs : 0 ≤ s ∧ s < (l.length : Int)
    ·refine (if_pos hs).trans (Eq.trans ?_ (if_pos hs).symm)
     rw [nth_set hk3]
     split
     ·rename_i e
      have e2 : k = s := by omega
      subst e2
      simp only [apartB,decide_true,Bool.not_true,Bool.false_or] at h
      rw [with_apart hg h]
     ·rfl
    ·exact (if_neg hs).trans (if_neg hs).symm
  ·cases hg
theorem with_size {kid : Nd} : ∀ (p : List Int) (t : Nd),(withN t kid p).size ≤ t.size + kid.size
 | [],t => by simp only [withN]; omega
 | k :: r,t => by
  have ih := with_size (kid := kid) r (nthN t.kids k.toNat)
  simp only [withN,Nd.size]
  rw [Nd.size_eq t]
  by_cases hk2 : k.toNat < t.kids.length
  ·have e : ∀ (l : List Nd) (x : Nd) (j : Nat),j < l.length → Nd.sizeL (l.set j x) + (nthN l j).size = Nd.sizeL l + x.size := by
    intro l x
    induction l with
    | nil => intro j hj; simp at hj
    | cons y q ihl =>
     intro j hj
     cases j with
     | zero => simp [Nd.sizeL,nthN]; omega
     | succ j =>
      have := ihl j (by simpa using hj)
      simp only [List.set_cons_succ,Nd.sizeL,nthN,List.getD_cons_succ] at this ⊢
      omega
   have := e t.kids (withN (nthN t.kids k.toNat) kid r) k.toNat hk2
   omega
  ·rw [List.set_eq_of_length_le (by omega)]
   omega
theorem right_mono (t : Nd) : ∀ {m k : Nat},rightN t m = true → m ≤ k → rightN t k = true := by
 induction t using Nd.ind with
 | _ t ih =>
  intro m k h hmk
  rw [rightN_eq] at h ⊢
  simp only [Bool.and_eq_true,decide_eq_true_eq] at h ⊢
  obtain ⟨⟨⟨h1,h2⟩,h3⟩,h4⟩ := h
  refine ⟨⟨⟨by omega,h2⟩,?_⟩,h4⟩
  rw [rightL_iff] at h3 ⊢
  intro j hj
  exact ⟨(h3 j hj).1,ih _ (nthN_mem hj) (h3 j hj).2 (by omega)⟩
theorem right_sub {u : Nd} : ∀ {p : List Int} {t : Nd} {m : Nat},rightN t m = true → getN t p = some u → rightN u m = true
 | [],t,m,h,hg => by
  simp only [getN,Option.some.injEq] at hg
  rw [← hg]
  exact h
 | k :: r,t,m,h,hg => by
  simp only [getN] at hg
  split at hg
  ·rename_i hk
   have hk2 : k.toNat < t.kids.length := by omega
   rw [rightN_eq] at h
   simp only [Bool.and_eq_true,decide_eq_true_eq] at h
   have h3 := (rightL_iff _ _ _ _).1 h.1.2 _ hk2
   exact right_mono u (right_sub h3.2 hg) (by omega)
  ·cases hg
end Go.Proofs.YtfnahogjkgcklaaDoor
