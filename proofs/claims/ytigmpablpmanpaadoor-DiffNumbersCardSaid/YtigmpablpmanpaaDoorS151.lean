/- law02: great, samePairs; SameHunks; Pick. -/
import Derived.Test.YtigmpablpmanpaaDoorSF
import Derived.Test.YtigmpablpmanpaaDoorSB
import Derived.Test.YtigmpablpmanpaaDoorIc20
import Derived.Test.YtigmpablpmanpaaDoorIc22
namespace Go.Proofs.YtigmpablpmanpaaDoor
open Go.RowKit
set_option maxRecDepth 100000
set_option linter.unusedVariables false
set_option linter.unusedSimpArgs false
theorem geqI2 : ∀ H_ p_ a_ b_ c_ d_,GX.ok H_ (.eqA p_ [some .i64,some .i64]) [.agg [.sc (.int .i64 a_),.sc (.int .i64 b_)],.agg [.sc (.int .i64 c_),.sc (.int .i64 d_)]] = True := fun _ _ _ _ _ _ => by simp [GX.ok,eqOk]
theorem veqI2f : ∀ H_ k_ a_ b_ c_ d_,GX.val H_ (.eqA false k_) [.agg [.sc (.int .i64 a_),.sc (.int .i64 b_)],.agg [.sc (.int .i64 c_),.sc (.int .i64 d_)]] = .sc (.bool (decide (¬ (a_ = c_ ∧ b_ = d_)))) := fun _ _ a b c d => by
 simp [GX.val,eqV,int_beq]
def nthP (l : List (Nat × Nat)) (k : Nat) : Nat × Nat := l.getD k (0,0)
theorem prs_nth {l : List (Nat × Nat)} {k : Nat} (h : k < l.length) : (prs l).getD k .top = .agg [.sc (.int .i64 (nthP l k).1),.sc (.int .i64 (nthP l k).2)] := by
 simp [prs,nthP,List.getD,h]
theorem nthP_ext {xs ys : List (Nat × Nat)} (hl : xs.length = ys.length) (h : ∀ i,i < xs.length → nthP xs i = nthP ys i) : xs = ys := by
 apply List.ext_getElem hl
 intro i h1 h2
 have := h i h1
 simpa [nthP,List.getD,h1,h2] using this
theorem samePairs_d (a b : List (Nat × Nat)) (ra rb : Option (List AV)) (H : AHeap) (hl : a.length ≤ 100000000) : D Tryd.prog 11 [.lst 2 (prs a) ra,.lst 2 (prs b) rb] H (.ret (.sc (.bool (decide (a = b))))) H := by
 refine D_of_DK (Nat.le_refl _) (dk11 (E_of_ES ?_))
 simp -implicitDefEqProofs (maxSteps := 99999999) (disch := omega) only [vu,ic11,prs_length,va,vg,vs,vh,Nat.reduceMul,ite_true,ite_false,eq_self,forall_const,implies_true,Nat.reduceAdd,Nat.reduceSub,Nat.reduceLT,Nat.reduceLeDiff,↓reduceIte,reduceCtorEq,Int.reduceEq,Int.reduceLT,Int.reduceLE,Int.reduceGT,Int.reduceGE,Int.reduceAdd,Int.reduceSub,Int.reduceNeg,Int.reduceToNat,Nat.reduceBEq,Nat.reduceEqDiff]
 refine condR_if (fun h => ?_) (fun h => ?_)
 ·have hne : ¬ a = b := fun e => by simp [e] at h
  simp -implicitDefEqProofs (maxSteps := 99999999) (disch := omega) only [hne,va,vg,vs,vh,Nat.reduceMul,ite_true,ite_false,eq_self,forall_const,implies_true,Nat.reduceAdd,Nat.reduceSub,Nat.reduceLT,Nat.reduceLeDiff,↓reduceIte,reduceCtorEq,Int.reduceEq,Int.reduceLT,Int.reduceLE,Int.reduceGT,Int.reduceGE,Int.reduceAdd,Int.reduceSub,Int.reduceNeg,Int.reduceToNat,Nat.reduceBEq,Nat.reduceEqDiff]
  exact weak_sc .refl
 have hl2 : a.length = b.length := by omega
 simp -implicitDefEqProofs (maxSteps := 99999999) (disch := omega) only [va,vg,vs,vh,Nat.reduceMul,ite_true,ite_false,eq_self,forall_const,implies_true,Nat.reduceAdd,Nat.reduceSub,Nat.reduceLT,Nat.reduceLeDiff,↓reduceIte,reduceCtorEq,Int.reduceEq,Int.reduceLT,Int.reduceLE,Int.reduceGT,Int.reduceGE,Int.reduceAdd,Int.reduceSub,Int.reduceNeg,Int.reduceToNat,Nat.reduceBEq,Nat.reduceEqDiff]
 refine ES_loop (fun ts H' => H' = H ∧ ∃ k : Nat,(k ≤ a.length ∧ ∀ j,j < k → nthP a j = nthP b j) ∧ Fr [some (.lst 2 (prs a) ra),some (.lst 2 (prs b) rb),none,none,some (.sc (.bool false)),some (.sc (.int .i64 k)),none,none,none,none,none,none,none,none,none,none,none,none,none,none,none,none,none,none,none,none] ts) (fun ts _ => a.length - (intV (ts.getD 5 .top)).toNat) ?_ ?_
 ·exact ⟨rfl,0,⟨Nat.zero_le _,fun j h => absurd h (Nat.not_lt_zero _)⟩,by simp [Fr]⟩
 rintro ts _ ⟨rfl,k,⟨hk,hp⟩,hfr⟩
 obtain ⟨js,rfl⟩ := hfr.opened
 clear hfr
 simp -implicitDefEqProofs (maxSteps := 99999999) (disch := omega) only [mk,prs_length,va,vg,vs,vh,Nat.reduceMul,ite_true,ite_false,eq_self,forall_const,implies_true,Nat.reduceAdd,Nat.reduceSub,Nat.reduceLT,Nat.reduceLeDiff,↓reduceIte,reduceCtorEq,Int.reduceEq,Int.reduceLT,Int.reduceLE,Int.reduceGT,Int.reduceGE,Int.reduceAdd,Int.reduceSub,Int.reduceNeg,Int.reduceToNat,Nat.reduceBEq,Nat.reduceEqDiff]
 refine condR_if (fun h => ?_) (fun h => ?_)
 ·have h1 : k < a.length := by omega
  have h2 : k < b.length := by omega
  simp -implicitDefEqProofs (maxSteps := 99999999) (disch := omega) only [vu,prs_length,prs_nth h1,prs_nth h2,geqI2,veqI2f,heqA,va,vg,vs,vh,Nat.reduceMul,ite_true,ite_false,eq_self,forall_const,implies_true,Nat.reduceAdd,Nat.reduceSub,Nat.reduceLT,Nat.reduceLeDiff,↓reduceIte,reduceCtorEq,Int.reduceEq,Int.reduceLT,Int.reduceLE,Int.reduceGT,Int.reduceGE,Int.reduceAdd,Int.reduceSub,Int.reduceNeg,Int.reduceToNat,Nat.reduceBEq,Nat.reduceEqDiff]
  refine ⟨by omega,by omega,condR_if (fun h => ?_) (fun h => ?_)⟩
  ·have hne : ¬ a = b := fun e => by simp [e] at h
   simp -implicitDefEqProofs (maxSteps := 99999999) (disch := omega) only [hne,va,vg,vs,vh,Nat.reduceMul,ite_true,ite_false,eq_self,forall_const,implies_true,Nat.reduceAdd,Nat.reduceSub,Nat.reduceLT,Nat.reduceLeDiff,↓reduceIte,reduceCtorEq,Int.reduceEq,Int.reduceLT,Int.reduceLE,Int.reduceGT,Int.reduceGE,Int.reduceAdd,Int.reduceSub,Int.reduceNeg,Int.reduceToNat,Nat.reduceBEq,Nat.reduceEqDiff]
   exact weak_sc .refl
  ·simp -implicitDefEqProofs (maxSteps := 99999999) (disch := omega) only [va,vg,vs,vh,Nat.reduceMul,ite_true,ite_false,eq_self,forall_const,implies_true,Nat.reduceAdd,Nat.reduceSub,Nat.reduceLT,Nat.reduceLeDiff,↓reduceIte,reduceCtorEq,Int.reduceEq,Int.reduceLT,Int.reduceLE,Int.reduceGT,Int.reduceGE,Int.reduceAdd,Int.reduceSub,Int.reduceNeg,Int.reduceToNat,Nat.reduceBEq,Nat.reduceEqDiff]
   refine ⟨⟨k + 1,⟨by omega,fun j hj => ?_⟩,by simp [Fr]⟩,by omega⟩
   rcases Nat.lt_succ_iff_lt_or_eq.1 hj with h' | rfl
   ·exact hp j h'
   ·have h' := Classical.not_not.1 h
    exact Prod.ext (by omega) (by omega)
 ·have hab : a = b := nthP_ext hl2 (fun i hi => hp i (by omega))
  simp -implicitDefEqProofs (maxSteps := 99999999) (disch := omega) only [hab,va,vg,vs,vh,Nat.reduceMul,ite_true,ite_false,eq_self,forall_const,implies_true,Nat.reduceAdd,Nat.reduceSub,Nat.reduceLT,Nat.reduceLeDiff,↓reduceIte,reduceCtorEq,Int.reduceEq,Int.reduceLT,Int.reduceLE,Int.reduceGT,Int.reduceGE,Int.reduceAdd,Int.reduceSub,Int.reduceNeg,Int.reduceToNat,Nat.reduceBEq,Nat.reduceEqDiff]
  exact weak_sc .refl
theorem sameH_iff (a b : Hk) : sameH a b = true ↔ a = b := by
 cases a; cases b
 simp [sameH]
instance : DecidableEq Hk := fun a b => if h : sameH a b = true then isTrue ((sameH_iff a b).1 h) else isFalse fun e => h ((sameH_iff a b).2 e)
theorem nthH_ext {xs ys : List Hk} (hl : xs.length = ys.length) (h : ∀ i,i < xs.length → nthH xs i = nthH ys i) : xs = ys := by
 apply List.ext_getElem hl
 intro i h1 h2
 have := h i h1
 rwa [nthH_eq h1,nthH_eq h2] at this
theorem sameHunks_d (a b : List Hk) (ra rb : Option (List AV)) (H : AHeap) (hl : a.length ≤ 100000000) (hs : ∀ h ∈ a,h.old.length ≤ 100000000 ∧ h.new.length ≤ 100000000) : D Tryd.prog 13 [.lst 3 (hks a) ra,.lst 3 (hks b) rb] H (.ret (.sc (.bool (decide (a = b))))) H := by
 refine D_of_DK (Nat.le_refl _) (dk13 (E_of_ES ?_))
 simp -implicitDefEqProofs (maxSteps := 99999999) (disch := omega) only [vu,ic13,hks_length,va,vg,vs,vh,Nat.reduceMul,ite_true,ite_false,eq_self,forall_const,implies_true,Nat.reduceAdd,Nat.reduceSub,Nat.reduceLT,Nat.reduceLeDiff,↓reduceIte,reduceCtorEq,Int.reduceEq,Int.reduceLT,Int.reduceLE,Int.reduceGT,Int.reduceGE,Int.reduceAdd,Int.reduceSub,Int.reduceNeg,Int.reduceToNat,Nat.reduceBEq,Nat.reduceEqDiff]
 refine condR_if (fun h => ?_) (fun h => ?_)
 ·have hne : ¬ a = b := fun e => by simp [e] at h
  simp -implicitDefEqProofs (maxSteps := 99999999) (disch := omega) only [hne,va,vg,vs,vh,Nat.reduceMul,ite_true,ite_false,eq_self,forall_const,implies_true,Nat.reduceAdd,Nat.reduceSub,Nat.reduceLT,Nat.reduceLeDiff,↓reduceIte,reduceCtorEq,Int.reduceEq,Int.reduceLT,Int.reduceLE,Int.reduceGT,Int.reduceGE,Int.reduceAdd,Int.reduceSub,Int.reduceNeg,Int.reduceToNat,Nat.reduceBEq,Nat.reduceEqDiff]
  exact weak_sc .refl
 have hl2 : a.length = b.length := by omega
 simp -implicitDefEqProofs (maxSteps := 99999999) (disch := omega) only [va,vg,vs,vh,Nat.reduceMul,ite_true,ite_false,eq_self,forall_const,implies_true,Nat.reduceAdd,Nat.reduceSub,Nat.reduceLT,Nat.reduceLeDiff,↓reduceIte,reduceCtorEq,Int.reduceEq,Int.reduceLT,Int.reduceLE,Int.reduceGT,Int.reduceGE,Int.reduceAdd,Int.reduceSub,Int.reduceNeg,Int.reduceToNat,Nat.reduceBEq,Nat.reduceEqDiff]
 refine ES_loop (fun ts H' => H' = H ∧ ∃ k : Nat,(k ≤ a.length ∧ ∀ j,j < k → nthH a j = nthH b j) ∧ Fr [some (.lst 3 (hks a) ra),some (.lst 3 (hks b) rb),none,none,some (.sc (.bool false)),some (.sc (.int .i64 k)),none,none,none,none,none,none,none,none,none,none,none,none,none,none,none,none,none,none,none,none,none] ts) (fun ts _ => a.length - (intV (ts.getD 5 .top)).toNat) ?_ ?_
 ·exact ⟨rfl,0,⟨Nat.zero_le _,fun j h => absurd h (Nat.not_lt_zero _)⟩,by simp [Fr]⟩
 rintro ts _ ⟨rfl,k,⟨hk,hp⟩,hfr⟩
 obtain ⟨js,rfl⟩ := hfr.opened
 clear hfr
 simp -implicitDefEqProofs (maxSteps := 99999999) (disch := omega) only [mk,hks_length,va,vg,vs,vh,Nat.reduceMul,ite_true,ite_false,eq_self,forall_const,implies_true,Nat.reduceAdd,Nat.reduceSub,Nat.reduceLT,Nat.reduceLeDiff,↓reduceIte,reduceCtorEq,Int.reduceEq,Int.reduceLT,Int.reduceLE,Int.reduceGT,Int.reduceGE,Int.reduceAdd,Int.reduceSub,Int.reduceNeg,Int.reduceToNat,Nat.reduceBEq,Nat.reduceEqDiff]
 refine condR_if (fun h => ?_) (fun h => ?_)
 ·have h1 : k < a.length := by omega
  have h2 : k < b.length := by omega
  simp -implicitDefEqProofs (maxSteps := 99999999) (disch := omega) only [vu,hks_length,hks_get h1,hks_get h2,va,vg,vs,vh,Nat.reduceMul,ite_true,ite_false,eq_self,forall_const,implies_true,Nat.reduceAdd,Nat.reduceSub,Nat.reduceLT,Nat.reduceLeDiff,↓reduceIte,reduceCtorEq,Int.reduceEq,Int.reduceLT,Int.reduceLE,Int.reduceGT,Int.reduceGE,Int.reduceAdd,Int.reduceSub,Int.reduceNeg,Int.reduceToNat,Nat.reduceBEq,Nat.reduceEqDiff]
  refine ⟨by omega,by omega,callD_same (sameHunk_d (nthH a k) (nthH b k) none none none none _ (by rw [nthH_eq h1]; exact hs _ (List.getElem_mem _))) ?_⟩
  cases hq : sameH (nthH a k) (nthH b k)
  all_goals (try simp only [hq])
  ·have hne : ¬ a = b := fun e => by
    rw [e,(sameH_iff _ _).2 rfl] at hq
    cases hq
   simp -implicitDefEqProofs (maxSteps := 99999999) (disch := omega) only [hne,va,vg,vs,vh,Nat.reduceMul,ite_true,ite_false,eq_self,forall_const,implies_true,Nat.reduceAdd,Nat.reduceSub,Nat.reduceLT,Nat.reduceLeDiff,↓reduceIte,reduceCtorEq,Int.reduceEq,Int.reduceLT,Int.reduceLE,Int.reduceGT,Int.reduceGE,Int.reduceAdd,Int.reduceSub,Int.reduceNeg,Int.reduceToNat,Nat.reduceBEq,Nat.reduceEqDiff]
   exact weak_sc .refl
  ·simp -implicitDefEqProofs (maxSteps := 99999999) (disch := omega) only [va,vg,vs,vh,Nat.reduceMul,ite_true,ite_false,eq_self,forall_const,implies_true,Nat.reduceAdd,Nat.reduceSub,Nat.reduceLT,Nat.reduceLeDiff,↓reduceIte,reduceCtorEq,Int.reduceEq,Int.reduceLT,Int.reduceLE,Int.reduceGT,Int.reduceGE,Int.reduceAdd,Int.reduceSub,Int.reduceNeg,Int.reduceToNat,Nat.reduceBEq,Nat.reduceEqDiff]
   refine ⟨⟨k + 1,⟨by omega,fun j hj => ?_⟩,by simp [Fr]⟩,by omega⟩
   rcases Nat.lt_succ_iff_lt_or_eq.1 hj with h' | rfl
   ·exact hp j h'
   ·exact (sameH_iff _ _).1 hq
 ·have hab : a = b := nthH_ext hl2 (fun i hi => hp i (by omega))
  simp -implicitDefEqProofs (maxSteps := 99999999) (disch := omega) only [hab,va,vg,vs,vh,Nat.reduceMul,ite_true,ite_false,eq_self,forall_const,implies_true,Nat.reduceAdd,Nat.reduceSub,Nat.reduceLT,Nat.reduceLeDiff,↓reduceIte,reduceCtorEq,Int.reduceEq,Int.reduceLT,Int.reduceLE,Int.reduceGT,Int.reduceGE,Int.reduceAdd,Int.reduceSub,Int.reduceNeg,Int.reduceToNat,Nat.reduceBEq,Nat.reduceEqDiff]
  exact weak_sc .refl
end Go.Proofs.YtigmpablpmanpaaDoor
