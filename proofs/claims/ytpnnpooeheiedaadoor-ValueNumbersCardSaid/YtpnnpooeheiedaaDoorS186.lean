/- Values: rows of numbers compared; values compared. -/
import Derived.Test.YtpnnpooeheiedaaDoorS185
import Derived.Test.YtpnnpooeheiedaaDoorIc30
namespace Go.Proofs.YtpnnpooeheiedaaDoor
open Go.RowKit
set_option maxRecDepth 100000
set_option linter.unusedVariables false
set_option linter.unusedSimpArgs false
def nthL (l : List Int) (k : Nat) : Int := l.getD k 0
theorem lng_get2 {l : List Int} {k : Nat} (h : k < l.length) : (lng l).getD k .top = .sc (.int .i64 (nthL l k)) := lng_get h
theorem nthL_ext {a b : List Int} (hl : a.length = b.length) (h : ∀ i,i < a.length → nthL a i = nthL b i) : a = b := by
 apply List.ext_getElem hl
 intro i h1 h2
 have := h i h1
 simpa [nthL,List.getD,h1,h2] using this
theorem sameLongs_d (a b : List Int) (ra rb : Option (List AV)) (H : AHeap) (hl : a.length ≤ 100000000) : D Tryd.prog 44 [.lst 1 (lng a) ra,.lst 1 (lng b) rb] H (.ret (.sc (.bool (decide (a = b))))) H := by
 refine D_of_DK (Nat.le_refl _) (dk44 (E_of_ES ?_))
 simp -implicitDefEqProofs (maxSteps := 99999999) (disch := omega) only [lng_length,ic44,va,vg,vs,vh,Nat.reduceMul,ite_true,ite_false,eq_self,forall_const,implies_true,Nat.reduceAdd,Nat.reduceSub,Nat.reduceLT,Nat.reduceLeDiff,↓reduceIte,reduceCtorEq,Int.reduceEq,Int.reduceLT,Int.reduceLE,Int.reduceGT,Int.reduceGE,Int.reduceAdd,Int.reduceSub,Int.reduceNeg,Int.reduceToNat,Nat.reduceBEq,Nat.reduceEqDiff]
 refine condR_if (fun h => ?_) (fun h => ?_)
 ·have hne : ¬ a = b := fun e => by simp [e] at h
  simp -implicitDefEqProofs (maxSteps := 99999999) (disch := omega) only [lng_length,hne,va,vg,vs,vh,Nat.reduceMul,ite_true,ite_false,eq_self,forall_const,implies_true,Nat.reduceAdd,Nat.reduceSub,Nat.reduceLT,Nat.reduceLeDiff,↓reduceIte,reduceCtorEq,Int.reduceEq,Int.reduceLT,Int.reduceLE,Int.reduceGT,Int.reduceGE,Int.reduceAdd,Int.reduceSub,Int.reduceNeg,Int.reduceToNat,Nat.reduceBEq,Nat.reduceEqDiff]
  exact weak_sc .refl
 have hl2 : a.length = b.length := by omega
 simp -implicitDefEqProofs (maxSteps := 99999999) (disch := omega) only [lng_length,va,vg,vs,vh,Nat.reduceMul,ite_true,ite_false,eq_self,forall_const,implies_true,Nat.reduceAdd,Nat.reduceSub,Nat.reduceLT,Nat.reduceLeDiff,↓reduceIte,reduceCtorEq,Int.reduceEq,Int.reduceLT,Int.reduceLE,Int.reduceGT,Int.reduceGE,Int.reduceAdd,Int.reduceSub,Int.reduceNeg,Int.reduceToNat,Nat.reduceBEq,Nat.reduceEqDiff]
 refine ES_loop (fun ts H' => H' = H ∧ ∃ k : Nat,(k ≤ a.length ∧ ∀ j,j < k → nthL a j = nthL b j) ∧ Fr [some (.lst 1 (lng a) ra),some (.lst 1 (lng b) rb),none,none,some (.sc (.bool false)),some (.sc (.int .i64 k)),none,none,none,none,none,none,none,none,none,none,none,none,none,none,none,none,none,none,none,none] ts) (fun ts _ => a.length - (intV (ts.getD 5 .top)).toNat) ?_ ?_
 ·exact ⟨rfl,0,⟨Nat.zero_le _,fun j h => absurd h (Nat.not_lt_zero _)⟩,by simp [Fr]⟩
 rintro ts _ ⟨rfl,k,⟨hk,hp⟩,hfr⟩
 obtain ⟨js,rfl⟩ := hfr.opened
 clear hfr
 simp -implicitDefEqProofs (maxSteps := 99999999) (disch := omega) only [lng_length,mk,va,vg,vs,vh,Nat.reduceMul,ite_true,ite_false,eq_self,forall_const,implies_true,Nat.reduceAdd,Nat.reduceSub,Nat.reduceLT,Nat.reduceLeDiff,↓reduceIte,reduceCtorEq,Int.reduceEq,Int.reduceLT,Int.reduceLE,Int.reduceGT,Int.reduceGE,Int.reduceAdd,Int.reduceSub,Int.reduceNeg,Int.reduceToNat,Nat.reduceBEq,Nat.reduceEqDiff]
 refine condR_if (fun h => ?_) (fun h => ?_)
 ·have h1 : k < a.length := by omega
  have h2 : k < b.length := by omega
  simp -implicitDefEqProofs (maxSteps := 99999999) (disch := omega) only [lng_length,lng_get2 h1,lng_get2 h2,va,vg,vs,vh,Nat.reduceMul,ite_true,ite_false,eq_self,forall_const,implies_true,Nat.reduceAdd,Nat.reduceSub,Nat.reduceLT,Nat.reduceLeDiff,↓reduceIte,reduceCtorEq,Int.reduceEq,Int.reduceLT,Int.reduceLE,Int.reduceGT,Int.reduceGE,Int.reduceAdd,Int.reduceSub,Int.reduceNeg,Int.reduceToNat,Nat.reduceBEq,Nat.reduceEqDiff]
  refine ⟨by omega,by omega,condR_if (fun h => ?_) (fun h => ?_)⟩
  ·have hne : ¬ a = b := fun e => by simp [e] at h
   simp -implicitDefEqProofs (maxSteps := 99999999) (disch := omega) only [lng_length,hne,va,vg,vs,vh,Nat.reduceMul,ite_true,ite_false,eq_self,forall_const,implies_true,Nat.reduceAdd,Nat.reduceSub,Nat.reduceLT,Nat.reduceLeDiff,↓reduceIte,reduceCtorEq,Int.reduceEq,Int.reduceLT,Int.reduceLE,Int.reduceGT,Int.reduceGE,Int.reduceAdd,Int.reduceSub,Int.reduceNeg,Int.reduceToNat,Nat.reduceBEq,Nat.reduceEqDiff]
   exact weak_sc .refl
  ·simp -implicitDefEqProofs (maxSteps := 99999999) (disch := omega) only [lng_length,va,vg,vs,vh,Nat.reduceMul,ite_true,ite_false,eq_self,forall_const,implies_true,Nat.reduceAdd,Nat.reduceSub,Nat.reduceLT,Nat.reduceLeDiff,↓reduceIte,reduceCtorEq,Int.reduceEq,Int.reduceLT,Int.reduceLE,Int.reduceGT,Int.reduceGE,Int.reduceAdd,Int.reduceSub,Int.reduceNeg,Int.reduceToNat,Nat.reduceBEq,Nat.reduceEqDiff]
   refine ⟨⟨k + 1,⟨by omega,fun j hj => ?_⟩,by simp [Fr]⟩,by omega⟩
   rcases Nat.lt_succ_iff_lt_or_eq.1 hj with h' | rfl
   ·exact hp j h'
   ·exact Classical.not_not.1 h
 ·have hab : a = b := nthL_ext hl2 (fun i hi => hp i (by omega))
  simp -implicitDefEqProofs (maxSteps := 99999999) (disch := omega) only [lng_length,hab,va,vg,vs,vh,Nat.reduceMul,ite_true,ite_false,eq_self,forall_const,implies_true,Nat.reduceAdd,Nat.reduceSub,Nat.reduceLT,Nat.reduceLeDiff,↓reduceIte,reduceCtorEq,Int.reduceEq,Int.reduceLT,Int.reduceLE,Int.reduceGT,Int.reduceGE,Int.reduceAdd,Int.reduceSub,Int.reduceNeg,Int.reduceToNat,Nat.reduceBEq,Nat.reduceEqDiff]
  exact weak_sc .refl
theorem equalL_d (a b : List Int) (ra rb : Option (List AV)) (H : AHeap) (hl : a.length ≤ 100000000) : D Tryd.prog 67 [.lst 1 (lng a) ra,.lst 1 (lng b) rb] H (.ret (.sc (.bool (decide (a = b))))) H := by
 refine D_of_DK (Nat.le_refl _) (dk67 (E_of_ES ?_))
 simp -implicitDefEqProofs (maxSteps := 99999999) (disch := omega) only [ic67,lng_length,va,vg,vs,vh,Nat.reduceMul,ite_true,ite_false,eq_self,forall_const,implies_true,Nat.reduceAdd,Nat.reduceSub,Nat.reduceLT,Nat.reduceLeDiff,↓reduceIte,reduceCtorEq,Int.reduceEq,Int.reduceLT,Int.reduceLE,Int.reduceGT,Int.reduceGE,Int.reduceAdd,Int.reduceSub,Int.reduceNeg,Int.reduceToNat,Nat.reduceBEq,Nat.reduceEqDiff]
 refine condR_if (fun h => ?_) (fun h => ?_)
 ·have hne : ¬ a = b := fun e => by simp [e] at h
  simp -implicitDefEqProofs (maxSteps := 99999999) (disch := omega) only [hne,va,vg,vs,vh,Nat.reduceMul,ite_true,ite_false,eq_self,forall_const,implies_true,Nat.reduceAdd,Nat.reduceSub,Nat.reduceLT,Nat.reduceLeDiff,↓reduceIte,reduceCtorEq,Int.reduceEq,Int.reduceLT,Int.reduceLE,Int.reduceGT,Int.reduceGE,Int.reduceAdd,Int.reduceSub,Int.reduceNeg,Int.reduceToNat,Nat.reduceBEq,Nat.reduceEqDiff]
  exact weak_sc .refl
 have hl2 : a.length = b.length := by omega
 simp -implicitDefEqProofs (maxSteps := 99999999) (disch := omega) only [lng_length,va,vg,vs,vh,Nat.reduceMul,ite_true,ite_false,eq_self,forall_const,implies_true,Nat.reduceAdd,Nat.reduceSub,Nat.reduceLT,Nat.reduceLeDiff,↓reduceIte,reduceCtorEq,Int.reduceEq,Int.reduceLT,Int.reduceLE,Int.reduceGT,Int.reduceGE,Int.reduceAdd,Int.reduceSub,Int.reduceNeg,Int.reduceToNat,Nat.reduceBEq,Nat.reduceEqDiff]
 refine ES_loop (fun ts H' => H' = H ∧ ∃ k : Nat,(k ≤ a.length ∧ ∀ j,j < k → nthL a j = nthL b j) ∧ Fr [some (.lst 1 (lng a) ra),some (.lst 1 (lng b) rb),none,none,some (.sc (.bool false)),none,none,none,none,none,none,none,some (.sc (.int .i64 a.length)),some (.sc (.int .i64 k)),none,none,none,none,none,none,none,none,none,none,none,none] ts) (fun ts _ => a.length - (intV (ts.getD 13 .top)).toNat) ?_ ?_
 ·exact ⟨rfl,0,⟨Nat.zero_le _,fun j h => absurd h (Nat.not_lt_zero _)⟩,by simp [Fr]⟩
 rintro ts _ ⟨rfl,k,⟨hk,hp⟩,hfr⟩
 obtain ⟨js,rfl⟩ := hfr.opened
 clear hfr
 simp -implicitDefEqProofs (maxSteps := 99999999) (disch := omega) only [mk,va,vg,vs,vh,Nat.reduceMul,ite_true,ite_false,eq_self,forall_const,implies_true,Nat.reduceAdd,Nat.reduceSub,Nat.reduceLT,Nat.reduceLeDiff,↓reduceIte,reduceCtorEq,Int.reduceEq,Int.reduceLT,Int.reduceLE,Int.reduceGT,Int.reduceGE,Int.reduceAdd,Int.reduceSub,Int.reduceNeg,Int.reduceToNat,Nat.reduceBEq,Nat.reduceEqDiff]
 refine condR_if (fun h => ?_) (fun h => ?_)
 ·have h1 : k < a.length := by omega
  have h2 : k < b.length := by omega
  simp -implicitDefEqProofs (maxSteps := 99999999) (disch := omega) only [lng_get2 h1,lng_get2 h2,lng_length,va,vg,vs,vh,Nat.reduceMul,ite_true,ite_false,eq_self,forall_const,implies_true,Nat.reduceAdd,Nat.reduceSub,Nat.reduceLT,Nat.reduceLeDiff,↓reduceIte,reduceCtorEq,Int.reduceEq,Int.reduceLT,Int.reduceLE,Int.reduceGT,Int.reduceGE,Int.reduceAdd,Int.reduceSub,Int.reduceNeg,Int.reduceToNat,Nat.reduceBEq,Nat.reduceEqDiff]
  refine ⟨by omega,by omega,condR_if (fun h => ?_) (fun h => ?_)⟩
  ·have hne : ¬ a = b := fun e => by simp [e] at h
   simp -implicitDefEqProofs (maxSteps := 99999999) (disch := omega) only [hne,va,vg,vs,vh,Nat.reduceMul,ite_true,ite_false,eq_self,forall_const,implies_true,Nat.reduceAdd,Nat.reduceSub,Nat.reduceLT,Nat.reduceLeDiff,↓reduceIte,reduceCtorEq,Int.reduceEq,Int.reduceLT,Int.reduceLE,Int.reduceGT,Int.reduceGE,Int.reduceAdd,Int.reduceSub,Int.reduceNeg,Int.reduceToNat,Nat.reduceBEq,Nat.reduceEqDiff]
   exact weak_sc .refl
  ·simp -implicitDefEqProofs (maxSteps := 99999999) (disch := omega) only [va,vg,vs,vh,Nat.reduceMul,ite_true,ite_false,eq_self,forall_const,implies_true,Nat.reduceAdd,Nat.reduceSub,Nat.reduceLT,Nat.reduceLeDiff,↓reduceIte,reduceCtorEq,Int.reduceEq,Int.reduceLT,Int.reduceLE,Int.reduceGT,Int.reduceGE,Int.reduceAdd,Int.reduceSub,Int.reduceNeg,Int.reduceToNat,Nat.reduceBEq,Nat.reduceEqDiff]
   refine ⟨⟨k + 1,⟨by omega,fun j hj => ?_⟩,by simp [Fr]⟩,by omega⟩
   rcases Nat.lt_succ_iff_lt_or_eq.1 hj with h' | rfl
   ·exact hp j h'
   ·exact Classical.not_not.1 h
 ·have hab : a = b := nthL_ext hl2 (fun i hi => hp i (by omega))
  simp -implicitDefEqProofs (maxSteps := 99999999) (disch := omega) only [hab,va,vg,vs,vh,Nat.reduceMul,ite_true,ite_false,eq_self,forall_const,implies_true,Nat.reduceAdd,Nat.reduceSub,Nat.reduceLT,Nat.reduceLeDiff,↓reduceIte,reduceCtorEq,Int.reduceEq,Int.reduceLT,Int.reduceLE,Int.reduceGT,Int.reduceGE,Int.reduceAdd,Int.reduceSub,Int.reduceNeg,Int.reduceToNat,Nat.reduceBEq,Nat.reduceEqDiff]
  exact weak_sc .refl
def sameV (a b : Vl) : Bool := decide (a.kind = b.kind) && decide (a.num = b.num) && decide (a.row = b.row)
theorem sameV_iff (a b : Vl) : sameV a b = true ↔ a = b := by
 cases a
 cases b
 simp [sameV,and_assoc]
theorem vsame_d (a b : Vl) (ra rb : Option (List AV)) (hl : a.row.length ≤ 100000000) (H : AHeap) : D Tryd.prog 43 [vlA a ra,vlA b rb] H (.ret (.sc (.bool (sameV a b)))) H := by
 refine D_of_DK (Nat.le_refl _) (dk43 (E_of_ES ?_))
 by_cases c1 : a.kind = b.kind
 ·by_cases c2 : a.num = b.num
  ·simp -implicitDefEqProofs (maxSteps := 99999999) (disch := first | omega | (simp only [AHeap.set_length,killO_length,List.length_cons,List.length_nil]; first | done | omega)) only [vu,ic43,vlA_eq,c1,c2,va,vg,vs,vw,Nat.reduceMul,ite_true,ite_false,eq_self,forall_const,implies_true,Nat.reduceAdd,Nat.reduceSub,Nat.reduceLT,Nat.reduceLeDiff,↓reduceIte,reduceCtorEq,Int.reduceEq,Int.reduceLT,Int.reduceLE,Int.reduceGT,Int.reduceGE,Int.reduceAdd,Int.reduceSub,Int.reduceNeg,Int.reduceToNat,Nat.reduceBEq,Nat.reduceEqDiff]
   refine callR_ret (equalL_d _ _ _ _ _ hl) ?_
   simp -implicitDefEqProofs (maxSteps := 99999999) (disch := first | omega | (simp only [AHeap.set_length,killO_length,List.length_cons,List.length_nil]; first | done | omega)) only [vu,va,vg,vs,vw,Nat.reduceMul,ite_true,ite_false,eq_self,forall_const,implies_true,Nat.reduceAdd,Nat.reduceSub,Nat.reduceLT,Nat.reduceLeDiff,↓reduceIte,reduceCtorEq,Int.reduceEq,Int.reduceLT,Int.reduceLE,Int.reduceGT,Int.reduceGE,Int.reduceAdd,Int.reduceSub,Int.reduceNeg,Int.reduceToNat,Nat.reduceBEq,Nat.reduceEqDiff]
   exact over_b (.cons (.cons .refl)) (by simp [sameV,c1,c2])
  ·simp -implicitDefEqProofs (maxSteps := 99999999) (disch := first | omega | (simp only [AHeap.set_length,killO_length,List.length_cons,List.length_nil]; first | done | omega)) only [vu,ic43,vlA_eq,c1,c2,va,vg,vs,vw,Nat.reduceMul,ite_true,ite_false,eq_self,forall_const,implies_true,Nat.reduceAdd,Nat.reduceSub,Nat.reduceLT,Nat.reduceLeDiff,↓reduceIte,reduceCtorEq,Int.reduceEq,Int.reduceLT,Int.reduceLE,Int.reduceGT,Int.reduceGE,Int.reduceAdd,Int.reduceSub,Int.reduceNeg,Int.reduceToNat,Nat.reduceBEq,Nat.reduceEqDiff]
   exact over_b (.cons (.cons .refl)) (by simp [sameV,c2])
 ·simp -implicitDefEqProofs (maxSteps := 99999999) (disch := first | omega | (simp only [AHeap.set_length,killO_length,List.length_cons,List.length_nil]; first | done | omega)) only [vu,ic43,vlA_eq,c1,va,vg,vs,vw,Nat.reduceMul,ite_true,ite_false,eq_self,forall_const,implies_true,Nat.reduceAdd,Nat.reduceSub,Nat.reduceLT,Nat.reduceLeDiff,↓reduceIte,reduceCtorEq,Int.reduceEq,Int.reduceLT,Int.reduceLE,Int.reduceGT,Int.reduceGE,Int.reduceAdd,Int.reduceSub,Int.reduceNeg,Int.reduceToNat,Nat.reduceBEq,Nat.reduceEqDiff]
  exact over_b (.cons (.cons .refl)) (by simp [sameV,c1])
theorem sameValue_d (a b : Vl) (ra rb : Option (List AV)) (hl : a.row.length ≤ 100000000) (H : AHeap) : D Tryd.prog 25 [vlA a ra,vlA b rb] H (.ret (.sc (.bool (sameV a b)))) H := by
 refine D_of_DK (Nat.le_refl _) (dk25 (E_of_ES ?_))
 by_cases c1 : a.kind = b.kind
 ·by_cases c2 : a.num = b.num
  ·simp -implicitDefEqProofs (maxSteps := 99999999) (disch := first | omega | (simp only [AHeap.set_length,killO_length,List.length_cons,List.length_nil]; first | done | omega)) only [vu,ic25,vlA_eq,c1,c2,va,vg,vs,vw,Nat.reduceMul,ite_true,ite_false,eq_self,forall_const,implies_true,Nat.reduceAdd,Nat.reduceSub,Nat.reduceLT,Nat.reduceLeDiff,↓reduceIte,reduceCtorEq,Int.reduceEq,Int.reduceLT,Int.reduceLE,Int.reduceGT,Int.reduceGE,Int.reduceAdd,Int.reduceSub,Int.reduceNeg,Int.reduceToNat,Nat.reduceBEq,Nat.reduceEqDiff]
   refine callR_ret (sameLongs_d _ _ _ _ _ hl) ?_
   simp -implicitDefEqProofs (maxSteps := 99999999) (disch := first | omega | (simp only [AHeap.set_length,killO_length,List.length_cons,List.length_nil]; first | done | omega)) only [vu,va,vg,vs,vw,Nat.reduceMul,ite_true,ite_false,eq_self,forall_const,implies_true,Nat.reduceAdd,Nat.reduceSub,Nat.reduceLT,Nat.reduceLeDiff,↓reduceIte,reduceCtorEq,Int.reduceEq,Int.reduceLT,Int.reduceLE,Int.reduceGT,Int.reduceGE,Int.reduceAdd,Int.reduceSub,Int.reduceNeg,Int.reduceToNat,Nat.reduceBEq,Nat.reduceEqDiff]
   exact over_b (.cons (.cons .refl)) (by simp [sameV,c1,c2])
  ·simp -implicitDefEqProofs (maxSteps := 99999999) (disch := first | omega | (simp only [AHeap.set_length,killO_length,List.length_cons,List.length_nil]; first | done | omega)) only [vu,ic25,vlA_eq,c1,c2,va,vg,vs,vw,Nat.reduceMul,ite_true,ite_false,eq_self,forall_const,implies_true,Nat.reduceAdd,Nat.reduceSub,Nat.reduceLT,Nat.reduceLeDiff,↓reduceIte,reduceCtorEq,Int.reduceEq,Int.reduceLT,Int.reduceLE,Int.reduceGT,Int.reduceGE,Int.reduceAdd,Int.reduceSub,Int.reduceNeg,Int.reduceToNat,Nat.reduceBEq,Nat.reduceEqDiff]
   exact over_b (.cons (.cons .refl)) (by simp [sameV,c2])
 ·simp -implicitDefEqProofs (maxSteps := 99999999) (disch := first | omega | (simp only [AHeap.set_length,killO_length,List.length_cons,List.length_nil]; first | done | omega)) only [vu,ic25,vlA_eq,c1,va,vg,vs,vw,Nat.reduceMul,ite_true,ite_false,eq_self,forall_const,implies_true,Nat.reduceAdd,Nat.reduceSub,Nat.reduceLT,Nat.reduceLeDiff,↓reduceIte,reduceCtorEq,Int.reduceEq,Int.reduceLT,Int.reduceLE,Int.reduceGT,Int.reduceGE,Int.reduceAdd,Int.reduceSub,Int.reduceNeg,Int.reduceToNat,Nat.reduceBEq,Nat.reduceEqDiff]
  exact over_b (.cons (.cons .refl)) (by simp [sameV,c1])
end Go.Proofs.YtpnnpooeheiedaaDoor
