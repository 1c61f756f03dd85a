/- Values: the document's operators of two ints. -/
import Derived.Test.YtpnnpooeheiedaaDoorS187
namespace Go.Proofs.YtpnnpooeheiedaaDoor
open Go.RowKit
set_option maxRecDepth 100000
set_option linter.unusedVariables false
set_option linter.unusedSimpArgs false
def knownL : List ByteArray := [⟨#[124,124]⟩,⟨#[38,38]⟩,⟨#[61,61]⟩,⟨#[33,61]⟩,⟨#[60]⟩,⟨#[60,61]⟩,⟨#[62]⟩,⟨#[62,61]⟩,⟨#[43]⟩,⟨#[45]⟩,⟨#[42]⟩,⟨#[47]⟩,⟨#[37]⟩]
theorem strs_known : strs knownL = [.sc (.string ⟨#[124,124]⟩),.sc (.string ⟨#[38,38]⟩),.sc (.string ⟨#[61,61]⟩),.sc (.string ⟨#[33,61]⟩),.sc (.string ⟨#[60]⟩),.sc (.string ⟨#[60,61]⟩),.sc (.string ⟨#[62]⟩),.sc (.string ⟨#[62,61]⟩),.sc (.string ⟨#[43]⟩),.sc (.string ⟨#[45]⟩),.sc (.string ⟨#[42]⟩),.sc (.string ⟨#[47]⟩),.sc (.string ⟨#[37]⟩)] := rfl
set_option maxHeartbeats 4000000 in
theorem known_d (s : ByteArray) (H : AHeap) : D Tryd.prog 46 [.sc (.string s)] H (.ret (.sc (.bool (memS knownL s)))) H := by
 refine D_of_DK (Nat.le_refl _) (dk46 (E_of_ES ?_))
 simp only [ic46,ux]
 refine ES_seq_gen fun L hL => ?_
 simp -implicitDefEqProofs (maxSteps := 99999999) (disch := first | omega | (simp only [AHeap.set_length,killO_length,List.length_cons,List.length_nil]; first | done | omega)) only [va,vg,vs,vw,Nat.reduceMul,ite_true,ite_false,eq_self,forall_const,implies_true,Nat.reduceAdd,Nat.reduceSub,Nat.reduceLT,Nat.reduceLeDiff,↓reduceIte,reduceCtorEq,Int.reduceEq,Int.reduceLT,Int.reduceLE,Int.reduceGT,Int.reduceGE,Int.reduceAdd,Int.reduceSub,Int.reduceNeg,Int.reduceToNat,Nat.reduceBEq,Nat.reduceEqDiff]
 refine hL _ _ ?_
 clear hL
 refine ES_seq_gen fun L hL => ?_
 simp -implicitDefEqProofs (maxSteps := 99999999) (disch := first | omega | (simp only [AHeap.set_length,killO_length,List.length_cons,List.length_nil]; first | done | omega)) only [va,vg,vs,vw,Nat.reduceMul,ite_true,ite_false,eq_self,forall_const,implies_true,Nat.reduceAdd,Nat.reduceSub,Nat.reduceLT,Nat.reduceLeDiff,↓reduceIte,reduceCtorEq,Int.reduceEq,Int.reduceLT,Int.reduceLE,Int.reduceGT,Int.reduceGE,Int.reduceAdd,Int.reduceSub,Int.reduceNeg,Int.reduceToNat,Nat.reduceBEq,Nat.reduceEqDiff]
 refine hL _ _ ?_
 clear hL
 refine ES_seq_gen fun L hL => ?_
 simp -implicitDefEqProofs (maxSteps := 99999999) (disch := first | omega | (simp only [AHeap.set_length,killO_length,List.length_cons,List.length_nil]; first | done | omega)) only [va,vg,vs,vw,Nat.reduceMul,ite_true,ite_false,eq_self,forall_const,implies_true,Nat.reduceAdd,Nat.reduceSub,Nat.reduceLT,Nat.reduceLeDiff,↓reduceIte,reduceCtorEq,Int.reduceEq,Int.reduceLT,Int.reduceLE,Int.reduceGT,Int.reduceGE,Int.reduceAdd,Int.reduceSub,Int.reduceNeg,Int.reduceToNat,Nat.reduceBEq,Nat.reduceEqDiff]
 rw [← strs_known]
 have hkl : knownL.length = 13 := rfl
 have c13 : ((13 : Nat) : Int) = 13 := rfl
 refine ES_loopL (fun ts F => ∃ k : Nat,(k ≤ 13 ∧ ∀ j,j < k → ¬ nthS knownL j = s) ∧ F = H ∧ Fr [some (.sc (.string s)),none,none,some (.lst 1 (strs knownL) (some [])),some (.sc (.int .i64 k)),none,none,none,none,none,none,none,none,none,none,none,none,none] ts) (fun ts _ => 13 - (intV (ts.getD 4 .top)).toNat) ?_ ?_
 ·exact ⟨0,⟨Nat.zero_le _,fun j h => absurd h (Nat.not_lt_zero _)⟩,rfl,by simp [Fr]⟩
 rintro ts F ⟨k,⟨hk,hp⟩,rfl,hfr⟩ L2 hL2
 obtain ⟨js,rfl⟩ := hfr.opened
 clear hfr
 by_cases hd : k < 13
 ·have c1 : (k : Int) < 13 := by omega
  have hg := strs_get (l := knownL) (k := k) (by omega)
  by_cases e : nthS knownL k = s
  ·have hm := memS_at (by omega) e
   simp -implicitDefEqProofs (maxSteps := 99999999) (disch := first | omega | (simp only [AHeap.set_length,killO_length,List.length_cons,List.length_nil]; first | done | omega)) only [mk,c1,hg,strs_length,hkl,c13,e,va,vg,vs,vw,Nat.reduceMul,ite_true,ite_false,eq_self,forall_const,implies_true,Nat.reduceAdd,Nat.reduceSub,Nat.reduceLT,Nat.reduceLeDiff,↓reduceIte,reduceCtorEq,Int.reduceEq,Int.reduceLT,Int.reduceLE,Int.reduceGT,Int.reduceGE,Int.reduceAdd,Int.reduceSub,Int.reduceNeg,Int.reduceToNat,Nat.reduceBEq,Nat.reduceEqDiff]
   rw [hm]
   exact ⟨by omega,weak_sc .refl⟩
  ·simp -implicitDefEqProofs (maxSteps := 99999999) (disch := first | omega | (simp only [AHeap.set_length,killO_length,List.length_cons,List.length_nil]; first | done | omega)) only [mk,c1,hg,strs_length,hkl,c13,e,va,vg,vs,vw,Nat.reduceMul,ite_true,ite_false,eq_self,forall_const,implies_true,Nat.reduceAdd,Nat.reduceSub,Nat.reduceLT,Nat.reduceLeDiff,↓reduceIte,reduceCtorEq,Int.reduceEq,Int.reduceLT,Int.reduceLE,Int.reduceGT,Int.reduceGE,Int.reduceAdd,Int.reduceSub,Int.reduceNeg,Int.reduceToNat,Nat.reduceBEq,Nat.reduceEqDiff]
   refine ⟨by omega,hL2 _ _ ⟨k + 1,⟨by omega,fun j hj => ?_⟩,rfl,by simp [Fr]⟩ (by simp [intV,mk]; omega)⟩
   rcases Nat.lt_succ_iff_lt_or_eq.1 hj with h' | rfl
   ·exact hp j h'
   ·exact e
 ·have c1 : ¬ (k : Int) < 13 := by omega
  have hm := memS_none fun j hj => hp j (by omega)
  simp -implicitDefEqProofs (maxSteps := 99999999) (disch := first | omega | (simp only [AHeap.set_length,killO_length,List.length_cons,List.length_nil]; first | done | omega)) only [mk,c1,strs_length,hkl,c13,va,vg,vs,vw,Nat.reduceMul,ite_true,ite_false,eq_self,forall_const,implies_true,Nat.reduceAdd,Nat.reduceSub,Nat.reduceLT,Nat.reduceLeDiff,↓reduceIte,reduceCtorEq,Int.reduceEq,Int.reduceLT,Int.reduceLE,Int.reduceGT,Int.reduceGE,Int.reduceAdd,Int.reduceSub,Int.reduceNeg,Int.reduceToNat,Nat.reduceBEq,Nat.reduceEqDiff]
  refine hL _ _ ?_
  clear hL
  simp -implicitDefEqProofs (maxSteps := 99999999) (disch := first | omega | (simp only [AHeap.set_length,killO_length,List.length_cons,List.length_nil]; first | done | omega)) only [va,vg,vs,vw,Nat.reduceMul,ite_true,ite_false,eq_self,forall_const,implies_true,Nat.reduceAdd,Nat.reduceSub,Nat.reduceLT,Nat.reduceLeDiff,↓reduceIte,reduceCtorEq,Int.reduceEq,Int.reduceLT,Int.reduceLE,Int.reduceGT,Int.reduceGE,Int.reduceAdd,Int.reduceSub,Int.reduceNeg,Int.reduceToNat,Nat.reduceBEq,Nat.reduceEqDiff]
  rw [hm]
  exact weak_sc .refl
def cmpR (op : ByteArray) (x y : Int) : Option Bool :=
 if op = ⟨#[60]⟩ then some (decide (x < y))
 else if op = ⟨#[60,61]⟩ then some (decide (x ≤ y))
 else if op = ⟨#[62]⟩ then some (decide (x > y))
 else if op = ⟨#[62,61]⟩ then some (decide (x ≥ y))
 else none
theorem nLE1 : ¬ (⟨#[60,61]⟩ : ByteArray) = ⟨#[60]⟩ := by decide
theorem nGT1 : ¬ (⟨#[62]⟩ : ByteArray) = ⟨#[60]⟩ := by decide
theorem nGT2 : ¬ (⟨#[62]⟩ : ByteArray) = ⟨#[60,61]⟩ := by decide
theorem nGE1 : ¬ (⟨#[62,61]⟩ : ByteArray) = ⟨#[60]⟩ := by decide
theorem nGE2 : ¬ (⟨#[62,61]⟩ : ByteArray) = ⟨#[60,61]⟩ := by decide
theorem nGE3 : ¬ (⟨#[62,61]⟩ : ByteArray) = ⟨#[62]⟩ := by decide
theorem compared_d (op : ByteArray) (x y : Int) (H : AHeap) : D Tryd.prog 68 [.sc (.string op),.sc (.int .i64 x),.sc (.int .i64 y)] H (.ret (.tup [.sc (.bool ((cmpR op x y).getD false)),.sc (.bool (cmpR op x y).isSome)])) H := by
 refine D_of_DK (Nat.le_refl _) (dk68 (E_of_ES ?_))
 obtain ⟨R,hR⟩ : ∃ R,R = cmpR op x y := ⟨_,rfl⟩
 rw [← hR]
 have fin : ∀ (a b : Bool),Weak H (.ret (.tup [.sc (.bool a),.sc (.bool b)])) H (.ret (.tup [.sc (.bool a),.sc (.bool b)])) H := fun a b => Weak.refl _ _ _
 by_cases c1 : op = ⟨#[60]⟩
 ·obtain rfl : R = some (decide (x < y)) := by rw [hR]; simp [cmpR,c1]
  simp -implicitDefEqProofs (maxSteps := 99999999) (disch := first | omega | (simp only [AHeap.set_length,killO_length,List.length_cons,List.length_nil]; first | done | omega)) only [vu,ic68,c1,va,vg,vs,vw,Nat.reduceMul,ite_true,ite_false,eq_self,forall_const,implies_true,Nat.reduceAdd,Nat.reduceSub,Nat.reduceLT,Nat.reduceLeDiff,↓reduceIte,reduceCtorEq,Int.reduceEq,Int.reduceLT,Int.reduceLE,Int.reduceGT,Int.reduceGE,Int.reduceAdd,Int.reduceSub,Int.reduceNeg,Int.reduceToNat,Nat.reduceBEq,Nat.reduceEqDiff]
  exact fin _ _
 by_cases c2 : op = ⟨#[60,61]⟩
 ·obtain rfl : R = some (decide (x ≤ y)) := by rw [hR]; simp [cmpR,c1,c2]
  simp -implicitDefEqProofs (maxSteps := 99999999) (disch := first | omega | (simp only [AHeap.set_length,killO_length,List.length_cons,List.length_nil]; first | done | omega)) only [vu,ic68,c2,nLE1,va,vg,vs,vw,Nat.reduceMul,ite_true,ite_false,eq_self,forall_const,implies_true,Nat.reduceAdd,Nat.reduceSub,Nat.reduceLT,Nat.reduceLeDiff,↓reduceIte,reduceCtorEq,Int.reduceEq,Int.reduceLT,Int.reduceLE,Int.reduceGT,Int.reduceGE,Int.reduceAdd,Int.reduceSub,Int.reduceNeg,Int.reduceToNat,Nat.reduceBEq,Nat.reduceEqDiff]
  exact fin _ _
 by_cases c3 : op = ⟨#[62]⟩
 ·obtain rfl : R = some (decide (x > y)) := by rw [hR]; simp [cmpR,c1,c2,c3]
  simp -implicitDefEqProofs (maxSteps := 99999999) (disch := first | omega | (simp only [AHeap.set_length,killO_length,List.length_cons,List.length_nil]; first | done | omega)) only [vu,ic68,c3,nGT1,nGT2,va,vg,vs,vw,Nat.reduceMul,ite_true,ite_false,eq_self,forall_const,implies_true,Nat.reduceAdd,Nat.reduceSub,Nat.reduceLT,Nat.reduceLeDiff,↓reduceIte,reduceCtorEq,Int.reduceEq,Int.reduceLT,Int.reduceLE,Int.reduceGT,Int.reduceGE,Int.reduceAdd,Int.reduceSub,Int.reduceNeg,Int.reduceToNat,Nat.reduceBEq,Nat.reduceEqDiff]
  exact fin _ _
 by_cases c4 : op = ⟨#[62,61]⟩
 ·obtain rfl : R = some (decide (x ≥ y)) := by rw [hR]; simp [cmpR,c1,c2,c3,c4]
  simp -implicitDefEqProofs (maxSteps := 99999999) (disch := first | omega | (simp only [AHeap.set_length,killO_length,List.length_cons,List.length_nil]; first | done | omega)) only [vu,ic68,c4,nGE1,nGE2,nGE3,va,vg,vs,vw,Nat.reduceMul,ite_true,ite_false,eq_self,forall_const,implies_true,Nat.reduceAdd,Nat.reduceSub,Nat.reduceLT,Nat.reduceLeDiff,↓reduceIte,reduceCtorEq,Int.reduceEq,Int.reduceLT,Int.reduceLE,Int.reduceGT,Int.reduceGE,Int.reduceAdd,Int.reduceSub,Int.reduceNeg,Int.reduceToNat,Nat.reduceBEq,Nat.reduceEqDiff]
  exact fin _ _
 obtain rfl : R = none := by rw [hR]; simp [cmpR,c1,c2,c3,c4]
 simp -implicitDefEqProofs (maxSteps := 99999999) (disch := first | omega | (simp only [AHeap.set_length,killO_length,List.length_cons,List.length_nil]; first | done | omega)) only [vu,ic68,c1,c2,c3,c4,va,vg,vs,vw,Nat.reduceMul,ite_true,ite_false,eq_self,forall_const,implies_true,Nat.reduceAdd,Nat.reduceSub,Nat.reduceLT,Nat.reduceLeDiff,↓reduceIte,reduceCtorEq,Int.reduceEq,Int.reduceLT,Int.reduceLE,Int.reduceGT,Int.reduceGE,Int.reduceAdd,Int.reduceSub,Int.reduceNeg,Int.reduceToNat,Nat.reduceBEq,Nat.reduceEqDiff]
 exact fin _ _
end Go.Proofs.YtpnnpooeheiedaaDoor
