/- tree.find: at a box that holds a tree. -/
import Derived.Test.YtfnahogjkgcklaaDoorS255
namespace Go.Proofs.YtfnahogjkgcklaaDoor
open Go.RowKit
set_option maxRecDepth 100000
set_option linter.unusedVariables false
set_option linter.unusedSimpArgs false
def pthA (l : List Int) : List AV := l.map fun n => .sc (.int .i64 n)
theorem pthA_length (l : List Int) : (pthA l).length = l.length := by simp [pthA]
theorem pthA_get {l : List Int} {k : Nat} (h : k < l.length) : (pthA l).getD k .top = .sc (.int .i64 (l.getD k 0)) := by simp [pthA,List.getD,h]
def getN : Nd → List Int → Option Nd
 | t,[] => some t
 | t,k :: r => if 0 ≤ k ∧ k < t.kids.length then getN (nthN t.kids k.toNat) r else none
theorem getN_drop {t : Nd} {p : List Int} {k : Nat} (h : k < p.length) : getN t (p.drop k) = if 0 ≤ p.getD k 0 ∧ p.getD k 0 < t.kids.length then getN (nthN t.kids (p.getD k 0).toNat) (p.drop (k + 1)) else none := by
 rw [List.drop_eq_getElem_cons h]
 simp [getN,List.getD,h]
def fndV (t : Nd) (id : Nat) (p : List Int) : AV := if p = [] then .ptr 4 id 0 0 else match getN t p with
 | some u => .lp (ndA u) 0
 | none => .sc (.pointer none)
set_option maxHeartbeats 0 in
theorem find_d (t : Nd) (ro : Option (List AV)) (p : List Int) (hp : p.length ≤ 1000000) (rp : Option (List AV)) (id : Nat) (H : AHeap) (hf : AHeap.find H id = some ⟨4,[ndR t ro],true,25⟩) : D Tryd.prog 49 [.ptr 4 id 0 0,.lst 1 (pthA p) rp] H (.ret (fndV t id p)) H := by
 have hid := AHeap.find_lt hf
 rw [ndR_eq] at hf
 refine D_of_DK (Nat.le_refl _) (dk49 (E_of_ES ?_))
 simp only [ic49,ux]
 refine ES_seq_gen fun L hL => ?_
 simp -implicitDefEqProofs (maxSteps := 99999999) (disch := first | omega | (simp only [AHeap.set_length,killO_length,List.length_cons,List.length_nil]; first | done | omega)) only [vu,va,vg,vs,vw,Nat.reduceMul,ite_true,ite_false,eq_self,forall_const,implies_true,Nat.reduceAdd,Nat.reduceSub,Nat.reduceLT,Nat.reduceLeDiff,↓reduceIte,reduceCtorEq,Int.reduceEq,Int.reduceLT,Int.reduceLE,Int.reduceGT,Int.reduceGE,Int.reduceAdd,Int.reduceSub,Int.reduceNeg,Int.reduceToNat,Nat.reduceBEq,Nat.reduceEqDiff]
 refine hL _ _ ?_
 clear hL
 refine ES_seq_gen fun L hL => ?_
 simp -implicitDefEqProofs (maxSteps := 99999999) (disch := first | omega | (simp only [AHeap.set_length,killO_length,List.length_cons,List.length_nil]; first | done | omega)) only [vu,pthA_length,va,vg,vs,vw,Nat.reduceMul,ite_true,ite_false,eq_self,forall_const,implies_true,Nat.reduceAdd,Nat.reduceSub,Nat.reduceLT,Nat.reduceLeDiff,↓reduceIte,reduceCtorEq,Int.reduceEq,Int.reduceLT,Int.reduceLE,Int.reduceGT,Int.reduceGE,Int.reduceAdd,Int.reduceSub,Int.reduceNeg,Int.reduceToNat,Nat.reduceBEq,Nat.reduceEqDiff]
 refine ES_loopL (fun ts F => ∃ (k : Nat) (u : Nd) (P : AV),(k ≤ p.length ∧ getN u (p.drop k) = getN t p ∧ ((k = 0 ∧ u = t ∧ P = .ptr 4 id 0 0) ∨ (0 < k ∧ P = .lp (ndA u) 0))) ∧ F = H ∧ Fr [some (P),none,none,none,none,none,none,some (.lst 1 (pthA p) rp),some (.sc (.int .i64 p.length)),some (.sc (.int .i64 k)),none,none,none,none,none,none,none,none,none,none,none,none,none,none,none,none,none,none,none,none,none,none] ts) (fun ts _ => p.length - (intV (ts.getD 9 .top)).toNat) ?_ ?_
 ·exact ⟨0,t,_,⟨Nat.zero_le _,rfl,.inl ⟨rfl,rfl,rfl⟩⟩,rfl,by simp [Fr]⟩
 rintro ts F ⟨k,u,P,⟨hk,hg,hP⟩,rfl,hfr⟩ L2 hL2
 obtain ⟨js,rfl⟩ := hfr.opened
 clear hfr
 by_cases hd : k < p.length
 ·have d1 : (k : Int) < p.length := by omega
  have hpg := pthA_get hd
  have hpn : p ≠ [] := fun e => by rw [e] at hd; simp at hd
  rw [getN_drop hd] at hg
  generalize p.getD k 0 = q at *
  by_cases c1 : q < 0
  ·rw [if_neg (by omega)] at hg
   have hv : fndV t id p = .sc (.pointer none) := by unfold fndV; rw [if_neg hpn,← hg]
   simp -implicitDefEqProofs (maxSteps := 99999999) (disch := first | omega | (simp only [AHeap.set_length,killO_length,List.length_cons,List.length_nil]; first | done | omega)) only [mk,d1,hpg,pthA_length,c1,va,vg,vs,vw,Nat.reduceMul,ite_true,ite_false,eq_self,forall_const,implies_true,Nat.reduceAdd,Nat.reduceSub,Nat.reduceLT,Nat.reduceLeDiff,↓reduceIte,reduceCtorEq,Int.reduceEq,Int.reduceLT,Int.reduceLE,Int.reduceGT,Int.reduceGE,Int.reduceAdd,Int.reduceSub,Int.reduceNeg,Int.reduceToNat,Nat.reduceBEq,Nat.reduceEqDiff]
   refine ⟨by omega,?_⟩
   rw [hv]
   exact weak_sc .refl
  rcases hP with ⟨hk0,rfl,rfl⟩ | ⟨hk0,rfl⟩
  ·skip
   by_cases c2 : q ≥ u.kids.length
   ·rw [if_neg (by omega)] at hg
    have hv : fndV u id p = .sc (.pointer none) := by unfold fndV; rw [if_neg hpn,← hg]
    simp -implicitDefEqProofs (maxSteps := 99999999) (disch := first | omega | (simp only [AHeap.set_length,killO_length,List.length_cons,List.length_nil]; first | done | omega)) only [mk,d1,hpg,pthA_length,ndL_length,c1,c2,hf,va,vg,vs,vw,Nat.reduceMul,ite_true,ite_false,eq_self,forall_const,implies_true,Nat.reduceAdd,Nat.reduceSub,Nat.reduceLT,Nat.reduceLeDiff,↓reduceIte,reduceCtorEq,Int.reduceEq,Int.reduceLT,Int.reduceLE,Int.reduceGT,Int.reduceGE,Int.reduceAdd,Int.reduceSub,Int.reduceNeg,Int.reduceToNat,Nat.reduceBEq,Nat.reduceEqDiff]
    refine ⟨by omega,?_⟩
    rw [hv]
    exact weak_sc .refl
   ·rw [if_pos (by omega)] at hg
    have hq : q.toNat < u.kids.length := by omega
    have hga := ndL_getA hq
    simp -implicitDefEqProofs (maxSteps := 99999999) (disch := first | omega | (simp only [AHeap.set_length,killO_length,List.length_cons,List.length_nil]; first | done | omega)) only [mk,d1,hpg,pthA_length,ndL_length,c1,c2,hf,hga,va,vg,vs,vw,Nat.reduceMul,ite_true,ite_false,eq_self,forall_const,implies_true,Nat.reduceAdd,Nat.reduceSub,Nat.reduceLT,Nat.reduceLeDiff,↓reduceIte,reduceCtorEq,Int.reduceEq,Int.reduceLT,Int.reduceLE,Int.reduceGT,Int.reduceGE,Int.reduceAdd,Int.reduceSub,Int.reduceNeg,Int.reduceToNat,Nat.reduceBEq,Nat.reduceEqDiff]
    exact ⟨by omega,by omega,hL2 _ _ ⟨k + 1,nthN u.kids q.toNat,_,⟨by omega,hg,.inr ⟨by omega,rfl⟩⟩,rfl,by simp [Fr]⟩ (by simp [intV,mk]; omega)⟩
  ·have hua := ndA_eq u
   by_cases c2 : q ≥ u.kids.length
   ·rw [if_neg (by omega)] at hg
    have hv : fndV t id p = .sc (.pointer none) := by unfold fndV; rw [if_neg hpn,← hg]
    simp -implicitDefEqProofs (maxSteps := 99999999) (disch := first | omega | (simp only [AHeap.set_length,killO_length,List.length_cons,List.length_nil]; first | done | omega)) only [mk,d1,hpg,pthA_length,ndL_length,c1,c2,hf,hua,va,vg,vs,vw,Nat.reduceMul,ite_true,ite_false,eq_self,forall_const,implies_true,Nat.reduceAdd,Nat.reduceSub,Nat.reduceLT,Nat.reduceLeDiff,↓reduceIte,reduceCtorEq,Int.reduceEq,Int.reduceLT,Int.reduceLE,Int.reduceGT,Int.reduceGE,Int.reduceAdd,Int.reduceSub,Int.reduceNeg,Int.reduceToNat,Nat.reduceBEq,Nat.reduceEqDiff]
    refine ⟨by omega,?_⟩
    rw [hv]
    exact weak_sc .refl
   ·rw [if_pos (by omega)] at hg
    have hq : q.toNat < u.kids.length := by omega
    have hga := ndL_getA hq
    simp -implicitDefEqProofs (maxSteps := 99999999) (disch := first | omega | (simp only [AHeap.set_length,killO_length,List.length_cons,List.length_nil]; first | done | omega)) only [mk,d1,hpg,pthA_length,ndL_length,c1,c2,hf,hua,hga,va,vg,vs,vw,Nat.reduceMul,ite_true,ite_false,eq_self,forall_const,implies_true,Nat.reduceAdd,Nat.reduceSub,Nat.reduceLT,Nat.reduceLeDiff,↓reduceIte,reduceCtorEq,Int.reduceEq,Int.reduceLT,Int.reduceLE,Int.reduceGT,Int.reduceGE,Int.reduceAdd,Int.reduceSub,Int.reduceNeg,Int.reduceToNat,Nat.reduceBEq,Nat.reduceEqDiff]
    exact ⟨by omega,by omega,hL2 _ _ ⟨k + 1,nthN u.kids q.toNat,_,⟨by omega,hg,.inr ⟨by omega,rfl⟩⟩,rfl,by simp [Fr]⟩ (by simp [intV,mk]; omega)⟩
 ·have d1 : ¬ (k : Int) < p.length := by omega
  have hdr : p.drop k = [] := List.drop_of_length_le (by omega)
  rw [hdr] at hg
  have hv : fndV t id p = P := by
   unfold fndV
   rcases hP with ⟨hk0,rfl,rfl⟩ | ⟨hk0,rfl⟩
   ·rw [if_pos (List.length_eq_zero_iff.1 (by omega))]
   ·rw [if_neg (fun e => by rw [e] at hk; simp at hk; omega),← hg]
    rfl
  simp -implicitDefEqProofs (maxSteps := 99999999) (disch := first | omega | (simp only [AHeap.set_length,killO_length,List.length_cons,List.length_nil]; first | done | omega)) only [mk,d1,va,vg,vs,vw,Nat.reduceMul,ite_true,ite_false,eq_self,forall_const,implies_true,Nat.reduceAdd,Nat.reduceSub,Nat.reduceLT,Nat.reduceLeDiff,↓reduceIte,reduceCtorEq,Int.reduceEq,Int.reduceLT,Int.reduceLE,Int.reduceGT,Int.reduceGE,Int.reduceAdd,Int.reduceSub,Int.reduceNeg,Int.reduceToNat,Nat.reduceBEq,Nat.reduceEqDiff]
  refine hL _ _ ?_
  clear hL
  simp -implicitDefEqProofs (maxSteps := 99999999) (disch := first | omega | (simp only [AHeap.set_length,killO_length,List.length_cons,List.length_nil]; first | done | omega)) only [vu,va,vg,vs,vw,Nat.reduceMul,ite_true,ite_false,eq_self,forall_const,implies_true,Nat.reduceAdd,Nat.reduceSub,Nat.reduceLT,Nat.reduceLeDiff,↓reduceIte,reduceCtorEq,Int.reduceEq,Int.reduceLT,Int.reduceLE,Int.reduceGT,Int.reduceGE,Int.reduceAdd,Int.reduceSub,Int.reduceNeg,Int.reduceToNat,Nat.reduceBEq,Nat.reduceEqDiff]
  rw [hv]
  exact Weak.refl _ _ _
end Go.Proofs.YtfnahogjkgcklaaDoor
