/- law11.ValueTexts: the walk. -/
import Derived.Test.YtpnnpooeheiedaaDoorS215
import Derived.Test.YtpnnpooeheiedaaDoorS197
namespace Go.Proofs.YtpnnpooeheiedaaDoor
open Go.RowKit
set_option maxRecDepth 100000
set_option linter.unusedVariables false
set_option linter.unusedSimpArgs false
def rowsN : List Vl → Nat
 | [] => 0
 | v :: r => v.row.length + rowsN r
theorem rowsN_append : ∀ (a b : List Vl),rowsN (a ++ b) = rowsN a + rowsN b
 | [],b => by simp [rowsN]
 | x :: r,b => by simp [rowsN,rowsN_append r b]; omega
theorem rowsN_le : ∀ (l : List Vl),rowsN l ≤ szV l
 | [] => Nat.le_refl _
 | v :: r => by have := rowsN_le r; simp only [rowsN,szV]; omega
theorem szV_eq : ∀ (l : List Vl),szV l = rowsN l + l.length
 | [] => rfl
 | v :: r => by have := szV_eq r; simp only [rowsN,szV,List.length_cons]; omega
theorem rowsN_take {l : List Vl} {k : Nat} (h : k < l.length) : rowsN (l.take (k + 1)) = rowsN (l.take k) + (nthV l k).row.length := by
 rw [take_snoc h,rowsN_append,nthV_eq h]
 simp [rowsN]
theorem rowsN_takeL (l : List Vl) (k : Nat) : rowsN (l.take k) ≤ szV l := by
 have h := rowsN_append (l.take k) (l.drop k)
 rw [List.take_append_drop] at h
 have := rowsN_le l
 omega
set_option maxHeartbeats 4000000 in
theorem valueTexts_d (l : List Vl) (ro : Option (List AV)) (hv : ∀ v ∈ l,v.good) (hs0 : szV l ≤ 2000000) (H : AHeap) : D Tryd.prog 4 [.lst 3 (vrow l) ro] H (.ret (.sc (.bool true))) H := by
 refine D_of_DK (Nat.le_refl _) (dk4 (E_of_ES ?_))
 have hln := (szV_mem (l := l)).1
 have hl3 := vrow_length l
 simp only [ic4,ux]
 refine ES_seq_gen fun L hL => ?_
 simp -implicitDefEqProofs (maxSteps := 99999999) (disch := first | omega | (simp only [AHeap.set_length,killO_length,List.length_cons,List.length_nil]; first | done | omega)) only [vu,va,vg,vs,vw,Nat.reduceMul,ite_true,ite_false,eq_self,forall_const,implies_true,Nat.reduceAdd,Nat.reduceSub,Nat.reduceLT,Nat.reduceLeDiff,↓reduceIte,reduceCtorEq,Int.reduceEq,Int.reduceLT,Int.reduceLE,Int.reduceGT,Int.reduceGE,Int.reduceAdd,Int.reduceSub,Int.reduceNeg,Int.reduceToNat,Nat.reduceBEq,Nat.reduceEqDiff]
 refine hL _ _ ?_
 clear hL
 refine ES_seq_gen fun L hL => ?_
 simp -implicitDefEqProofs (maxSteps := 99999999) (disch := first | omega | (simp only [AHeap.set_length,killO_length,List.length_cons,List.length_nil]; first | done | omega)) only [vu,va,vg,vs,vw,Nat.reduceMul,ite_true,ite_false,eq_self,forall_const,implies_true,Nat.reduceAdd,Nat.reduceSub,Nat.reduceLT,Nat.reduceLeDiff,↓reduceIte,reduceCtorEq,Int.reduceEq,Int.reduceLT,Int.reduceLE,Int.reduceGT,Int.reduceGE,Int.reduceAdd,Int.reduceSub,Int.reduceNeg,Int.reduceToNat,Nat.reduceBEq,Nat.reduceEqDiff]
 refine hL _ _ ?_
 clear hL
 refine ES_seq_gen fun L hL => ?_
 simp -implicitDefEqProofs (maxSteps := 99999999) (disch := first | omega | (simp only [AHeap.set_length,killO_length,List.length_cons,List.length_nil]; first | done | omega)) only [vu,va,vg,vs,vw,Nat.reduceMul,ite_true,ite_false,eq_self,forall_const,implies_true,Nat.reduceAdd,Nat.reduceSub,Nat.reduceLT,Nat.reduceLeDiff,↓reduceIte,reduceCtorEq,Int.reduceEq,Int.reduceLT,Int.reduceLE,Int.reduceGT,Int.reduceGE,Int.reduceAdd,Int.reduceSub,Int.reduceNeg,Int.reduceToNat,Nat.reduceBEq,Nat.reduceEqDiff]
 refine ES_loopL (fun ts F => ∃ k : Nat,(k ≤ l.length ∧ k ≤ 301) ∧ F = H ∧ Fr [some (.lst 3 (vrow l) ro),none,none,some (.sc (.int .i64 (rowsN (l.take k) : Nat))),some (.sc (.int .i64 k)),none,none,none,none,none,none,none,none,none,none,none,none,none,none,none,none,none,none,none,none,none,none,none,none,none,none,none,none,none,none,none,none,none,none,none,none,none,none,none,none,none,none] ts) (fun ts _ => l.length - (intV (ts.getD 4 .top)).toNat) ?_ ?_
 ·exact ⟨0,⟨Nat.zero_le _,by omega⟩,rfl,by simp [Fr,rowsN]⟩
 ·rintro ts F ⟨k,⟨hk,hk2⟩,rfl,hfr⟩ L2 hL2
  obtain ⟨js,rfl⟩ := hfr.opened
  clear hfr
  have hb := rowsN_takeL l k
  by_cases h1 : k < l.length ∧ k < 301
  ·have h1' : (k : Int) < l.length := by omega
   have h2' : (k : Int) < 301 := by omega
   have hb2 := rowsN_takeL l (k + 1)
   have e := rowsN_take h1.1
   have ec : ((rowsN (l.take k) : Nat) : Int) + ((nthV l k).row.length : Nat) = ((rowsN (l.take (k + 1)) : Nat) : Int) := by omega
   simp -implicitDefEqProofs (maxSteps := 99999999) (disch := first | omega | (simp only [AHeap.set_length,killO_length,List.length_cons,List.length_nil]; first | done | omega)) only [vu,mk,h1',h2',hl3,vrow_get h1.1,lng_length,ec,va,vg,vs,vw,Nat.reduceMul,ite_true,ite_false,eq_self,forall_const,implies_true,Nat.reduceAdd,Nat.reduceSub,Nat.reduceLT,Nat.reduceLeDiff,↓reduceIte,reduceCtorEq,Int.reduceEq,Int.reduceLT,Int.reduceLE,Int.reduceGT,Int.reduceGE,Int.reduceAdd,Int.reduceSub,Int.reduceNeg,Int.reduceToNat,Nat.reduceBEq,Nat.reduceEqDiff]
   refine ⟨by omega,hL2 _ _ ⟨k + 1,⟨by omega,by omega⟩,rfl,by simp [Fr]⟩ (by simp [mk,intV]; omega)⟩
  ·have fin : ∀ ts : List AV,Fr [some (.lst 3 (vrow l) ro),none,none,some (.sc (.int .i64 (rowsN (l.take k) : Nat))),some (.sc (.int .i64 k)),none,none,none,none,none,none,none,none,none,none,none,none,none,none,none,none,none,none,none,none,none,none,none,none,none,none,none,none,none,none,none,none,none,none,none,none,none,none,none,none,none,none] ts → L ts F := fun ts hfr => by
    obtain ⟨js,rfl⟩ := hfr.opened
    clear hfr
    refine hL _ _ ?_
    clear hL hL2
    refine ES_seq_gen fun L hL => ?_
    by_cases c1 : 300 < l.length
    ·have c1' : (l.length : Int) > 300 := by omega
     simp -implicitDefEqProofs (maxSteps := 99999999) (disch := first | omega | (simp only [AHeap.set_length,killO_length,List.length_cons,List.length_nil]; first | done | omega)) only [vu,mk,hl3,c1',va,vg,vs,vw,Nat.reduceMul,ite_true,ite_false,eq_self,forall_const,implies_true,Nat.reduceAdd,Nat.reduceSub,Nat.reduceLT,Nat.reduceLeDiff,↓reduceIte,reduceCtorEq,Int.reduceEq,Int.reduceLT,Int.reduceLE,Int.reduceGT,Int.reduceGE,Int.reduceAdd,Int.reduceSub,Int.reduceNeg,Int.reduceToNat,Nat.reduceBEq,Nat.reduceEqDiff]
     refine callR_ret (awake11_d _) ?_
     simp -implicitDefEqProofs (maxSteps := 99999999) (disch := first | omega | (simp only [AHeap.set_length,killO_length,List.length_cons,List.length_nil]; first | done | omega)) only [vu,va,vg,vs,vw,Nat.reduceMul,ite_true,ite_false,eq_self,forall_const,implies_true,Nat.reduceAdd,Nat.reduceSub,Nat.reduceLT,Nat.reduceLeDiff,↓reduceIte,reduceCtorEq,Int.reduceEq,Int.reduceLT,Int.reduceLE,Int.reduceGT,Int.reduceGE,Int.reduceAdd,Int.reduceSub,Int.reduceNeg,Int.reduceToNat,Nat.reduceBEq,Nat.reduceEqDiff]
     exact weak_sc .refl
    have c1' : ¬ (l.length : Int) > 300 := by omega
    by_cases c2 : 3000 < rowsN (l.take k)
    ·have c2' : ((rowsN (l.take k) : Nat) : Int) > 3000 := by omega
     simp -implicitDefEqProofs (maxSteps := 99999999) (disch := first | omega | (simp only [AHeap.set_length,killO_length,List.length_cons,List.length_nil]; first | done | omega)) only [vu,mk,hl3,c1',c2',va,vg,vs,vw,Nat.reduceMul,ite_true,ite_false,eq_self,forall_const,implies_true,Nat.reduceAdd,Nat.reduceSub,Nat.reduceLT,Nat.reduceLeDiff,↓reduceIte,reduceCtorEq,Int.reduceEq,Int.reduceLT,Int.reduceLE,Int.reduceGT,Int.reduceGE,Int.reduceAdd,Int.reduceSub,Int.reduceNeg,Int.reduceToNat,Nat.reduceBEq,Nat.reduceEqDiff]
     refine callR_ret (awake11_d _) ?_
     simp -implicitDefEqProofs (maxSteps := 99999999) (disch := first | omega | (simp only [AHeap.set_length,killO_length,List.length_cons,List.length_nil]; first | done | omega)) only [vu,va,vg,vs,vw,Nat.reduceMul,ite_true,ite_false,eq_self,forall_const,implies_true,Nat.reduceAdd,Nat.reduceSub,Nat.reduceLT,Nat.reduceLeDiff,↓reduceIte,reduceCtorEq,Int.reduceEq,Int.reduceLT,Int.reduceLE,Int.reduceGT,Int.reduceGE,Int.reduceAdd,Int.reduceSub,Int.reduceNeg,Int.reduceToNat,Nat.reduceBEq,Nat.reduceEqDiff]
     exact weak_sc .refl
    have c2' : ¬ ((rowsN (l.take k) : Nat) : Int) > 3000 := by omega
    simp -implicitDefEqProofs (maxSteps := 99999999) (disch := first | omega | (simp only [AHeap.set_length,killO_length,List.length_cons,List.length_nil]; first | done | omega)) only [vu,mk,hl3,c1',c2',va,vg,vs,vw,Nat.reduceMul,ite_true,ite_false,eq_self,forall_const,implies_true,Nat.reduceAdd,Nat.reduceSub,Nat.reduceLT,Nat.reduceLeDiff,↓reduceIte,reduceCtorEq,Int.reduceEq,Int.reduceLT,Int.reduceLE,Int.reduceGT,Int.reduceGE,Int.reduceAdd,Int.reduceSub,Int.reduceNeg,Int.reduceToNat,Nat.reduceBEq,Nat.reduceEqDiff]
    refine hL _ _ ?_
    clear hL
    refine ES_seq_gen fun L hL => ?_
    have hs : szV l ≤ 1000000 := by
     have hkl : k = l.length := by omega
     rw [hkl,List.take_length] at c2
     have := szV_eq l
     omega
    simp -implicitDefEqProofs (maxSteps := 99999999) (disch := first | omega | (simp only [AHeap.set_length,killO_length,List.length_cons,List.length_nil]; first | done | omega)) only [vu,va,vg,vs,vw,Nat.reduceMul,ite_true,ite_false,eq_self,forall_const,implies_true,Nat.reduceAdd,Nat.reduceSub,Nat.reduceLT,Nat.reduceLeDiff,↓reduceIte,reduceCtorEq,Int.reduceEq,Int.reduceLT,Int.reduceLE,Int.reduceGT,Int.reduceGE,Int.reduceAdd,Int.reduceSub,Int.reduceNeg,Int.reduceToNat,Nat.reduceBEq,Nat.reduceEqDiff]
    refine callR_ret (lentValues_d l ro _ hs) ?_
    simp -implicitDefEqProofs (maxSteps := 99999999) (disch := first | omega | (simp only [AHeap.set_length,killO_length,List.length_cons,List.length_nil]; first | done | omega)) only [vu,va,vg,vs,vw,Nat.reduceMul,ite_true,ite_false,eq_self,forall_const,implies_true,Nat.reduceAdd,Nat.reduceSub,Nat.reduceLT,Nat.reduceLeDiff,↓reduceIte,reduceCtorEq,Int.reduceEq,Int.reduceLT,Int.reduceLE,Int.reduceGT,Int.reduceGE,Int.reduceAdd,Int.reduceSub,Int.reduceNeg,Int.reduceToNat,Nat.reduceBEq,Nat.reduceEqDiff]
    refine hL _ _ ?_
    clear hL
    obtain ⟨G,hG⟩ : ∃ G,G = lays (lentBv l ++ [lentVB l (fun i => F.length + i)]) F := ⟨_,rfl⟩
    have hlb : (lentBv l).length = l.length := by simp [lentBv]
    have ok : LentVOK G l (F.length + l.length) (fun i => F.length + i) := by
     constructor
     ·rw [hG]
      exact lays_new (by rw [List.getElem?_append_right (by omega),hlb]; simp)
     ·intro i hi
      rw [hG]
      exact lays_new (by rw [List.getElem?_append_left (by omega)]; simp [lentBv,hi])
    have hold : ∀ id,id < F.length → AHeap.find G id = AHeap.find F id := fun id hid => by rw [hG]; exact lays_old hid
    rw [← hG]
    simp -implicitDefEqProofs (maxSteps := 99999999) (disch := first | omega | (simp only [AHeap.set_length,killO_length,List.length_cons,List.length_nil]; first | done | omega)) only [vu,va,vg,vs,vw,Nat.reduceMul,ite_true,ite_false,eq_self,forall_const,implies_true,Nat.reduceAdd,Nat.reduceSub,Nat.reduceLT,Nat.reduceLeDiff,↓reduceIte,reduceCtorEq,Int.reduceEq,Int.reduceLT,Int.reduceLE,Int.reduceGT,Int.reduceGE,Int.reduceAdd,Int.reduceSub,Int.reduceNeg,Int.reduceToNat,Nat.reduceBEq,Nat.reduceEqDiff]
    refine callR_ret (D_view (.cons (lentVs_view ok) .nil) .sc (vText_d l none hv hs [])) ?_
    simp -implicitDefEqProofs (maxSteps := 99999999) (disch := first | omega | (simp only [AHeap.set_length,killO_length,List.length_cons,List.length_nil]; first | done | omega)) only [vu,va,vg,vs,vw,Nat.reduceMul,ite_true,ite_false,eq_self,forall_const,implies_true,Nat.reduceAdd,Nat.reduceSub,Nat.reduceLT,Nat.reduceLeDiff,↓reduceIte,reduceCtorEq,Int.reduceEq,Int.reduceLT,Int.reduceLE,Int.reduceGT,Int.reduceGE,Int.reduceAdd,Int.reduceSub,Int.reduceNeg,Int.reduceToNat,Nat.reduceBEq,Nat.reduceEqDiff]
    refine callR_ret (rText_d l ro hv hs _) ?_
    simp -implicitDefEqProofs (maxSteps := 99999999) (disch := first | omega | (simp only [AHeap.set_length,killO_length,List.length_cons,List.length_nil]; first | done | omega)) only [vu,va,vg,vs,vw,Nat.reduceMul,ite_true,ite_false,eq_self,forall_const,implies_true,Nat.reduceAdd,Nat.reduceSub,Nat.reduceLT,Nat.reduceLeDiff,↓reduceIte,reduceCtorEq,Int.reduceEq,Int.reduceLT,Int.reduceLE,Int.reduceGT,Int.reduceGE,Int.reduceAdd,Int.reduceSub,Int.reduceNeg,Int.reduceToNat,Nat.reduceBEq,Nat.reduceEqDiff]
    refine callR_ret (keptValues_d l ro G _ _ ok hs) ?_
    simp -implicitDefEqProofs (maxSteps := 99999999) (disch := first | omega | (simp only [AHeap.set_length,killO_length,List.length_cons,List.length_nil]; first | done | omega)) only [vu,va,vg,vs,vw,Nat.reduceMul,ite_true,ite_false,eq_self,forall_const,implies_true,Nat.reduceAdd,Nat.reduceSub,Nat.reduceLT,Nat.reduceLeDiff,↓reduceIte,reduceCtorEq,Int.reduceEq,Int.reduceLT,Int.reduceLE,Int.reduceGT,Int.reduceGE,Int.reduceAdd,Int.reduceSub,Int.reduceNeg,Int.reduceToNat,Nat.reduceBEq,Nat.reduceEqDiff]
    refine callR_ret (awake11_d _) ?_
    simp -implicitDefEqProofs (maxSteps := 99999999) (disch := first | omega | (simp only [AHeap.set_length,killO_length,List.length_cons,List.length_nil]; first | done | omega)) only [vu,va,vg,vs,vw,Nat.reduceMul,ite_true,ite_false,eq_self,forall_const,implies_true,Nat.reduceAdd,Nat.reduceSub,Nat.reduceLT,Nat.reduceLeDiff,↓reduceIte,reduceCtorEq,Int.reduceEq,Int.reduceLT,Int.reduceLE,Int.reduceGT,Int.reduceGE,Int.reduceAdd,Int.reduceSub,Int.reduceNeg,Int.reduceToNat,Nat.reduceBEq,Nat.reduceEqDiff]
    exact weak_frz hold (.same trivial)
   by_cases h2 : k < l.length
   ·have h1' : (k : Int) < l.length := by omega
    have h2' : ¬ (k : Int) < 301 := by omega
    simp -implicitDefEqProofs (maxSteps := 99999999) (disch := first | omega | (simp only [AHeap.set_length,killO_length,List.length_cons,List.length_nil]; first | done | omega)) only [vu,mk,h1',h2',hl3,va,vg,vs,vw,Nat.reduceMul,ite_true,ite_false,eq_self,forall_const,implies_true,Nat.reduceAdd,Nat.reduceSub,Nat.reduceLT,Nat.reduceLeDiff,↓reduceIte,reduceCtorEq,Int.reduceEq,Int.reduceLT,Int.reduceLE,Int.reduceGT,Int.reduceGE,Int.reduceAdd,Int.reduceSub,Int.reduceNeg,Int.reduceToNat,Nat.reduceBEq,Nat.reduceEqDiff]
    exact fin _ (by simp [Fr])
   ·have h1' : ¬ (k : Int) < l.length := by omega
    simp -implicitDefEqProofs (maxSteps := 99999999) (disch := first | omega | (simp only [AHeap.set_length,killO_length,List.length_cons,List.length_nil]; first | done | omega)) only [vu,mk,h1',hl3,va,vg,vs,vw,Nat.reduceMul,ite_true,ite_false,eq_self,forall_const,implies_true,Nat.reduceAdd,Nat.reduceSub,Nat.reduceLT,Nat.reduceLeDiff,↓reduceIte,reduceCtorEq,Int.reduceEq,Int.reduceLT,Int.reduceLE,Int.reduceGT,Int.reduceGE,Int.reduceAdd,Int.reduceSub,Int.reduceNeg,Int.reduceToNat,Nat.reduceBEq,Nat.reduceEqDiff]
    exact fin _ (by simp [Fr])
end Go.Proofs.YtpnnpooeheiedaaDoor
