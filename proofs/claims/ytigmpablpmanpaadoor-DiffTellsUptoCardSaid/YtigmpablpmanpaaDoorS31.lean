/- Lists of texts that were lent: kept, and written over. -/
import Derived.Test.YtigmpablpmanpaaDoorS30
namespace Go.Proofs.YtigmpablpmanpaaDoor
open Go.RowKit
set_option maxRecDepth 100000
set_option linter.unusedVariables false
set_option linter.unusedSimpArgs false
theorem mks_nth {l : List ByteArray} {j n : Nat} (h : j < n) : nthS (l ++ mks n) (l.length + j) = markT 1 j := by
 rw [nthS_eq (by simp [mks_length]; exact h)]
 rw [List.getElem_append_right (by omega)]
 simp [mks]
theorem lent_nth {l m : List ByteArray} {k : Nat} (h : k < l.length) : nthS (l ++ m) k = nthS l k := by
 rw [nthS_eq (by simp; omega),nthS_eq h,List.getElem_append_left h]
theorem keptTexts_d (l : List ByteArray) (rl : Option (List AV)) (H : AHeap) (id : Nat) (ty : TypeId) (hf : AHeap.find H id = some ⟨1,strs (l ++ mks 12),true,ty⟩) (hl : l.length ≤ 1000000) :
  D Tryd.prog 15 [.vec 1 id 0 l.length (some (l.length + 12)),.lst 1 (strs l) rl] H (.ret (.sc (.bool true))) H := by
 refine D_of_DK (Nat.le_refl _) (dk15 (E_of_ES ?_))
 simp only [ic15,ux]
 obtain ⟨m,hm⟩ : ∃ m,m = l.length + 12 := ⟨_,rfl⟩
 have e12 : ((l.length : Int) + 12).toNat = m := by omega
 have c0 : 0 < m := by omega
 have hlen : (l ++ mks 12).length = m := by simp [mks_length]; omega
 rw [← hm]
 refine ES_seq_gen fun L hL => ?_
 simp -implicitDefEqProofs (maxSteps := 99999999) (disch := first | omega | (simp only [AHeap.set_length,killO_length,List.length_cons,List.length_nil]; first | done | omega)) only [va,vg,vs,vw,Nat.reduceMul,ite_true,ite_false,eq_self,forall_const,implies_true,Nat.reduceAdd,Nat.reduceSub,Nat.reduceLT,Nat.reduceLeDiff,↓reduceIte,reduceCtorEq,Int.reduceEq,Int.reduceLT,Int.reduceLE,Int.reduceGT,Int.reduceGE,Int.reduceAdd,Int.reduceSub,Int.reduceNeg,Int.reduceToNat,Nat.reduceBEq,Nat.reduceEqDiff]
 refine hL _ _ ?_
 clear hL
 refine ES_seq_gen fun L hL => ?_
 simp -implicitDefEqProofs (maxSteps := 99999999) (disch := first | omega | (simp only [AHeap.set_length,killO_length,List.length_cons,List.length_nil]; first | done | omega)) only [strs_length,ne_eq,va,vg,vs,vw,Nat.reduceMul,ite_true,ite_false,eq_self,forall_const,implies_true,Nat.reduceAdd,Nat.reduceSub,Nat.reduceLT,Nat.reduceLeDiff,↓reduceIte,reduceCtorEq,Int.reduceEq,Int.reduceLT,Int.reduceLE,Int.reduceGT,Int.reduceGE,Int.reduceAdd,Int.reduceSub,Int.reduceNeg,Int.reduceToNat,Nat.reduceBEq,Nat.reduceEqDiff]
 refine hL _ _ ?_
 clear hL
 refine ES_seq_gen fun L hL => ?_
 simp -implicitDefEqProofs (maxSteps := 99999999) (disch := first | omega | (simp only [AHeap.set_length,killO_length,List.length_cons,List.length_nil]; first | done | omega)) only [strs_length,e12,c0,Nat.sub_zero,va,vg,vs,vw,Nat.reduceMul,ite_true,ite_false,eq_self,forall_const,implies_true,Nat.reduceAdd,Nat.reduceSub,Nat.reduceLT,Nat.reduceLeDiff,↓reduceIte,reduceCtorEq,Int.reduceEq,Int.reduceLT,Int.reduceLE,Int.reduceGT,Int.reduceGE,Int.reduceAdd,Int.reduceSub,Int.reduceNeg,Int.reduceToNat,Nat.reduceBEq,Nat.reduceEqDiff]
 refine ⟨⟨by omega,rfl,by omega,by omega⟩,?_⟩
 refine hL _ _ ?_
 clear hL
 refine ES_seq_gen fun L hL => ?_
 simp -implicitDefEqProofs (maxSteps := 99999999) (disch := first | omega | (simp only [AHeap.set_length,killO_length,List.length_cons,List.length_nil]; first | done | omega)) only [va,vg,vs,vw,Nat.reduceMul,ite_true,ite_false,eq_self,forall_const,implies_true,Nat.reduceAdd,Nat.reduceSub,Nat.reduceLT,Nat.reduceLeDiff,↓reduceIte,reduceCtorEq,Int.reduceEq,Int.reduceLT,Int.reduceLE,Int.reduceGT,Int.reduceGE,Int.reduceAdd,Int.reduceSub,Int.reduceNeg,Int.reduceToNat,Nat.reduceBEq,Nat.reduceEqDiff]
 refine ES_loopL (fun ts H' => ∃ j : Nat,j ≤ m ∧ H' = H ∧ Fr [some (.vec 1 id 0 l.length (some m)),some (.lst 1 (strs l) rl),none,none,some (.sc (.bool false)),some (.vec 1 id 0 m (some m)),some (.sc (.int .i64 j)),none,none,none,none,none,none,none,none,none,none,none,none,none,none,none,none,none,none,none,none,none,none,none,none,none,none,none,none,none,none,none,none,none,none,none,none,none,none,none,none,none,none,none,none,none,none,none,none,none,none,none] ts) (fun ts _ => m - (intV (ts.getD 6 .top)).toNat) ⟨0,by omega,rfl,by simp [Fr]⟩ ?_
 rintro ts _ ⟨j,hj,rfl,hfr⟩ L2 hL2
 obtain ⟨js,rfl⟩ := hfr.opened
 clear hfr
 simp -implicitDefEqProofs (maxSteps := 99999999) (disch := first | omega | (simp only [AHeap.set_length,killO_length,List.length_cons,List.length_nil]; first | done | omega)) only [mk,va,vg,vs,vw,Nat.reduceMul,ite_true,ite_false,eq_self,forall_const,implies_true,Nat.reduceAdd,Nat.reduceSub,Nat.reduceLT,Nat.reduceLeDiff,↓reduceIte,reduceCtorEq,Int.reduceEq,Int.reduceLT,Int.reduceLE,Int.reduceGT,Int.reduceGE,Int.reduceAdd,Int.reduceSub,Int.reduceNeg,Int.reduceToNat,Nat.reduceBEq,Nat.reduceEqDiff]
 refine condR_if (fun h => ?_) (fun h => ?_)
 ·have h1 : j < m := by omega
  have hg : (strs (l ++ mks 12)).getD j .top = .sc (.string (nthS (l ++ mks 12) j)) := strs_get (by omega)
  by_cases c1 : j < l.length
  ·have c2 : (j : Int) < l.length := by omega
   have c3 : ¬ ((j : Int) ≥ l.length) := by omega
   have e1 := lent_nth (m := mks 12) c1
   simp -implicitDefEqProofs (maxSteps := 99999999) (disch := first | omega | (simp only [AHeap.set_length,killO_length,List.length_cons,List.length_nil]; first | done | omega)) only [hf,strs_length,hlen,h1,c1,c2,c3,hg,strs_get c1,e1,va,vg,vs,vw,Nat.reduceMul,ite_true,ite_false,eq_self,forall_const,implies_true,Nat.reduceAdd,Nat.reduceSub,Nat.reduceLT,Nat.reduceLeDiff,↓reduceIte,reduceCtorEq,Int.reduceEq,Int.reduceLT,Int.reduceLE,Int.reduceGT,Int.reduceGE,Int.reduceAdd,Int.reduceSub,Int.reduceNeg,Int.reduceToNat,Nat.reduceBEq,Nat.reduceEqDiff]
   exact ⟨⟨by omega,by omega⟩,by omega,hL2 _ _ ⟨j + 1,by omega,rfl,by simp [Fr]⟩ (by simp [intV,mk]; omega)⟩
  ·obtain ⟨t,rfl⟩ : ∃ t,j = l.length + t := ⟨j - l.length,by omega⟩
   have c2 : ¬ (((l.length + t : Nat) : Int) < l.length) := by omega
   have c3 : ((l.length + t : Nat) : Int) ≥ l.length := by omega
   have e1 := mks_nth (l := l) (j := t) (n := 12) (by omega)
   have e2 : ((l.length + t : Nat) : Int) - l.length = t := by omega
   simp -implicitDefEqProofs (maxSteps := 99999999) (disch := first | omega | (simp only [AHeap.set_length,killO_length,List.length_cons,List.length_nil]; first | done | omega)) only [hf,strs_length,hlen,h1,c1,c2,c3,hg,e1,e2,va,vg,vs,vw,Nat.reduceMul,ite_true,ite_false,eq_self,forall_const,implies_true,Nat.reduceAdd,Nat.reduceSub,Nat.reduceLT,Nat.reduceLeDiff,↓reduceIte,reduceCtorEq,Int.reduceEq,Int.reduceLT,Int.reduceLE,Int.reduceGT,Int.reduceGE,Int.reduceAdd,Int.reduceSub,Int.reduceNeg,Int.reduceToNat,Nat.reduceBEq,Nat.reduceEqDiff]
   refine ⟨⟨by omega,by omega⟩,callD_same (markText_d _ _ _) ?_⟩
   simp -implicitDefEqProofs (maxSteps := 99999999) (disch := first | omega | (simp only [AHeap.set_length,killO_length,List.length_cons,List.length_nil]; first | done | omega)) only [hf,strs_length,hlen,h1,c1,c2,c3,hg,e1,e2,va,vg,vs,vw,Nat.reduceMul,ite_true,ite_false,eq_self,forall_const,implies_true,Nat.reduceAdd,Nat.reduceSub,Nat.reduceLT,Nat.reduceLeDiff,↓reduceIte,reduceCtorEq,Int.reduceEq,Int.reduceLT,Int.reduceLE,Int.reduceGT,Int.reduceGE,Int.reduceAdd,Int.reduceSub,Int.reduceNeg,Int.reduceToNat,Nat.reduceBEq,Nat.reduceEqDiff]
   exact hL2 _ _ ⟨l.length + t + 1,by omega,rfl,by simp [Fr]⟩ (by simp [intV,mk]; omega)
 ·have h1 : j = m := by omega
  refine hL _ _ ?_
  clear hL
  simp -implicitDefEqProofs (maxSteps := 99999999) (disch := first | omega | (simp only [AHeap.set_length,killO_length,List.length_cons,List.length_nil]; first | done | omega)) only [va,vg,vs,vw,Nat.reduceMul,ite_true,ite_false,eq_self,forall_const,implies_true,Nat.reduceAdd,Nat.reduceSub,Nat.reduceLT,Nat.reduceLeDiff,↓reduceIte,reduceCtorEq,Int.reduceEq,Int.reduceLT,Int.reduceLE,Int.reduceGT,Int.reduceGE,Int.reduceAdd,Int.reduceSub,Int.reduceNeg,Int.reduceToNat,Nat.reduceBEq,Nat.reduceEqDiff]
  exact Weak.refl _ _ _
theorem set_same {H : AHeap} {i : Nat} {b : ABlk} (h : AHeap.find H i = some b) : AHeap.set H i (some b) = H := by
 induction H with
 | nil => rfl
 | cons x r ih =>
  simp only [AHeap.find] at h
  simp only [AHeap.set]
  split
  ·rename_i e
   rw [if_pos e] at h
   rw [h]
  ·rename_i e
   rw [if_neg e] at h
   rw [ih h]
/-- A list, written over up to place j. -/
def ovr (l : List ByteArray) (j : Nat) : List ByteArray := ((List.range j).map fun i : Nat => markT 2 (i : Int)) ++ l.drop j
theorem ovr_zero {l : List ByteArray} : ovr l 0 = l := by simp [ovr]
theorem ovr_length {l : List ByteArray} {j : Nat} (h : j ≤ l.length) : (ovr l j).length = l.length := by simp [ovr]; omega
theorem ovr_set {l : List ByteArray} {j : Nat} (h : j < l.length) : (strs (ovr l j)).set j (.sc (.string (markT 2 j))) = strs (ovr l (j + 1)) := by
 unfold ovr
 rw [strs_append,strs_append,List.set_append_right _ _ (by simp [strs_length])]
 rw [List.range_succ,List.map_append,strs_append,List.append_assoc,List.drop_eq_getElem_cons h]
 simp only [strs_length,List.length_map,List.length_range,Nat.sub_self]
 rfl
theorem overTexts_d (l : List ByteArray) (H : AHeap) (id : Nat) (ty : TypeId) (hf : AHeap.find H id = some ⟨1,strs (l ++ mks 12),true,ty⟩) (hl : l.length ≤ 1000000) :
  D Tryd.prog 16 [.vec 1 id 0 l.length (some (l.length + 12))] H (.ret (.tup [])) (AHeap.set H id (some ⟨1,strs ((List.range (l.length + 12)).map fun i : Nat => markT 2 (i : Int)),true,ty⟩)) := by
 refine D_of_DK (by simp [AHeap.set_length]) (dk16 (E_of_ES ?_))
 simp only [ic16,ux]
 obtain ⟨m,hm⟩ : ∃ m,m = l.length + 12 := ⟨_,rfl⟩
 have e12 : ((l.length : Int) + 12).toNat = m := by omega
 have c0 : 0 < m := by omega
 have hlen : (l ++ mks 12).length = m := by simp [mks_length]; omega
 rw [← hm]
 refine ES_seq_gen fun L hL => ?_
 simp -implicitDefEqProofs (maxSteps := 99999999) (disch := first | omega | (simp only [AHeap.set_length,killO_length,List.length_cons,List.length_nil]; first | done | omega)) only [strs_length,e12,c0,Nat.sub_zero,va,vg,vs,vw,Nat.reduceMul,ite_true,ite_false,eq_self,forall_const,implies_true,Nat.reduceAdd,Nat.reduceSub,Nat.reduceLT,Nat.reduceLeDiff,↓reduceIte,reduceCtorEq,Int.reduceEq,Int.reduceLT,Int.reduceLE,Int.reduceGT,Int.reduceGE,Int.reduceAdd,Int.reduceSub,Int.reduceNeg,Int.reduceToNat,Nat.reduceBEq,Nat.reduceEqDiff]
 refine ⟨⟨by omega,rfl,by omega,by omega⟩,?_⟩
 refine hL _ _ ?_
 clear hL
 refine ES_seq_gen fun L hL => ?_
 simp -implicitDefEqProofs (maxSteps := 99999999) (disch := first | omega | (simp only [AHeap.set_length,killO_length,List.length_cons,List.length_nil]; first | done | omega)) only [va,vg,vs,vw,Nat.reduceMul,ite_true,ite_false,eq_self,forall_const,implies_true,Nat.reduceAdd,Nat.reduceSub,Nat.reduceLT,Nat.reduceLeDiff,↓reduceIte,reduceCtorEq,Int.reduceEq,Int.reduceLT,Int.reduceLE,Int.reduceGT,Int.reduceGE,Int.reduceAdd,Int.reduceSub,Int.reduceNeg,Int.reduceToNat,Nat.reduceBEq,Nat.reduceEqDiff]
 refine hL _ _ ?_
 clear hL
 have hid := AHeap.find_lt hf
 refine ES_loopL (fun ts H' => ∃ j : Nat,j ≤ m ∧ H' = AHeap.set H id (some ⟨1,strs (ovr (l ++ mks 12) j),true,ty⟩) ∧ Fr [some (.vec 1 id 0 l.length (some m)),none,some (.vec 1 id 0 m (some m)),some (.sc (.int .i64 j)),none,none,none,none,none,none,none,none,none,none,none,none,none,none,none,none] ts) (fun ts _ => m - (intV (ts.getD 3 .top)).toNat) ⟨0,by omega,by rw [ovr_zero,set_same hf],by simp [Fr]⟩ ?_
 rintro ts _ ⟨j,hj,rfl,hfr⟩ L2 hL2
 obtain ⟨js,rfl⟩ := hfr.opened
 clear hfr
 have hf2 : AHeap.find (AHeap.set H id (some ⟨1,strs (ovr (l ++ mks 12) j),true,ty⟩)) id = some ⟨1,strs (ovr (l ++ mks 12) j),true,ty⟩ := AHeap.find_set_same hid
 simp -implicitDefEqProofs (maxSteps := 99999999) (disch := first | omega | (simp only [AHeap.set_length,killO_length,List.length_cons,List.length_nil]; first | done | omega)) only [mk,va,vg,vs,vw,Nat.reduceMul,ite_true,ite_false,eq_self,forall_const,implies_true,Nat.reduceAdd,Nat.reduceSub,Nat.reduceLT,Nat.reduceLeDiff,↓reduceIte,reduceCtorEq,Int.reduceEq,Int.reduceLT,Int.reduceLE,Int.reduceGT,Int.reduceGE,Int.reduceAdd,Int.reduceSub,Int.reduceNeg,Int.reduceToNat,Nat.reduceBEq,Nat.reduceEqDiff]
 refine condR_if (fun h => ?_) (fun h => ?_)
 ·have h1 : j < m := by omega
  have hol := ovr_length (l := l ++ mks 12) (j := j) (by omega)
  have hg : (strs (ovr (l ++ mks 12) j)).getD j .top = .sc (.string (nthS (ovr (l ++ mks 12) j) j)) := strs_get (by omega)
  have hst := ovr_set (l := l ++ mks 12) (j := j) (by omega)
  simp -implicitDefEqProofs (maxSteps := 99999999) (disch := first | omega | (simp only [AHeap.set_length,killO_length,List.length_cons,List.length_nil]; first | done | omega)) only [hf2,strs_length,hol,hlen,h1,hg,va,vg,vs,vw,Nat.reduceMul,ite_true,ite_false,eq_self,forall_const,implies_true,Nat.reduceAdd,Nat.reduceSub,Nat.reduceLT,Nat.reduceLeDiff,↓reduceIte,reduceCtorEq,Int.reduceEq,Int.reduceLT,Int.reduceLE,Int.reduceGT,Int.reduceGE,Int.reduceAdd,Int.reduceSub,Int.reduceNeg,Int.reduceToNat,Nat.reduceBEq,Nat.reduceEqDiff]
  refine callR_ret (markText_d _ _ _) ?_
  simp -implicitDefEqProofs (maxSteps := 99999999) (disch := first | omega | (simp only [AHeap.set_length,killO_length,List.length_cons,List.length_nil]; first | done | omega)) only [hf2,strs_length,hol,hlen,h1,hg,hst,set_set,va,vg,vs,vw,Nat.reduceMul,ite_true,ite_false,eq_self,forall_const,implies_true,Nat.reduceAdd,Nat.reduceSub,Nat.reduceLT,Nat.reduceLeDiff,↓reduceIte,reduceCtorEq,Int.reduceEq,Int.reduceLT,Int.reduceLE,Int.reduceGT,Int.reduceGE,Int.reduceAdd,Int.reduceSub,Int.reduceNeg,Int.reduceToNat,Nat.reduceBEq,Nat.reduceEqDiff]
  exact ⟨⟨by omega,by omega⟩,hL2 _ _ ⟨j + 1,by omega,rfl,by simp [Fr]⟩ (by simp [intV,mk]; omega)⟩
 ·have h1 : j = m := by omega
  have e1 : ovr (l ++ mks 12) m = (List.range m).map fun i : Nat => markT 2 (i : Int) := by
   unfold ovr
   rw [List.drop_of_length_le (by omega),List.append_nil]
  subst h1
  simp -implicitDefEqProofs (maxSteps := 99999999) (disch := first | omega | (simp only [AHeap.set_length,killO_length,List.length_cons,List.length_nil]; first | done | omega)) only [e1,va,vg,vs,vw,Nat.reduceMul,ite_true,ite_false,eq_self,forall_const,implies_true,Nat.reduceAdd,Nat.reduceSub,Nat.reduceLT,Nat.reduceLeDiff,↓reduceIte,reduceCtorEq,Int.reduceEq,Int.reduceLT,Int.reduceLE,Int.reduceGT,Int.reduceGE,Int.reduceAdd,Int.reduceSub,Int.reduceNeg,Int.reduceToNat,Nat.reduceBEq,Nat.reduceEqDiff]
  exact Weak.refl _ _ _
end Go.Proofs.YtigmpablpmanpaaDoor
