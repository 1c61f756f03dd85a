/- Values that were lent: kept. -/
import Derived.Test.YtpnnpooeheiedaaDoorS214
namespace Go.Proofs.YtpnnpooeheiedaaDoor
open Go.RowKit
set_option maxRecDepth 100000
set_option linter.unusedVariables false
set_option linter.unusedSimpArgs false
theorem lentVs_get {l : List Vl} {io : Nat → Nat} {k : Nat} (h : k < l.length) : (lentVs l io ++ mksV 12).getD k .top = lvA (nthV l k) (io k) := by
 rw [List.getD_eq_getElem?_getD,List.getElem?_append_left (by rw [lentVs_length]; exact h)]
 simp [lentVs,h]
theorem lentVs_mark {l : List Vl} {io : Nat → Nat} {t : Nat} (h : t < 12) : (lentVs l io ++ mksV 12).getD (l.length + t) .top = mkV 1 t := by
 rw [List.getD_eq_getElem?_getD,List.getElem?_append_right (by rw [lentVs_length]; omega),lentVs_length]
 simp [mksV,h]
theorem lentVall_length {l : List Vl} {io : Nat → Nat} : (lentVs l io ++ mksV 12).length = l.length + 12 := by rw [List.length_append,lentVs_length,mksV_length]
/-- Lent values in own memory. -/
structure LentVOK (H : AHeap) (l : List Vl) (idh : Nat) (io : Nat → Nat) : Prop where
 row : AHeap.find H idh = lentVB l io
 rows : ∀ i,i < l.length → AHeap.find H (io i) = lentRB (nthV l i).row
theorem sameM_d (k i : Int) (H : AHeap) : D Tryd.prog 25 [mkV k i,mkV k i] H (.ret (.sc (.bool true))) H := sameN_d 0 (markI k i) H
theorem keptValues_d (l : List Vl) (rl : Option (List AV)) (H : AHeap) (idh : Nat) (io : Nat → Nat) (ok : LentVOK H l idh io) (hf : szV l ≤ 1000000) :
  D Tryd.prog 17 [lentVV l idh,.lst 3 (vrow l) rl] H (.ret (.sc (.bool true))) H := by
 have hlen : l.length ≤ 1000000 := by have := (szV_mem (l := l)).1; omega
 have hrow := ok.row
 refine D_of_DK (Nat.le_refl _) (dk17 (E_of_ES ?_))
 simp only [ic17,ux]
 obtain ⟨m,hm⟩ : ∃ m,m = l.length + 12 := ⟨_,rfl⟩
 have e12 : ((l.length : Int) + 12).toNat = m := by omega
 have c0 : 0 < m := by omega
 have hl3 := vrow_length l
 have hla : (lentVs l io ++ mksV 12).length = m := by rw [lentVall_length,hm]
 rw [show lentVV l idh = .vec 3 idh 0 l.length (some m) from by rw [hm]]
 refine ES_seq_gen fun L hL => ?_
 simp -implicitDefEqProofs (maxSteps := 99999999) (disch := first | omega | (simp only [AHeap.set_length,killO_length,List.length_cons,List.length_nil]; first | done | omega)) only [va,vg,vs,vw,Nat.reduceMul,ite_true,ite_false,eq_self,forall_const,implies_true,Nat.reduceAdd,Nat.reduceSub,Nat.reduceLT,Nat.reduceLeDiff,↓reduceIte,reduceCtorEq,Int.reduceEq,Int.reduceLT,Int.reduceLE,Int.reduceGT,Int.reduceGE,Int.reduceAdd,Int.reduceSub,Int.reduceNeg,Int.reduceToNat,Nat.reduceBEq,Nat.reduceEqDiff]
 refine hL _ _ ?_
 clear hL
 refine ES_seq_gen fun L hL => ?_
 simp -implicitDefEqProofs (maxSteps := 99999999) (disch := first | omega | (simp only [AHeap.set_length,killO_length,List.length_cons,List.length_nil]; first | done | omega)) only [hl3,ne_eq,va,vg,vs,vw,Nat.reduceMul,ite_true,ite_false,eq_self,forall_const,implies_true,Nat.reduceAdd,Nat.reduceSub,Nat.reduceLT,Nat.reduceLeDiff,↓reduceIte,reduceCtorEq,Int.reduceEq,Int.reduceLT,Int.reduceLE,Int.reduceGT,Int.reduceGE,Int.reduceAdd,Int.reduceSub,Int.reduceNeg,Int.reduceToNat,Nat.reduceBEq,Nat.reduceEqDiff]
 refine hL _ _ ?_
 clear hL
 refine ES_seq_gen fun L hL => ?_
 simp -implicitDefEqProofs (maxSteps := 99999999) (disch := first | omega | (simp only [AHeap.set_length,killO_length,List.length_cons,List.length_nil]; first | done | omega)) only [hl3,e12,c0,Nat.sub_zero,va,vg,vs,vw,Nat.reduceMul,ite_true,ite_false,eq_self,forall_const,implies_true,Nat.reduceAdd,Nat.reduceSub,Nat.reduceLT,Nat.reduceLeDiff,↓reduceIte,reduceCtorEq,Int.reduceEq,Int.reduceLT,Int.reduceLE,Int.reduceGT,Int.reduceGE,Int.reduceAdd,Int.reduceSub,Int.reduceNeg,Int.reduceToNat,Nat.reduceBEq,Nat.reduceEqDiff]
 refine ⟨⟨by omega,rfl,by omega,by omega⟩,?_⟩
 refine hL _ _ ?_
 clear hL
 refine ES_seq_gen fun L hL => ?_
 simp -implicitDefEqProofs (maxSteps := 99999999) (disch := first | omega | (simp only [AHeap.set_length,killO_length,List.length_cons,List.length_nil]; first | done | omega)) only [va,vg,vs,vw,Nat.reduceMul,ite_true,ite_false,eq_self,forall_const,implies_true,Nat.reduceAdd,Nat.reduceSub,Nat.reduceLT,Nat.reduceLeDiff,↓reduceIte,reduceCtorEq,Int.reduceEq,Int.reduceLT,Int.reduceLE,Int.reduceGT,Int.reduceGE,Int.reduceAdd,Int.reduceSub,Int.reduceNeg,Int.reduceToNat,Nat.reduceBEq,Nat.reduceEqDiff]
 refine ES_loopL (fun ts G => ∃ j : Nat,(j ≤ m ∧ G = H) ∧ Fr [some (.vec 3 idh 0 l.length (some m)),some (.lst 3 (vrow l) rl),none,none,some (.sc (.bool false)),some (.vec 3 idh 0 m (some m)),some (.sc (.int .i64 j)),none,none,none,none,none,none,none,none,none,none,none,none,none,none,none,none,none,none,none,none,none,none,none,none,none,none,none,none,none,none,none,none,none,none,none,none,none,none,none,none,none,none,none,none,none,none,none,none,none,none,none] ts) (fun ts _ => m - (intV (ts.getD 6 .top)).toNat) ⟨0,⟨by omega,rfl⟩,by simp [Fr]⟩ ?_
 rintro ts H ⟨j,⟨hj,rfl⟩,hfr⟩ L2 hL2
 obtain ⟨js,rfl⟩ := hfr.opened
 clear hfr
 simp -implicitDefEqProofs (maxSteps := 99999999) (disch := first | omega | (simp only [AHeap.set_length,killO_length,List.length_cons,List.length_nil]; first | done | omega)) only [mk,va,vg,vs,vw,Nat.reduceMul,ite_true,ite_false,eq_self,forall_const,implies_true,Nat.reduceAdd,Nat.reduceSub,Nat.reduceLT,Nat.reduceLeDiff,↓reduceIte,reduceCtorEq,Int.reduceEq,Int.reduceLT,Int.reduceLE,Int.reduceGT,Int.reduceGE,Int.reduceAdd,Int.reduceSub,Int.reduceNeg,Int.reduceToNat,Nat.reduceBEq,Nat.reduceEqDiff]
 refine condR_if (fun h => ?_) (fun h => ?_)
 ·have h1 : j < m := by omega
  have j0 : (0 : Int) ≤ (j : Int) := by omega
  have j1 : (j : Int) < m := by omega
  by_cases c1 : j < l.length
  ·have c2 : (j : Int) < l.length := by omega
   have c3 : ¬ ((j : Int) ≥ l.length) := by omega
   have hg1 := lentVs_get (io := io) c1
   have hg2 := vrow_get c1
   have hk := keptValue_d (nthV l j) none H (io j) (ok.rows j c1) (few_row hf c1)
   rw [lvA_eq] at hg1 hk
   rw [vlA_eq] at hk
   simp -implicitDefEqProofs (maxSteps := 99999999) (disch := first | omega | (simp only [AHeap.set_length,killO_length,List.length_cons,List.length_nil]; first | done | omega)) only [hrow,hl3,hla,h1,j0,j1,c1,c2,c3,hg1,hg2,va,vg,vs,vw,Nat.reduceMul,ite_true,ite_false,eq_self,forall_const,implies_true,Nat.reduceAdd,Nat.reduceSub,Nat.reduceLT,Nat.reduceLeDiff,↓reduceIte,reduceCtorEq,Int.reduceEq,Int.reduceLT,Int.reduceLE,Int.reduceGT,Int.reduceGE,Int.reduceAdd,Int.reduceSub,Int.reduceNeg,Int.reduceToNat,Nat.reduceBEq,Nat.reduceEqDiff]
   refine callD_same hk ?_
   simp -implicitDefEqProofs (maxSteps := 99999999) (disch := first | omega | (simp only [AHeap.set_length,killO_length,List.length_cons,List.length_nil]; first | done | omega)) only [hrow,hl3,hla,h1,j0,j1,c1,c2,c3,hg1,hg2,va,vg,vs,vw,Nat.reduceMul,ite_true,ite_false,eq_self,forall_const,implies_true,Nat.reduceAdd,Nat.reduceSub,Nat.reduceLT,Nat.reduceLeDiff,↓reduceIte,reduceCtorEq,Int.reduceEq,Int.reduceLT,Int.reduceLE,Int.reduceGT,Int.reduceGE,Int.reduceAdd,Int.reduceSub,Int.reduceNeg,Int.reduceToNat,Nat.reduceBEq,Nat.reduceEqDiff]
   exact hL2 _ _ ⟨j + 1,⟨by omega,rfl⟩,by simp [Fr]⟩ (by simp [intV,mk]; omega)
  ·obtain ⟨t,rfl⟩ : ∃ t,j = l.length + t := ⟨j - l.length,by omega⟩
   have c2 : ¬ (((l.length + t : Nat) : Int) < l.length) := by omega
   have c3 : ((l.length + t : Nat) : Int) ≥ l.length := by omega
   have hg1 := lentVs_mark (l := l) (io := io) (t := t) (by omega)
   have hmk := markValue_d
   have hsm := sameM_d
   simp only [mkV_eq] at hg1 hmk hsm
   have e2 : ((l.length + t : Nat) : Int) - l.length = t := by omega
   simp -implicitDefEqProofs (maxSteps := 99999999) (disch := first | omega | (simp only [AHeap.set_length,killO_length,List.length_cons,List.length_nil]; first | done | omega)) only [hrow,hl3,hla,h1,j0,j1,c1,c2,c3,hg1,e2,va,vg,vs,vw,Nat.reduceMul,ite_true,ite_false,eq_self,forall_const,implies_true,Nat.reduceAdd,Nat.reduceSub,Nat.reduceLT,Nat.reduceLeDiff,↓reduceIte,reduceCtorEq,Int.reduceEq,Int.reduceLT,Int.reduceLE,Int.reduceGT,Int.reduceGE,Int.reduceAdd,Int.reduceSub,Int.reduceNeg,Int.reduceToNat,Nat.reduceBEq,Nat.reduceEqDiff]
   refine callD_same (hmk _ _ _) ?_
   simp -implicitDefEqProofs (maxSteps := 99999999) (disch := first | omega | (simp only [AHeap.set_length,killO_length,List.length_cons,List.length_nil]; first | done | omega)) only [hrow,hl3,hla,h1,j0,j1,c1,c2,c3,hg1,e2,va,vg,vs,vw,Nat.reduceMul,ite_true,ite_false,eq_self,forall_const,implies_true,Nat.reduceAdd,Nat.reduceSub,Nat.reduceLT,Nat.reduceLeDiff,↓reduceIte,reduceCtorEq,Int.reduceEq,Int.reduceLT,Int.reduceLE,Int.reduceGT,Int.reduceGE,Int.reduceAdd,Int.reduceSub,Int.reduceNeg,Int.reduceToNat,Nat.reduceBEq,Nat.reduceEqDiff]
   refine callD_same (hsm _ _ _) ?_
   simp -implicitDefEqProofs (maxSteps := 99999999) (disch := first | omega | (simp only [AHeap.set_length,killO_length,List.length_cons,List.length_nil]; first | done | omega)) only [hrow,hl3,hla,h1,j0,j1,c1,c2,c3,hg1,e2,va,vg,vs,vw,Nat.reduceMul,ite_true,ite_false,eq_self,forall_const,implies_true,Nat.reduceAdd,Nat.reduceSub,Nat.reduceLT,Nat.reduceLeDiff,↓reduceIte,reduceCtorEq,Int.reduceEq,Int.reduceLT,Int.reduceLE,Int.reduceGT,Int.reduceGE,Int.reduceAdd,Int.reduceSub,Int.reduceNeg,Int.reduceToNat,Nat.reduceBEq,Nat.reduceEqDiff]
   exact hL2 _ _ ⟨l.length + t + 1,⟨by omega,rfl⟩,by simp [Fr]⟩ (by simp [intV,mk]; omega)
 ·refine hL _ _ ?_
  clear hL
  simp -implicitDefEqProofs (maxSteps := 99999999) (disch := first | omega | (simp only [AHeap.set_length,killO_length,List.length_cons,List.length_nil]; first | done | omega)) only [va,vg,vs,vw,Nat.reduceMul,ite_true,ite_false,eq_self,forall_const,implies_true,Nat.reduceAdd,Nat.reduceSub,Nat.reduceLT,Nat.reduceLeDiff,↓reduceIte,reduceCtorEq,Int.reduceEq,Int.reduceLT,Int.reduceLE,Int.reduceGT,Int.reduceGE,Int.reduceAdd,Int.reduceSub,Int.reduceNeg,Int.reduceToNat,Nat.reduceBEq,Nat.reduceEqDiff]
  exact Weak.refl _ _ _
/-- Lent values, as they are read. -/
theorem lentVs_view {H : AHeap} {l : List Vl} {idh : Nat} {io : Nat → Nat} (ok : LentVOK H l idh io) : View H (lentVV l idh) (.lst 3 (vrow l) none) := by
 refine .vec ok.row rfl (by rw [lentVall_length]; omega) ?_
 rw [List.drop_zero,List.take_append_of_le_length (by rw [lentVs_length]; exact Nat.le_refl _),List.take_of_length_le (by rw [lentVs_length]; exact Nat.le_refl _)]
 have key : ∀ L : List Nat,(∀ i ∈ L,i < l.length) → ViewL H (L.map fun i => lvA (nthV l i) (io i)) (L.map fun i => vlA (nthV l i) none) := by
  intro L
  induction L with
  | nil => intro _; exact .nil
  | cons i r ih => intro h; exact .cons (lvA_view (ok.rows i (h i (by simp)))) (ih fun j hj => h j (by simp [hj]))
 have e : vrow l = (List.range l.length).map fun i => vlA (nthV l i) none := by
  apply List.ext_getElem
  ·simp [vrow]
  ·intro i h1 h2
   have hi : i < l.length := by simpa [vrow] using h1
   simp [vrow,nthV_eq hi]
 rw [e]
 exact key _ fun i hi => by simpa using hi
end Go.Proofs.YtpnnpooeheiedaaDoor
