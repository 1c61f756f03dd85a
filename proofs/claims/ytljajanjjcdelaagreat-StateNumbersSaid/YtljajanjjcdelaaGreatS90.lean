/- Lists of files: same; lent; kept; written over. -/
import Derived.Test.YtljajanjjcdelaaGreatS30
import Derived.Test.YtljajanjjcdelaaGreatIc15
namespace Go.Proofs.YtljajanjjcdelaaGreat
open Go.RowKit
set_option maxRecDepth 100000
set_option linter.unusedVariables false
set_option linter.unusedSimpArgs false
abbrev Dc := ByteArray × ByteArray
abbrev dcA (d : Dc) : AV := .agg [.sc (.string d.1),.sc (.string d.2)]
def docs (l : List Dc) : List AV := l.map dcA
theorem docs_length (l : List Dc) : (docs l).length = l.length := by simp [docs]
theorem docs_nil : docs [] = [] := rfl
theorem docs_cons (s : Dc) (l : List Dc) : docs (s :: l) = dcA s :: docs l := rfl
theorem docs_append (a b : List Dc) : docs (a ++ b) = docs a ++ docs b := by simp [docs]
def nthD (xs : List Dc) (k : Nat) : Dc := xs.getD k (⟨#[]⟩,⟨#[]⟩)
theorem nthD_eq {xs : List Dc} {k : Nat} (h : k < xs.length) : nthD xs k = xs[k] := by simp [nthD,List.getD,h]
theorem docs_get {l : List Dc} {k : Nat} (h : k < l.length) : (docs l).getD k .top = .agg [.sc (.string (nthD l k).1),.sc (.string (nthD l k).2)] := by
 simp [docs,nthD,List.getD,h]
theorem nthD_ext {xs ys : List Dc} (hl : xs.length = ys.length) (h : ∀ i,i < xs.length → nthD xs i = nthD ys i) : xs = ys := by
 apply List.ext_getElem hl
 intro i h1 h2
 have := h i h1
 rwa [nthD_eq h1,nthD_eq h2] at this
theorem dc_fz {H : AHeap} {n : Nat} {d : Dc} : Fz H n (dcA d) (dcA d) := .agg (.cons (.same trivial) (.cons (.same trivial) .nil))
theorem sameDocs_d (a b : List Dc) (ra rb : Option (List AV)) (H : AHeap) (hl : a.length ≤ 100000000) : D Tryz.prog 13 [.lst 2 (docs a) ra,.lst 2 (docs b) rb] H (.ret (.sc (.bool (decide (a = b))))) H := by
 refine D_of_DK (Nat.le_refl _) (dk13 (E_of_ES ?_))
 simp -implicitDefEqProofs (maxSteps := 99999999) (disch := omega) only [docs_length,ic13,va,vg,vs,vh,Nat.reduceMul,ite_true,ite_false,eq_self,forall_const,implies_true,Nat.reduceAdd,Nat.reduceSub,Nat.reduceLT,Nat.reduceLeDiff,↓reduceIte,reduceCtorEq,Int.reduceEq,Int.reduceLT,Int.reduceLE,Int.reduceGT,Int.reduceGE,Int.reduceAdd,Int.reduceSub,Int.reduceNeg,Int.reduceToNat,Nat.reduceBEq,Nat.reduceEqDiff]
 refine condR_if (fun h => ?_) (fun h => ?_)
 ·have hne : ¬ a = b := fun e => by simp [e] at h
  simp -implicitDefEqProofs (maxSteps := 99999999) (disch := omega) only [docs_length,hne,va,vg,vs,vh,Nat.reduceMul,ite_true,ite_false,eq_self,forall_const,implies_true,Nat.reduceAdd,Nat.reduceSub,Nat.reduceLT,Nat.reduceLeDiff,↓reduceIte,reduceCtorEq,Int.reduceEq,Int.reduceLT,Int.reduceLE,Int.reduceGT,Int.reduceGE,Int.reduceAdd,Int.reduceSub,Int.reduceNeg,Int.reduceToNat,Nat.reduceBEq,Nat.reduceEqDiff]
  exact weak_sc .refl
 have hl2 : a.length = b.length := by omega
 simp -implicitDefEqProofs (maxSteps := 99999999) (disch := omega) only [docs_length,va,vg,vs,vh,Nat.reduceMul,ite_true,ite_false,eq_self,forall_const,implies_true,Nat.reduceAdd,Nat.reduceSub,Nat.reduceLT,Nat.reduceLeDiff,↓reduceIte,reduceCtorEq,Int.reduceEq,Int.reduceLT,Int.reduceLE,Int.reduceGT,Int.reduceGE,Int.reduceAdd,Int.reduceSub,Int.reduceNeg,Int.reduceToNat,Nat.reduceBEq,Nat.reduceEqDiff]
 refine ES_loop (fun ts H' => H' = H ∧ ∃ k : Nat,(k ≤ a.length ∧ ∀ j,j < k → nthD a j = nthD b j) ∧ Fr [some (.lst 2 (docs a) ra),some (.lst 2 (docs b) rb),none,none,some (.sc (.bool false)),some (.sc (.int .i64 k)),none,none,none,none,none,none,none,none,none,none,none,none,none,none,none,none,none,none,none,none] ts) (fun ts _ => a.length - (intV (ts.getD 5 .top)).toNat) ?_ ?_
 ·exact ⟨rfl,0,⟨Nat.zero_le _,fun j h => absurd h (Nat.not_lt_zero _)⟩,by simp [Fr]⟩
 rintro ts _ ⟨rfl,k,⟨hk,hp⟩,hfr⟩
 obtain ⟨js,rfl⟩ := hfr.opened
 clear hfr
 simp -implicitDefEqProofs (maxSteps := 99999999) (disch := omega) only [docs_length,mk,va,vg,vs,vh,Nat.reduceMul,ite_true,ite_false,eq_self,forall_const,implies_true,Nat.reduceAdd,Nat.reduceSub,Nat.reduceLT,Nat.reduceLeDiff,↓reduceIte,reduceCtorEq,Int.reduceEq,Int.reduceLT,Int.reduceLE,Int.reduceGT,Int.reduceGE,Int.reduceAdd,Int.reduceSub,Int.reduceNeg,Int.reduceToNat,Nat.reduceBEq,Nat.reduceEqDiff]
 refine condR_if (fun h => ?_) (fun h => ?_)
 ·have h1 : k < a.length := by omega
  have h2 : k < b.length := by omega
  simp -implicitDefEqProofs (maxSteps := 99999999) (disch := omega) only [docs_length,docs_get h1,docs_get h2,va,vg,vs,vh,Nat.reduceMul,ite_true,ite_false,eq_self,forall_const,implies_true,Nat.reduceAdd,Nat.reduceSub,Nat.reduceLT,Nat.reduceLeDiff,↓reduceIte,reduceCtorEq,Int.reduceEq,Int.reduceLT,Int.reduceLE,Int.reduceGT,Int.reduceGE,Int.reduceAdd,Int.reduceSub,Int.reduceNeg,Int.reduceToNat,Nat.reduceBEq,Nat.reduceEqDiff]
  refine ⟨by omega,by omega,condR_if (fun h => ?_) (fun h => ?_)⟩
  ·have hne : ¬ a = b := fun e => by simp [e] at h
   simp -implicitDefEqProofs (maxSteps := 99999999) (disch := omega) only [docs_length,hne,va,vg,vs,vh,Nat.reduceMul,ite_true,ite_false,eq_self,forall_const,implies_true,Nat.reduceAdd,Nat.reduceSub,Nat.reduceLT,Nat.reduceLeDiff,↓reduceIte,reduceCtorEq,Int.reduceEq,Int.reduceLT,Int.reduceLE,Int.reduceGT,Int.reduceGE,Int.reduceAdd,Int.reduceSub,Int.reduceNeg,Int.reduceToNat,Nat.reduceBEq,Nat.reduceEqDiff]
   exact weak_sc .refl
  ·simp -implicitDefEqProofs (maxSteps := 99999999) (disch := omega) only [docs_length,va,vg,vs,vh,Nat.reduceMul,ite_true,ite_false,eq_self,forall_const,implies_true,Nat.reduceAdd,Nat.reduceSub,Nat.reduceLT,Nat.reduceLeDiff,↓reduceIte,reduceCtorEq,Int.reduceEq,Int.reduceLT,Int.reduceLE,Int.reduceGT,Int.reduceGE,Int.reduceAdd,Int.reduceSub,Int.reduceNeg,Int.reduceToNat,Nat.reduceBEq,Nat.reduceEqDiff]
   refine ⟨⟨k + 1,⟨by omega,fun j hj => ?_⟩,by simp [Fr]⟩,by omega⟩
   rcases Nat.lt_succ_iff_lt_or_eq.1 hj with h' | rfl
   ·exact hp j h'
   ·have := Classical.not_not.1 h
    exact Prod.ext this.1 this.2
 ·have hab : a = b := nthD_ext hl2 (fun i hi => hp i (by omega))
  simp -implicitDefEqProofs (maxSteps := 99999999) (disch := omega) only [docs_length,hab,va,vg,vs,vh,Nat.reduceMul,ite_true,ite_false,eq_self,forall_const,implies_true,Nat.reduceAdd,Nat.reduceSub,Nat.reduceLT,Nat.reduceLeDiff,↓reduceIte,reduceCtorEq,Int.reduceEq,Int.reduceLT,Int.reduceLE,Int.reduceGT,Int.reduceGE,Int.reduceAdd,Int.reduceSub,Int.reduceNeg,Int.reduceToNat,Nat.reduceBEq,Nat.reduceEqDiff]
  exact weak_sc .refl
/-- A file that marks a place. -/
def markD (k i : Int) : Dc := (markT k i,⟨#[]⟩)
theorem markDoc_d (k i : Int) (H : AHeap) : D Tryz.prog 29 [.sc (.int .i64 k),.sc (.int .i64 i)] H (.ret (dcA (markD k i))) H := by
 refine D_of_DK (Nat.le_refl _) (dk29 (E_of_ES ?_))
 simp -implicitDefEqProofs (maxSteps := 99999999) (disch := omega) only [ic29,va,vg,vs,vh,Nat.reduceMul,ite_true,ite_false,eq_self,forall_const,implies_true,Nat.reduceAdd,Nat.reduceSub,Nat.reduceLT,Nat.reduceLeDiff,↓reduceIte,reduceCtorEq,Int.reduceEq,Int.reduceLT,Int.reduceLE,Int.reduceGT,Int.reduceGE,Int.reduceAdd,Int.reduceSub,Int.reduceNeg,Int.reduceToNat,Nat.reduceBEq,Nat.reduceEqDiff]
 refine callR_ret (markText_d _ _ _) ?_
 simp -implicitDefEqProofs (maxSteps := 99999999) (disch := omega) only [va,vg,vs,vh,Nat.reduceMul,ite_true,ite_false,eq_self,forall_const,implies_true,Nat.reduceAdd,Nat.reduceSub,Nat.reduceLT,Nat.reduceLeDiff,↓reduceIte,reduceCtorEq,Int.reduceEq,Int.reduceLT,Int.reduceLE,Int.reduceGT,Int.reduceGE,Int.reduceAdd,Int.reduceSub,Int.reduceNeg,Int.reduceToNat,Nat.reduceBEq,Nat.reduceEqDiff]
 exact weak_over (.cons .refl) (dc_fz (d := markD k i))
/-- The marks behind a list's end. -/
def mksD (j : Nat) : List Dc := (List.range j).map fun i : Nat => markD 1 (i : Int)
theorem mksD_length {j : Nat} : (mksD j).length = j := by simp [mksD]
theorem mksD_succ {j : Nat} : mksD (j + 1) = mksD j ++ [markD 1 j] := by simp [mksD,List.range_succ]
/-- A lent list's cells, j marks behind it. -/
def lentD (l : List Dc) (j : Nat) : List AV := docs (l ++ mksD j) ++ List.replicate (12 - j) (dcA (⟨#[]⟩,⟨#[]⟩))
theorem lentD_length {l : List Dc} {j : Nat} (h : j ≤ 12) : (lentD l j).length = l.length + 12 := by
 simp [lentD,docs_length,mksD_length]; omega
theorem lentD_start {l : List Dc} : docs l ++ List.drop l.length (List.replicate (l.length + 12) (dcA (⟨#[]⟩,⟨#[]⟩))) = lentD l 0 := by
 simp [lentD,mksD]
theorem lentD_app {l : List Dc} {j : Nat} (h : j < 12) : (lentD l j).take (l.length + j) ++ (dcA (markD 1 j) :: (lentD l j).drop (l.length + (j + 1))) = lentD l (j + 1) := by
 have h1 : (docs (l ++ mksD j)).length = l.length + j := by simp [docs_length,mksD_length]
 unfold lentD
 rw [List.take_append_of_le_length (by omega),List.take_of_length_le (by omega),List.drop_append,List.drop_of_length_le (by omega),h1,mksD_succ,← List.append_assoc,docs_append]
 rw [show l.length + (j + 1) - (l.length + j) = 1 from by omega,List.drop_replicate,show 12 - j - 1 = 12 - (j + 1) from by omega]
 simp [docs]
theorem lentDocs_d (l : List Dc) (ro : Option (List AV)) (H : AHeap) (hl : l.length ≤ 1000000) : D Tryz.prog 10 [.lst 2 (docs l) ro] H (.ret (.vec 2 H.length 0 l.length (some (l.length + 12)))) (some ⟨2,docs (l ++ mksD 12),true,40⟩ :: H) := by
 refine D_of_DK (by simp) (dk10 (E_of_ES ?_))
 simp only [ic10,ux]
 obtain ⟨m,hm⟩ : ∃ m,m = l.length + 12 := ⟨_,rfl⟩
 have e12 : ((l.length : Int) + 12).toNat = m := by omega
 have cm : l.length ≤ m := by omega
 have hS : docs l ++ List.drop l.length (List.replicate m (dcA (⟨#[]⟩,⟨#[]⟩))) = lentD l 0 := by rw [hm]; exact lentD_start
 rw [← hm]
 refine ES_seq_gen fun L hL => ?_
 simp -implicitDefEqProofs (maxSteps := 99999999) (disch := omega) only [docs_length,va,vg,vs,vh,Nat.reduceMul,ite_true,ite_false,eq_self,forall_const,implies_true,Nat.reduceAdd,Nat.reduceSub,Nat.reduceLT,Nat.reduceLeDiff,↓reduceIte,reduceCtorEq,Int.reduceEq,Int.reduceLT,Int.reduceLE,Int.reduceGT,Int.reduceGE,Int.reduceAdd,Int.reduceSub,Int.reduceNeg,Int.reduceToNat,Nat.reduceBEq,Nat.reduceEqDiff]
 refine hL _ _ ?_
 clear hL
 refine ES_seq_gen fun L hL => ?_
 simp -implicitDefEqProofs (maxSteps := 99999999) (disch := omega) only [docs_length,e12,va,vg,vs,vh,Nat.reduceMul,ite_true,ite_false,eq_self,forall_const,implies_true,Nat.reduceAdd,Nat.reduceSub,Nat.reduceLT,Nat.reduceLeDiff,↓reduceIte,reduceCtorEq,Int.reduceEq,Int.reduceLT,Int.reduceLE,Int.reduceGT,Int.reduceGE,Int.reduceAdd,Int.reduceSub,Int.reduceNeg,Int.reduceToNat,Nat.reduceBEq,Nat.reduceEqDiff]
 refine ⟨by omega,?_⟩
 refine hL _ _ ?_
 clear hL
 refine ES_seq_gen fun L hL => ?_
 simp -implicitDefEqProofs (maxSteps := 99999999) (disch := omega) only [docs_length,e12,List.length_replicate,cm,hS,va,vg,vs,vh,Nat.reduceMul,ite_true,ite_false,eq_self,forall_const,implies_true,Nat.reduceAdd,Nat.reduceSub,Nat.reduceLT,Nat.reduceLeDiff,↓reduceIte,reduceCtorEq,Int.reduceEq,Int.reduceLT,Int.reduceLE,Int.reduceGT,Int.reduceGE,Int.reduceAdd,Int.reduceSub,Int.reduceNeg,Int.reduceToNat,Nat.reduceBEq,Nat.reduceEqDiff]
 refine ⟨by omega,?_⟩
 refine hL _ _ ?_
 clear hL
 refine ES_seq_gen fun L hL => ?_
 simp -implicitDefEqProofs (maxSteps := 99999999) (disch := omega) only [docs_length,e12,va,vg,vs,vh,Nat.reduceMul,ite_true,ite_false,eq_self,forall_const,implies_true,Nat.reduceAdd,Nat.reduceSub,Nat.reduceLT,Nat.reduceLeDiff,↓reduceIte,reduceCtorEq,Int.reduceEq,Int.reduceLT,Int.reduceLE,Int.reduceGT,Int.reduceGE,Int.reduceAdd,Int.reduceSub,Int.reduceNeg,Int.reduceToNat,Nat.reduceBEq,Nat.reduceEqDiff]
 refine ES_loopL (fun ts H' => ∃ j : Nat,j ≤ 12 ∧ H' = some ⟨2,lentD l j,true,40⟩ :: H ∧ Fr [some (.lst 2 (docs l) ro),none,none,some (.vec 2 H.length 0 (l.length + j) (some m)),some (.sc (.int .i64 j)),none,none,none,none,none,none,none,none,none,none,none,none,none,none,none,none,none,none,none,none] ts) (fun ts _ => 12 - (intV (ts.getD 4 .top)).toNat) ⟨0,by omega,rfl,by simp [Fr]⟩ ?_
 rintro ts _ ⟨j,hj,rfl,hfr⟩ L2 hL2
 obtain ⟨js,rfl⟩ := hfr.opened
 clear hfr
 simp -implicitDefEqProofs (maxSteps := 99999999) (disch := omega) only [docs_length,mk,va,vg,vs,vh,Nat.reduceMul,ite_true,ite_false,eq_self,forall_const,implies_true,Nat.reduceAdd,Nat.reduceSub,Nat.reduceLT,Nat.reduceLeDiff,↓reduceIte,reduceCtorEq,Int.reduceEq,Int.reduceLT,Int.reduceLE,Int.reduceGT,Int.reduceGE,Int.reduceAdd,Int.reduceSub,Int.reduceNeg,Int.reduceToNat,Nat.reduceBEq,Nat.reduceEqDiff]
 refine condR_if (fun h => ?_) (fun h => ?_)
 ·have h1 : j < 12 := by omega
  have c1 : l.length + (j + 1) ≤ m := by omega
  simp -implicitDefEqProofs (maxSteps := 99999999) (disch := omega) only [docs_length,va,vg,vs,vh,Nat.reduceMul,ite_true,ite_false,eq_self,forall_const,implies_true,Nat.reduceAdd,Nat.reduceSub,Nat.reduceLT,Nat.reduceLeDiff,↓reduceIte,reduceCtorEq,Int.reduceEq,Int.reduceLT,Int.reduceLE,Int.reduceGT,Int.reduceGE,Int.reduceAdd,Int.reduceSub,Int.reduceNeg,Int.reduceToNat,Nat.reduceBEq,Nat.reduceEqDiff]
  refine callR_ret (markDoc_d _ _ _) ?_
  have hlen : (lentD l j).length = m := by rw [lentD_length hj,hm]
  simp -implicitDefEqProofs (maxSteps := 99999999) (disch := omega) only [docs_length,hlen,lentD_app h1,c1,va,vg,vs,vh,Nat.reduceMul,ite_true,ite_false,eq_self,forall_const,implies_true,Nat.reduceAdd,Nat.reduceSub,Nat.reduceLT,Nat.reduceLeDiff,↓reduceIte,reduceCtorEq,Int.reduceEq,Int.reduceLT,Int.reduceLE,Int.reduceGT,Int.reduceGE,Int.reduceAdd,Int.reduceSub,Int.reduceNeg,Int.reduceToNat,Nat.reduceBEq,Nat.reduceEqDiff]
  exact ⟨by omega,hL2 _ _ ⟨j + 1,by omega,rfl,by simp [Fr]⟩ (by simp [intV,mk]; omega)⟩
 ·have h1 : j = 12 := by omega
  subst h1
  refine hL _ _ ?_
  clear hL
  have c2 : 0 < m := by omega
  have e2 : lentD l 12 = docs (l ++ mksD 12) := by simp [lentD]
  simp -implicitDefEqProofs (maxSteps := 99999999) (disch := omega) only [docs_length,c2,Nat.sub_zero,e2,va,vg,vs,vh,Nat.reduceMul,ite_true,ite_false,eq_self,forall_const,implies_true,Nat.reduceAdd,Nat.reduceSub,Nat.reduceLT,Nat.reduceLeDiff,↓reduceIte,reduceCtorEq,Int.reduceEq,Int.reduceLT,Int.reduceLE,Int.reduceGT,Int.reduceGE,Int.reduceAdd,Int.reduceSub,Int.reduceNeg,Int.reduceToNat,Nat.reduceBEq,Nat.reduceEqDiff]
  exact ⟨⟨by omega,rfl,by omega,by omega⟩,Weak.refl _ _ _⟩
theorem mksD_nth {l : List Dc} {j n : Nat} (h : j < n) : nthD (l ++ mksD n) (l.length + j) = markD 1 j := by
 rw [nthD_eq (by simp [mksD_length]; exact h)]
 rw [List.getElem_append_right (by omega)]
 simp [mksD]
theorem lentD_nth {l m : List Dc} {k : Nat} (h : k < l.length) : nthD (l ++ m) k = nthD l k := by
 rw [nthD_eq (by simp; omega),nthD_eq h,List.getElem_append_left h]
theorem keptDocs_d (l : List Dc) (rl : Option (List AV)) (H : AHeap) (id : Nat) (ty : TypeId) (hf : AHeap.find H id = some ⟨2,docs (l ++ mksD 12),true,ty⟩) (hl : l.length ≤ 1000000) :
  D Tryz.prog 14 [.vec 2 id 0 l.length (some (l.length + 12)),.lst 2 (docs l) rl] H (.ret (.sc (.bool true))) H := by
 refine D_of_DK (Nat.le_refl _) (dk14 (E_of_ES ?_))
 simp only [ic14,ux]
 obtain ⟨m,hm⟩ : ∃ m,m = l.length + 12 := ⟨_,rfl⟩
 have e12 : ((l.length : Int) + 12).toNat = m := by omega
 have c0 : 0 < m := by omega
 have hlen : (l ++ mksD 12).length = m := by simp [mksD_length]; omega
 rw [← hm]
 refine ES_seq_gen fun L hL => ?_
 simp -implicitDefEqProofs (maxSteps := 99999999) (disch := first | omega | (simp only [AHeap.set_length,killO_length,List.length_cons,List.length_nil]; first | done | omega)) only [docs_length,va,vg,vs,vw,Nat.reduceMul,ite_true,ite_false,eq_self,forall_const,implies_true,Nat.reduceAdd,Nat.reduceSub,Nat.reduceLT,Nat.reduceLeDiff,↓reduceIte,reduceCtorEq,Int.reduceEq,Int.reduceLT,Int.reduceLE,Int.reduceGT,Int.reduceGE,Int.reduceAdd,Int.reduceSub,Int.reduceNeg,Int.reduceToNat,Nat.reduceBEq,Nat.reduceEqDiff]
 refine hL _ _ ?_
 clear hL
 refine ES_seq_gen fun L hL => ?_
 simp -implicitDefEqProofs (maxSteps := 99999999) (disch := first | omega | (simp only [AHeap.set_length,killO_length,List.length_cons,List.length_nil]; first | done | omega)) only [docs_length,ne_eq,va,vg,vs,vw,Nat.reduceMul,ite_true,ite_false,eq_self,forall_const,implies_true,Nat.reduceAdd,Nat.reduceSub,Nat.reduceLT,Nat.reduceLeDiff,↓reduceIte,reduceCtorEq,Int.reduceEq,Int.reduceLT,Int.reduceLE,Int.reduceGT,Int.reduceGE,Int.reduceAdd,Int.reduceSub,Int.reduceNeg,Int.reduceToNat,Nat.reduceBEq,Nat.reduceEqDiff]
 refine hL _ _ ?_
 clear hL
 refine ES_seq_gen fun L hL => ?_
 simp -implicitDefEqProofs (maxSteps := 99999999) (disch := first | omega | (simp only [AHeap.set_length,killO_length,List.length_cons,List.length_nil]; first | done | omega)) only [docs_length,e12,c0,Nat.sub_zero,va,vg,vs,vw,Nat.reduceMul,ite_true,ite_false,eq_self,forall_const,implies_true,Nat.reduceAdd,Nat.reduceSub,Nat.reduceLT,Nat.reduceLeDiff,↓reduceIte,reduceCtorEq,Int.reduceEq,Int.reduceLT,Int.reduceLE,Int.reduceGT,Int.reduceGE,Int.reduceAdd,Int.reduceSub,Int.reduceNeg,Int.reduceToNat,Nat.reduceBEq,Nat.reduceEqDiff]
 refine ⟨⟨by omega,rfl,by omega,by omega⟩,?_⟩
 refine hL _ _ ?_
 clear hL
 refine ES_seq_gen fun L hL => ?_
 simp -implicitDefEqProofs (maxSteps := 99999999) (disch := first | omega | (simp only [AHeap.set_length,killO_length,List.length_cons,List.length_nil]; first | done | omega)) only [docs_length,va,vg,vs,vw,Nat.reduceMul,ite_true,ite_false,eq_self,forall_const,implies_true,Nat.reduceAdd,Nat.reduceSub,Nat.reduceLT,Nat.reduceLeDiff,↓reduceIte,reduceCtorEq,Int.reduceEq,Int.reduceLT,Int.reduceLE,Int.reduceGT,Int.reduceGE,Int.reduceAdd,Int.reduceSub,Int.reduceNeg,Int.reduceToNat,Nat.reduceBEq,Nat.reduceEqDiff]
 refine ES_loopL (fun ts H' => ∃ j : Nat,j ≤ m ∧ H' = H ∧ Fr [some (.vec 2 id 0 l.length (some m)),some (.lst 2 (docs l) rl),none,none,some (.sc (.bool false)),some (.vec 2 id 0 m (some m)),some (.sc (.int .i64 j)),none,none,none,none,none,none,none,none,none,none,none,none,none,none,none,none,none,none,none,none,none,none,none,none,none,none,none,none,none,none,none,none,none,none,none,none,none,none,none,none,none,none,none,none,none,none,none,none,none,none,none] ts) (fun ts _ => m - (intV (ts.getD 6 .top)).toNat) ⟨0,by omega,rfl,by simp [Fr]⟩ ?_
 rintro ts _ ⟨j,hj,rfl,hfr⟩ L2 hL2
 obtain ⟨js,rfl⟩ := hfr.opened
 clear hfr
 simp -implicitDefEqProofs (maxSteps := 99999999) (disch := first | omega | (simp only [AHeap.set_length,killO_length,List.length_cons,List.length_nil]; first | done | omega)) only [docs_length,mk,va,vg,vs,vw,Nat.reduceMul,ite_true,ite_false,eq_self,forall_const,implies_true,Nat.reduceAdd,Nat.reduceSub,Nat.reduceLT,Nat.reduceLeDiff,↓reduceIte,reduceCtorEq,Int.reduceEq,Int.reduceLT,Int.reduceLE,Int.reduceGT,Int.reduceGE,Int.reduceAdd,Int.reduceSub,Int.reduceNeg,Int.reduceToNat,Nat.reduceBEq,Nat.reduceEqDiff]
 refine condR_if (fun h => ?_) (fun h => ?_)
 ·have h1 : j < m := by omega
  have hg : (docs (l ++ mksD 12)).getD j .top = .agg [.sc (.string (nthD (l ++ mksD 12) j).1),.sc (.string (nthD (l ++ mksD 12) j).2)] := docs_get (by omega)
  by_cases c1 : j < l.length
  ·have c2 : (j : Int) < l.length := by omega
   have c3 : ¬ ((j : Int) ≥ l.length) := by omega
   have e1 := lentD_nth (m := mksD 12) c1
   simp -implicitDefEqProofs (maxSteps := 99999999) (disch := first | omega | (simp only [AHeap.set_length,killO_length,List.length_cons,List.length_nil]; first | done | omega)) only [docs_length,hf,docs_length,hlen,h1,c1,c2,c3,hg,docs_get c1,e1,va,vg,vs,vw,Nat.reduceMul,ite_true,ite_false,eq_self,forall_const,implies_true,Nat.reduceAdd,Nat.reduceSub,Nat.reduceLT,Nat.reduceLeDiff,↓reduceIte,reduceCtorEq,Int.reduceEq,Int.reduceLT,Int.reduceLE,Int.reduceGT,Int.reduceGE,Int.reduceAdd,Int.reduceSub,Int.reduceNeg,Int.reduceToNat,Nat.reduceBEq,Nat.reduceEqDiff]
   exact ⟨⟨by omega,by omega⟩,by omega,hL2 _ _ ⟨j + 1,by omega,rfl,by simp [Fr]⟩ (by simp [intV,mk]; omega)⟩
  ·obtain ⟨t,rfl⟩ : ∃ t,j = l.length + t := ⟨j - l.length,by omega⟩
   have c2 : ¬ (((l.length + t : Nat) : Int) < l.length) := by omega
   have c3 : ((l.length + t : Nat) : Int) ≥ l.length := by omega
   have e1 := mksD_nth (l := l) (j := t) (n := 12) (by omega)
   have e2 : ((l.length + t : Nat) : Int) - l.length = t := by omega
   simp -implicitDefEqProofs (maxSteps := 99999999) (disch := first | omega | (simp only [AHeap.set_length,killO_length,List.length_cons,List.length_nil]; first | done | omega)) only [docs_length,hf,docs_length,hlen,h1,c1,c2,c3,hg,e1,e2,va,vg,vs,vw,Nat.reduceMul,ite_true,ite_false,eq_self,forall_const,implies_true,Nat.reduceAdd,Nat.reduceSub,Nat.reduceLT,Nat.reduceLeDiff,↓reduceIte,reduceCtorEq,Int.reduceEq,Int.reduceLT,Int.reduceLE,Int.reduceGT,Int.reduceGE,Int.reduceAdd,Int.reduceSub,Int.reduceNeg,Int.reduceToNat,Nat.reduceBEq,Nat.reduceEqDiff]
   refine ⟨⟨by omega,by omega⟩,callD_same (markDoc_d _ _ _) ?_⟩
   simp -implicitDefEqProofs (maxSteps := 99999999) (disch := first | omega | (simp only [AHeap.set_length,killO_length,List.length_cons,List.length_nil]; first | done | omega)) only [docs_length,hf,docs_length,hlen,h1,c1,c2,c3,hg,e1,e2,va,vg,vs,vw,Nat.reduceMul,ite_true,ite_false,eq_self,forall_const,implies_true,Nat.reduceAdd,Nat.reduceSub,Nat.reduceLT,Nat.reduceLeDiff,↓reduceIte,reduceCtorEq,Int.reduceEq,Int.reduceLT,Int.reduceLE,Int.reduceGT,Int.reduceGE,Int.reduceAdd,Int.reduceSub,Int.reduceNeg,Int.reduceToNat,Nat.reduceBEq,Nat.reduceEqDiff]
   exact hL2 _ _ ⟨l.length + t + 1,by omega,rfl,by simp [Fr]⟩ (by simp [intV,mk]; omega)
 ·have h1 : j = m := by omega
  refine hL _ _ ?_
  clear hL
  simp -implicitDefEqProofs (maxSteps := 99999999) (disch := first | omega | (simp only [AHeap.set_length,killO_length,List.length_cons,List.length_nil]; first | done | omega)) only [docs_length,va,vg,vs,vw,Nat.reduceMul,ite_true,ite_false,eq_self,forall_const,implies_true,Nat.reduceAdd,Nat.reduceSub,Nat.reduceLT,Nat.reduceLeDiff,↓reduceIte,reduceCtorEq,Int.reduceEq,Int.reduceLT,Int.reduceLE,Int.reduceGT,Int.reduceGE,Int.reduceAdd,Int.reduceSub,Int.reduceNeg,Int.reduceToNat,Nat.reduceBEq,Nat.reduceEqDiff]
  exact Weak.refl _ _ _
end Go.Proofs.YtljajanjjcdelaaGreat
