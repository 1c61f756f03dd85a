/- Lists of 64-bit numbers: lent; kept. -/
import Derived.Test.YtpnnpooeheiedaaDoorSM
import Derived.Test.YtpnnpooeheiedaaDoorS200
import Derived.Test.YtpnnpooeheiedaaDoorIc30
import Derived.Test.YtpnnpooeheiedaaDoorVE
namespace Go.Proofs.YtpnnpooeheiedaaDoor
open Go.RowKit
set_option maxRecDepth 100000
set_option linter.unusedVariables false
set_option linter.unusedSimpArgs false
theorem lng_append (a b : List Int) : lng (a ++ b) = lng a ++ lng b := by simp [lng]
def nthQ (xs : List Int) (k : Nat) : Int := xs.getD k 0
theorem nthQ_eq {xs : List Int} {k : Nat} (h : k < xs.length) : nthQ xs k = xs[k] := by simp [nthQ,List.getD,h]
theorem lng_getN {l : List Int} {k : Nat} (h : k < l.length) : (lng l).getD k .top = .sc (.int .i64 (nthQ l k)) := by
 simp [lng,nthQ,List.getD,h]
theorem wrap_wrap (n : Int) : IntKind.i64.wrap (IntKind.i64.wrap n) = IntKind.i64.wrap n := wrap_in (wrap_I64 n)
theorem wrap_markI (k i : Int) : IntKind.i64.wrap (markI k i) = markI k i := by
 unfold markI
 exact wrap_wrap _
/-- The marks behind a list's end. -/
def mksL (j : Nat) : List Int := (List.range j).map fun i : Nat => markI 1 (i : Int)
theorem mksL_length {j : Nat} : (mksL j).length = j := by simp [mksL]
theorem mksL_succ {j : Nat} : mksL (j + 1) = mksL j ++ [markI 1 j] := by simp [mksL,List.range_succ]
/-- A lent list's cells, j marks behind it. -/
def lentL (l : List Int) (j : Nat) : List AV := lng (l ++ mksL j) ++ List.replicate (12 - j) (.sc (.int .i64 0))
theorem lentL_length {l : List Int} {j : Nat} (h : j ≤ 12) : (lentL l j).length = l.length + 12 := by
 simp [lentL,lng_length,mksL_length]; omega
theorem lentL_start {l : List Int} : lng l ++ List.drop l.length (List.replicate (l.length + 12) (.sc (.int .i64 0))) = lentL l 0 := by
 simp [lentL,mksL]
theorem lentL_app {l : List Int} {j : Nat} (h : j < 12) : (lentL l j).take (l.length + j) ++ (.sc (.int .i64 (markI 1 j)) :: (lentL l j).drop (l.length + (j + 1))) = lentL l (j + 1) := by
 have h1 : (lng (l ++ mksL j)).length = l.length + j := by simp [lng_length,mksL_length]
 unfold lentL
 rw [List.take_append_of_le_length (by omega),List.take_of_length_le (by omega),List.drop_append,List.drop_of_length_le (by omega),h1,mksL_succ,← List.append_assoc,lng_append]
 rw [show l.length + (j + 1) - (l.length + j) = 1 from by omega,List.drop_replicate,show 12 - j - 1 = 12 - (j + 1) from by omega]
 simp [lng]
theorem lentLongs_d (l : List Int) (ro : Option (List AV)) (H : AHeap) (hl : l.length ≤ 1000000) : D Tryd.prog 26 [.lst 1 (lng l) ro] H (.ret (.vec 1 H.length 0 l.length (some (l.length + 12)))) (some ⟨1,lng (l ++ mksL 12),true,2⟩ :: H) := by
 refine D_of_DK (by simp) (dk26 (E_of_ES ?_))
 simp only [ic26,ux]
 obtain ⟨m,hm⟩ : ∃ m,m = l.length + 12 := ⟨_,rfl⟩
 have e12 : ((l.length : Int) + 12).toNat = m := by omega
 have cm : l.length ≤ m := by omega
 have hS : lng l ++ List.drop l.length (List.replicate m (.sc (.int .i64 0))) = lentL l 0 := by rw [hm]; exact lentL_start
 rw [← hm]
 refine ES_seq_gen fun L hL => ?_
 simp -implicitDefEqProofs (maxSteps := 99999999) (disch := omega) only [wrap_markI,lng_length,va,vg,vs,vh,Nat.reduceMul,ite_true,ite_false,eq_self,forall_const,implies_true,Nat.reduceAdd,Nat.reduceSub,Nat.reduceLT,Nat.reduceLeDiff,↓reduceIte,reduceCtorEq,Int.reduceEq,Int.reduceLT,Int.reduceLE,Int.reduceGT,Int.reduceGE,Int.reduceAdd,Int.reduceSub,Int.reduceNeg,Int.reduceToNat,Nat.reduceBEq,Nat.reduceEqDiff]
 refine hL _ _ ?_
 clear hL
 refine ES_seq_gen fun L hL => ?_
 simp -implicitDefEqProofs (maxSteps := 99999999) (disch := omega) only [wrap_markI,lng_length,e12,va,vg,vs,vh,Nat.reduceMul,ite_true,ite_false,eq_self,forall_const,implies_true,Nat.reduceAdd,Nat.reduceSub,Nat.reduceLT,Nat.reduceLeDiff,↓reduceIte,reduceCtorEq,Int.reduceEq,Int.reduceLT,Int.reduceLE,Int.reduceGT,Int.reduceGE,Int.reduceAdd,Int.reduceSub,Int.reduceNeg,Int.reduceToNat,Nat.reduceBEq,Nat.reduceEqDiff]
 refine ⟨by omega,?_⟩
 refine hL _ _ ?_
 clear hL
 refine ES_seq_gen fun L hL => ?_
 simp -implicitDefEqProofs (maxSteps := 99999999) (disch := omega) only [wrap_markI,lng_length,e12,List.length_replicate,cm,hS,va,vg,vs,vh,Nat.reduceMul,ite_true,ite_false,eq_self,forall_const,implies_true,Nat.reduceAdd,Nat.reduceSub,Nat.reduceLT,Nat.reduceLeDiff,↓reduceIte,reduceCtorEq,Int.reduceEq,Int.reduceLT,Int.reduceLE,Int.reduceGT,Int.reduceGE,Int.reduceAdd,Int.reduceSub,Int.reduceNeg,Int.reduceToNat,Nat.reduceBEq,Nat.reduceEqDiff]
 refine ⟨by omega,?_⟩
 refine hL _ _ ?_
 clear hL
 refine ES_seq_gen fun L hL => ?_
 simp -implicitDefEqProofs (maxSteps := 99999999) (disch := omega) only [wrap_markI,lng_length,e12,va,vg,vs,vh,Nat.reduceMul,ite_true,ite_false,eq_self,forall_const,implies_true,Nat.reduceAdd,Nat.reduceSub,Nat.reduceLT,Nat.reduceLeDiff,↓reduceIte,reduceCtorEq,Int.reduceEq,Int.reduceLT,Int.reduceLE,Int.reduceGT,Int.reduceGE,Int.reduceAdd,Int.reduceSub,Int.reduceNeg,Int.reduceToNat,Nat.reduceBEq,Nat.reduceEqDiff]
 refine ES_loopL (fun ts H' => ∃ j : Nat,j ≤ 12 ∧ H' = some ⟨1,lentL l j,true,2⟩ :: H ∧ Fr [some (.lst 1 (lng l) ro),none,none,some (.vec 1 H.length 0 (l.length + j) (some m)),some (.sc (.int .i64 j)),none,none,none,none,none,none,none,none,none,none,none,none,none,none,none,none,none,none,none,none] ts) (fun ts _ => 12 - (intV (ts.getD 4 .top)).toNat) ⟨0,by omega,rfl,by simp [Fr]⟩ ?_
 rintro ts _ ⟨j,hj,rfl,hfr⟩ L2 hL2
 obtain ⟨js,rfl⟩ := hfr.opened
 clear hfr
 simp -implicitDefEqProofs (maxSteps := 99999999) (disch := omega) only [wrap_markI,lng_length,mk,va,vg,vs,vh,Nat.reduceMul,ite_true,ite_false,eq_self,forall_const,implies_true,Nat.reduceAdd,Nat.reduceSub,Nat.reduceLT,Nat.reduceLeDiff,↓reduceIte,reduceCtorEq,Int.reduceEq,Int.reduceLT,Int.reduceLE,Int.reduceGT,Int.reduceGE,Int.reduceAdd,Int.reduceSub,Int.reduceNeg,Int.reduceToNat,Nat.reduceBEq,Nat.reduceEqDiff]
 refine condR_if (fun h => ?_) (fun h => ?_)
 ·have h1 : j < 12 := by omega
  have c1 : l.length + (j + 1) ≤ m := by omega
  simp -implicitDefEqProofs (maxSteps := 99999999) (disch := omega) only [wrap_markI,lng_length,va,vg,vs,vh,Nat.reduceMul,ite_true,ite_false,eq_self,forall_const,implies_true,Nat.reduceAdd,Nat.reduceSub,Nat.reduceLT,Nat.reduceLeDiff,↓reduceIte,reduceCtorEq,Int.reduceEq,Int.reduceLT,Int.reduceLE,Int.reduceGT,Int.reduceGE,Int.reduceAdd,Int.reduceSub,Int.reduceNeg,Int.reduceToNat,Nat.reduceBEq,Nat.reduceEqDiff]
  refine callR_ret (mark_d _ _ _) ?_
  have hlen : (lentL l j).length = m := by rw [lentL_length hj,hm]
  simp -implicitDefEqProofs (maxSteps := 99999999) (disch := omega) only [wrap_markI,lng_length,hlen,lentL_app h1,c1,va,vg,vs,vh,Nat.reduceMul,ite_true,ite_false,eq_self,forall_const,implies_true,Nat.reduceAdd,Nat.reduceSub,Nat.reduceLT,Nat.reduceLeDiff,↓reduceIte,reduceCtorEq,Int.reduceEq,Int.reduceLT,Int.reduceLE,Int.reduceGT,Int.reduceGE,Int.reduceAdd,Int.reduceSub,Int.reduceNeg,Int.reduceToNat,Nat.reduceBEq,Nat.reduceEqDiff]
  exact ⟨by omega,hL2 _ _ ⟨j + 1,by omega,rfl,by simp [Fr]⟩ (by simp [intV,mk]; omega)⟩
 ·have h1 : j = 12 := by omega
  subst h1
  refine hL _ _ ?_
  clear hL
  have c2 : 0 < m := by omega
  have e2 : lentL l 12 = lng (l ++ mksL 12) := by simp [lentL]
  simp -implicitDefEqProofs (maxSteps := 99999999) (disch := omega) only [wrap_markI,lng_length,c2,Nat.sub_zero,e2,va,vg,vs,vh,Nat.reduceMul,ite_true,ite_false,eq_self,forall_const,implies_true,Nat.reduceAdd,Nat.reduceSub,Nat.reduceLT,Nat.reduceLeDiff,↓reduceIte,reduceCtorEq,Int.reduceEq,Int.reduceLT,Int.reduceLE,Int.reduceGT,Int.reduceGE,Int.reduceAdd,Int.reduceSub,Int.reduceNeg,Int.reduceToNat,Nat.reduceBEq,Nat.reduceEqDiff]
  exact ⟨⟨by omega,rfl,by omega,by omega⟩,Weak.refl _ _ _⟩
theorem mksL_nth {l : List Int} {j n : Nat} (h : j < n) : nthQ (l ++ mksL n) (l.length + j) = markI 1 j := by
 rw [nthQ_eq (by simp [mksL_length]; exact h)]
 rw [List.getElem_append_right (by omega)]
 simp [mksL]
theorem lentL_nth {l m : List Int} {k : Nat} (h : k < l.length) : nthQ (l ++ m) k = nthQ l k := by
 rw [nthQ_eq (by simp; omega),nthQ_eq h,List.getElem_append_left h]
theorem keptLongs_d (l : List Int) (rl : Option (List AV)) (H : AHeap) (id : Nat) (ty : TypeId) (hf : AHeap.find H id = some ⟨1,lng (l ++ mksL 12),true,ty⟩) (hl : l.length ≤ 1000000) :
  D Tryd.prog 29 [.vec 1 id 0 l.length (some (l.length + 12)),.lst 1 (lng l) rl] H (.ret (.sc (.bool true))) H := by
 refine D_of_DK (Nat.le_refl _) (dk29 (E_of_ES ?_))
 simp only [ic29,ux]
 obtain ⟨m,hm⟩ : ∃ m,m = l.length + 12 := ⟨_,rfl⟩
 have e12 : ((l.length : Int) + 12).toNat = m := by omega
 have c0 : 0 < m := by omega
 have hlen : (l ++ mksL 12).length = m := by simp [mksL_length]; omega
 rw [← hm]
 refine ES_seq_gen fun L hL => ?_
 simp -implicitDefEqProofs (maxSteps := 99999999) (disch := first | omega | (simp only [AHeap.set_length,killO_length,List.length_cons,List.length_nil]; first | done | omega)) only [wrap_markI,lng_length,va,vg,vs,vw,Nat.reduceMul,ite_true,ite_false,eq_self,forall_const,implies_true,Nat.reduceAdd,Nat.reduceSub,Nat.reduceLT,Nat.reduceLeDiff,↓reduceIte,reduceCtorEq,Int.reduceEq,Int.reduceLT,Int.reduceLE,Int.reduceGT,Int.reduceGE,Int.reduceAdd,Int.reduceSub,Int.reduceNeg,Int.reduceToNat,Nat.reduceBEq,Nat.reduceEqDiff]
 refine hL _ _ ?_
 clear hL
 refine ES_seq_gen fun L hL => ?_
 simp -implicitDefEqProofs (maxSteps := 99999999) (disch := first | omega | (simp only [AHeap.set_length,killO_length,List.length_cons,List.length_nil]; first | done | omega)) only [wrap_markI,lng_length,ne_eq,va,vg,vs,vw,Nat.reduceMul,ite_true,ite_false,eq_self,forall_const,implies_true,Nat.reduceAdd,Nat.reduceSub,Nat.reduceLT,Nat.reduceLeDiff,↓reduceIte,reduceCtorEq,Int.reduceEq,Int.reduceLT,Int.reduceLE,Int.reduceGT,Int.reduceGE,Int.reduceAdd,Int.reduceSub,Int.reduceNeg,Int.reduceToNat,Nat.reduceBEq,Nat.reduceEqDiff]
 refine hL _ _ ?_
 clear hL
 refine ES_seq_gen fun L hL => ?_
 simp -implicitDefEqProofs (maxSteps := 99999999) (disch := first | omega | (simp only [AHeap.set_length,killO_length,List.length_cons,List.length_nil]; first | done | omega)) only [wrap_markI,lng_length,e12,c0,Nat.sub_zero,va,vg,vs,vw,Nat.reduceMul,ite_true,ite_false,eq_self,forall_const,implies_true,Nat.reduceAdd,Nat.reduceSub,Nat.reduceLT,Nat.reduceLeDiff,↓reduceIte,reduceCtorEq,Int.reduceEq,Int.reduceLT,Int.reduceLE,Int.reduceGT,Int.reduceGE,Int.reduceAdd,Int.reduceSub,Int.reduceNeg,Int.reduceToNat,Nat.reduceBEq,Nat.reduceEqDiff]
 refine ⟨⟨by omega,rfl,by omega,by omega⟩,?_⟩
 refine hL _ _ ?_
 clear hL
 refine ES_seq_gen fun L hL => ?_
 simp -implicitDefEqProofs (maxSteps := 99999999) (disch := first | omega | (simp only [AHeap.set_length,killO_length,List.length_cons,List.length_nil]; first | done | omega)) only [wrap_markI,lng_length,va,vg,vs,vw,Nat.reduceMul,ite_true,ite_false,eq_self,forall_const,implies_true,Nat.reduceAdd,Nat.reduceSub,Nat.reduceLT,Nat.reduceLeDiff,↓reduceIte,reduceCtorEq,Int.reduceEq,Int.reduceLT,Int.reduceLE,Int.reduceGT,Int.reduceGE,Int.reduceAdd,Int.reduceSub,Int.reduceNeg,Int.reduceToNat,Nat.reduceBEq,Nat.reduceEqDiff]
 refine ES_loopL (fun ts H' => ∃ j : Nat,j ≤ m ∧ H' = H ∧ Fr [some (.vec 1 id 0 l.length (some m)),some (.lst 1 (lng l) rl),none,none,some (.sc (.bool false)),some (.vec 1 id 0 m (some m)),some (.sc (.int .i64 j)),none,none,none,none,none,none,none,none,none,none,none,none,none,none,none,none,none,none,none,none,none,none,none,none,none,none,none,none,none,none,none,none,none,none,none,none,none,none,none,none,none,none,none,none,none,none,none,none,none,none,none] ts) (fun ts _ => m - (intV (ts.getD 6 .top)).toNat) ⟨0,by omega,rfl,by simp [Fr]⟩ ?_
 rintro ts _ ⟨j,hj,rfl,hfr⟩ L2 hL2
 obtain ⟨js,rfl⟩ := hfr.opened
 clear hfr
 simp -implicitDefEqProofs (maxSteps := 99999999) (disch := first | omega | (simp only [AHeap.set_length,killO_length,List.length_cons,List.length_nil]; first | done | omega)) only [wrap_markI,lng_length,mk,va,vg,vs,vw,Nat.reduceMul,ite_true,ite_false,eq_self,forall_const,implies_true,Nat.reduceAdd,Nat.reduceSub,Nat.reduceLT,Nat.reduceLeDiff,↓reduceIte,reduceCtorEq,Int.reduceEq,Int.reduceLT,Int.reduceLE,Int.reduceGT,Int.reduceGE,Int.reduceAdd,Int.reduceSub,Int.reduceNeg,Int.reduceToNat,Nat.reduceBEq,Nat.reduceEqDiff]
 refine condR_if (fun h => ?_) (fun h => ?_)
 ·have h1 : j < m := by omega
  have hg : (lng (l ++ mksL 12)).getD j .top = .sc (.int .i64 (nthQ (l ++ mksL 12) j)) := lng_getN (by omega)
  by_cases c1 : j < l.length
  ·have c2 : (j : Int) < l.length := by omega
   have c3 : ¬ ((j : Int) ≥ l.length) := by omega
   have e1 := lentL_nth (m := mksL 12) c1
   simp -implicitDefEqProofs (maxSteps := 99999999) (disch := first | omega | (simp only [AHeap.set_length,killO_length,List.length_cons,List.length_nil]; first | done | omega)) only [wrap_markI,lng_length,hf,lng_length,hlen,h1,c1,c2,c3,hg,lng_getN c1,e1,va,vg,vs,vw,Nat.reduceMul,ite_true,ite_false,eq_self,forall_const,implies_true,Nat.reduceAdd,Nat.reduceSub,Nat.reduceLT,Nat.reduceLeDiff,↓reduceIte,reduceCtorEq,Int.reduceEq,Int.reduceLT,Int.reduceLE,Int.reduceGT,Int.reduceGE,Int.reduceAdd,Int.reduceSub,Int.reduceNeg,Int.reduceToNat,Nat.reduceBEq,Nat.reduceEqDiff]
   exact ⟨⟨by omega,by omega⟩,by omega,hL2 _ _ ⟨j + 1,by omega,rfl,by simp [Fr]⟩ (by simp [intV,mk]; omega)⟩
  ·obtain ⟨t,rfl⟩ : ∃ t,j = l.length + t := ⟨j - l.length,by omega⟩
   have c2 : ¬ (((l.length + t : Nat) : Int) < l.length) := by omega
   have c3 : ((l.length + t : Nat) : Int) ≥ l.length := by omega
   have e1 := mksL_nth (l := l) (j := t) (n := 12) (by omega)
   have e2 : ((l.length + t : Nat) : Int) - l.length = t := by omega
   simp -implicitDefEqProofs (maxSteps := 99999999) (disch := first | omega | (simp only [AHeap.set_length,killO_length,List.length_cons,List.length_nil]; first | done | omega)) only [wrap_markI,lng_length,hf,lng_length,hlen,h1,c1,c2,c3,hg,e1,e2,va,vg,vs,vw,Nat.reduceMul,ite_true,ite_false,eq_self,forall_const,implies_true,Nat.reduceAdd,Nat.reduceSub,Nat.reduceLT,Nat.reduceLeDiff,↓reduceIte,reduceCtorEq,Int.reduceEq,Int.reduceLT,Int.reduceLE,Int.reduceGT,Int.reduceGE,Int.reduceAdd,Int.reduceSub,Int.reduceNeg,Int.reduceToNat,Nat.reduceBEq,Nat.reduceEqDiff]
   refine ⟨⟨by omega,by omega⟩,callD_same (mark_d _ _ _) ?_⟩
   simp -implicitDefEqProofs (maxSteps := 99999999) (disch := first | omega | (simp only [AHeap.set_length,killO_length,List.length_cons,List.length_nil]; first | done | omega)) only [wrap_markI,lng_length,hf,lng_length,hlen,h1,c1,c2,c3,hg,e1,e2,va,vg,vs,vw,Nat.reduceMul,ite_true,ite_false,eq_self,forall_const,implies_true,Nat.reduceAdd,Nat.reduceSub,Nat.reduceLT,Nat.reduceLeDiff,↓reduceIte,reduceCtorEq,Int.reduceEq,Int.reduceLT,Int.reduceLE,Int.reduceGT,Int.reduceGE,Int.reduceAdd,Int.reduceSub,Int.reduceNeg,Int.reduceToNat,Nat.reduceBEq,Nat.reduceEqDiff]
   exact hL2 _ _ ⟨l.length + t + 1,by omega,rfl,by simp [Fr]⟩ (by simp [intV,mk]; omega)
 ·have h1 : j = m := by omega
  refine hL _ _ ?_
  clear hL
  simp -implicitDefEqProofs (maxSteps := 99999999) (disch := first | omega | (simp only [AHeap.set_length,killO_length,List.length_cons,List.length_nil]; first | done | omega)) only [wrap_markI,lng_length,va,vg,vs,vw,Nat.reduceMul,ite_true,ite_false,eq_self,forall_const,implies_true,Nat.reduceAdd,Nat.reduceSub,Nat.reduceLT,Nat.reduceLeDiff,↓reduceIte,reduceCtorEq,Int.reduceEq,Int.reduceLT,Int.reduceLE,Int.reduceGT,Int.reduceGE,Int.reduceAdd,Int.reduceSub,Int.reduceNeg,Int.reduceToNat,Nat.reduceBEq,Nat.reduceEqDiff]
  exact Weak.refl _ _ _
end Go.Proofs.YtpnnpooeheiedaaDoor
