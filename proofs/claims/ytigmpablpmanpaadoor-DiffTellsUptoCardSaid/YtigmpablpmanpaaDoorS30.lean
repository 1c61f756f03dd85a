/- Marks; lists of texts that are lent. -/
import Derived.Test.YtigmpablpmanpaaDoorSA
import Derived.Test.YtigmpablpmanpaaDoorIc4
import Derived.Test.YtigmpablpmanpaaDoorVE
namespace Go.Proofs.YtigmpablpmanpaaDoor
open Go.RowKit
set_option maxRecDepth 100000
set_option linter.unusedVariables false
set_option linter.unusedSimpArgs false
/-- A text that marks a place. -/
def markT (k i : Int) : ByteArray := bytesV [.sc (.int .u8 35),.sc (.int .u8 (IntKind.u8.wrap k)),.sc (.int .u8 (IntKind.u8.wrap (k.fdiv (2 ^ min 8 IntKind.i64.bits)))),.sc (.int .u8 (IntKind.u8.wrap (k.fdiv (2 ^ min 16 IntKind.i64.bits)))),
 .sc (.int .u8 47),.sc (.int .u8 (IntKind.u8.wrap i)),.sc (.int .u8 (IntKind.u8.wrap (i.fdiv (2 ^ min 8 IntKind.i64.bits)))),.sc (.int .u8 (IntKind.u8.wrap (i.fdiv (2 ^ min 16 IntKind.i64.bits))))]
theorem markText_d (k i : Int) (H : AHeap) : D Tryd.prog 23 [.sc (.int .i64 k),.sc (.int .i64 i)] H (.ret (.sc (.string (markT k i)))) H := by
 refine D_of_DK (Nat.le_refl _) (dk23 (E_of_ES ?_))
 simp -implicitDefEqProofs (maxSteps := 99999999) (disch := omega) only [ic23,va,vg,vs,vh,Nat.reduceMul,ite_true,ite_false,eq_self,forall_const,implies_true,Nat.reduceAdd,Nat.reduceSub,Nat.reduceLT,Nat.reduceLeDiff,↓reduceIte,reduceCtorEq,Int.reduceEq,Int.reduceLT,Int.reduceLE,Int.reduceGT,Int.reduceGE,Int.reduceAdd,Int.reduceSub,Int.reduceNeg,Int.reduceToNat,Nat.reduceBEq,Nat.reduceEqDiff]
 exact weak_sc .refl
/-- The marks behind a list's end. -/
def mks (j : Nat) : List ByteArray := (List.range j).map fun i : Nat => markT 1 (i : Int)
theorem mks_length {j : Nat} : (mks j).length = j := by simp [mks]
theorem mks_succ {j : Nat} : mks (j + 1) = mks j ++ [markT 1 j] := by simp [mks,List.range_succ]
/-- A lent list's cells, j marks behind it. -/
def lentE (l : List ByteArray) (j : Nat) : List AV := strs (l ++ mks j) ++ List.replicate (12 - j) (.sc (.string ⟨#[]⟩))
theorem lentE_length {l : List ByteArray} {j : Nat} (h : j ≤ 12) : (lentE l j).length = l.length + 12 := by
 simp [lentE,strs_length,mks_length]; omega
theorem lentE_start {l : List ByteArray} : strs l ++ List.drop l.length (List.replicate (l.length + 12) (.sc (.string ⟨#[]⟩))) = lentE l 0 := by
 simp [lentE,mks]
theorem lentE_app {l : List ByteArray} {j : Nat} (h : j < 12) : (lentE l j).take (l.length + j) ++ (.sc (.string (markT 1 j)) :: (lentE l j).drop (l.length + (j + 1))) = lentE l (j + 1) := by
 have h1 : (strs (l ++ mks j)).length = l.length + j := by simp [strs_length,mks_length]
 unfold lentE
 rw [List.take_append_of_le_length (by omega),List.take_of_length_le (by omega),List.drop_append,List.drop_of_length_le (by omega),h1,mks_succ,← List.append_assoc,strs_append]
 rw [show l.length + (j + 1) - (l.length + j) = 1 from by omega,List.drop_replicate,show 12 - j - 1 = 12 - (j + 1) from by omega]
 simp [strs]
theorem lentTexts_d (l : List ByteArray) (ro : Option (List AV)) (H : AHeap) (hl : l.length ≤ 1000000) : D Tryd.prog 8 [.lst 1 (strs l) ro] H (.ret (.vec 1 H.length 0 l.length (some (l.length + 12)))) (some ⟨1,strs (l ++ mks 12),true,9⟩ :: H) := by
 refine D_of_DK (by simp) (dk8 (E_of_ES ?_))
 simp only [ic8,ux]
 obtain ⟨m,hm⟩ : ∃ m,m = l.length + 12 := ⟨_,rfl⟩
 have e12 : ((l.length : Int) + 12).toNat = m := by omega
 have cm : l.length ≤ m := by omega
 have hS : strs l ++ List.drop l.length (List.replicate m (.sc (.string ⟨#[]⟩))) = lentE l 0 := by rw [hm]; exact lentE_start
 rw [← hm]
 refine ES_seq_gen fun L hL => ?_
 simp -implicitDefEqProofs (maxSteps := 99999999) (disch := omega) only [va,vg,vs,vh,Nat.reduceMul,ite_true,ite_false,eq_self,forall_const,implies_true,Nat.reduceAdd,Nat.reduceSub,Nat.reduceLT,Nat.reduceLeDiff,↓reduceIte,reduceCtorEq,Int.reduceEq,Int.reduceLT,Int.reduceLE,Int.reduceGT,Int.reduceGE,Int.reduceAdd,Int.reduceSub,Int.reduceNeg,Int.reduceToNat,Nat.reduceBEq,Nat.reduceEqDiff]
 refine hL _ _ ?_
 clear hL
 refine ES_seq_gen fun L hL => ?_
 simp -implicitDefEqProofs (maxSteps := 99999999) (disch := omega) only [strs_length,e12,va,vg,vs,vh,Nat.reduceMul,ite_true,ite_false,eq_self,forall_const,implies_true,Nat.reduceAdd,Nat.reduceSub,Nat.reduceLT,Nat.reduceLeDiff,↓reduceIte,reduceCtorEq,Int.reduceEq,Int.reduceLT,Int.reduceLE,Int.reduceGT,Int.reduceGE,Int.reduceAdd,Int.reduceSub,Int.reduceNeg,Int.reduceToNat,Nat.reduceBEq,Nat.reduceEqDiff]
 refine ⟨by omega,?_⟩
 refine hL _ _ ?_
 clear hL
 refine ES_seq_gen fun L hL => ?_
 simp -implicitDefEqProofs (maxSteps := 99999999) (disch := omega) only [strs_length,e12,List.length_replicate,cm,hS,va,vg,vs,vh,Nat.reduceMul,ite_true,ite_false,eq_self,forall_const,implies_true,Nat.reduceAdd,Nat.reduceSub,Nat.reduceLT,Nat.reduceLeDiff,↓reduceIte,reduceCtorEq,Int.reduceEq,Int.reduceLT,Int.reduceLE,Int.reduceGT,Int.reduceGE,Int.reduceAdd,Int.reduceSub,Int.reduceNeg,Int.reduceToNat,Nat.reduceBEq,Nat.reduceEqDiff]
 refine ⟨by omega,?_⟩
 refine hL _ _ ?_
 clear hL
 refine ES_seq_gen fun L hL => ?_
 simp -implicitDefEqProofs (maxSteps := 99999999) (disch := omega) only [strs_length,e12,va,vg,vs,vh,Nat.reduceMul,ite_true,ite_false,eq_self,forall_const,implies_true,Nat.reduceAdd,Nat.reduceSub,Nat.reduceLT,Nat.reduceLeDiff,↓reduceIte,reduceCtorEq,Int.reduceEq,Int.reduceLT,Int.reduceLE,Int.reduceGT,Int.reduceGE,Int.reduceAdd,Int.reduceSub,Int.reduceNeg,Int.reduceToNat,Nat.reduceBEq,Nat.reduceEqDiff]
 refine ES_loopL (fun ts H' => ∃ j : Nat,j ≤ 12 ∧ H' = some ⟨1,lentE l j,true,9⟩ :: H ∧ Fr [some (.lst 1 (strs l) ro),none,none,some (.vec 1 H.length 0 (l.length + j) (some m)),some (.sc (.int .i64 j)),none,none,none,none,none,none,none,none,none,none,none,none,none,none,none,none,none,none,none,none] ts) (fun ts _ => 12 - (intV (ts.getD 4 .top)).toNat) ⟨0,by omega,rfl,by simp [Fr]⟩ ?_
 rintro ts _ ⟨j,hj,rfl,hfr⟩ L2 hL2
 obtain ⟨js,rfl⟩ := hfr.opened
 clear hfr
 simp -implicitDefEqProofs (maxSteps := 99999999) (disch := omega) only [mk,va,vg,vs,vh,Nat.reduceMul,ite_true,ite_false,eq_self,forall_const,implies_true,Nat.reduceAdd,Nat.reduceSub,Nat.reduceLT,Nat.reduceLeDiff,↓reduceIte,reduceCtorEq,Int.reduceEq,Int.reduceLT,Int.reduceLE,Int.reduceGT,Int.reduceGE,Int.reduceAdd,Int.reduceSub,Int.reduceNeg,Int.reduceToNat,Nat.reduceBEq,Nat.reduceEqDiff]
 refine condR_if (fun h => ?_) (fun h => ?_)
 ·have h1 : j < 12 := by omega
  have c1 : l.length + (j + 1) ≤ m := by omega
  simp -implicitDefEqProofs (maxSteps := 99999999) (disch := omega) only [va,vg,vs,vh,Nat.reduceMul,ite_true,ite_false,eq_self,forall_const,implies_true,Nat.reduceAdd,Nat.reduceSub,Nat.reduceLT,Nat.reduceLeDiff,↓reduceIte,reduceCtorEq,Int.reduceEq,Int.reduceLT,Int.reduceLE,Int.reduceGT,Int.reduceGE,Int.reduceAdd,Int.reduceSub,Int.reduceNeg,Int.reduceToNat,Nat.reduceBEq,Nat.reduceEqDiff]
  refine callR_ret (markText_d _ _ _) ?_
  have hlen : (lentE l j).length = m := by rw [lentE_length hj,hm]
  simp -implicitDefEqProofs (maxSteps := 99999999) (disch := omega) only [hlen,lentE_app h1,c1,va,vg,vs,vh,Nat.reduceMul,ite_true,ite_false,eq_self,forall_const,implies_true,Nat.reduceAdd,Nat.reduceSub,Nat.reduceLT,Nat.reduceLeDiff,↓reduceIte,reduceCtorEq,Int.reduceEq,Int.reduceLT,Int.reduceLE,Int.reduceGT,Int.reduceGE,Int.reduceAdd,Int.reduceSub,Int.reduceNeg,Int.reduceToNat,Nat.reduceBEq,Nat.reduceEqDiff]
  exact ⟨by omega,hL2 _ _ ⟨j + 1,by omega,rfl,by simp [Fr]⟩ (by simp [intV,mk]; omega)⟩
 ·have h1 : j = 12 := by omega
  subst h1
  refine hL _ _ ?_
  clear hL
  have c2 : 0 < m := by omega
  have e2 : lentE l 12 = strs (l ++ mks 12) := by simp [lentE]
  simp -implicitDefEqProofs (maxSteps := 99999999) (disch := omega) only [c2,Nat.sub_zero,e2,va,vg,vs,vh,Nat.reduceMul,ite_true,ite_false,eq_self,forall_const,implies_true,Nat.reduceAdd,Nat.reduceSub,Nat.reduceLT,Nat.reduceLeDiff,↓reduceIte,reduceCtorEq,Int.reduceEq,Int.reduceLT,Int.reduceLE,Int.reduceGT,Int.reduceGE,Int.reduceAdd,Int.reduceSub,Int.reduceNeg,Int.reduceToNat,Nat.reduceBEq,Nat.reduceEqDiff]
  exact ⟨⟨by omega,rfl,by omega,by omega⟩,Weak.refl _ _ _⟩
end Go.Proofs.YtigmpablpmanpaaDoor
