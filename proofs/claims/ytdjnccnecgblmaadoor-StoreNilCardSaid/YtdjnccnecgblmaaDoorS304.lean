/- The store's table: names, one patch put. -/
import Derived.Test.YtdjnccnecgblmaaDoorS303
namespace Go.Proofs.YtdjnccnecgblmaaDoor
open Go.RowKit
set_option maxRecDepth 100000
set_option linter.unusedVariables false
set_option linter.unusedSimpArgs false
theorem slIndex_d (s : ByteArray) (c : Nat) (H : AHeap) : D Tryd.prog 57 [.sc (.string s),.sc (.int .u8 c)] H (.ret (.sc (.int .i64 (firstIdx s ((c : Int).toNat.toUInt8))))) H := by
 refine D_of_DK (Nat.le_refl _) (dk57 (E_of_ES ?_))
 simp -implicitDefEqProofs (maxSteps := 99999999) (disch := omega) only [ic57,vu,vg,va,vg,vs,vh,Nat.reduceMul,ite_true,ite_false,eq_self,forall_const,implies_true,Nat.reduceAdd,Nat.reduceSub,Nat.reduceLT,Nat.reduceLeDiff,↓reduceIte,reduceCtorEq,Int.reduceEq,Int.reduceLT,Int.reduceLE,Int.reduceGT,Int.reduceGE,Int.reduceAdd,Int.reduceSub,Int.reduceNeg,Int.reduceToNat,Nat.reduceBEq,Nat.reduceEqDiff]
 exact weak_sc .refl
theorem sIndex_d (s : ByteArray) (c : Nat) (H : AHeap) : D Tryd.prog 34 [.sc (.string s),.sc (.int .u8 c)] H (.ret (.sc (.int .i64 (firstIdx s ((c : Int).toNat.toUInt8))))) H := by
 refine D_of_DK (Nat.le_refl _) (dk34 (E_of_ES ?_))
 simp -implicitDefEqProofs (maxSteps := 99999999) (disch := omega) only [ic34,vu,va,vg,vs,vh,Nat.reduceMul,ite_true,ite_false,eq_self,forall_const,implies_true,Nat.reduceAdd,Nat.reduceSub,Nat.reduceLT,Nat.reduceLeDiff,↓reduceIte,reduceCtorEq,Int.reduceEq,Int.reduceLT,Int.reduceLE,Int.reduceGT,Int.reduceGE,Int.reduceAdd,Int.reduceSub,Int.reduceNeg,Int.reduceToNat,Nat.reduceBEq,Nat.reduceEqDiff]
 refine callR_ret (slIndex_d s c _) ?_
 simp -implicitDefEqProofs (maxSteps := 99999999) (disch := omega) only [vu,va,vg,vs,vh,Nat.reduceMul,ite_true,ite_false,eq_self,forall_const,implies_true,Nat.reduceAdd,Nat.reduceSub,Nat.reduceLT,Nat.reduceLeDiff,↓reduceIte,reduceCtorEq,Int.reduceEq,Int.reduceLT,Int.reduceLE,Int.reduceGT,Int.reduceGE,Int.reduceAdd,Int.reduceSub,Int.reduceNeg,Int.reduceToNat,Nat.reduceBEq,Nat.reduceEqDiff]
 exact weak_sc .refl
theorem odd_d (c : UInt8) (hc : c = 112 ∨ c = 113 ∨ c = 114) (H : AHeap) : D Tryd.prog 33 [.sc (.int .u8 (c.toNat : Nat))] H (.ret (.sc (.bool false))) H := by
 refine D_of_DK (Nat.le_refl _) (dk33 (E_of_ES ?_))
 simp -implicitDefEqProofs (maxSteps := 99999999) (disch := omega) only [ic33,vu,va,vg,vs,vh,Nat.reduceMul,ite_true,ite_false,eq_self,forall_const,implies_true,Nat.reduceAdd,Nat.reduceSub,Nat.reduceLT,Nat.reduceLeDiff,↓reduceIte,reduceCtorEq,Int.reduceEq,Int.reduceLT,Int.reduceLE,Int.reduceGT,Int.reduceGE,Int.reduceAdd,Int.reduceSub,Int.reduceNeg,Int.reduceToNat,Nat.reduceBEq,Nat.reduceEqDiff]
 refine callR_ret (sIndex_d _ _ _) ?_
 generalize hfi : firstIdx _ _ = n
 have hn : ¬ n < 0 := by
  rw [← hfi]
  rcases hc with rfl | rfl | rfl <;> decide
 clear hfi
 simp -implicitDefEqProofs (maxSteps := 99999999) (disch := omega) only [vu,hn,va,vg,vs,vh,Nat.reduceMul,ite_true,ite_false,eq_self,forall_const,implies_true,Nat.reduceAdd,Nat.reduceSub,Nat.reduceLT,Nat.reduceLeDiff,↓reduceIte,reduceCtorEq,Int.reduceEq,Int.reduceLT,Int.reduceLE,Int.reduceGT,Int.reduceGE,Int.reduceAdd,Int.reduceSub,Int.reduceNeg,Int.reduceToNat,Nat.reduceBEq,Nat.reduceEqDiff]
 exact weak_sc .refl
theorem indexA_d (c : UInt8) (hc : c = 112 ∨ c = 113 ∨ c = 114) (H : AHeap) : D Tryd.prog 58 [.lst 1 [.sc (.int .u8 (c.toNat : Nat))] none,.fn (.func 33) [] []] H (.ret (.sc (.int .i64 (-1)))) H := by
 refine D_of_DK (Nat.le_refl _) (dk58 (E_of_ES ?_))
 simp -implicitDefEqProofs (maxSteps := 99999999) (disch := omega) only [ic58,vu,va,vg,vs,vh,Nat.reduceMul,ite_true,ite_false,eq_self,forall_const,implies_true,Nat.reduceAdd,Nat.reduceSub,Nat.reduceLT,Nat.reduceLeDiff,↓reduceIte,reduceCtorEq,Int.reduceEq,Int.reduceLT,Int.reduceLE,Int.reduceGT,Int.reduceGE,Int.reduceAdd,Int.reduceSub,Int.reduceNeg,Int.reduceToNat,Nat.reduceBEq,Nat.reduceEqDiff]
 refine ES_unroll (.s (.s .o)) ?_
 refine Lp_next fun L hL => ?_
 simp -implicitDefEqProofs (maxSteps := 99999999) (disch := omega) only [vu,va,vg,vs,vh,Nat.reduceMul,ite_true,ite_false,eq_self,forall_const,implies_true,Nat.reduceAdd,Nat.reduceSub,Nat.reduceLT,Nat.reduceLeDiff,↓reduceIte,reduceCtorEq,Int.reduceEq,Int.reduceLT,Int.reduceLE,Int.reduceGT,Int.reduceGE,Int.reduceAdd,Int.reduceSub,Int.reduceNeg,Int.reduceToNat,Nat.reduceBEq,Nat.reduceEqDiff]
 refine ⟨by kernel_rfl,callR_ret (odd_d c hc _) ?_⟩
 simp -implicitDefEqProofs (maxSteps := 99999999) (disch := omega) only [vu,va,vg,vs,vh,Nat.reduceMul,ite_true,ite_false,eq_self,forall_const,implies_true,Nat.reduceAdd,Nat.reduceSub,Nat.reduceLT,Nat.reduceLeDiff,↓reduceIte,reduceCtorEq,Int.reduceEq,Int.reduceLT,Int.reduceLE,Int.reduceGT,Int.reduceGE,Int.reduceAdd,Int.reduceSub,Int.reduceNeg,Int.reduceToNat,Nat.reduceBEq,Nat.reduceEqDiff]
 refine hL _ _ ?_
 clear hL
 refine Lp_next fun L hL => ?_
 simp -implicitDefEqProofs (maxSteps := 99999999) (disch := omega) only [vu,va,vg,vs,vh,Nat.reduceMul,ite_true,ite_false,eq_self,forall_const,implies_true,Nat.reduceAdd,Nat.reduceSub,Nat.reduceLT,Nat.reduceLeDiff,↓reduceIte,reduceCtorEq,Int.reduceEq,Int.reduceLT,Int.reduceLE,Int.reduceGT,Int.reduceGE,Int.reduceAdd,Int.reduceSub,Int.reduceNeg,Int.reduceToNat,Nat.reduceBEq,Nat.reduceEqDiff]
 exact weak_sc .refl
theorem named_d (c : UInt8) (hc : c = 112 ∨ c = 113 ∨ c = 114) (H : AHeap) : D Tryd.prog 25 [.sc (.string (one c))] H (.ret (.sc (.bool true))) H := by
 have hi := indexA_d c hc
 have hcn : D Tryd.prog 35 [.lst 1 [.sc (.int .u8 (c.toNat : Nat))] none,.fn (.func 33) [] []] H (.ret (.sc (.bool false))) H := by
  refine D_of_DK (Nat.le_refl _) (dk35 (E_of_ES ?_))
  simp -implicitDefEqProofs (maxSteps := 99999999) (disch := omega) only [ic35,vu,va,vg,vs,vh,Nat.reduceMul,ite_true,ite_false,eq_self,forall_const,implies_true,Nat.reduceAdd,Nat.reduceSub,Nat.reduceLT,Nat.reduceLeDiff,↓reduceIte,reduceCtorEq,Int.reduceEq,Int.reduceLT,Int.reduceLE,Int.reduceGT,Int.reduceGE,Int.reduceAdd,Int.reduceSub,Int.reduceNeg,Int.reduceToNat,Nat.reduceBEq,Nat.reduceEqDiff]
  refine callR_ret (hi _) ?_
  simp -implicitDefEqProofs (maxSteps := 99999999) (disch := omega) only [vu,va,vg,vs,vh,Nat.reduceMul,ite_true,ite_false,eq_self,forall_const,implies_true,Nat.reduceAdd,Nat.reduceSub,Nat.reduceLT,Nat.reduceLeDiff,↓reduceIte,reduceCtorEq,Int.reduceEq,Int.reduceLT,Int.reduceLE,Int.reduceGT,Int.reduceGE,Int.reduceAdd,Int.reduceSub,Int.reduceNeg,Int.reduceToNat,Nat.reduceBEq,Nat.reduceEqDiff]
  exact weak_sc .refl
 refine D_of_DK (Nat.le_refl _) (dk25 (E_of_ES ?_))
 unfold one
 simp -implicitDefEqProofs (maxSteps := 99999999) (disch := omega) only [ic25,vu,size1,ne1,va,vg,vs,vh,Nat.reduceMul,ite_true,ite_false,eq_self,forall_const,implies_true,Nat.reduceAdd,Nat.reduceSub,Nat.reduceLT,Nat.reduceLeDiff,↓reduceIte,reduceCtorEq,Int.reduceEq,Int.reduceLT,Int.reduceLE,Int.reduceGT,Int.reduceGE,Int.reduceAdd,Int.reduceSub,Int.reduceNeg,Int.reduceToNat,Nat.reduceBEq,Nat.reduceEqDiff]
 refine callR_ret hcn ?_
 simp -implicitDefEqProofs (maxSteps := 99999999) (disch := omega) only [vu,va,vg,vs,vh,Nat.reduceMul,ite_true,ite_false,eq_self,forall_const,implies_true,Nat.reduceAdd,Nat.reduceSub,Nat.reduceLT,Nat.reduceLeDiff,↓reduceIte,reduceCtorEq,Int.reduceEq,Int.reduceLT,Int.reduceLE,Int.reduceGT,Int.reduceGE,Int.reduceAdd,Int.reduceSub,Int.reduceNeg,Int.reduceToNat,Nat.reduceBEq,Nat.reduceEqDiff]
 exact weak_sc (by repeat constructor)
end Go.Proofs.YtdjnccnecgblmaaDoor
