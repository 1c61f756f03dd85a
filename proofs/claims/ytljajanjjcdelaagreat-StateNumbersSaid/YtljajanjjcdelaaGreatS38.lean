/- The flat functions at nil. -/
import Derived.Test.YtljajanjjcdelaaGreatSA
import Derived.Test.YtljajanjjcdelaaGreatIc5
import Derived.Test.YtljajanjjcdelaaGreatIc6
namespace Go.Proofs.YtljajanjjcdelaaGreat
open Go.RowKit
set_option maxRecDepth 100000
set_option linter.unusedVariables false
set_option linter.unusedSimpArgs false
theorem flat54_nil (H : AHeap) : D Tryz.prog 54 [.lst 0 [] (some [])] H (.ret (.sc (.bool true))) H := by
 refine D_of_DK (Nat.le_refl _) (dk54 (E_of_ES ?_))
 simp only [ic54,ux]
 refine ES_seq_gen fun L hL => ?_
 repeat (simp -implicitDefEqProofs (maxSteps := 99999999) (disch := omega) only [va,vg,vs,vh,Nat.reduceMul,ite_true,ite_false,eq_self,forall_const,implies_true,Nat.reduceAdd,Nat.reduceSub,Nat.reduceLT,Nat.reduceLeDiff,↓reduceIte,reduceCtorEq,Int.reduceEq,Int.reduceLT,Int.reduceLE,Int.reduceGT,Int.reduceGE,Int.reduceAdd,Int.reduceSub,Int.reduceNeg,Int.reduceToNat,Nat.reduceBEq,Nat.reduceEqDiff]; try first | refine ES_unroll (.s .o) (Lp_next fun L3 hL3 => ?_) | (refine hL _ _ ?_; clear hL; refine ES_seq_gen fun L hL => ?_) | (refine hL _ _ ?_; clear hL))
 exact weak_over (.cons .refl) (.same trivial)
theorem flat55_nil (H : AHeap) : D Tryz.prog 55 [.lst 0 [] (some [])] H (.ret (.sc (.bool true))) H := by
 refine D_of_DK (Nat.le_refl _) (dk55 (E_of_ES ?_))
 simp only [ic55,ux]
 refine ES_seq_gen fun L hL => ?_
 repeat (simp -implicitDefEqProofs (maxSteps := 99999999) (disch := omega) only [va,vg,vs,vh,Nat.reduceMul,ite_true,ite_false,eq_self,forall_const,implies_true,Nat.reduceAdd,Nat.reduceSub,Nat.reduceLT,Nat.reduceLeDiff,↓reduceIte,reduceCtorEq,Int.reduceEq,Int.reduceLT,Int.reduceLE,Int.reduceGT,Int.reduceGE,Int.reduceAdd,Int.reduceSub,Int.reduceNeg,Int.reduceToNat,Nat.reduceBEq,Nat.reduceEqDiff]; try first | refine ES_unroll (.s .o) (Lp_next fun L3 hL3 => ?_) | (refine hL _ _ ?_; clear hL; refine ES_seq_gen fun L hL => ?_) | (refine hL _ _ ?_; clear hL))
 exact weak_over (.cons .refl) (.same trivial)
theorem flat56_nil (H : AHeap) : D Tryz.prog 56 [.lst 0 [] (some [])] H (.ret (.sc (.bool true))) H := by
 refine D_of_DK (Nat.le_refl _) (dk56 (E_of_ES ?_))
 simp only [ic56,ux]
 refine ES_seq_gen fun L hL => ?_
 repeat (simp -implicitDefEqProofs (maxSteps := 99999999) (disch := omega) only [va,vg,vs,vh,Nat.reduceMul,ite_true,ite_false,eq_self,forall_const,implies_true,Nat.reduceAdd,Nat.reduceSub,Nat.reduceLT,Nat.reduceLeDiff,↓reduceIte,reduceCtorEq,Int.reduceEq,Int.reduceLT,Int.reduceLE,Int.reduceGT,Int.reduceGE,Int.reduceAdd,Int.reduceSub,Int.reduceNeg,Int.reduceToNat,Nat.reduceBEq,Nat.reduceEqDiff]; try first | refine ES_unroll (.s .o) (Lp_next fun L3 hL3 => ?_) | (refine hL _ _ ?_; clear hL; refine ES_seq_gen fun L hL => ?_) | (refine hL _ _ ?_; clear hL))
 exact weak_over (.cons .refl) (.same trivial)
theorem flat57_nil (H : AHeap) : D Tryz.prog 57 [.lst 0 [] (some [])] H (.ret (.sc (.bool true))) H := by
 refine D_of_DK (Nat.le_refl _) (dk57 (E_of_ES ?_))
 simp only [ic57,ux]
 refine ES_seq_gen fun L hL => ?_
 repeat (simp -implicitDefEqProofs (maxSteps := 99999999) (disch := omega) only [va,vg,vs,vh,Nat.reduceMul,ite_true,ite_false,eq_self,forall_const,implies_true,Nat.reduceAdd,Nat.reduceSub,Nat.reduceLT,Nat.reduceLeDiff,↓reduceIte,reduceCtorEq,Int.reduceEq,Int.reduceLT,Int.reduceLE,Int.reduceGT,Int.reduceGE,Int.reduceAdd,Int.reduceSub,Int.reduceNeg,Int.reduceToNat,Nat.reduceBEq,Nat.reduceEqDiff]; try first | refine ES_unroll (.s .o) (Lp_next fun L3 hL3 => ?_) | (refine hL _ _ ?_; clear hL; refine ES_seq_gen fun L hL => ?_) | (refine hL _ _ ?_; clear hL))
 exact weak_over (.cons .refl) (.same trivial)
theorem flat58_nil (H : AHeap) : D Tryz.prog 58 [.lst 0 [] (some [])] H (.ret (.sc (.bool true))) H := by
 refine D_of_DK (Nat.le_refl _) (dk58 (E_of_ES ?_))
 simp only [ic58,ux]
 refine ES_seq_gen fun L hL => ?_
 repeat (simp -implicitDefEqProofs (maxSteps := 99999999) (disch := omega) only [va,vg,vs,vh,Nat.reduceMul,ite_true,ite_false,eq_self,forall_const,implies_true,Nat.reduceAdd,Nat.reduceSub,Nat.reduceLT,Nat.reduceLeDiff,↓reduceIte,reduceCtorEq,Int.reduceEq,Int.reduceLT,Int.reduceLE,Int.reduceGT,Int.reduceGE,Int.reduceAdd,Int.reduceSub,Int.reduceNeg,Int.reduceToNat,Nat.reduceBEq,Nat.reduceEqDiff]; try first | refine ES_unroll (.s .o) (Lp_next fun L3 hL3 => ?_) | (refine hL _ _ ?_; clear hL; refine ES_seq_gen fun L hL => ?_) | (refine hL _ _ ?_; clear hL))
 exact weak_over (.cons .refl) (.same trivial)
theorem flat59_nil (H : AHeap) : D Tryz.prog 59 [.lst 0 [] (some [])] H (.ret (.sc (.bool true))) H := by
 refine D_of_DK (Nat.le_refl _) (dk59 (E_of_ES ?_))
 simp only [ic59,ux]
 refine ES_seq_gen fun L hL => ?_
 repeat (simp -implicitDefEqProofs (maxSteps := 99999999) (disch := omega) only [va,vg,vs,vh,Nat.reduceMul,ite_true,ite_false,eq_self,forall_const,implies_true,Nat.reduceAdd,Nat.reduceSub,Nat.reduceLT,Nat.reduceLeDiff,↓reduceIte,reduceCtorEq,Int.reduceEq,Int.reduceLT,Int.reduceLE,Int.reduceGT,Int.reduceGE,Int.reduceAdd,Int.reduceSub,Int.reduceNeg,Int.reduceToNat,Nat.reduceBEq,Nat.reduceEqDiff]; try first | refine ES_unroll (.s .o) (Lp_next fun L3 hL3 => ?_) | (refine hL _ _ ?_; clear hL; refine ES_seq_gen fun L hL => ?_) | (refine hL _ _ ?_; clear hL))
 exact weak_over (.cons .refl) (.same trivial)
theorem flat60_nil (H : AHeap) : D Tryz.prog 60 [.lst 0 [] (some [])] H (.ret (.sc (.bool true))) H := by
 refine D_of_DK (Nat.le_refl _) (dk60 (E_of_ES ?_))
 simp only [ic60,ux]
 refine ES_seq_gen fun L hL => ?_
 repeat (simp -implicitDefEqProofs (maxSteps := 99999999) (disch := omega) only [va,vg,vs,vh,Nat.reduceMul,ite_true,ite_false,eq_self,forall_const,implies_true,Nat.reduceAdd,Nat.reduceSub,Nat.reduceLT,Nat.reduceLeDiff,↓reduceIte,reduceCtorEq,Int.reduceEq,Int.reduceLT,Int.reduceLE,Int.reduceGT,Int.reduceGE,Int.reduceAdd,Int.reduceSub,Int.reduceNeg,Int.reduceToNat,Nat.reduceBEq,Nat.reduceEqDiff]; try first | refine ES_unroll (.s .o) (Lp_next fun L3 hL3 => ?_) | (refine hL _ _ ?_; clear hL; refine ES_seq_gen fun L hL => ?_) | (refine hL _ _ ?_; clear hL))
 exact weak_over (.cons .refl) (.same trivial)
theorem flat61_nil (H : AHeap) : D Tryz.prog 61 [.lst 0 [] (some [])] H (.ret (.sc (.bool true))) H := by
 refine D_of_DK (Nat.le_refl _) (dk61 (E_of_ES ?_))
 simp only [ic61,ux]
 refine ES_seq_gen fun L hL => ?_
 repeat (simp -implicitDefEqProofs (maxSteps := 99999999) (disch := omega) only [va,vg,vs,vh,Nat.reduceMul,ite_true,ite_false,eq_self,forall_const,implies_true,Nat.reduceAdd,Nat.reduceSub,Nat.reduceLT,Nat.reduceLeDiff,↓reduceIte,reduceCtorEq,Int.reduceEq,Int.reduceLT,Int.reduceLE,Int.reduceGT,Int.reduceGE,Int.reduceAdd,Int.reduceSub,Int.reduceNeg,Int.reduceToNat,Nat.reduceBEq,Nat.reduceEqDiff]; try first | refine ES_unroll (.s .o) (Lp_next fun L3 hL3 => ?_) | (refine hL _ _ ?_; clear hL; refine ES_seq_gen fun L hL => ?_) | (refine hL _ _ ?_; clear hL))
 exact weak_over (.cons .refl) (.same trivial)
theorem flat62_nil (H : AHeap) : D Tryz.prog 62 [.lst 0 [] (some [])] H (.ret (.sc (.bool true))) H := by
 refine D_of_DK (Nat.le_refl _) (dk62 (E_of_ES ?_))
 simp only [ic62,ux]
 refine ES_seq_gen fun L hL => ?_
 repeat (simp -implicitDefEqProofs (maxSteps := 99999999) (disch := omega) only [va,vg,vs,vh,Nat.reduceMul,ite_true,ite_false,eq_self,forall_const,implies_true,Nat.reduceAdd,Nat.reduceSub,Nat.reduceLT,Nat.reduceLeDiff,↓reduceIte,reduceCtorEq,Int.reduceEq,Int.reduceLT,Int.reduceLE,Int.reduceGT,Int.reduceGE,Int.reduceAdd,Int.reduceSub,Int.reduceNeg,Int.reduceToNat,Nat.reduceBEq,Nat.reduceEqDiff]; try first | refine ES_unroll (.s .o) (Lp_next fun L3 hL3 => ?_) | (refine hL _ _ ?_; clear hL; refine ES_seq_gen fun L hL => ?_) | (refine hL _ _ ?_; clear hL))
 exact weak_over (.cons .refl) (.same trivial)
theorem flat63_nil (H : AHeap) : D Tryz.prog 63 [.lst 0 [] (some [])] H (.ret (.sc (.bool true))) H := by
 refine D_of_DK (Nat.le_refl _) (dk63 (E_of_ES ?_))
 simp only [ic63,ux]
 refine ES_seq_gen fun L hL => ?_
 repeat (simp -implicitDefEqProofs (maxSteps := 99999999) (disch := omega) only [va,vg,vs,vh,Nat.reduceMul,ite_true,ite_false,eq_self,forall_const,implies_true,Nat.reduceAdd,Nat.reduceSub,Nat.reduceLT,Nat.reduceLeDiff,↓reduceIte,reduceCtorEq,Int.reduceEq,Int.reduceLT,Int.reduceLE,Int.reduceGT,Int.reduceGE,Int.reduceAdd,Int.reduceSub,Int.reduceNeg,Int.reduceToNat,Nat.reduceBEq,Nat.reduceEqDiff]; try first | refine ES_unroll (.s .o) (Lp_next fun L3 hL3 => ?_) | (refine hL _ _ ?_; clear hL; refine ES_seq_gen fun L hL => ?_) | (refine hL _ _ ?_; clear hL))
 exact weak_over (.cons .refl) (.same trivial)
theorem flat64_nil (H : AHeap) : D Tryz.prog 64 [.lst 0 [] (some [])] H (.ret (.sc (.bool true))) H := by
 refine D_of_DK (Nat.le_refl _) (dk64 (E_of_ES ?_))
 simp only [ic64,ux]
 refine ES_seq_gen fun L hL => ?_
 repeat (simp -implicitDefEqProofs (maxSteps := 99999999) (disch := omega) only [va,vg,vs,vh,Nat.reduceMul,ite_true,ite_false,eq_self,forall_const,implies_true,Nat.reduceAdd,Nat.reduceSub,Nat.reduceLT,Nat.reduceLeDiff,↓reduceIte,reduceCtorEq,Int.reduceEq,Int.reduceLT,Int.reduceLE,Int.reduceGT,Int.reduceGE,Int.reduceAdd,Int.reduceSub,Int.reduceNeg,Int.reduceToNat,Nat.reduceBEq,Nat.reduceEqDiff]; try first | refine ES_unroll (.s .o) (Lp_next fun L3 hL3 => ?_) | (refine hL _ _ ?_; clear hL; refine ES_seq_gen fun L hL => ?_) | (refine hL _ _ ?_; clear hL))
 exact weak_over (.cons .refl) (.same trivial)
theorem flat65_nil (H : AHeap) : D Tryz.prog 65 [.lst 0 [] (some [])] H (.ret (.sc (.bool true))) H := by
 refine D_of_DK (Nat.le_refl _) (dk65 (E_of_ES ?_))
 simp only [ic65,ux]
 refine ES_seq_gen fun L hL => ?_
 repeat (simp -implicitDefEqProofs (maxSteps := 99999999) (disch := omega) only [va,vg,vs,vh,Nat.reduceMul,ite_true,ite_false,eq_self,forall_const,implies_true,Nat.reduceAdd,Nat.reduceSub,Nat.reduceLT,Nat.reduceLeDiff,↓reduceIte,reduceCtorEq,Int.reduceEq,Int.reduceLT,Int.reduceLE,Int.reduceGT,Int.reduceGE,Int.reduceAdd,Int.reduceSub,Int.reduceNeg,Int.reduceToNat,Nat.reduceBEq,Nat.reduceEqDiff]; try first | refine ES_unroll (.s .o) (Lp_next fun L3 hL3 => ?_) | (refine hL _ _ ?_; clear hL; refine ES_seq_gen fun L hL => ?_) | (refine hL _ _ ?_; clear hL))
 exact weak_over (.cons .refl) (.same trivial)
theorem flat66_nil (H : AHeap) : D Tryz.prog 66 [.lst 0 [] (some [])] H (.ret (.sc (.bool true))) H := by
 refine D_of_DK (Nat.le_refl _) (dk66 (E_of_ES ?_))
 simp only [ic66,ux]
 refine ES_seq_gen fun L hL => ?_
 repeat (simp -implicitDefEqProofs (maxSteps := 99999999) (disch := omega) only [va,vg,vs,vh,Nat.reduceMul,ite_true,ite_false,eq_self,forall_const,implies_true,Nat.reduceAdd,Nat.reduceSub,Nat.reduceLT,Nat.reduceLeDiff,↓reduceIte,reduceCtorEq,Int.reduceEq,Int.reduceLT,Int.reduceLE,Int.reduceGT,Int.reduceGE,Int.reduceAdd,Int.reduceSub,Int.reduceNeg,Int.reduceToNat,Nat.reduceBEq,Nat.reduceEqDiff]; try first | refine ES_unroll (.s .o) (Lp_next fun L3 hL3 => ?_) | (refine hL _ _ ?_; clear hL; refine ES_seq_gen fun L hL => ?_) | (refine hL _ _ ?_; clear hL))
 exact weak_over (.cons .refl) (.same trivial)
theorem flat67_nil (H : AHeap) : D Tryz.prog 67 [.lst 0 [] (some [])] H (.ret (.sc (.bool true))) H := by
 refine D_of_DK (Nat.le_refl _) (dk67 (E_of_ES ?_))
 simp only [ic67,ux]
 refine ES_seq_gen fun L hL => ?_
 repeat (simp -implicitDefEqProofs (maxSteps := 99999999) (disch := omega) only [va,vg,vs,vh,Nat.reduceMul,ite_true,ite_false,eq_self,forall_const,implies_true,Nat.reduceAdd,Nat.reduceSub,Nat.reduceLT,Nat.reduceLeDiff,↓reduceIte,reduceCtorEq,Int.reduceEq,Int.reduceLT,Int.reduceLE,Int.reduceGT,Int.reduceGE,Int.reduceAdd,Int.reduceSub,Int.reduceNeg,Int.reduceToNat,Nat.reduceBEq,Nat.reduceEqDiff]; try first | refine ES_unroll (.s .o) (Lp_next fun L3 hL3 => ?_) | (refine hL _ _ ?_; clear hL; refine ES_seq_gen fun L hL => ?_) | (refine hL _ _ ?_; clear hL))
 exact weak_over (.cons .refl) (.same trivial)
theorem flat68_nil (H : AHeap) : D Tryz.prog 68 [.lst 0 [] (some [])] H (.ret (.sc (.bool true))) H := by
 refine D_of_DK (Nat.le_refl _) (dk68 (E_of_ES ?_))
 simp only [ic68,ux]
 refine ES_seq_gen fun L hL => ?_
 repeat (simp -implicitDefEqProofs (maxSteps := 99999999) (disch := omega) only [va,vg,vs,vh,Nat.reduceMul,ite_true,ite_false,eq_self,forall_const,implies_true,Nat.reduceAdd,Nat.reduceSub,Nat.reduceLT,Nat.reduceLeDiff,↓reduceIte,reduceCtorEq,Int.reduceEq,Int.reduceLT,Int.reduceLE,Int.reduceGT,Int.reduceGE,Int.reduceAdd,Int.reduceSub,Int.reduceNeg,Int.reduceToNat,Nat.reduceBEq,Nat.reduceEqDiff]; try first | refine ES_unroll (.s .o) (Lp_next fun L3 hL3 => ?_) | (refine hL _ _ ?_; clear hL; refine ES_seq_gen fun L hL => ?_) | (refine hL _ _ ?_; clear hL))
 exact weak_over (.cons .refl) (.same trivial)
theorem flat69_nil (H : AHeap) : D Tryz.prog 69 [.lst 0 [] (some [])] H (.ret (.sc (.bool true))) H := by
 refine D_of_DK (Nat.le_refl _) (dk69 (E_of_ES ?_))
 simp only [ic69,ux]
 refine ES_seq_gen fun L hL => ?_
 repeat (simp -implicitDefEqProofs (maxSteps := 99999999) (disch := omega) only [va,vg,vs,vh,Nat.reduceMul,ite_true,ite_false,eq_self,forall_const,implies_true,Nat.reduceAdd,Nat.reduceSub,Nat.reduceLT,Nat.reduceLeDiff,↓reduceIte,reduceCtorEq,Int.reduceEq,Int.reduceLT,Int.reduceLE,Int.reduceGT,Int.reduceGE,Int.reduceAdd,Int.reduceSub,Int.reduceNeg,Int.reduceToNat,Nat.reduceBEq,Nat.reduceEqDiff]; try first | refine ES_unroll (.s .o) (Lp_next fun L3 hL3 => ?_) | (refine hL _ _ ?_; clear hL; refine ES_seq_gen fun L hL => ?_) | (refine hL _ _ ?_; clear hL))
 exact weak_over (.cons .refl) (.same trivial)
theorem flat70_nil (H : AHeap) : D Tryz.prog 70 [.lst 0 [] (some [])] H (.ret (.sc (.bool true))) H := by
 refine D_of_DK (Nat.le_refl _) (dk70 (E_of_ES ?_))
 simp only [ic70,ux]
 refine ES_seq_gen fun L hL => ?_
 repeat (simp -implicitDefEqProofs (maxSteps := 99999999) (disch := omega) only [va,vg,vs,vh,Nat.reduceMul,ite_true,ite_false,eq_self,forall_const,implies_true,Nat.reduceAdd,Nat.reduceSub,Nat.reduceLT,Nat.reduceLeDiff,↓reduceIte,reduceCtorEq,Int.reduceEq,Int.reduceLT,Int.reduceLE,Int.reduceGT,Int.reduceGE,Int.reduceAdd,Int.reduceSub,Int.reduceNeg,Int.reduceToNat,Nat.reduceBEq,Nat.reduceEqDiff]; try first | refine ES_unroll (.s .o) (Lp_next fun L3 hL3 => ?_) | (refine hL _ _ ?_; clear hL; refine ES_seq_gen fun L hL => ?_) | (refine hL _ _ ?_; clear hL))
 exact weak_over (.cons .refl) (.same trivial)
theorem flat71_nil (H : AHeap) : D Tryz.prog 71 [.lst 0 [] (some [])] H (.ret (.sc (.bool true))) H := by
 refine D_of_DK (Nat.le_refl _) (dk71 (E_of_ES ?_))
 simp only [ic71,ux]
 refine ES_seq_gen fun L hL => ?_
 repeat (simp -implicitDefEqProofs (maxSteps := 99999999) (disch := omega) only [va,vg,vs,vh,Nat.reduceMul,ite_true,ite_false,eq_self,forall_const,implies_true,Nat.reduceAdd,Nat.reduceSub,Nat.reduceLT,Nat.reduceLeDiff,↓reduceIte,reduceCtorEq,Int.reduceEq,Int.reduceLT,Int.reduceLE,Int.reduceGT,Int.reduceGE,Int.reduceAdd,Int.reduceSub,Int.reduceNeg,Int.reduceToNat,Nat.reduceBEq,Nat.reduceEqDiff]; try first | refine ES_unroll (.s .o) (Lp_next fun L3 hL3 => ?_) | (refine hL _ _ ?_; clear hL; refine ES_seq_gen fun L hL => ?_) | (refine hL _ _ ?_; clear hL))
 exact weak_over (.cons .refl) (.same trivial)
theorem flat72_nil (H : AHeap) : D Tryz.prog 72 [.lst 0 [] (some [])] H (.ret (.sc (.bool true))) H := by
 refine D_of_DK (Nat.le_refl _) (dk72 (E_of_ES ?_))
 simp only [ic72,ux]
 refine ES_seq_gen fun L hL => ?_
 repeat (simp -implicitDefEqProofs (maxSteps := 99999999) (disch := omega) only [va,vg,vs,vh,Nat.reduceMul,ite_true,ite_false,eq_self,forall_const,implies_true,Nat.reduceAdd,Nat.reduceSub,Nat.reduceLT,Nat.reduceLeDiff,↓reduceIte,reduceCtorEq,Int.reduceEq,Int.reduceLT,Int.reduceLE,Int.reduceGT,Int.reduceGE,Int.reduceAdd,Int.reduceSub,Int.reduceNeg,Int.reduceToNat,Nat.reduceBEq,Nat.reduceEqDiff]; try first | refine ES_unroll (.s .o) (Lp_next fun L3 hL3 => ?_) | (refine hL _ _ ?_; clear hL; refine ES_seq_gen fun L hL => ?_) | (refine hL _ _ ?_; clear hL))
 exact weak_over (.cons .refl) (.same trivial)
theorem flat73_nil (H : AHeap) : D Tryz.prog 73 [.lst 0 [] (some [])] H (.ret (.sc (.bool true))) H := by
 refine D_of_DK (Nat.le_refl _) (dk73 (E_of_ES ?_))
 simp only [ic73,ux]
 refine ES_seq_gen fun L hL => ?_
 repeat (simp -implicitDefEqProofs (maxSteps := 99999999) (disch := omega) only [va,vg,vs,vh,Nat.reduceMul,ite_true,ite_false,eq_self,forall_const,implies_true,Nat.reduceAdd,Nat.reduceSub,Nat.reduceLT,Nat.reduceLeDiff,↓reduceIte,reduceCtorEq,Int.reduceEq,Int.reduceLT,Int.reduceLE,Int.reduceGT,Int.reduceGE,Int.reduceAdd,Int.reduceSub,Int.reduceNeg,Int.reduceToNat,Nat.reduceBEq,Nat.reduceEqDiff]; try first | refine ES_unroll (.s .o) (Lp_next fun L3 hL3 => ?_) | (refine hL _ _ ?_; clear hL; refine ES_seq_gen fun L hL => ?_) | (refine hL _ _ ?_; clear hL))
 exact weak_over (.cons .refl) (.same trivial)
theorem flat74_nil (H : AHeap) : D Tryz.prog 74 [.lst 0 [] (some [])] H (.ret (.sc (.bool true))) H := by
 refine D_of_DK (Nat.le_refl _) (dk74 (E_of_ES ?_))
 simp only [ic74,ux]
 refine ES_seq_gen fun L hL => ?_
 repeat (simp -implicitDefEqProofs (maxSteps := 99999999) (disch := omega) only [va,vg,vs,vh,Nat.reduceMul,ite_true,ite_false,eq_self,forall_const,implies_true,Nat.reduceAdd,Nat.reduceSub,Nat.reduceLT,Nat.reduceLeDiff,↓reduceIte,reduceCtorEq,Int.reduceEq,Int.reduceLT,Int.reduceLE,Int.reduceGT,Int.reduceGE,Int.reduceAdd,Int.reduceSub,Int.reduceNeg,Int.reduceToNat,Nat.reduceBEq,Nat.reduceEqDiff]; try first | refine ES_unroll (.s .o) (Lp_next fun L3 hL3 => ?_) | (refine hL _ _ ?_; clear hL; refine ES_seq_gen fun L hL => ?_) | (refine hL _ _ ?_; clear hL))
 exact weak_over (.cons .refl) (.same trivial)
end Go.Proofs.YtljajanjjcdelaaGreat
