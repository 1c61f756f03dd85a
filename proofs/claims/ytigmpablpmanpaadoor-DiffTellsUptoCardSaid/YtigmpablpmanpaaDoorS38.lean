/- The flat functions at nil. -/
import Derived.Test.YtigmpablpmanpaaDoorSA
import Derived.Test.YtigmpablpmanpaaDoorIc5
import Derived.Test.YtigmpablpmanpaaDoorIc6
namespace Go.Proofs.YtigmpablpmanpaaDoor
open Go.RowKit
set_option maxRecDepth 100000
set_option linter.unusedVariables false
set_option linter.unusedSimpArgs false
theorem flat36_nil (H : AHeap) : D Tryd.prog 36 [.lst 0 [] (some [])] H (.ret (.sc (.bool true))) H := by
 refine D_of_DK (Nat.le_refl _) (dk36 (E_of_ES ?_))
 simp only [ic36,ux]
 refine ES_seq_gen fun L hL => ?_
 repeat (simp -implicitDefEqProofs (maxSteps := 99999999) (disch := omega) only [va,vg,vs,vh,Nat.reduceMul,ite_true,ite_false,eq_self,forall_const,implies_true,Nat.reduceAdd,Nat.reduceSub,Nat.reduceLT,Nat.reduceLeDiff,↓reduceIte,reduceCtorEq,Int.reduceEq,Int.reduceLT,Int.reduceLE,Int.reduceGT,Int.reduceGE,Int.reduceAdd,Int.reduceSub,Int.reduceNeg,Int.reduceToNat,Nat.reduceBEq,Nat.reduceEqDiff]; try first | refine ES_unroll (.s .o) (Lp_next fun L3 hL3 => ?_) | (refine hL _ _ ?_; clear hL; refine ES_seq_gen fun L hL => ?_) | (refine hL _ _ ?_; clear hL))
 exact weak_over (.cons .refl) (.same trivial)
theorem flat37_nil (H : AHeap) : D Tryd.prog 37 [.lst 0 [] (some [])] H (.ret (.sc (.bool true))) H := by
 refine D_of_DK (Nat.le_refl _) (dk37 (E_of_ES ?_))
 simp only [ic37,ux]
 refine ES_seq_gen fun L hL => ?_
 repeat (simp -implicitDefEqProofs (maxSteps := 99999999) (disch := omega) only [va,vg,vs,vh,Nat.reduceMul,ite_true,ite_false,eq_self,forall_const,implies_true,Nat.reduceAdd,Nat.reduceSub,Nat.reduceLT,Nat.reduceLeDiff,↓reduceIte,reduceCtorEq,Int.reduceEq,Int.reduceLT,Int.reduceLE,Int.reduceGT,Int.reduceGE,Int.reduceAdd,Int.reduceSub,Int.reduceNeg,Int.reduceToNat,Nat.reduceBEq,Nat.reduceEqDiff]; try first | refine ES_unroll (.s .o) (Lp_next fun L3 hL3 => ?_) | (refine hL _ _ ?_; clear hL; refine ES_seq_gen fun L hL => ?_) | (refine hL _ _ ?_; clear hL))
 exact weak_over (.cons .refl) (.same trivial)
theorem flat38_nil (H : AHeap) : D Tryd.prog 38 [.lst 0 [] (some [])] H (.ret (.sc (.bool true))) H := by
 refine D_of_DK (Nat.le_refl _) (dk38 (E_of_ES ?_))
 simp only [ic38,ux]
 refine ES_seq_gen fun L hL => ?_
 repeat (simp -implicitDefEqProofs (maxSteps := 99999999) (disch := omega) only [va,vg,vs,vh,Nat.reduceMul,ite_true,ite_false,eq_self,forall_const,implies_true,Nat.reduceAdd,Nat.reduceSub,Nat.reduceLT,Nat.reduceLeDiff,↓reduceIte,reduceCtorEq,Int.reduceEq,Int.reduceLT,Int.reduceLE,Int.reduceGT,Int.reduceGE,Int.reduceAdd,Int.reduceSub,Int.reduceNeg,Int.reduceToNat,Nat.reduceBEq,Nat.reduceEqDiff]; try first | refine ES_unroll (.s .o) (Lp_next fun L3 hL3 => ?_) | (refine hL _ _ ?_; clear hL; refine ES_seq_gen fun L hL => ?_) | (refine hL _ _ ?_; clear hL))
 exact weak_over (.cons .refl) (.same trivial)
theorem flat39_nil (H : AHeap) : D Tryd.prog 39 [.lst 0 [] (some [])] H (.ret (.sc (.bool true))) H := by
 refine D_of_DK (Nat.le_refl _) (dk39 (E_of_ES ?_))
 simp only [ic39,ux]
 refine ES_seq_gen fun L hL => ?_
 repeat (simp -implicitDefEqProofs (maxSteps := 99999999) (disch := omega) only [va,vg,vs,vh,Nat.reduceMul,ite_true,ite_false,eq_self,forall_const,implies_true,Nat.reduceAdd,Nat.reduceSub,Nat.reduceLT,Nat.reduceLeDiff,↓reduceIte,reduceCtorEq,Int.reduceEq,Int.reduceLT,Int.reduceLE,Int.reduceGT,Int.reduceGE,Int.reduceAdd,Int.reduceSub,Int.reduceNeg,Int.reduceToNat,Nat.reduceBEq,Nat.reduceEqDiff]; try first | refine ES_unroll (.s .o) (Lp_next fun L3 hL3 => ?_) | (refine hL _ _ ?_; clear hL; refine ES_seq_gen fun L hL => ?_) | (refine hL _ _ ?_; clear hL))
 exact weak_over (.cons .refl) (.same trivial)
theorem flat40_nil (H : AHeap) : D Tryd.prog 40 [.lst 0 [] (some [])] H (.ret (.sc (.bool true))) H := by
 refine D_of_DK (Nat.le_refl _) (dk40 (E_of_ES ?_))
 simp only [ic40,ux]
 refine ES_seq_gen fun L hL => ?_
 repeat (simp -implicitDefEqProofs (maxSteps := 99999999) (disch := omega) only [va,vg,vs,vh,Nat.reduceMul,ite_true,ite_false,eq_self,forall_const,implies_true,Nat.reduceAdd,Nat.reduceSub,Nat.reduceLT,Nat.reduceLeDiff,↓reduceIte,reduceCtorEq,Int.reduceEq,Int.reduceLT,Int.reduceLE,Int.reduceGT,Int.reduceGE,Int.reduceAdd,Int.reduceSub,Int.reduceNeg,Int.reduceToNat,Nat.reduceBEq,Nat.reduceEqDiff]; try first | refine ES_unroll (.s .o) (Lp_next fun L3 hL3 => ?_) | (refine hL _ _ ?_; clear hL; refine ES_seq_gen fun L hL => ?_) | (refine hL _ _ ?_; clear hL))
 exact weak_over (.cons .refl) (.same trivial)
theorem flat41_nil (H : AHeap) : D Tryd.prog 41 [.lst 0 [] (some [])] H (.ret (.sc (.bool true))) H := by
 refine D_of_DK (Nat.le_refl _) (dk41 (E_of_ES ?_))
 simp only [ic41,ux]
 refine ES_seq_gen fun L hL => ?_
 repeat (simp -implicitDefEqProofs (maxSteps := 99999999) (disch := omega) only [va,vg,vs,vh,Nat.reduceMul,ite_true,ite_false,eq_self,forall_const,implies_true,Nat.reduceAdd,Nat.reduceSub,Nat.reduceLT,Nat.reduceLeDiff,↓reduceIte,reduceCtorEq,Int.reduceEq,Int.reduceLT,Int.reduceLE,Int.reduceGT,Int.reduceGE,Int.reduceAdd,Int.reduceSub,Int.reduceNeg,Int.reduceToNat,Nat.reduceBEq,Nat.reduceEqDiff]; try first | refine ES_unroll (.s .o) (Lp_next fun L3 hL3 => ?_) | (refine hL _ _ ?_; clear hL; refine ES_seq_gen fun L hL => ?_) | (refine hL _ _ ?_; clear hL))
 exact weak_over (.cons .refl) (.same trivial)
theorem flat42_nil (H : AHeap) : D Tryd.prog 42 [.lst 0 [] (some [])] H (.ret (.sc (.bool true))) H := by
 refine D_of_DK (Nat.le_refl _) (dk42 (E_of_ES ?_))
 simp only [ic42,ux]
 refine ES_seq_gen fun L hL => ?_
 repeat (simp -implicitDefEqProofs (maxSteps := 99999999) (disch := omega) only [va,vg,vs,vh,Nat.reduceMul,ite_true,ite_false,eq_self,forall_const,implies_true,Nat.reduceAdd,Nat.reduceSub,Nat.reduceLT,Nat.reduceLeDiff,↓reduceIte,reduceCtorEq,Int.reduceEq,Int.reduceLT,Int.reduceLE,Int.reduceGT,Int.reduceGE,Int.reduceAdd,Int.reduceSub,Int.reduceNeg,Int.reduceToNat,Nat.reduceBEq,Nat.reduceEqDiff]; try first | refine ES_unroll (.s .o) (Lp_next fun L3 hL3 => ?_) | (refine hL _ _ ?_; clear hL; refine ES_seq_gen fun L hL => ?_) | (refine hL _ _ ?_; clear hL))
 exact weak_over (.cons .refl) (.same trivial)
theorem flat43_nil (H : AHeap) : D Tryd.prog 43 [.lst 0 [] (some [])] H (.ret (.sc (.bool true))) H := by
 refine D_of_DK (Nat.le_refl _) (dk43 (E_of_ES ?_))
 simp only [ic43,ux]
 refine ES_seq_gen fun L hL => ?_
 repeat (simp -implicitDefEqProofs (maxSteps := 99999999) (disch := omega) only [va,vg,vs,vh,Nat.reduceMul,ite_true,ite_false,eq_self,forall_const,implies_true,Nat.reduceAdd,Nat.reduceSub,Nat.reduceLT,Nat.reduceLeDiff,↓reduceIte,reduceCtorEq,Int.reduceEq,Int.reduceLT,Int.reduceLE,Int.reduceGT,Int.reduceGE,Int.reduceAdd,Int.reduceSub,Int.reduceNeg,Int.reduceToNat,Nat.reduceBEq,Nat.reduceEqDiff]; try first | refine ES_unroll (.s .o) (Lp_next fun L3 hL3 => ?_) | (refine hL _ _ ?_; clear hL; refine ES_seq_gen fun L hL => ?_) | (refine hL _ _ ?_; clear hL))
 exact weak_over (.cons .refl) (.same trivial)
theorem flat44_nil (H : AHeap) : D Tryd.prog 44 [.lst 0 [] (some [])] H (.ret (.sc (.bool true))) H := by
 refine D_of_DK (Nat.le_refl _) (dk44 (E_of_ES ?_))
 simp only [ic44,ux]
 refine ES_seq_gen fun L hL => ?_
 repeat (simp -implicitDefEqProofs (maxSteps := 99999999) (disch := omega) only [va,vg,vs,vh,Nat.reduceMul,ite_true,ite_false,eq_self,forall_const,implies_true,Nat.reduceAdd,Nat.reduceSub,Nat.reduceLT,Nat.reduceLeDiff,↓reduceIte,reduceCtorEq,Int.reduceEq,Int.reduceLT,Int.reduceLE,Int.reduceGT,Int.reduceGE,Int.reduceAdd,Int.reduceSub,Int.reduceNeg,Int.reduceToNat,Nat.reduceBEq,Nat.reduceEqDiff]; try first | refine ES_unroll (.s .o) (Lp_next fun L3 hL3 => ?_) | (refine hL _ _ ?_; clear hL; refine ES_seq_gen fun L hL => ?_) | (refine hL _ _ ?_; clear hL))
 exact weak_over (.cons .refl) (.same trivial)
theorem flat45_nil (H : AHeap) : D Tryd.prog 45 [.lst 0 [] (some [])] H (.ret (.sc (.bool true))) H := by
 refine D_of_DK (Nat.le_refl _) (dk45 (E_of_ES ?_))
 simp only [ic45,ux]
 refine ES_seq_gen fun L hL => ?_
 repeat (simp -implicitDefEqProofs (maxSteps := 99999999) (disch := omega) only [va,vg,vs,vh,Nat.reduceMul,ite_true,ite_false,eq_self,forall_const,implies_true,Nat.reduceAdd,Nat.reduceSub,Nat.reduceLT,Nat.reduceLeDiff,↓reduceIte,reduceCtorEq,Int.reduceEq,Int.reduceLT,Int.reduceLE,Int.reduceGT,Int.reduceGE,Int.reduceAdd,Int.reduceSub,Int.reduceNeg,Int.reduceToNat,Nat.reduceBEq,Nat.reduceEqDiff]; try first | refine ES_unroll (.s .o) (Lp_next fun L3 hL3 => ?_) | (refine hL _ _ ?_; clear hL; refine ES_seq_gen fun L hL => ?_) | (refine hL _ _ ?_; clear hL))
 exact weak_over (.cons .refl) (.same trivial)
theorem flat46_nil (H : AHeap) : D Tryd.prog 46 [.lst 0 [] (some [])] H (.ret (.sc (.bool true))) H := by
 refine D_of_DK (Nat.le_refl _) (dk46 (E_of_ES ?_))
 simp only [ic46,ux]
 refine ES_seq_gen fun L hL => ?_
 repeat (simp -implicitDefEqProofs (maxSteps := 99999999) (disch := omega) only [va,vg,vs,vh,Nat.reduceMul,ite_true,ite_false,eq_self,forall_const,implies_true,Nat.reduceAdd,Nat.reduceSub,Nat.reduceLT,Nat.reduceLeDiff,↓reduceIte,reduceCtorEq,Int.reduceEq,Int.reduceLT,Int.reduceLE,Int.reduceGT,Int.reduceGE,Int.reduceAdd,Int.reduceSub,Int.reduceNeg,Int.reduceToNat,Nat.reduceBEq,Nat.reduceEqDiff]; try first | refine ES_unroll (.s .o) (Lp_next fun L3 hL3 => ?_) | (refine hL _ _ ?_; clear hL; refine ES_seq_gen fun L hL => ?_) | (refine hL _ _ ?_; clear hL))
 exact weak_over (.cons .refl) (.same trivial)
theorem flat47_nil (H : AHeap) : D Tryd.prog 47 [.lst 0 [] (some [])] H (.ret (.sc (.bool true))) H := by
 refine D_of_DK (Nat.le_refl _) (dk47 (E_of_ES ?_))
 simp only [ic47,ux]
 refine ES_seq_gen fun L hL => ?_
 repeat (simp -implicitDefEqProofs (maxSteps := 99999999) (disch := omega) only [va,vg,vs,vh,Nat.reduceMul,ite_true,ite_false,eq_self,forall_const,implies_true,Nat.reduceAdd,Nat.reduceSub,Nat.reduceLT,Nat.reduceLeDiff,↓reduceIte,reduceCtorEq,Int.reduceEq,Int.reduceLT,Int.reduceLE,Int.reduceGT,Int.reduceGE,Int.reduceAdd,Int.reduceSub,Int.reduceNeg,Int.reduceToNat,Nat.reduceBEq,Nat.reduceEqDiff]; try first | refine ES_unroll (.s .o) (Lp_next fun L3 hL3 => ?_) | (refine hL _ _ ?_; clear hL; refine ES_seq_gen fun L hL => ?_) | (refine hL _ _ ?_; clear hL))
 exact weak_over (.cons .refl) (.same trivial)
theorem flat48_nil (H : AHeap) : D Tryd.prog 48 [.lst 0 [] (some [])] H (.ret (.sc (.bool true))) H := by
 refine D_of_DK (Nat.le_refl _) (dk48 (E_of_ES ?_))
 simp only [ic48,ux]
 refine ES_seq_gen fun L hL => ?_
 repeat (simp -implicitDefEqProofs (maxSteps := 99999999) (disch := omega) only [va,vg,vs,vh,Nat.reduceMul,ite_true,ite_false,eq_self,forall_const,implies_true,Nat.reduceAdd,Nat.reduceSub,Nat.reduceLT,Nat.reduceLeDiff,↓reduceIte,reduceCtorEq,Int.reduceEq,Int.reduceLT,Int.reduceLE,Int.reduceGT,Int.reduceGE,Int.reduceAdd,Int.reduceSub,Int.reduceNeg,Int.reduceToNat,Nat.reduceBEq,Nat.reduceEqDiff]; try first | refine ES_unroll (.s .o) (Lp_next fun L3 hL3 => ?_) | (refine hL _ _ ?_; clear hL; refine ES_seq_gen fun L hL => ?_) | (refine hL _ _ ?_; clear hL))
 exact weak_over (.cons .refl) (.same trivial)
theorem flat49_nil (H : AHeap) : D Tryd.prog 49 [.lst 0 [] (some [])] H (.ret (.sc (.bool true))) H := by
 refine D_of_DK (Nat.le_refl _) (dk49 (E_of_ES ?_))
 simp only [ic49,ux]
 refine ES_seq_gen fun L hL => ?_
 repeat (simp -implicitDefEqProofs (maxSteps := 99999999) (disch := omega) only [va,vg,vs,vh,Nat.reduceMul,ite_true,ite_false,eq_self,forall_const,implies_true,Nat.reduceAdd,Nat.reduceSub,Nat.reduceLT,Nat.reduceLeDiff,↓reduceIte,reduceCtorEq,Int.reduceEq,Int.reduceLT,Int.reduceLE,Int.reduceGT,Int.reduceGE,Int.reduceAdd,Int.reduceSub,Int.reduceNeg,Int.reduceToNat,Nat.reduceBEq,Nat.reduceEqDiff]; try first | refine ES_unroll (.s .o) (Lp_next fun L3 hL3 => ?_) | (refine hL _ _ ?_; clear hL; refine ES_seq_gen fun L hL => ?_) | (refine hL _ _ ?_; clear hL))
 exact weak_over (.cons .refl) (.same trivial)
theorem flat50_nil (H : AHeap) : D Tryd.prog 50 [.lst 0 [] (some [])] H (.ret (.sc (.bool true))) H := by
 refine D_of_DK (Nat.le_refl _) (dk50 (E_of_ES ?_))
 simp only [ic50,ux]
 refine ES_seq_gen fun L hL => ?_
 repeat (simp -implicitDefEqProofs (maxSteps := 99999999) (disch := omega) only [va,vg,vs,vh,Nat.reduceMul,ite_true,ite_false,eq_self,forall_const,implies_true,Nat.reduceAdd,Nat.reduceSub,Nat.reduceLT,Nat.reduceLeDiff,↓reduceIte,reduceCtorEq,Int.reduceEq,Int.reduceLT,Int.reduceLE,Int.reduceGT,Int.reduceGE,Int.reduceAdd,Int.reduceSub,Int.reduceNeg,Int.reduceToNat,Nat.reduceBEq,Nat.reduceEqDiff]; try first | refine ES_unroll (.s .o) (Lp_next fun L3 hL3 => ?_) | (refine hL _ _ ?_; clear hL; refine ES_seq_gen fun L hL => ?_) | (refine hL _ _ ?_; clear hL))
 exact weak_over (.cons .refl) (.same trivial)
theorem flat51_nil (H : AHeap) : D Tryd.prog 51 [.lst 0 [] (some [])] H (.ret (.sc (.bool true))) H := by
 refine D_of_DK (Nat.le_refl _) (dk51 (E_of_ES ?_))
 simp only [ic51,ux]
 refine ES_seq_gen fun L hL => ?_
 repeat (simp -implicitDefEqProofs (maxSteps := 99999999) (disch := omega) only [va,vg,vs,vh,Nat.reduceMul,ite_true,ite_false,eq_self,forall_const,implies_true,Nat.reduceAdd,Nat.reduceSub,Nat.reduceLT,Nat.reduceLeDiff,↓reduceIte,reduceCtorEq,Int.reduceEq,Int.reduceLT,Int.reduceLE,Int.reduceGT,Int.reduceGE,Int.reduceAdd,Int.reduceSub,Int.reduceNeg,Int.reduceToNat,Nat.reduceBEq,Nat.reduceEqDiff]; try first | refine ES_unroll (.s .o) (Lp_next fun L3 hL3 => ?_) | (refine hL _ _ ?_; clear hL; refine ES_seq_gen fun L hL => ?_) | (refine hL _ _ ?_; clear hL))
 exact weak_over (.cons .refl) (.same trivial)
theorem flat52_nil (H : AHeap) : D Tryd.prog 52 [.lst 0 [] (some [])] H (.ret (.sc (.bool true))) H := by
 refine D_of_DK (Nat.le_refl _) (dk52 (E_of_ES ?_))
 simp only [ic52,ux]
 refine ES_seq_gen fun L hL => ?_
 repeat (simp -implicitDefEqProofs (maxSteps := 99999999) (disch := omega) only [va,vg,vs,vh,Nat.reduceMul,ite_true,ite_false,eq_self,forall_const,implies_true,Nat.reduceAdd,Nat.reduceSub,Nat.reduceLT,Nat.reduceLeDiff,↓reduceIte,reduceCtorEq,Int.reduceEq,Int.reduceLT,Int.reduceLE,Int.reduceGT,Int.reduceGE,Int.reduceAdd,Int.reduceSub,Int.reduceNeg,Int.reduceToNat,Nat.reduceBEq,Nat.reduceEqDiff]; try first | refine ES_unroll (.s .o) (Lp_next fun L3 hL3 => ?_) | (refine hL _ _ ?_; clear hL; refine ES_seq_gen fun L hL => ?_) | (refine hL _ _ ?_; clear hL))
 exact weak_over (.cons .refl) (.same trivial)
theorem flat53_nil (H : AHeap) : D Tryd.prog 53 [.lst 0 [] (some [])] H (.ret (.sc (.bool true))) H := by
 refine D_of_DK (Nat.le_refl _) (dk53 (E_of_ES ?_))
 simp only [ic53,ux]
 refine ES_seq_gen fun L hL => ?_
 repeat (simp -implicitDefEqProofs (maxSteps := 99999999) (disch := omega) only [va,vg,vs,vh,Nat.reduceMul,ite_true,ite_false,eq_self,forall_const,implies_true,Nat.reduceAdd,Nat.reduceSub,Nat.reduceLT,Nat.reduceLeDiff,↓reduceIte,reduceCtorEq,Int.reduceEq,Int.reduceLT,Int.reduceLE,Int.reduceGT,Int.reduceGE,Int.reduceAdd,Int.reduceSub,Int.reduceNeg,Int.reduceToNat,Nat.reduceBEq,Nat.reduceEqDiff]; try first | refine ES_unroll (.s .o) (Lp_next fun L3 hL3 => ?_) | (refine hL _ _ ?_; clear hL; refine ES_seq_gen fun L hL => ?_) | (refine hL _ _ ?_; clear hL))
 exact weak_over (.cons .refl) (.same trivial)
theorem flat54_nil (H : AHeap) : D Tryd.prog 54 [.lst 0 [] (some [])] H (.ret (.sc (.bool true))) H := by
 refine D_of_DK (Nat.le_refl _) (dk54 (E_of_ES ?_))
 simp only [ic54,ux]
 refine ES_seq_gen fun L hL => ?_
 repeat (simp -implicitDefEqProofs (maxSteps := 99999999) (disch := omega) only [va,vg,vs,vh,Nat.reduceMul,ite_true,ite_false,eq_self,forall_const,implies_true,Nat.reduceAdd,Nat.reduceSub,Nat.reduceLT,Nat.reduceLeDiff,↓reduceIte,reduceCtorEq,Int.reduceEq,Int.reduceLT,Int.reduceLE,Int.reduceGT,Int.reduceGE,Int.reduceAdd,Int.reduceSub,Int.reduceNeg,Int.reduceToNat,Nat.reduceBEq,Nat.reduceEqDiff]; try first | refine ES_unroll (.s .o) (Lp_next fun L3 hL3 => ?_) | (refine hL _ _ ?_; clear hL; refine ES_seq_gen fun L hL => ?_) | (refine hL _ _ ?_; clear hL))
 exact weak_over (.cons .refl) (.same trivial)
theorem flat55_nil (H : AHeap) : D Tryd.prog 55 [.lst 0 [] (some [])] H (.ret (.sc (.bool true))) H := by
 refine D_of_DK (Nat.le_refl _) (dk55 (E_of_ES ?_))
 simp only [ic55,ux]
 refine ES_seq_gen fun L hL => ?_
 repeat (simp -implicitDefEqProofs (maxSteps := 99999999) (disch := omega) only [va,vg,vs,vh,Nat.reduceMul,ite_true,ite_false,eq_self,forall_const,implies_true,Nat.reduceAdd,Nat.reduceSub,Nat.reduceLT,Nat.reduceLeDiff,↓reduceIte,reduceCtorEq,Int.reduceEq,Int.reduceLT,Int.reduceLE,Int.reduceGT,Int.reduceGE,Int.reduceAdd,Int.reduceSub,Int.reduceNeg,Int.reduceToNat,Nat.reduceBEq,Nat.reduceEqDiff]; try first | refine ES_unroll (.s .o) (Lp_next fun L3 hL3 => ?_) | (refine hL _ _ ?_; clear hL; refine ES_seq_gen fun L hL => ?_) | (refine hL _ _ ?_; clear hL))
 exact weak_over (.cons .refl) (.same trivial)
theorem flat56_nil (H : AHeap) : D Tryd.prog 56 [.lst 0 [] (some [])] H (.ret (.sc (.bool true))) H := by
 refine D_of_DK (Nat.le_refl _) (dk56 (E_of_ES ?_))
 simp only [ic56,ux]
 refine ES_seq_gen fun L hL => ?_
 repeat (simp -implicitDefEqProofs (maxSteps := 99999999) (disch := omega) only [va,vg,vs,vh,Nat.reduceMul,ite_true,ite_false,eq_self,forall_const,implies_true,Nat.reduceAdd,Nat.reduceSub,Nat.reduceLT,Nat.reduceLeDiff,↓reduceIte,reduceCtorEq,Int.reduceEq,Int.reduceLT,Int.reduceLE,Int.reduceGT,Int.reduceGE,Int.reduceAdd,Int.reduceSub,Int.reduceNeg,Int.reduceToNat,Nat.reduceBEq,Nat.reduceEqDiff]; try first | refine ES_unroll (.s .o) (Lp_next fun L3 hL3 => ?_) | (refine hL _ _ ?_; clear hL; refine ES_seq_gen fun L hL => ?_) | (refine hL _ _ ?_; clear hL))
 exact weak_over (.cons .refl) (.same trivial)
end Go.Proofs.YtigmpablpmanpaaDoor
