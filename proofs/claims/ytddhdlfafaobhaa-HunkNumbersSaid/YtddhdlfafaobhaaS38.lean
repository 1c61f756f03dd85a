/- The flat functions at nil. -/
import Derived.Test.YtddhdlfafaobhaaSA
import Derived.Test.YtddhdlfafaobhaaIc5
import Derived.Test.YtddhdlfafaobhaaIc6
namespace Go.Proofs.Ytddhdlfafaobhaa
open Go.RowKit
set_option maxRecDepth 100000
set_option linter.unusedVariables false
set_option linter.unusedSimpArgs false

theorem flat71_nil (H : AHeap) : D Try.prog 71 [.lst 0 [] (some [])] H (.ret (.sc (.bool true))) H := by
  refine D_of_DK (Nat.le_refl _) (dk71 (E_of_ES ?_))
  simp only [ic71, ux]
  refine ES_seq_gen fun L hL => ?_
  repeat (simp -implicitDefEqProofs (maxSteps := 99999999) (disch := omega) only [va, vs, vh, Nat.reduceMul, ite_true, ite_false, eq_self, forall_const, implies_true, Nat.reduceAdd, Nat.reduceSub, Nat.reduceLT, Nat.reduceLeDiff, ↓reduceIte, reduceCtorEq, Int.reduceEq, Int.reduceLT, Int.reduceLE, Int.reduceGT, Int.reduceGE, Int.reduceAdd, Int.reduceSub, Int.reduceNeg, Int.reduceToNat, Nat.reduceBEq, Nat.reduceEqDiff]; try first | refine ES_unroll (.s .o) (Lp_next fun L3 hL3 => ?_) | (refine hL _ _ ?_; clear hL; refine ES_seq_gen fun L hL => ?_) | (refine hL _ _ ?_; clear hL))
  exact weak_over (.cons .refl) (.same trivial)
theorem flat72_nil (H : AHeap) : D Try.prog 72 [.lst 0 [] (some [])] H (.ret (.sc (.bool true))) H := by
  refine D_of_DK (Nat.le_refl _) (dk72 (E_of_ES ?_))
  simp only [ic72, ux]
  refine ES_seq_gen fun L hL => ?_
  repeat (simp -implicitDefEqProofs (maxSteps := 99999999) (disch := omega) only [va, vs, vh, Nat.reduceMul, ite_true, ite_false, eq_self, forall_const, implies_true, Nat.reduceAdd, Nat.reduceSub, Nat.reduceLT, Nat.reduceLeDiff, ↓reduceIte, reduceCtorEq, Int.reduceEq, Int.reduceLT, Int.reduceLE, Int.reduceGT, Int.reduceGE, Int.reduceAdd, Int.reduceSub, Int.reduceNeg, Int.reduceToNat, Nat.reduceBEq, Nat.reduceEqDiff]; try first | refine ES_unroll (.s .o) (Lp_next fun L3 hL3 => ?_) | (refine hL _ _ ?_; clear hL; refine ES_seq_gen fun L hL => ?_) | (refine hL _ _ ?_; clear hL))
  exact weak_over (.cons .refl) (.same trivial)
theorem flat73_nil (H : AHeap) : D Try.prog 73 [.lst 0 [] (some [])] H (.ret (.sc (.bool true))) H := by
  refine D_of_DK (Nat.le_refl _) (dk73 (E_of_ES ?_))
  simp only [ic73, ux]
  refine ES_seq_gen fun L hL => ?_
  repeat (simp -implicitDefEqProofs (maxSteps := 99999999) (disch := omega) only [va, vs, vh, Nat.reduceMul, ite_true, ite_false, eq_self, forall_const, implies_true, Nat.reduceAdd, Nat.reduceSub, Nat.reduceLT, Nat.reduceLeDiff, ↓reduceIte, reduceCtorEq, Int.reduceEq, Int.reduceLT, Int.reduceLE, Int.reduceGT, Int.reduceGE, Int.reduceAdd, Int.reduceSub, Int.reduceNeg, Int.reduceToNat, Nat.reduceBEq, Nat.reduceEqDiff]; try first | refine ES_unroll (.s .o) (Lp_next fun L3 hL3 => ?_) | (refine hL _ _ ?_; clear hL; refine ES_seq_gen fun L hL => ?_) | (refine hL _ _ ?_; clear hL))
  exact weak_over (.cons .refl) (.same trivial)
theorem flat74_nil (H : AHeap) : D Try.prog 74 [.lst 0 [] (some [])] H (.ret (.sc (.bool true))) H := by
  refine D_of_DK (Nat.le_refl _) (dk74 (E_of_ES ?_))
  simp only [ic74, ux]
  refine ES_seq_gen fun L hL => ?_
  repeat (simp -implicitDefEqProofs (maxSteps := 99999999) (disch := omega) only [va, vs, vh, Nat.reduceMul, ite_true, ite_false, eq_self, forall_const, implies_true, Nat.reduceAdd, Nat.reduceSub, Nat.reduceLT, Nat.reduceLeDiff, ↓reduceIte, reduceCtorEq, Int.reduceEq, Int.reduceLT, Int.reduceLE, Int.reduceGT, Int.reduceGE, Int.reduceAdd, Int.reduceSub, Int.reduceNeg, Int.reduceToNat, Nat.reduceBEq, Nat.reduceEqDiff]; try first | refine ES_unroll (.s .o) (Lp_next fun L3 hL3 => ?_) | (refine hL _ _ ?_; clear hL; refine ES_seq_gen fun L hL => ?_) | (refine hL _ _ ?_; clear hL))
  exact weak_over (.cons .refl) (.same trivial)
theorem flat75_nil (H : AHeap) : D Try.prog 75 [.lst 0 [] (some [])] H (.ret (.sc (.bool true))) H := by
  refine D_of_DK (Nat.le_refl _) (dk75 (E_of_ES ?_))
  simp only [ic75, ux]
  refine ES_seq_gen fun L hL => ?_
  repeat (simp -implicitDefEqProofs (maxSteps := 99999999) (disch := omega) only [va, vs, vh, Nat.reduceMul, ite_true, ite_false, eq_self, forall_const, implies_true, Nat.reduceAdd, Nat.reduceSub, Nat.reduceLT, Nat.reduceLeDiff, ↓reduceIte, reduceCtorEq, Int.reduceEq, Int.reduceLT, Int.reduceLE, Int.reduceGT, Int.reduceGE, Int.reduceAdd, Int.reduceSub, Int.reduceNeg, Int.reduceToNat, Nat.reduceBEq, Nat.reduceEqDiff]; try first | refine ES_unroll (.s .o) (Lp_next fun L3 hL3 => ?_) | (refine hL _ _ ?_; clear hL; refine ES_seq_gen fun L hL => ?_) | (refine hL _ _ ?_; clear hL))
  exact weak_over (.cons .refl) (.same trivial)
theorem flat76_nil (H : AHeap) : D Try.prog 76 [.lst 0 [] (some [])] H (.ret (.sc (.bool true))) H := by
  refine D_of_DK (Nat.le_refl _) (dk76 (E_of_ES ?_))
  simp only [ic76, ux]
  refine ES_seq_gen fun L hL => ?_
  repeat (simp -implicitDefEqProofs (maxSteps := 99999999) (disch := omega) only [va, vs, vh, Nat.reduceMul, ite_true, ite_false, eq_self, forall_const, implies_true, Nat.reduceAdd, Nat.reduceSub, Nat.reduceLT, Nat.reduceLeDiff, ↓reduceIte, reduceCtorEq, Int.reduceEq, Int.reduceLT, Int.reduceLE, Int.reduceGT, Int.reduceGE, Int.reduceAdd, Int.reduceSub, Int.reduceNeg, Int.reduceToNat, Nat.reduceBEq, Nat.reduceEqDiff]; try first | refine ES_unroll (.s .o) (Lp_next fun L3 hL3 => ?_) | (refine hL _ _ ?_; clear hL; refine ES_seq_gen fun L hL => ?_) | (refine hL _ _ ?_; clear hL))
  exact weak_over (.cons .refl) (.same trivial)
theorem flat77_nil (H : AHeap) : D Try.prog 77 [.lst 0 [] (some [])] H (.ret (.sc (.bool true))) H := by
  refine D_of_DK (Nat.le_refl _) (dk77 (E_of_ES ?_))
  simp only [ic77, ux]
  refine ES_seq_gen fun L hL => ?_
  repeat (simp -implicitDefEqProofs (maxSteps := 99999999) (disch := omega) only [va, vs, vh, Nat.reduceMul, ite_true, ite_false, eq_self, forall_const, implies_true, Nat.reduceAdd, Nat.reduceSub, Nat.reduceLT, Nat.reduceLeDiff, ↓reduceIte, reduceCtorEq, Int.reduceEq, Int.reduceLT, Int.reduceLE, Int.reduceGT, Int.reduceGE, Int.reduceAdd, Int.reduceSub, Int.reduceNeg, Int.reduceToNat, Nat.reduceBEq, Nat.reduceEqDiff]; try first | refine ES_unroll (.s .o) (Lp_next fun L3 hL3 => ?_) | (refine hL _ _ ?_; clear hL; refine ES_seq_gen fun L hL => ?_) | (refine hL _ _ ?_; clear hL))
  exact weak_over (.cons .refl) (.same trivial)
theorem flat78_nil (H : AHeap) : D Try.prog 78 [.lst 0 [] (some [])] H (.ret (.sc (.bool true))) H := by
  refine D_of_DK (Nat.le_refl _) (dk78 (E_of_ES ?_))
  simp only [ic78, ux]
  refine ES_seq_gen fun L hL => ?_
  repeat (simp -implicitDefEqProofs (maxSteps := 99999999) (disch := omega) only [va, vs, vh, Nat.reduceMul, ite_true, ite_false, eq_self, forall_const, implies_true, Nat.reduceAdd, Nat.reduceSub, Nat.reduceLT, Nat.reduceLeDiff, ↓reduceIte, reduceCtorEq, Int.reduceEq, Int.reduceLT, Int.reduceLE, Int.reduceGT, Int.reduceGE, Int.reduceAdd, Int.reduceSub, Int.reduceNeg, Int.reduceToNat, Nat.reduceBEq, Nat.reduceEqDiff]; try first | refine ES_unroll (.s .o) (Lp_next fun L3 hL3 => ?_) | (refine hL _ _ ?_; clear hL; refine ES_seq_gen fun L hL => ?_) | (refine hL _ _ ?_; clear hL))
  exact weak_over (.cons .refl) (.same trivial)
theorem flat79_nil (H : AHeap) : D Try.prog 79 [.lst 0 [] (some [])] H (.ret (.sc (.bool true))) H := by
  refine D_of_DK (Nat.le_refl _) (dk79 (E_of_ES ?_))
  simp only [ic79, ux]
  refine ES_seq_gen fun L hL => ?_
  repeat (simp -implicitDefEqProofs (maxSteps := 99999999) (disch := omega) only [va, vs, vh, Nat.reduceMul, ite_true, ite_false, eq_self, forall_const, implies_true, Nat.reduceAdd, Nat.reduceSub, Nat.reduceLT, Nat.reduceLeDiff, ↓reduceIte, reduceCtorEq, Int.reduceEq, Int.reduceLT, Int.reduceLE, Int.reduceGT, Int.reduceGE, Int.reduceAdd, Int.reduceSub, Int.reduceNeg, Int.reduceToNat, Nat.reduceBEq, Nat.reduceEqDiff]; try first | refine ES_unroll (.s .o) (Lp_next fun L3 hL3 => ?_) | (refine hL _ _ ?_; clear hL; refine ES_seq_gen fun L hL => ?_) | (refine hL _ _ ?_; clear hL))
  exact weak_over (.cons .refl) (.same trivial)
theorem flat80_nil (H : AHeap) : D Try.prog 80 [.lst 0 [] (some [])] H (.ret (.sc (.bool true))) H := by
  refine D_of_DK (Nat.le_refl _) (dk80 (E_of_ES ?_))
  simp only [ic80, ux]
  refine ES_seq_gen fun L hL => ?_
  repeat (simp -implicitDefEqProofs (maxSteps := 99999999) (disch := omega) only [va, vs, vh, Nat.reduceMul, ite_true, ite_false, eq_self, forall_const, implies_true, Nat.reduceAdd, Nat.reduceSub, Nat.reduceLT, Nat.reduceLeDiff, ↓reduceIte, reduceCtorEq, Int.reduceEq, Int.reduceLT, Int.reduceLE, Int.reduceGT, Int.reduceGE, Int.reduceAdd, Int.reduceSub, Int.reduceNeg, Int.reduceToNat, Nat.reduceBEq, Nat.reduceEqDiff]; try first | refine ES_unroll (.s .o) (Lp_next fun L3 hL3 => ?_) | (refine hL _ _ ?_; clear hL; refine ES_seq_gen fun L hL => ?_) | (refine hL _ _ ?_; clear hL))
  exact weak_over (.cons .refl) (.same trivial)
theorem flat81_nil (H : AHeap) : D Try.prog 81 [.lst 0 [] (some [])] H (.ret (.sc (.bool true))) H := by
  refine D_of_DK (Nat.le_refl _) (dk81 (E_of_ES ?_))
  simp only [ic81, ux]
  refine ES_seq_gen fun L hL => ?_
  repeat (simp -implicitDefEqProofs (maxSteps := 99999999) (disch := omega) only [va, vs, vh, Nat.reduceMul, ite_true, ite_false, eq_self, forall_const, implies_true, Nat.reduceAdd, Nat.reduceSub, Nat.reduceLT, Nat.reduceLeDiff, ↓reduceIte, reduceCtorEq, Int.reduceEq, Int.reduceLT, Int.reduceLE, Int.reduceGT, Int.reduceGE, Int.reduceAdd, Int.reduceSub, Int.reduceNeg, Int.reduceToNat, Nat.reduceBEq, Nat.reduceEqDiff]; try first | refine ES_unroll (.s .o) (Lp_next fun L3 hL3 => ?_) | (refine hL _ _ ?_; clear hL; refine ES_seq_gen fun L hL => ?_) | (refine hL _ _ ?_; clear hL))
  exact weak_over (.cons .refl) (.same trivial)
theorem flat82_nil (H : AHeap) : D Try.prog 82 [.lst 0 [] (some [])] H (.ret (.sc (.bool true))) H := by
  refine D_of_DK (Nat.le_refl _) (dk82 (E_of_ES ?_))
  simp only [ic82, ux]
  refine ES_seq_gen fun L hL => ?_
  repeat (simp -implicitDefEqProofs (maxSteps := 99999999) (disch := omega) only [va, vs, vh, Nat.reduceMul, ite_true, ite_false, eq_self, forall_const, implies_true, Nat.reduceAdd, Nat.reduceSub, Nat.reduceLT, Nat.reduceLeDiff, ↓reduceIte, reduceCtorEq, Int.reduceEq, Int.reduceLT, Int.reduceLE, Int.reduceGT, Int.reduceGE, Int.reduceAdd, Int.reduceSub, Int.reduceNeg, Int.reduceToNat, Nat.reduceBEq, Nat.reduceEqDiff]; try first | refine ES_unroll (.s .o) (Lp_next fun L3 hL3 => ?_) | (refine hL _ _ ?_; clear hL; refine ES_seq_gen fun L hL => ?_) | (refine hL _ _ ?_; clear hL))
  exact weak_over (.cons .refl) (.same trivial)
theorem flat83_nil (H : AHeap) : D Try.prog 83 [.lst 0 [] (some [])] H (.ret (.sc (.bool true))) H := by
  refine D_of_DK (Nat.le_refl _) (dk83 (E_of_ES ?_))
  simp only [ic83, ux]
  refine ES_seq_gen fun L hL => ?_
  repeat (simp -implicitDefEqProofs (maxSteps := 99999999) (disch := omega) only [va, vs, vh, Nat.reduceMul, ite_true, ite_false, eq_self, forall_const, implies_true, Nat.reduceAdd, Nat.reduceSub, Nat.reduceLT, Nat.reduceLeDiff, ↓reduceIte, reduceCtorEq, Int.reduceEq, Int.reduceLT, Int.reduceLE, Int.reduceGT, Int.reduceGE, Int.reduceAdd, Int.reduceSub, Int.reduceNeg, Int.reduceToNat, Nat.reduceBEq, Nat.reduceEqDiff]; try first | refine ES_unroll (.s .o) (Lp_next fun L3 hL3 => ?_) | (refine hL _ _ ?_; clear hL; refine ES_seq_gen fun L hL => ?_) | (refine hL _ _ ?_; clear hL))
  exact weak_over (.cons .refl) (.same trivial)
theorem flat84_nil (H : AHeap) : D Try.prog 84 [.lst 0 [] (some [])] H (.ret (.sc (.bool true))) H := by
  refine D_of_DK (Nat.le_refl _) (dk84 (E_of_ES ?_))
  simp only [ic84, ux]
  refine ES_seq_gen fun L hL => ?_
  repeat (simp -implicitDefEqProofs (maxSteps := 99999999) (disch := omega) only [va, vs, vh, Nat.reduceMul, ite_true, ite_false, eq_self, forall_const, implies_true, Nat.reduceAdd, Nat.reduceSub, Nat.reduceLT, Nat.reduceLeDiff, ↓reduceIte, reduceCtorEq, Int.reduceEq, Int.reduceLT, Int.reduceLE, Int.reduceGT, Int.reduceGE, Int.reduceAdd, Int.reduceSub, Int.reduceNeg, Int.reduceToNat, Nat.reduceBEq, Nat.reduceEqDiff]; try first | refine ES_unroll (.s .o) (Lp_next fun L3 hL3 => ?_) | (refine hL _ _ ?_; clear hL; refine ES_seq_gen fun L hL => ?_) | (refine hL _ _ ?_; clear hL))
  exact weak_over (.cons .refl) (.same trivial)
theorem flat85_nil (H : AHeap) : D Try.prog 85 [.lst 0 [] (some [])] H (.ret (.sc (.bool true))) H := by
  refine D_of_DK (Nat.le_refl _) (dk85 (E_of_ES ?_))
  simp only [ic85, ux]
  refine ES_seq_gen fun L hL => ?_
  repeat (simp -implicitDefEqProofs (maxSteps := 99999999) (disch := omega) only [va, vs, vh, Nat.reduceMul, ite_true, ite_false, eq_self, forall_const, implies_true, Nat.reduceAdd, Nat.reduceSub, Nat.reduceLT, Nat.reduceLeDiff, ↓reduceIte, reduceCtorEq, Int.reduceEq, Int.reduceLT, Int.reduceLE, Int.reduceGT, Int.reduceGE, Int.reduceAdd, Int.reduceSub, Int.reduceNeg, Int.reduceToNat, Nat.reduceBEq, Nat.reduceEqDiff]; try first | refine ES_unroll (.s .o) (Lp_next fun L3 hL3 => ?_) | (refine hL _ _ ?_; clear hL; refine ES_seq_gen fun L hL => ?_) | (refine hL _ _ ?_; clear hL))
  exact weak_over (.cons .refl) (.same trivial)
theorem flat86_nil (H : AHeap) : D Try.prog 86 [.lst 0 [] (some [])] H (.ret (.sc (.bool true))) H := by
  refine D_of_DK (Nat.le_refl _) (dk86 (E_of_ES ?_))
  simp only [ic86, ux]
  refine ES_seq_gen fun L hL => ?_
  repeat (simp -implicitDefEqProofs (maxSteps := 99999999) (disch := omega) only [va, vs, vh, Nat.reduceMul, ite_true, ite_false, eq_self, forall_const, implies_true, Nat.reduceAdd, Nat.reduceSub, Nat.reduceLT, Nat.reduceLeDiff, ↓reduceIte, reduceCtorEq, Int.reduceEq, Int.reduceLT, Int.reduceLE, Int.reduceGT, Int.reduceGE, Int.reduceAdd, Int.reduceSub, Int.reduceNeg, Int.reduceToNat, Nat.reduceBEq, Nat.reduceEqDiff]; try first | refine ES_unroll (.s .o) (Lp_next fun L3 hL3 => ?_) | (refine hL _ _ ?_; clear hL; refine ES_seq_gen fun L hL => ?_) | (refine hL _ _ ?_; clear hL))
  exact weak_over (.cons .refl) (.same trivial)
theorem flat87_nil (H : AHeap) : D Try.prog 87 [.lst 0 [] (some [])] H (.ret (.sc (.bool true))) H := by
  refine D_of_DK (Nat.le_refl _) (dk87 (E_of_ES ?_))
  simp only [ic87, ux]
  refine ES_seq_gen fun L hL => ?_
  repeat (simp -implicitDefEqProofs (maxSteps := 99999999) (disch := omega) only [va, vs, vh, Nat.reduceMul, ite_true, ite_false, eq_self, forall_const, implies_true, Nat.reduceAdd, Nat.reduceSub, Nat.reduceLT, Nat.reduceLeDiff, ↓reduceIte, reduceCtorEq, Int.reduceEq, Int.reduceLT, Int.reduceLE, Int.reduceGT, Int.reduceGE, Int.reduceAdd, Int.reduceSub, Int.reduceNeg, Int.reduceToNat, Nat.reduceBEq, Nat.reduceEqDiff]; try first | refine ES_unroll (.s .o) (Lp_next fun L3 hL3 => ?_) | (refine hL _ _ ?_; clear hL; refine ES_seq_gen fun L hL => ?_) | (refine hL _ _ ?_; clear hL))
  exact weak_over (.cons .refl) (.same trivial)
theorem flat88_nil (H : AHeap) : D Try.prog 88 [.lst 0 [] (some [])] H (.ret (.sc (.bool true))) H := by
  refine D_of_DK (Nat.le_refl _) (dk88 (E_of_ES ?_))
  simp only [ic88, ux]
  refine ES_seq_gen fun L hL => ?_
  repeat (simp -implicitDefEqProofs (maxSteps := 99999999) (disch := omega) only [va, vs, vh, Nat.reduceMul, ite_true, ite_false, eq_self, forall_const, implies_true, Nat.reduceAdd, Nat.reduceSub, Nat.reduceLT, Nat.reduceLeDiff, ↓reduceIte, reduceCtorEq, Int.reduceEq, Int.reduceLT, Int.reduceLE, Int.reduceGT, Int.reduceGE, Int.reduceAdd, Int.reduceSub, Int.reduceNeg, Int.reduceToNat, Nat.reduceBEq, Nat.reduceEqDiff]; try first | refine ES_unroll (.s .o) (Lp_next fun L3 hL3 => ?_) | (refine hL _ _ ?_; clear hL; refine ES_seq_gen fun L hL => ?_) | (refine hL _ _ ?_; clear hL))
  exact weak_over (.cons .refl) (.same trivial)
theorem flat89_nil (H : AHeap) : D Try.prog 89 [.lst 0 [] (some [])] H (.ret (.sc (.bool true))) H := by
  refine D_of_DK (Nat.le_refl _) (dk89 (E_of_ES ?_))
  simp only [ic89, ux]
  refine ES_seq_gen fun L hL => ?_
  repeat (simp -implicitDefEqProofs (maxSteps := 99999999) (disch := omega) only [va, vs, vh, Nat.reduceMul, ite_true, ite_false, eq_self, forall_const, implies_true, Nat.reduceAdd, Nat.reduceSub, Nat.reduceLT, Nat.reduceLeDiff, ↓reduceIte, reduceCtorEq, Int.reduceEq, Int.reduceLT, Int.reduceLE, Int.reduceGT, Int.reduceGE, Int.reduceAdd, Int.reduceSub, Int.reduceNeg, Int.reduceToNat, Nat.reduceBEq, Nat.reduceEqDiff]; try first | refine ES_unroll (.s .o) (Lp_next fun L3 hL3 => ?_) | (refine hL _ _ ?_; clear hL; refine ES_seq_gen fun L hL => ?_) | (refine hL _ _ ?_; clear hL))
  exact weak_over (.cons .refl) (.same trivial)
theorem flat90_nil (H : AHeap) : D Try.prog 90 [.lst 0 [] (some [])] H (.ret (.sc (.bool true))) H := by
  refine D_of_DK (Nat.le_refl _) (dk90 (E_of_ES ?_))
  simp only [ic90, ux]
  refine ES_seq_gen fun L hL => ?_
  repeat (simp -implicitDefEqProofs (maxSteps := 99999999) (disch := omega) only [va, vs, vh, Nat.reduceMul, ite_true, ite_false, eq_self, forall_const, implies_true, Nat.reduceAdd, Nat.reduceSub, Nat.reduceLT, Nat.reduceLeDiff, ↓reduceIte, reduceCtorEq, Int.reduceEq, Int.reduceLT, Int.reduceLE, Int.reduceGT, Int.reduceGE, Int.reduceAdd, Int.reduceSub, Int.reduceNeg, Int.reduceToNat, Nat.reduceBEq, Nat.reduceEqDiff]; try first | refine ES_unroll (.s .o) (Lp_next fun L3 hL3 => ?_) | (refine hL _ _ ?_; clear hL; refine ES_seq_gen fun L hL => ?_) | (refine hL _ _ ?_; clear hL))
  exact weak_over (.cons .refl) (.same trivial)
theorem flat91_nil (H : AHeap) : D Try.prog 91 [.lst 0 [] (some [])] H (.ret (.sc (.bool true))) H := by
  refine D_of_DK (Nat.le_refl _) (dk91 (E_of_ES ?_))
  simp only [ic91, ux]
  refine ES_seq_gen fun L hL => ?_
  repeat (simp -implicitDefEqProofs (maxSteps := 99999999) (disch := omega) only [va, vs, vh, Nat.reduceMul, ite_true, ite_false, eq_self, forall_const, implies_true, Nat.reduceAdd, Nat.reduceSub, Nat.reduceLT, Nat.reduceLeDiff, ↓reduceIte, reduceCtorEq, Int.reduceEq, Int.reduceLT, Int.reduceLE, Int.reduceGT, Int.reduceGE, Int.reduceAdd, Int.reduceSub, Int.reduceNeg, Int.reduceToNat, Nat.reduceBEq, Nat.reduceEqDiff]; try first | refine ES_unroll (.s .o) (Lp_next fun L3 hL3 => ?_) | (refine hL _ _ ?_; clear hL; refine ES_seq_gen fun L hL => ?_) | (refine hL _ _ ?_; clear hL))
  exact weak_over (.cons .refl) (.same trivial)
end Go.Proofs.Ytddhdlfafaobhaa
