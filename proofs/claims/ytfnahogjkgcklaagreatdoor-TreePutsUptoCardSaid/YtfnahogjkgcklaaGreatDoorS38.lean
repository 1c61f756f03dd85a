import Derived.Test.YtfnahogjkgcklaaGreatDoorSA
import Derived.Test.YtfnahogjkgcklaaGreatDoorIc5
import Derived.Test.YtfnahogjkgcklaaGreatDoorIc6
namespace Go.Proofs.YtfnahogjkgcklaaGreatDoor
open Go.RowKit
set_option maxRecDepth 100000
set_option linter.unusedVariables false
set_option linter.unusedSimpArgs false
theorem flat45_nil (H : AHeap) : D Tryz.prog 45 [.lst 0 [] (some [])] H (.ret (.sc (.bool true))) H:=by
 refine D_of_DK (Nat.le_refl _) (dk45 (E_of_ES ?_))
 simp only[ic45,ux]
 refine ES_seq_gen fun L hL=>?_
 repeat (simp -implicitDefEqProofs (maxSteps:=99999999) (disch:=omega) only[va,vg,vs,vh,vk,simprocAttr];try first | refine ES_unroll (.s .o) (Lp_next fun L3 hL3=>?_) | (refine hL _ _ ?_;clear hL;refine ES_seq_gen fun L hL=>?_) | (refine hL _ _ ?_;clear hL))
 exact weak_over (.cons .refl) (.same trivial)
theorem flat46_nil (H : AHeap) : D Tryz.prog 46 [.lst 0 [] (some [])] H (.ret (.sc (.bool true))) H:=by
 refine D_of_DK (Nat.le_refl _) (dk46 (E_of_ES ?_))
 simp only[ic46,ux]
 refine ES_seq_gen fun L hL=>?_
 repeat (simp -implicitDefEqProofs (maxSteps:=99999999) (disch:=omega) only[va,vg,vs,vh,vk,simprocAttr];try first | refine ES_unroll (.s .o) (Lp_next fun L3 hL3=>?_) | (refine hL _ _ ?_;clear hL;refine ES_seq_gen fun L hL=>?_) | (refine hL _ _ ?_;clear hL))
 exact weak_over (.cons .refl) (.same trivial)
theorem flat47_nil (H : AHeap) : D Tryz.prog 47 [.lst 0 [] (some [])] H (.ret (.sc (.bool true))) H:=by
 refine D_of_DK (Nat.le_refl _) (dk47 (E_of_ES ?_))
 simp only[ic47,ux]
 refine ES_seq_gen fun L hL=>?_
 repeat (simp -implicitDefEqProofs (maxSteps:=99999999) (disch:=omega) only[va,vg,vs,vh,vk,simprocAttr];try first | refine ES_unroll (.s .o) (Lp_next fun L3 hL3=>?_) | (refine hL _ _ ?_;clear hL;refine ES_seq_gen fun L hL=>?_) | (refine hL _ _ ?_;clear hL))
 exact weak_over (.cons .refl) (.same trivial)
theorem flat48_nil (H : AHeap) : D Tryz.prog 48 [.lst 0 [] (some [])] H (.ret (.sc (.bool true))) H:=by
 refine D_of_DK (Nat.le_refl _) (dk48 (E_of_ES ?_))
 simp only[ic48,ux]
 refine ES_seq_gen fun L hL=>?_
 repeat (simp -implicitDefEqProofs (maxSteps:=99999999) (disch:=omega) only[va,vg,vs,vh,vk,simprocAttr];try first | refine ES_unroll (.s .o) (Lp_next fun L3 hL3=>?_) | (refine hL _ _ ?_;clear hL;refine ES_seq_gen fun L hL=>?_) | (refine hL _ _ ?_;clear hL))
 exact weak_over (.cons .refl) (.same trivial)
theorem flat49_nil (H : AHeap) : D Tryz.prog 49 [.lst 0 [] (some [])] H (.ret (.sc (.bool true))) H:=by
 refine D_of_DK (Nat.le_refl _) (dk49 (E_of_ES ?_))
 simp only[ic49,ux]
 refine ES_seq_gen fun L hL=>?_
 repeat (simp -implicitDefEqProofs (maxSteps:=99999999) (disch:=omega) only[va,vg,vs,vh,vk,simprocAttr];try first | refine ES_unroll (.s .o) (Lp_next fun L3 hL3=>?_) | (refine hL _ _ ?_;clear hL;refine ES_seq_gen fun L hL=>?_) | (refine hL _ _ ?_;clear hL))
 exact weak_over (.cons .refl) (.same trivial)
theorem flat50_nil (H : AHeap) : D Tryz.prog 50 [.lst 0 [] (some [])] H (.ret (.sc (.bool true))) H:=by
 refine D_of_DK (Nat.le_refl _) (dk50 (E_of_ES ?_))
 simp only[ic50,ux]
 refine ES_seq_gen fun L hL=>?_
 repeat (simp -implicitDefEqProofs (maxSteps:=99999999) (disch:=omega) only[va,vg,vs,vh,vk,simprocAttr];try first | refine ES_unroll (.s .o) (Lp_next fun L3 hL3=>?_) | (refine hL _ _ ?_;clear hL;refine ES_seq_gen fun L hL=>?_) | (refine hL _ _ ?_;clear hL))
 exact weak_over (.cons .refl) (.same trivial)
theorem flat51_nil (H : AHeap) : D Tryz.prog 51 [.lst 0 [] (some [])] H (.ret (.sc (.bool true))) H:=by
 refine D_of_DK (Nat.le_refl _) (dk51 (E_of_ES ?_))
 simp only[ic51,ux]
 refine ES_seq_gen fun L hL=>?_
 repeat (simp -implicitDefEqProofs (maxSteps:=99999999) (disch:=omega) only[va,vg,vs,vh,vk,simprocAttr];try first | refine ES_unroll (.s .o) (Lp_next fun L3 hL3=>?_) | (refine hL _ _ ?_;clear hL;refine ES_seq_gen fun L hL=>?_) | (refine hL _ _ ?_;clear hL))
 exact weak_over (.cons .refl) (.same trivial)
theorem flat52_nil (H : AHeap) : D Tryz.prog 52 [.lst 0 [] (some [])] H (.ret (.sc (.bool true))) H:=by
 refine D_of_DK (Nat.le_refl _) (dk52 (E_of_ES ?_))
 simp only[ic52,ux]
 refine ES_seq_gen fun L hL=>?_
 repeat (simp -implicitDefEqProofs (maxSteps:=99999999) (disch:=omega) only[va,vg,vs,vh,vk,simprocAttr];try first | refine ES_unroll (.s .o) (Lp_next fun L3 hL3=>?_) | (refine hL _ _ ?_;clear hL;refine ES_seq_gen fun L hL=>?_) | (refine hL _ _ ?_;clear hL))
 exact weak_over (.cons .refl) (.same trivial)
theorem flat53_nil (H : AHeap) : D Tryz.prog 53 [.lst 0 [] (some [])] H (.ret (.sc (.bool true))) H:=by
 refine D_of_DK (Nat.le_refl _) (dk53 (E_of_ES ?_))
 simp only[ic53,ux]
 refine ES_seq_gen fun L hL=>?_
 repeat (simp -implicitDefEqProofs (maxSteps:=99999999) (disch:=omega) only[va,vg,vs,vh,vk,simprocAttr];try first | refine ES_unroll (.s .o) (Lp_next fun L3 hL3=>?_) | (refine hL _ _ ?_;clear hL;refine ES_seq_gen fun L hL=>?_) | (refine hL _ _ ?_;clear hL))
 exact weak_over (.cons .refl) (.same trivial)
theorem flat54_nil (H : AHeap) : D Tryz.prog 54 [.lst 0 [] (some [])] H (.ret (.sc (.bool true))) H:=by
 refine D_of_DK (Nat.le_refl _) (dk54 (E_of_ES ?_))
 simp only[ic54,ux]
 refine ES_seq_gen fun L hL=>?_
 repeat (simp -implicitDefEqProofs (maxSteps:=99999999) (disch:=omega) only[va,vg,vs,vh,vk,simprocAttr];try first | refine ES_unroll (.s .o) (Lp_next fun L3 hL3=>?_) | (refine hL _ _ ?_;clear hL;refine ES_seq_gen fun L hL=>?_) | (refine hL _ _ ?_;clear hL))
 exact weak_over (.cons .refl) (.same trivial)
theorem flat55_nil (H : AHeap) : D Tryz.prog 55 [.lst 0 [] (some [])] H (.ret (.sc (.bool true))) H:=by
 refine D_of_DK (Nat.le_refl _) (dk55 (E_of_ES ?_))
 simp only[ic55,ux]
 refine ES_seq_gen fun L hL=>?_
 repeat (simp -implicitDefEqProofs (maxSteps:=99999999) (disch:=omega) only[va,vg,vs,vh,vk,simprocAttr];try first | refine ES_unroll (.s .o) (Lp_next fun L3 hL3=>?_) | (refine hL _ _ ?_;clear hL;refine ES_seq_gen fun L hL=>?_) | (refine hL _ _ ?_;clear hL))
 exact weak_over (.cons .refl) (.same trivial)
theorem flat56_nil (H : AHeap) : D Tryz.prog 56 [.lst 0 [] (some [])] H (.ret (.sc (.bool true))) H:=by
 refine D_of_DK (Nat.le_refl _) (dk56 (E_of_ES ?_))
 simp only[ic56,ux]
 refine ES_seq_gen fun L hL=>?_
 repeat (simp -implicitDefEqProofs (maxSteps:=99999999) (disch:=omega) only[va,vg,vs,vh,vk,simprocAttr];try first | refine ES_unroll (.s .o) (Lp_next fun L3 hL3=>?_) | (refine hL _ _ ?_;clear hL;refine ES_seq_gen fun L hL=>?_) | (refine hL _ _ ?_;clear hL))
 exact weak_over (.cons .refl) (.same trivial)
theorem flat57_nil (H : AHeap) : D Tryz.prog 57 [.lst 0 [] (some [])] H (.ret (.sc (.bool true))) H:=by
 refine D_of_DK (Nat.le_refl _) (dk57 (E_of_ES ?_))
 simp only[ic57,ux]
 refine ES_seq_gen fun L hL=>?_
 repeat (simp -implicitDefEqProofs (maxSteps:=99999999) (disch:=omega) only[va,vg,vs,vh,vk,simprocAttr];try first | refine ES_unroll (.s .o) (Lp_next fun L3 hL3=>?_) | (refine hL _ _ ?_;clear hL;refine ES_seq_gen fun L hL=>?_) | (refine hL _ _ ?_;clear hL))
 exact weak_over (.cons .refl) (.same trivial)
theorem flat58_nil (H : AHeap) : D Tryz.prog 58 [.lst 0 [] (some [])] H (.ret (.sc (.bool true))) H:=by
 refine D_of_DK (Nat.le_refl _) (dk58 (E_of_ES ?_))
 simp only[ic58,ux]
 refine ES_seq_gen fun L hL=>?_
 repeat (simp -implicitDefEqProofs (maxSteps:=99999999) (disch:=omega) only[va,vg,vs,vh,vk,simprocAttr];try first | refine ES_unroll (.s .o) (Lp_next fun L3 hL3=>?_) | (refine hL _ _ ?_;clear hL;refine ES_seq_gen fun L hL=>?_) | (refine hL _ _ ?_;clear hL))
 exact weak_over (.cons .refl) (.same trivial)
theorem flat59_nil (H : AHeap) : D Tryz.prog 59 [.lst 0 [] (some [])] H (.ret (.sc (.bool true))) H:=by
 refine D_of_DK (Nat.le_refl _) (dk59 (E_of_ES ?_))
 simp only[ic59,ux]
 refine ES_seq_gen fun L hL=>?_
 repeat (simp -implicitDefEqProofs (maxSteps:=99999999) (disch:=omega) only[va,vg,vs,vh,vk,simprocAttr];try first | refine ES_unroll (.s .o) (Lp_next fun L3 hL3=>?_) | (refine hL _ _ ?_;clear hL;refine ES_seq_gen fun L hL=>?_) | (refine hL _ _ ?_;clear hL))
 exact weak_over (.cons .refl) (.same trivial)
theorem flat60_nil (H : AHeap) : D Tryz.prog 60 [.lst 0 [] (some [])] H (.ret (.sc (.bool true))) H:=by
 refine D_of_DK (Nat.le_refl _) (dk60 (E_of_ES ?_))
 simp only[ic60,ux]
 refine ES_seq_gen fun L hL=>?_
 repeat (simp -implicitDefEqProofs (maxSteps:=99999999) (disch:=omega) only[va,vg,vs,vh,vk,simprocAttr];try first | refine ES_unroll (.s .o) (Lp_next fun L3 hL3=>?_) | (refine hL _ _ ?_;clear hL;refine ES_seq_gen fun L hL=>?_) | (refine hL _ _ ?_;clear hL))
 exact weak_over (.cons .refl) (.same trivial)
theorem flat61_nil (H : AHeap) : D Tryz.prog 61 [.lst 0 [] (some [])] H (.ret (.sc (.bool true))) H:=by
 refine D_of_DK (Nat.le_refl _) (dk61 (E_of_ES ?_))
 simp only[ic61,ux]
 refine ES_seq_gen fun L hL=>?_
 repeat (simp -implicitDefEqProofs (maxSteps:=99999999) (disch:=omega) only[va,vg,vs,vh,vk,simprocAttr];try first | refine ES_unroll (.s .o) (Lp_next fun L3 hL3=>?_) | (refine hL _ _ ?_;clear hL;refine ES_seq_gen fun L hL=>?_) | (refine hL _ _ ?_;clear hL))
 exact weak_over (.cons .refl) (.same trivial)
theorem flat62_nil (H : AHeap) : D Tryz.prog 62 [.lst 0 [] (some [])] H (.ret (.sc (.bool true))) H:=by
 refine D_of_DK (Nat.le_refl _) (dk62 (E_of_ES ?_))
 simp only[ic62,ux]
 refine ES_seq_gen fun L hL=>?_
 repeat (simp -implicitDefEqProofs (maxSteps:=99999999) (disch:=omega) only[va,vg,vs,vh,vk,simprocAttr];try first | refine ES_unroll (.s .o) (Lp_next fun L3 hL3=>?_) | (refine hL _ _ ?_;clear hL;refine ES_seq_gen fun L hL=>?_) | (refine hL _ _ ?_;clear hL))
 exact weak_over (.cons .refl) (.same trivial)
theorem flat63_nil (H : AHeap) : D Tryz.prog 63 [.lst 0 [] (some [])] H (.ret (.sc (.bool true))) H:=by
 refine D_of_DK (Nat.le_refl _) (dk63 (E_of_ES ?_))
 simp only[ic63,ux]
 refine ES_seq_gen fun L hL=>?_
 repeat (simp -implicitDefEqProofs (maxSteps:=99999999) (disch:=omega) only[va,vg,vs,vh,vk,simprocAttr];try first | refine ES_unroll (.s .o) (Lp_next fun L3 hL3=>?_) | (refine hL _ _ ?_;clear hL;refine ES_seq_gen fun L hL=>?_) | (refine hL _ _ ?_;clear hL))
 exact weak_over (.cons .refl) (.same trivial)
theorem flat64_nil (H : AHeap) : D Tryz.prog 64 [.lst 0 [] (some [])] H (.ret (.sc (.bool true))) H:=by
 refine D_of_DK (Nat.le_refl _) (dk64 (E_of_ES ?_))
 simp only[ic64,ux]
 refine ES_seq_gen fun L hL=>?_
 repeat (simp -implicitDefEqProofs (maxSteps:=99999999) (disch:=omega) only[va,vg,vs,vh,vk,simprocAttr];try first | refine ES_unroll (.s .o) (Lp_next fun L3 hL3=>?_) | (refine hL _ _ ?_;clear hL;refine ES_seq_gen fun L hL=>?_) | (refine hL _ _ ?_;clear hL))
 exact weak_over (.cons .refl) (.same trivial)
theorem flat65_nil (H : AHeap) : D Tryz.prog 65 [.lst 0 [] (some [])] H (.ret (.sc (.bool true))) H:=by
 refine D_of_DK (Nat.le_refl _) (dk65 (E_of_ES ?_))
 simp only[ic65,ux]
 refine ES_seq_gen fun L hL=>?_
 repeat (simp -implicitDefEqProofs (maxSteps:=99999999) (disch:=omega) only[va,vg,vs,vh,vk,simprocAttr];try first | refine ES_unroll (.s .o) (Lp_next fun L3 hL3=>?_) | (refine hL _ _ ?_;clear hL;refine ES_seq_gen fun L hL=>?_) | (refine hL _ _ ?_;clear hL))
 exact weak_over (.cons .refl) (.same trivial)
end Go.Proofs.YtfnahogjkgcklaaGreatDoor
