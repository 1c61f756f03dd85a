/- The store's small functions. -/
import Derived.Test.YtdjnccnecgblmaaDoorSA
import Derived.Test.YtdjnccnecgblmaaDoorIc50
import Derived.Test.YtdjnccnecgblmaaDoorV36
namespace Go.Proofs.YtdjnccnecgblmaaDoor
open Go.RowKit
set_option maxRecDepth 100000
set_option linter.unusedVariables false
set_option linter.unusedSimpArgs false
/-- A store: its table. -/
def stB (x : AV) : ABlk := ⟨1,[.agg [x]],true,40⟩
theorem must_d (b : Bool) (e : Value) (H : AHeap) : D Tryd.prog 14 [.sc (.bool b),.sc e] H (if b then .ret (.tup []) else .pan (.ifc 45 (.sc e))) H := by
 refine D_of_DK (by simp) (dk14 (E_of_ES ?_))
 cases b with
 | true =>
  simp -implicitDefEqProofs (maxSteps := 99999999) (disch := omega) only [ic14,va,vg,vs,vh,Nat.reduceMul,ite_true,ite_false,eq_self,forall_const,implies_true,Nat.reduceAdd,Nat.reduceSub,Nat.reduceLT,Nat.reduceLeDiff,↓reduceIte,reduceCtorEq,Int.reduceEq,Int.reduceLT,Int.reduceLE,Int.reduceGT,Int.reduceGE,Int.reduceAdd,Int.reduceSub,Int.reduceNeg,Int.reduceToNat,Nat.reduceBEq,Nat.reduceEqDiff]
  exact Weak.refl _ _ _
 | false =>
  simp -implicitDefEqProofs (maxSteps := 99999999) (disch := omega) only [ic14,va,vg,vs,vh,Nat.reduceMul,ite_true,ite_false,eq_self,forall_const,implies_true,Nat.reduceAdd,Nat.reduceSub,Nat.reduceLT,Nat.reduceLeDiff,↓reduceIte,reduceCtorEq,Int.reduceEq,Int.reduceLT,Int.reduceLE,Int.reduceGT,Int.reduceGE,Int.reduceAdd,Int.reduceSub,Int.reduceNeg,Int.reduceToNat,Nat.reduceBEq,Nat.reduceEqDiff]
  exact Weak.refl _ _ _
theorem known_nil (H : AHeap) : D Tryd.prog 9 [.sc (.pointer none)] H (.ret (.sc (.bool false))) H := by
 refine D_of_DK (by simp) (dk9 (E_of_ES ?_))
 simp -implicitDefEqProofs (maxSteps := 99999999) (disch := first | omega | (simp only [AHeap.set_length,killO_length,List.length_cons,List.length_nil]; first | done | omega)) only [ic9,vi,vu,va,vg,vs,vw,Nat.reduceMul,ite_true,ite_false,eq_self,forall_const,implies_true,Nat.reduceAdd,Nat.reduceSub,Nat.reduceLT,Nat.reduceLeDiff,↓reduceIte,reduceCtorEq,Int.reduceEq,Int.reduceLT,Int.reduceLE,Int.reduceGT,Int.reduceGE,Int.reduceAdd,Int.reduceSub,Int.reduceNeg,Int.reduceToNat,Nat.reduceBEq,Nat.reduceEqDiff]
 exact Weak.refl _ _ _
theorem known_zero (s : Nat) (H : AHeap) (hs : AHeap.find H s = some (stB (.sc (.map none)))) : D Tryd.prog 9 [.ptr 1 s 0 0] H (.ret (.sc (.bool false))) H := by
 unfold stB at hs
 refine D_of_DK (by simp) (dk9 (E_of_ES ?_))
 simp -implicitDefEqProofs (maxSteps := 99999999) (disch := first | omega | (simp only [AHeap.set_length,killO_length,List.length_cons,List.length_nil]; first | done | omega)) only [ic9,vi,vu,hs,va,vg,vs,vw,Nat.reduceMul,ite_true,ite_false,eq_self,forall_const,implies_true,Nat.reduceAdd,Nat.reduceSub,Nat.reduceLT,Nat.reduceLeDiff,↓reduceIte,reduceCtorEq,Int.reduceEq,Int.reduceLT,Int.reduceLE,Int.reduceGT,Int.reduceGE,Int.reduceAdd,Int.reduceSub,Int.reduceNeg,Int.reduceToNat,Nat.reduceBEq,Nat.reduceEqDiff]
 exact Weak.refl _ _ _
theorem known_d (s m : Nat) (H : AHeap) (hs : AHeap.find H s = some (stB (.ptr 0 m 0 0))) : D Tryd.prog 9 [.ptr 1 s 0 0] H (.ret (.sc (.bool true))) H := by
 unfold stB at hs
 refine D_of_DK (by simp) (dk9 (E_of_ES ?_))
 simp -implicitDefEqProofs (maxSteps := 99999999) (disch := first | omega | (simp only [AHeap.set_length,killO_length,List.length_cons,List.length_nil]; first | done | omega)) only [ic9,vi,vu,hs,va,vg,vs,vw,Nat.reduceMul,ite_true,ite_false,eq_self,forall_const,implies_true,Nat.reduceAdd,Nat.reduceSub,Nat.reduceLT,Nat.reduceLeDiff,↓reduceIte,reduceCtorEq,Int.reduceEq,Int.reduceLT,Int.reduceLE,Int.reduceGT,Int.reduceGE,Int.reduceAdd,Int.reduceSub,Int.reduceNeg,Int.reduceToNat,Nat.reduceBEq,Nat.reduceEqDiff]
 exact Weak.refl _ _ _
theorem mapsClone_d (m : Nat) (es : List AV) (ex : Bool) (H : AHeap) (hm : AHeap.find H m = some ⟨0,es,ex,0⟩) : D Tryd.prog 15 [.ptr 0 m 0 0] H (.ret (.ptr 0 H.length 0 0)) (some ⟨0,es,true,0⟩ :: H) := by
 refine D_of_DK (by simp) (dk15 (E_of_ES ?_))
 simp -implicitDefEqProofs (maxSteps := 99999999) (disch := first | omega | (simp only [AHeap.set_length,killO_length,List.length_cons,List.length_nil]; first | done | omega)) only [ic15,vi,vu,vg,hm,va,vg,vs,vw,Nat.reduceMul,ite_true,ite_false,eq_self,forall_const,implies_true,Nat.reduceAdd,Nat.reduceSub,Nat.reduceLT,Nat.reduceLeDiff,↓reduceIte,reduceCtorEq,Int.reduceEq,Int.reduceLT,Int.reduceLE,Int.reduceGT,Int.reduceGE,Int.reduceAdd,Int.reduceSub,Int.reduceNeg,Int.reduceToNat,Nat.reduceBEq,Nat.reduceEqDiff]
 exact Weak.refl _ _ _
theorem new_d (H : AHeap) : D Tryd.prog 18 [] H (.ret (.ptr 1 (H.length + 1) 0 0)) (some (stB (.ptr 0 H.length 0 0)) :: some ⟨0,[],true,0⟩ :: H) := by
 refine D_of_DK (by simp; omega) (dk18 (E_of_ES ?_))
 simp -implicitDefEqProofs (maxSteps := 99999999) (disch := omega) only [ic18,vi,vu,vg,va,vg,vs,vh,Nat.reduceMul,ite_true,ite_false,eq_self,forall_const,implies_true,Nat.reduceAdd,Nat.reduceSub,Nat.reduceLT,Nat.reduceLeDiff,↓reduceIte,reduceCtorEq,Int.reduceEq,Int.reduceLT,Int.reduceLE,Int.reduceGT,Int.reduceGE,Int.reduceAdd,Int.reduceSub,Int.reduceNeg,Int.reduceToNat,Nat.reduceBEq,Nat.reduceEqDiff]
 exact Weak.refl _ _ _
end Go.Proofs.YtdjnccnecgblmaaDoor
