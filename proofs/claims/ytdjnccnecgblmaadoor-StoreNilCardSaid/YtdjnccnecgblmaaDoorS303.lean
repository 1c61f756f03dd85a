/- Patches that add a file: names, rightness, sameness, the inverse, a copy. -/
import Derived.Test.YtdjnccnecgblmaaDoorS302
import Derived.Test.YtdjnccnecgblmaaDoorIc13
import Derived.Test.YtdjnccnecgblmaaDoorIc16
import Derived.Test.YtdjnccnecgblmaaDoorIc40
import Derived.Test.YtdjnccnecgblmaaDoorIc51
namespace Go.Proofs.YtdjnccnecgblmaaDoor
open Go.RowKit
set_option maxRecDepth 100000
set_option linter.unusedVariables false
set_option linter.unusedSimpArgs false
abbrev e0 : ByteArray := ⟨#[]⟩
abbrev nlB : AV := .lst 0 [] (some [])
/-- A patch that has a kind, a file and a text alone. -/
def patA (k : Nat) (f t : ByteArray) : AV := .agg [.sc (.int .u8 k),.sc (.string f),.sc (.string t),.sc (.int .i64 0),nlB,nlB,.sc (.int .u8 0),nlB,.sc (.int .i64 0),.sc (.int .i64 0),.sc (.string e0),.sc (.string e0),nlB,nlB]
theorem eqT_nil (H : AHeap) : D Tryd.prog 39 [nlB,nlB] H (.ret (.sc (.bool true))) H := by
 refine D_of_DK (Nat.le_refl _) (dk39 (E_of_ES ?_))
 simp -implicitDefEqProofs (maxSteps := 99999999) (disch := omega) only [ic39,vu,va,vg,vs,vh,Nat.reduceMul,ite_true,ite_false,eq_self,forall_const,implies_true,Nat.reduceAdd,Nat.reduceSub,Nat.reduceLT,Nat.reduceLeDiff,↓reduceIte,reduceCtorEq,Int.reduceEq,Int.reduceLT,Int.reduceLE,Int.reduceGT,Int.reduceGE,Int.reduceAdd,Int.reduceSub,Int.reduceNeg,Int.reduceToNat,Nat.reduceBEq,Nat.reduceEqDiff]
 refine ES_unroll (.s .o) (Lp_next fun L hL => ?_)
 simp -implicitDefEqProofs (maxSteps := 99999999) (disch := omega) only [vu,va,vg,vs,vh,Nat.reduceMul,ite_true,ite_false,eq_self,forall_const,implies_true,Nat.reduceAdd,Nat.reduceSub,Nat.reduceLT,Nat.reduceLeDiff,↓reduceIte,reduceCtorEq,Int.reduceEq,Int.reduceLT,Int.reduceLE,Int.reduceGT,Int.reduceGE,Int.reduceAdd,Int.reduceSub,Int.reduceNeg,Int.reduceToNat,Nat.reduceBEq,Nat.reduceEqDiff]
 exact weak_sc .refl
theorem eqI_nil (H : AHeap) : D Tryd.prog 40 [nlB,nlB] H (.ret (.sc (.bool true))) H := by
 refine D_of_DK (Nat.le_refl _) (dk40 (E_of_ES ?_))
 simp -implicitDefEqProofs (maxSteps := 99999999) (disch := omega) only [ic40,vu,va,vg,vs,vh,Nat.reduceMul,ite_true,ite_false,eq_self,forall_const,implies_true,Nat.reduceAdd,Nat.reduceSub,Nat.reduceLT,Nat.reduceLeDiff,↓reduceIte,reduceCtorEq,Int.reduceEq,Int.reduceLT,Int.reduceLE,Int.reduceGT,Int.reduceGE,Int.reduceAdd,Int.reduceSub,Int.reduceNeg,Int.reduceToNat,Nat.reduceBEq,Nat.reduceEqDiff]
 refine ES_unroll (.s .o) (Lp_next fun L hL => ?_)
 simp -implicitDefEqProofs (maxSteps := 99999999) (disch := omega) only [vu,va,vg,vs,vh,Nat.reduceMul,ite_true,ite_false,eq_self,forall_const,implies_true,Nat.reduceAdd,Nat.reduceSub,Nat.reduceLT,Nat.reduceLeDiff,↓reduceIte,reduceCtorEq,Int.reduceEq,Int.reduceLT,Int.reduceLE,Int.reduceGT,Int.reduceGE,Int.reduceAdd,Int.reduceSub,Int.reduceNeg,Int.reduceToNat,Nat.reduceBEq,Nat.reduceEqDiff]
 exact weak_sc .refl
theorem eqN_nil (f : AV) (H : AHeap) : D Tryd.prog 41 [nlB,nlB,f] H (.ret (.sc (.bool true))) H := by
 refine D_of_DK (Nat.le_refl _) (dk41 (E_of_ES ?_))
 simp -implicitDefEqProofs (maxSteps := 99999999) (disch := omega) only [ic41,vu,va,vg,vs,vh,Nat.reduceMul,ite_true,ite_false,eq_self,forall_const,implies_true,Nat.reduceAdd,Nat.reduceSub,Nat.reduceLT,Nat.reduceLeDiff,↓reduceIte,reduceCtorEq,Int.reduceEq,Int.reduceLT,Int.reduceLE,Int.reduceGT,Int.reduceGE,Int.reduceAdd,Int.reduceSub,Int.reduceNeg,Int.reduceToNat,Nat.reduceBEq,Nat.reduceEqDiff]
 refine ES_unroll (.s .o) (Lp_next fun L hL => ?_)
 simp -implicitDefEqProofs (maxSteps := 99999999) (disch := omega) only [vu,va,vg,vs,vh,Nat.reduceMul,ite_true,ite_false,eq_self,forall_const,implies_true,Nat.reduceAdd,Nat.reduceSub,Nat.reduceLT,Nat.reduceLeDiff,↓reduceIte,reduceCtorEq,Int.reduceEq,Int.reduceLT,Int.reduceLE,Int.reduceGT,Int.reduceGE,Int.reduceAdd,Int.reduceSub,Int.reduceNeg,Int.reduceToNat,Nat.reduceBEq,Nat.reduceEqDiff]
 exact weak_sc .refl
theorem or97 : IntKind.u8.wrap ((BitVec.ofInt IntKind.u8.bits ((97 : Nat) : Int) ||| BitVec.ofInt IntKind.u8.bits 32).toNat : Int) = 97 := by decide
theorem or98 : IntKind.u8.wrap ((BitVec.ofInt IntKind.u8.bits ((98 : Nat) : Int) ||| BitVec.ofInt IntKind.u8.bits 32).toNat : Int) = 98 := by decide
theorem or99 : IntKind.u8.wrap ((BitVec.ofInt IntKind.u8.bits ((99 : Nat) : Int) ||| BitVec.ofInt IntKind.u8.bits 32).toNat : Int) = 99 := by decide
theorem good_d (c : Nat) (hc : c = 97 ∨ c = 98 ∨ c = 99) (H : AHeap) : D Tryd.prog 65 [.sc (.int .u8 c)] H (.ret (.sc (.bool true))) H := by
 refine D_of_DK (Nat.le_refl _) (dk65 (E_of_ES ?_))
 rcases hc with rfl | rfl | rfl
 ·simp -implicitDefEqProofs (maxSteps := 99999999) (disch := omega) only [ic65,vu,or97,va,vg,vs,vh,Nat.reduceMul,ite_true,ite_false,eq_self,forall_const,implies_true,Nat.reduceAdd,Nat.reduceSub,Nat.reduceLT,Nat.reduceLeDiff,↓reduceIte,reduceCtorEq,Int.reduceEq,Int.reduceLT,Int.reduceLE,Int.reduceGT,Int.reduceGE,Int.reduceAdd,Int.reduceSub,Int.reduceNeg,Int.reduceToNat,Nat.reduceBEq,Nat.reduceEqDiff]
  exact weak_sc .refl
 ·simp -implicitDefEqProofs (maxSteps := 99999999) (disch := omega) only [ic65,vu,or98,va,vg,vs,vh,Nat.reduceMul,ite_true,ite_false,eq_self,forall_const,implies_true,Nat.reduceAdd,Nat.reduceSub,Nat.reduceLT,Nat.reduceLeDiff,↓reduceIte,reduceCtorEq,Int.reduceEq,Int.reduceLT,Int.reduceLE,Int.reduceGT,Int.reduceGE,Int.reduceAdd,Int.reduceSub,Int.reduceNeg,Int.reduceToNat,Nat.reduceBEq,Nat.reduceEqDiff]
  exact weak_sc .refl
 ·simp -implicitDefEqProofs (maxSteps := 99999999) (disch := omega) only [ic65,vu,or99,va,vg,vs,vh,Nat.reduceMul,ite_true,ite_false,eq_self,forall_const,implies_true,Nat.reduceAdd,Nat.reduceSub,Nat.reduceLT,Nat.reduceLeDiff,↓reduceIte,reduceCtorEq,Int.reduceEq,Int.reduceLT,Int.reduceLE,Int.reduceGT,Int.reduceGE,Int.reduceAdd,Int.reduceSub,Int.reduceNeg,Int.reduceToNat,Nat.reduceBEq,Nat.reduceEqDiff]
  exact weak_sc .refl
theorem size1 (c : UInt8) : ByteArray.size ⟨#[c]⟩ = 1 := rfl
theorem ne1 (c : UInt8) : ((⟨#[c]⟩ : ByteArray) = ⟨#[]⟩) = False := by simp
def one (c : UInt8) : ByteArray := ⟨#[c]⟩
theorem pname_d (c : UInt8) (hc : c = 97 ∨ c = 98 ∨ c = 99) (H : AHeap) : D Tryd.prog 38 [.sc (.string (one c))] H (.ret (.sc (.bool true))) H := by
 refine D_of_DK (Nat.le_refl _) (dk38 (E_of_ES ?_))
 unfold one
 rcases hc with rfl | rfl | rfl
 ·simp -implicitDefEqProofs (maxSteps := 99999999) (disch := omega) only [ic38,vu,va,vg,vs,vh,Nat.reduceMul,ite_true,ite_false,eq_self,forall_const,implies_true,Nat.reduceAdd,Nat.reduceSub,Nat.reduceLT,Nat.reduceLeDiff,↓reduceIte,reduceCtorEq,Int.reduceEq,Int.reduceLT,Int.reduceLE,Int.reduceGT,Int.reduceGE,Int.reduceAdd,Int.reduceSub,Int.reduceNeg,Int.reduceToNat,Nat.reduceBEq,Nat.reduceEqDiff]
  refine ES_unroll (.s (.s .o)) ?_
  refine Lp_next fun L hL => ?_
  simp -implicitDefEqProofs (maxSteps := 99999999) (disch := omega) only [vu,size1,va,vg,vs,vh,Nat.reduceMul,ite_true,ite_false,eq_self,forall_const,implies_true,Nat.reduceAdd,Nat.reduceSub,Nat.reduceLT,Nat.reduceLeDiff,↓reduceIte,reduceCtorEq,Int.reduceEq,Int.reduceLT,Int.reduceLE,Int.reduceGT,Int.reduceGE,Int.reduceAdd,Int.reduceSub,Int.reduceNeg,Int.reduceToNat,Nat.reduceBEq,Nat.reduceEqDiff]
  refine ⟨by kernel_rfl,callR_ret (good_d 97 (.inl rfl) _) ?_⟩
  simp -implicitDefEqProofs (maxSteps := 99999999) (disch := omega) only [vu,size1,va,vg,vs,vh,Nat.reduceMul,ite_true,ite_false,eq_self,forall_const,implies_true,Nat.reduceAdd,Nat.reduceSub,Nat.reduceLT,Nat.reduceLeDiff,↓reduceIte,reduceCtorEq,Int.reduceEq,Int.reduceLT,Int.reduceLE,Int.reduceGT,Int.reduceGE,Int.reduceAdd,Int.reduceSub,Int.reduceNeg,Int.reduceToNat,Nat.reduceBEq,Nat.reduceEqDiff]
  refine hL _ _ ?_
  clear hL
  refine Lp_next fun L hL => ?_
  simp -implicitDefEqProofs (maxSteps := 99999999) (disch := omega) only [vu,size1,ne1,va,vg,vs,vh,Nat.reduceMul,ite_true,ite_false,eq_self,forall_const,implies_true,Nat.reduceAdd,Nat.reduceSub,Nat.reduceLT,Nat.reduceLeDiff,↓reduceIte,reduceCtorEq,Int.reduceEq,Int.reduceLT,Int.reduceLE,Int.reduceGT,Int.reduceGE,Int.reduceAdd,Int.reduceSub,Int.reduceNeg,Int.reduceToNat,Nat.reduceBEq,Nat.reduceEqDiff]
  exact weak_sc .refl
 ·simp -implicitDefEqProofs (maxSteps := 99999999) (disch := omega) only [ic38,vu,va,vg,vs,vh,Nat.reduceMul,ite_true,ite_false,eq_self,forall_const,implies_true,Nat.reduceAdd,Nat.reduceSub,Nat.reduceLT,Nat.reduceLeDiff,↓reduceIte,reduceCtorEq,Int.reduceEq,Int.reduceLT,Int.reduceLE,Int.reduceGT,Int.reduceGE,Int.reduceAdd,Int.reduceSub,Int.reduceNeg,Int.reduceToNat,Nat.reduceBEq,Nat.reduceEqDiff]
  refine ES_unroll (.s (.s .o)) ?_
  refine Lp_next fun L hL => ?_
  simp -implicitDefEqProofs (maxSteps := 99999999) (disch := omega) only [vu,size1,va,vg,vs,vh,Nat.reduceMul,ite_true,ite_false,eq_self,forall_const,implies_true,Nat.reduceAdd,Nat.reduceSub,Nat.reduceLT,Nat.reduceLeDiff,↓reduceIte,reduceCtorEq,Int.reduceEq,Int.reduceLT,Int.reduceLE,Int.reduceGT,Int.reduceGE,Int.reduceAdd,Int.reduceSub,Int.reduceNeg,Int.reduceToNat,Nat.reduceBEq,Nat.reduceEqDiff]
  refine ⟨by kernel_rfl,callR_ret (good_d 98 (.inr (.inl rfl)) _) ?_⟩
  simp -implicitDefEqProofs (maxSteps := 99999999) (disch := omega) only [vu,size1,va,vg,vs,vh,Nat.reduceMul,ite_true,ite_false,eq_self,forall_const,implies_true,Nat.reduceAdd,Nat.reduceSub,Nat.reduceLT,Nat.reduceLeDiff,↓reduceIte,reduceCtorEq,Int.reduceEq,Int.reduceLT,Int.reduceLE,Int.reduceGT,Int.reduceGE,Int.reduceAdd,Int.reduceSub,Int.reduceNeg,Int.reduceToNat,Nat.reduceBEq,Nat.reduceEqDiff]
  refine hL _ _ ?_
  clear hL
  refine Lp_next fun L hL => ?_
  simp -implicitDefEqProofs (maxSteps := 99999999) (disch := omega) only [vu,size1,ne1,va,vg,vs,vh,Nat.reduceMul,ite_true,ite_false,eq_self,forall_const,implies_true,Nat.reduceAdd,Nat.reduceSub,Nat.reduceLT,Nat.reduceLeDiff,↓reduceIte,reduceCtorEq,Int.reduceEq,Int.reduceLT,Int.reduceLE,Int.reduceGT,Int.reduceGE,Int.reduceAdd,Int.reduceSub,Int.reduceNeg,Int.reduceToNat,Nat.reduceBEq,Nat.reduceEqDiff]
  exact weak_sc .refl
 ·simp -implicitDefEqProofs (maxSteps := 99999999) (disch := omega) only [ic38,vu,va,vg,vs,vh,Nat.reduceMul,ite_true,ite_false,eq_self,forall_const,implies_true,Nat.reduceAdd,Nat.reduceSub,Nat.reduceLT,Nat.reduceLeDiff,↓reduceIte,reduceCtorEq,Int.reduceEq,Int.reduceLT,Int.reduceLE,Int.reduceGT,Int.reduceGE,Int.reduceAdd,Int.reduceSub,Int.reduceNeg,Int.reduceToNat,Nat.reduceBEq,Nat.reduceEqDiff]
  refine ES_unroll (.s (.s .o)) ?_
  refine Lp_next fun L hL => ?_
  simp -implicitDefEqProofs (maxSteps := 99999999) (disch := omega) only [vu,size1,va,vg,vs,vh,Nat.reduceMul,ite_true,ite_false,eq_self,forall_const,implies_true,Nat.reduceAdd,Nat.reduceSub,Nat.reduceLT,Nat.reduceLeDiff,↓reduceIte,reduceCtorEq,Int.reduceEq,Int.reduceLT,Int.reduceLE,Int.reduceGT,Int.reduceGE,Int.reduceAdd,Int.reduceSub,Int.reduceNeg,Int.reduceToNat,Nat.reduceBEq,Nat.reduceEqDiff]
  refine ⟨by kernel_rfl,callR_ret (good_d 99 (.inr (.inr rfl)) _) ?_⟩
  simp -implicitDefEqProofs (maxSteps := 99999999) (disch := omega) only [vu,size1,va,vg,vs,vh,Nat.reduceMul,ite_true,ite_false,eq_self,forall_const,implies_true,Nat.reduceAdd,Nat.reduceSub,Nat.reduceLT,Nat.reduceLeDiff,↓reduceIte,reduceCtorEq,Int.reduceEq,Int.reduceLT,Int.reduceLE,Int.reduceGT,Int.reduceGE,Int.reduceAdd,Int.reduceSub,Int.reduceNeg,Int.reduceToNat,Nat.reduceBEq,Nat.reduceEqDiff]
  refine hL _ _ ?_
  clear hL
  refine Lp_next fun L hL => ?_
  simp -implicitDefEqProofs (maxSteps := 99999999) (disch := omega) only [vu,size1,ne1,va,vg,vs,vh,Nat.reduceMul,ite_true,ite_false,eq_self,forall_const,implies_true,Nat.reduceAdd,Nat.reduceSub,Nat.reduceLT,Nat.reduceLeDiff,↓reduceIte,reduceCtorEq,Int.reduceEq,Int.reduceLT,Int.reduceLE,Int.reduceGT,Int.reduceGE,Int.reduceAdd,Int.reduceSub,Int.reduceNeg,Int.reduceToNat,Nat.reduceBEq,Nat.reduceEqDiff]
  exact weak_sc .refl
theorem sameA_d (k : Nat) (f g : ByteArray) (H : AHeap) : D Tryd.prog 27 [patA k f e0,patA k g e0] H (.ret (.sc (.bool (decide (f = g))))) H := by
 refine D_of_DK (by simp) (dk27 (E_of_ES ?_))
 unfold patA
 by_cases h : f = g
 ·subst h
  simp -implicitDefEqProofs (maxSteps := 99999999) (disch := omega) only [ic27,vu,va,vg,vs,vh,Nat.reduceMul,ite_true,ite_false,eq_self,forall_const,implies_true,Nat.reduceAdd,Nat.reduceSub,Nat.reduceLT,Nat.reduceLeDiff,↓reduceIte,reduceCtorEq,Int.reduceEq,Int.reduceLT,Int.reduceLE,Int.reduceGT,Int.reduceGE,Int.reduceAdd,Int.reduceSub,Int.reduceNeg,Int.reduceToNat,Nat.reduceBEq,Nat.reduceEqDiff]
  refine callR_ret (eqT_nil _) ?_
  simp -implicitDefEqProofs (maxSteps := 99999999) (disch := omega) only [vu,va,vg,vs,vh,Nat.reduceMul,ite_true,ite_false,eq_self,forall_const,implies_true,Nat.reduceAdd,Nat.reduceSub,Nat.reduceLT,Nat.reduceLeDiff,↓reduceIte,reduceCtorEq,Int.reduceEq,Int.reduceLT,Int.reduceLE,Int.reduceGT,Int.reduceGE,Int.reduceAdd,Int.reduceSub,Int.reduceNeg,Int.reduceToNat,Nat.reduceBEq,Nat.reduceEqDiff]
  refine callR_ret (eqT_nil _) ?_
  simp -implicitDefEqProofs (maxSteps := 99999999) (disch := omega) only [vu,va,vg,vs,vh,Nat.reduceMul,ite_true,ite_false,eq_self,forall_const,implies_true,Nat.reduceAdd,Nat.reduceSub,Nat.reduceLT,Nat.reduceLeDiff,↓reduceIte,reduceCtorEq,Int.reduceEq,Int.reduceLT,Int.reduceLE,Int.reduceGT,Int.reduceGE,Int.reduceAdd,Int.reduceSub,Int.reduceNeg,Int.reduceToNat,Nat.reduceBEq,Nat.reduceEqDiff]
  refine callR_ret (eqI_nil _) ?_
  simp -implicitDefEqProofs (maxSteps := 99999999) (disch := omega) only [vu,va,vg,vs,vh,Nat.reduceMul,ite_true,ite_false,eq_self,forall_const,implies_true,Nat.reduceAdd,Nat.reduceSub,Nat.reduceLT,Nat.reduceLeDiff,↓reduceIte,reduceCtorEq,Int.reduceEq,Int.reduceLT,Int.reduceLE,Int.reduceGT,Int.reduceGE,Int.reduceAdd,Int.reduceSub,Int.reduceNeg,Int.reduceToNat,Nat.reduceBEq,Nat.reduceEqDiff]
  refine callR_ret (eqN_nil _ _) ?_
  simp -implicitDefEqProofs (maxSteps := 99999999) (disch := omega) only [vu,va,vg,vs,vh,Nat.reduceMul,ite_true,ite_false,eq_self,forall_const,implies_true,Nat.reduceAdd,Nat.reduceSub,Nat.reduceLT,Nat.reduceLeDiff,↓reduceIte,reduceCtorEq,Int.reduceEq,Int.reduceLT,Int.reduceLE,Int.reduceGT,Int.reduceGE,Int.reduceAdd,Int.reduceSub,Int.reduceNeg,Int.reduceToNat,Nat.reduceBEq,Nat.reduceEqDiff]
  refine callR_ret (eqN_nil _ _) ?_
  simp -implicitDefEqProofs (maxSteps := 99999999) (disch := omega) only [vu,va,vg,vs,vh,Nat.reduceMul,ite_true,ite_false,eq_self,forall_const,implies_true,Nat.reduceAdd,Nat.reduceSub,Nat.reduceLT,Nat.reduceLeDiff,↓reduceIte,reduceCtorEq,Int.reduceEq,Int.reduceLT,Int.reduceLE,Int.reduceGT,Int.reduceGE,Int.reduceAdd,Int.reduceSub,Int.reduceNeg,Int.reduceToNat,Nat.reduceBEq,Nat.reduceEqDiff]
  exact weak_sc (by repeat constructor)
 ·simp -implicitDefEqProofs (maxSteps := 99999999) (disch := omega) only [ic27,vu,h,va,vg,vs,vh,Nat.reduceMul,ite_true,ite_false,eq_self,forall_const,implies_true,Nat.reduceAdd,Nat.reduceSub,Nat.reduceLT,Nat.reduceLeDiff,↓reduceIte,reduceCtorEq,Int.reduceEq,Int.reduceLT,Int.reduceLE,Int.reduceGT,Int.reduceGE,Int.reduceAdd,Int.reduceSub,Int.reduceNeg,Int.reduceToNat,Nat.reduceBEq,Nat.reduceEqDiff]
  exact weak_sc (by repeat constructor)
theorem same_bare (k : Nat) (f : ByteArray) (H : AHeap) : D Tryd.prog 27 [patA k f e0,patA k f e0] H (.ret (.sc (.bool true))) H := by
 have := sameA_d k f f H
 simpa using this
theorem rightA_d (k : Nat) (hk : k = 1 ∨ k = 2) (c : UInt8) (hc : c = 97 ∨ c = 98 ∨ c = 99) (H : AHeap) : D Tryd.prog 26 [patA k (one c) e0] H (.ret (.sc (.bool true))) H := by
 refine D_of_DK (by simp) (dk26 (E_of_ES ?_))
 have hs := same_bare k (one c)
 unfold patA at *
 rcases hk with rfl | rfl
 ·simp -implicitDefEqProofs (maxSteps := 99999999) (disch := omega) only [ic26,vu,va,vg,vs,vh,Nat.reduceMul,ite_true,ite_false,eq_self,forall_const,implies_true,Nat.reduceAdd,Nat.reduceSub,Nat.reduceLT,Nat.reduceLeDiff,↓reduceIte,reduceCtorEq,Int.reduceEq,Int.reduceLT,Int.reduceLE,Int.reduceGT,Int.reduceGE,Int.reduceAdd,Int.reduceSub,Int.reduceNeg,Int.reduceToNat,Nat.reduceBEq,Nat.reduceEqDiff]
  refine callR_ret (pname_d c hc _) ?_
  simp -implicitDefEqProofs (maxSteps := 99999999) (disch := omega) only [vu,va,vg,vs,vh,Nat.reduceMul,ite_true,ite_false,eq_self,forall_const,implies_true,Nat.reduceAdd,Nat.reduceSub,Nat.reduceLT,Nat.reduceLeDiff,↓reduceIte,reduceCtorEq,Int.reduceEq,Int.reduceLT,Int.reduceLE,Int.reduceGT,Int.reduceGE,Int.reduceAdd,Int.reduceSub,Int.reduceNeg,Int.reduceToNat,Nat.reduceBEq,Nat.reduceEqDiff]
  refine callR_ret (hs _) ?_
  simp -implicitDefEqProofs (maxSteps := 99999999) (disch := omega) only [vu,va,vg,vs,vh,Nat.reduceMul,ite_true,ite_false,eq_self,forall_const,implies_true,Nat.reduceAdd,Nat.reduceSub,Nat.reduceLT,Nat.reduceLeDiff,↓reduceIte,reduceCtorEq,Int.reduceEq,Int.reduceLT,Int.reduceLE,Int.reduceGT,Int.reduceGE,Int.reduceAdd,Int.reduceSub,Int.reduceNeg,Int.reduceToNat,Nat.reduceBEq,Nat.reduceEqDiff]
  exact weak_sc (by repeat constructor)
 ·simp -implicitDefEqProofs (maxSteps := 99999999) (disch := omega) only [ic26,vu,va,vg,vs,vh,Nat.reduceMul,ite_true,ite_false,eq_self,forall_const,implies_true,Nat.reduceAdd,Nat.reduceSub,Nat.reduceLT,Nat.reduceLeDiff,↓reduceIte,reduceCtorEq,Int.reduceEq,Int.reduceLT,Int.reduceLE,Int.reduceGT,Int.reduceGE,Int.reduceAdd,Int.reduceSub,Int.reduceNeg,Int.reduceToNat,Nat.reduceBEq,Nat.reduceEqDiff]
  refine callR_ret (pname_d c hc _) ?_
  simp -implicitDefEqProofs (maxSteps := 99999999) (disch := omega) only [vu,va,vg,vs,vh,Nat.reduceMul,ite_true,ite_false,eq_self,forall_const,implies_true,Nat.reduceAdd,Nat.reduceSub,Nat.reduceLT,Nat.reduceLeDiff,↓reduceIte,reduceCtorEq,Int.reduceEq,Int.reduceLT,Int.reduceLE,Int.reduceGT,Int.reduceGE,Int.reduceAdd,Int.reduceSub,Int.reduceNeg,Int.reduceToNat,Nat.reduceBEq,Nat.reduceEqDiff]
  refine callR_ret (hs _) ?_
  simp -implicitDefEqProofs (maxSteps := 99999999) (disch := omega) only [vu,va,vg,vs,vh,Nat.reduceMul,ite_true,ite_false,eq_self,forall_const,implies_true,Nat.reduceAdd,Nat.reduceSub,Nat.reduceLT,Nat.reduceLeDiff,↓reduceIte,reduceCtorEq,Int.reduceEq,Int.reduceLT,Int.reduceLE,Int.reduceGT,Int.reduceGE,Int.reduceAdd,Int.reduceSub,Int.reduceNeg,Int.reduceToNat,Nat.reduceBEq,Nat.reduceEqDiff]
  exact weak_sc (by repeat constructor)
theorem invertA_d (c : UInt8) (hc : c = 97 ∨ c = 98 ∨ c = 99) (H : AHeap) : D Tryd.prog 21 [patA 1 (one c) e0] H (.ret (patA 2 (one c) e0)) H ∧ D Tryd.prog 21 [patA 2 (one c) e0] H (.ret (patA 1 (one c) e0)) H := by
 have h1 := rightA_d 1 (.inl rfl) c hc
 have h2 := rightA_d 2 (.inr rfl) c hc
 unfold patA at *
 constructor
 ·refine D_of_DK (by simp) (dk21 (E_of_ES ?_))
  simp -implicitDefEqProofs (maxSteps := 99999999) (disch := omega) only [ic21,vu,va,vg,vs,vh,Nat.reduceMul,ite_true,ite_false,eq_self,forall_const,implies_true,Nat.reduceAdd,Nat.reduceSub,Nat.reduceLT,Nat.reduceLeDiff,↓reduceIte,reduceCtorEq,Int.reduceEq,Int.reduceLT,Int.reduceLE,Int.reduceGT,Int.reduceGE,Int.reduceAdd,Int.reduceSub,Int.reduceNeg,Int.reduceToNat,Nat.reduceBEq,Nat.reduceEqDiff]
  refine callR_ret (h1 _) ?_
  simp -implicitDefEqProofs (maxSteps := 99999999) (disch := omega) only [vu,va,vg,vs,vh,Nat.reduceMul,ite_true,ite_false,eq_self,forall_const,implies_true,Nat.reduceAdd,Nat.reduceSub,Nat.reduceLT,Nat.reduceLeDiff,↓reduceIte,reduceCtorEq,Int.reduceEq,Int.reduceLT,Int.reduceLE,Int.reduceGT,Int.reduceGE,Int.reduceAdd,Int.reduceSub,Int.reduceNeg,Int.reduceToNat,Nat.reduceBEq,Nat.reduceEqDiff]
  exact weak_over (by repeat constructor) (by repeat constructor)
 ·refine D_of_DK (by simp) (dk21 (E_of_ES ?_))
  simp -implicitDefEqProofs (maxSteps := 99999999) (disch := omega) only [ic21,vu,va,vg,vs,vh,Nat.reduceMul,ite_true,ite_false,eq_self,forall_const,implies_true,Nat.reduceAdd,Nat.reduceSub,Nat.reduceLT,Nat.reduceLeDiff,↓reduceIte,reduceCtorEq,Int.reduceEq,Int.reduceLT,Int.reduceLE,Int.reduceGT,Int.reduceGE,Int.reduceAdd,Int.reduceSub,Int.reduceNeg,Int.reduceToNat,Nat.reduceBEq,Nat.reduceEqDiff]
  refine callR_ret (h2 _) ?_
  simp -implicitDefEqProofs (maxSteps := 99999999) (disch := omega) only [vu,va,vg,vs,vh,Nat.reduceMul,ite_true,ite_false,eq_self,forall_const,implies_true,Nat.reduceAdd,Nat.reduceSub,Nat.reduceLT,Nat.reduceLeDiff,↓reduceIte,reduceCtorEq,Int.reduceEq,Int.reduceLT,Int.reduceLE,Int.reduceGT,Int.reduceGE,Int.reduceAdd,Int.reduceSub,Int.reduceNeg,Int.reduceToNat,Nat.reduceBEq,Nat.reduceEqDiff]
  exact weak_over (by repeat constructor) (by repeat constructor)
theorem ownA_d (c : UInt8) (hc : c = 97 ∨ c = 98 ∨ c = 99) (H : AHeap) : D Tryd.prog 10 [patA 1 (one c) e0] H (.ret (patA 1 (one c) e0)) H := by
 have h1 := fun H => (invertA_d c hc H).1
 have h2 := fun H => (invertA_d c hc H).2
 refine D_of_DK (by simp) (dk10 (E_of_ES ?_))
 unfold patA at *
 simp -implicitDefEqProofs (maxSteps := 99999999) (disch := omega) only [ic10,vu,va,vg,vs,vh,Nat.reduceMul,ite_true,ite_false,eq_self,forall_const,implies_true,Nat.reduceAdd,Nat.reduceSub,Nat.reduceLT,Nat.reduceLeDiff,↓reduceIte,reduceCtorEq,Int.reduceEq,Int.reduceLT,Int.reduceLE,Int.reduceGT,Int.reduceGE,Int.reduceAdd,Int.reduceSub,Int.reduceNeg,Int.reduceToNat,Nat.reduceBEq,Nat.reduceEqDiff]
 refine callR_ret (h1 _) ?_
 simp -implicitDefEqProofs (maxSteps := 99999999) (disch := omega) only [vu,va,vg,vs,vh,Nat.reduceMul,ite_true,ite_false,eq_self,forall_const,implies_true,Nat.reduceAdd,Nat.reduceSub,Nat.reduceLT,Nat.reduceLeDiff,↓reduceIte,reduceCtorEq,Int.reduceEq,Int.reduceLT,Int.reduceLE,Int.reduceGT,Int.reduceGE,Int.reduceAdd,Int.reduceSub,Int.reduceNeg,Int.reduceToNat,Nat.reduceBEq,Nat.reduceEqDiff]
 refine callR_ret (h2 _) ?_
 simp -implicitDefEqProofs (maxSteps := 99999999) (disch := omega) only [vu,va,vg,vs,vh,Nat.reduceMul,ite_true,ite_false,eq_self,forall_const,implies_true,Nat.reduceAdd,Nat.reduceSub,Nat.reduceLT,Nat.reduceLeDiff,↓reduceIte,reduceCtorEq,Int.reduceEq,Int.reduceLT,Int.reduceLE,Int.reduceGT,Int.reduceGE,Int.reduceAdd,Int.reduceSub,Int.reduceNeg,Int.reduceToNat,Nat.reduceBEq,Nat.reduceEqDiff]
 exact weak_over (by repeat constructor) (by repeat constructor)
end Go.Proofs.YtdjnccnecgblmaaDoor
