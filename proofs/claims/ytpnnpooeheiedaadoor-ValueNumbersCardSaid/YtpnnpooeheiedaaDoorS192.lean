/- Values: operators of two. -/
import Derived.Test.YtpnnpooeheiedaaDoorS191
namespace Go.Proofs.YtpnnpooeheiedaaDoor
open Go.RowKit
set_option maxRecDepth 100000
set_option linter.unusedVariables false
set_option linter.unusedSimpArgs false
def fourL : List ByteArray := [⟨#[124,124]⟩,⟨#[38,38]⟩,⟨#[61,61]⟩,⟨#[33,61]⟩]
theorem strs_four : [AV.sc (.string ⟨#[124,124]⟩),.sc (.string ⟨#[38,38]⟩),.sc (.string ⟨#[61,61]⟩),.sc (.string ⟨#[33,61]⟩)] = strs fourL := rfl
/-- An operator of two is one of the four, or one of the map's. -/
theorem known_split (op : ByteArray) : memS knownL op = (memS fourL op || (mGet op intsM).isSome) := by
 by_cases c0 : op = ⟨#[124,124]⟩
 ·subst c0
  rfl
 by_cases c1 : op = ⟨#[38,38]⟩
 ·subst c1
  rfl
 by_cases c2 : op = ⟨#[61,61]⟩
 ·subst c2
  rfl
 by_cases c3 : op = ⟨#[33,61]⟩
 ·subst c3
  rfl
 by_cases c4 : op = ⟨#[60]⟩
 ·subst c4
  rfl
 by_cases c5 : op = ⟨#[60,61]⟩
 ·subst c5
  rfl
 by_cases c6 : op = ⟨#[62]⟩
 ·subst c6
  rfl
 by_cases c7 : op = ⟨#[62,61]⟩
 ·subst c7
  rfl
 by_cases c8 : op = ⟨#[43]⟩
 ·subst c8
  rfl
 by_cases c9 : op = ⟨#[45]⟩
 ·subst c9
  rfl
 by_cases c10 : op = ⟨#[42]⟩
 ·subst c10
  rfl
 by_cases c11 : op = ⟨#[47]⟩
 ·subst c11
  rfl
 by_cases c12 : op = ⟨#[37]⟩
 ·subst c12
  rfl
 have e : ∀ x y : ByteArray,decide (x = y) = decide (y = x) := fun x y => by simp [eq_comm]
 simp only [memS,knownL,fourL,intsM,mGet,List.any_cons,List.any_nil,e _ op,c0,c1,c2,c3,c4,c5,c6,c7,c8,c9,c10,c11,c12,decide_false,Bool.or_false,if_false,Option.isSome_none]
theorem ints_fn {op : ByteArray} {x : AV} (h : mGet op intsM = some x) (m n : Int) : ∃ g,x = .fn (.func g) [] [] ∧ callable Tryd.prog g = true ∧ ∃ r,intsR op m n = some r ∧ ∀ H,D Tryd.prog g [.sc (.int .i64 m),.sc (.int .i64 n)] H (opEnd r) H := by
 by_cases c0 : op = ⟨#[60]⟩
 ·subst c0
  obtain rfl : AV.fn (.func 57) [] [] = x := Option.some.inj ((rfl : mGet ⟨#[60]⟩ intsM = some (AV.fn (.func 57) [] [])).symm.trans h)
  exact ⟨_,rfl,by kernel_rfl,_,rfl,fun H => ints1_d m n H⟩
 by_cases c1 : op = ⟨#[60,61]⟩
 ·subst c1
  obtain rfl : AV.fn (.func 58) [] [] = x := Option.some.inj ((rfl : mGet ⟨#[60,61]⟩ intsM = some (AV.fn (.func 58) [] [])).symm.trans h)
  exact ⟨_,rfl,by kernel_rfl,_,rfl,fun H => ints2_d m n H⟩
 by_cases c2 : op = ⟨#[62]⟩
 ·subst c2
  obtain rfl : AV.fn (.func 59) [] [] = x := Option.some.inj ((rfl : mGet ⟨#[62]⟩ intsM = some (AV.fn (.func 59) [] [])).symm.trans h)
  exact ⟨_,rfl,by kernel_rfl,_,rfl,fun H => ints3_d m n H⟩
 by_cases c3 : op = ⟨#[62,61]⟩
 ·subst c3
  obtain rfl : AV.fn (.func 60) [] [] = x := Option.some.inj ((rfl : mGet ⟨#[62,61]⟩ intsM = some (AV.fn (.func 60) [] [])).symm.trans h)
  exact ⟨_,rfl,by kernel_rfl,_,rfl,fun H => ints4_d m n H⟩
 by_cases c4 : op = ⟨#[43]⟩
 ·subst c4
  obtain rfl : AV.fn (.func 61) [] [] = x := Option.some.inj ((rfl : mGet ⟨#[43]⟩ intsM = some (AV.fn (.func 61) [] [])).symm.trans h)
  exact ⟨_,rfl,by kernel_rfl,_,rfl,fun H => ints5_d m n H⟩
 by_cases c5 : op = ⟨#[45]⟩
 ·subst c5
  obtain rfl : AV.fn (.func 62) [] [] = x := Option.some.inj ((rfl : mGet ⟨#[45]⟩ intsM = some (AV.fn (.func 62) [] [])).symm.trans h)
  exact ⟨_,rfl,by kernel_rfl,_,rfl,fun H => ints6_d m n H⟩
 by_cases c6 : op = ⟨#[42]⟩
 ·subst c6
  obtain rfl : AV.fn (.func 63) [] [] = x := Option.some.inj ((rfl : mGet ⟨#[42]⟩ intsM = some (AV.fn (.func 63) [] [])).symm.trans h)
  exact ⟨_,rfl,by kernel_rfl,_,rfl,fun H => ints7_d m n H⟩
 by_cases c7 : op = ⟨#[47]⟩
 ·subst c7
  obtain rfl : AV.fn (.func 64) [] [] = x := Option.some.inj ((rfl : mGet ⟨#[47]⟩ intsM = some (AV.fn (.func 64) [] [])).symm.trans h)
  exact ⟨_,rfl,by kernel_rfl,_,rfl,fun H => ints8_d m n H⟩
 by_cases c8 : op = ⟨#[37]⟩
 ·subst c8
  obtain rfl : AV.fn (.func 65) [] [] = x := Option.some.inj ((rfl : mGet ⟨#[37]⟩ intsM = some (AV.fn (.func 65) [] [])).symm.trans h)
  exact ⟨_,rfl,by kernel_rfl,_,rfl,fun H => ints9_d m n H⟩
 simp only [intsM,mGet,c0,c1,c2,c3,c4,c5,c6,c7,c8,if_false] at h
 cases h
set_option maxHeartbeats 0 in
theorem binary_d (op : ByteArray) (a b : Vl) (ra rb : Option (List AV)) (ha : I64 a.num) (hb : I64 b.num) (hl : a.row.length ≤ 100000000) (H : AHeap) : D Tryd.prog 23 [.sc (.string op),vlA a ra,vlA b rb] H (.ret (opTup (binaryR op a b))) H := by
 refine D_of_DK (Nat.le_refl _) (dk23 (E_of_ES ?_))
 have hra := vright_d a ra ha
 have hrb := vright_d b rb hb
 rw [vlA_eq] at hra hrb
 have hcs := containsS_d fourL (some []) op (by decide)
 rw [← strs_four] at hcs
 have hks := known_split op
 have ok := mE_okT idA intsM
 simp only [ic23,ux]
 refine ES_seq_gen fun L hL => ?_
 simp -implicitDefEqProofs (maxSteps := 99999999) (disch := first | omega | (simp only [AHeap.set_length,killO_length,List.length_cons,List.length_nil]; first | done | omega)) only [vu,vlA_eq,va,vg,vs,vw,Nat.reduceMul,ite_true,ite_false,eq_self,forall_const,implies_true,Nat.reduceAdd,Nat.reduceSub,Nat.reduceLT,Nat.reduceLeDiff,↓reduceIte,reduceCtorEq,Int.reduceEq,Int.reduceLT,Int.reduceLE,Int.reduceGT,Int.reduceGE,Int.reduceAdd,Int.reduceSub,Int.reduceNeg,Int.reduceToNat,Nat.reduceBEq,Nat.reduceEqDiff]
 refine hL _ _ ?_
 clear hL
 refine ES_seq_gen fun L hL => ?_
 simp -implicitDefEqProofs (maxSteps := 99999999) (disch := first | omega | (simp only [AHeap.set_length,killO_length,List.length_cons,List.length_nil]; first | done | omega)) only [vu,va,vg,vs,vw,Nat.reduceMul,ite_true,ite_false,eq_self,forall_const,implies_true,Nat.reduceAdd,Nat.reduceSub,Nat.reduceLT,Nat.reduceLeDiff,↓reduceIte,reduceCtorEq,Int.reduceEq,Int.reduceLT,Int.reduceLE,Int.reduceGT,Int.reduceGE,Int.reduceAdd,Int.reduceSub,Int.reduceNeg,Int.reduceToNat,Nat.reduceBEq,Nat.reduceEqDiff]
 refine callD_ret (ints_d _) (fun l hl _ => by
  simp only [List.mem_cons,List.not_mem_nil,or_false] at hl
  subst hl
  exact find_past (by simp)) ?_
 obtain ⟨X,hX⟩ : ∃ X,X = mGet op intsM := ⟨_,rfl⟩
 rw [← hX] at hks
 have hv := mVal_id (k := op) (z := .sc .nilFunc) (M := intsM)
 have hh := mHas_id (k := op) (M := intsM)
 rw [← hX] at hv hh
 simp -implicitDefEqProofs (maxSteps := 99999999) (disch := first | omega | (simp only [AHeap.set_length,killO_length,List.length_cons,List.length_nil]; first | done | omega)) only [vu,ok,hv,hh,mE_length,va,vg,vs,vw,Nat.reduceMul,ite_true,ite_false,eq_self,forall_const,implies_true,Nat.reduceAdd,Nat.reduceSub,Nat.reduceLT,Nat.reduceLeDiff,↓reduceIte,reduceCtorEq,Int.reduceEq,Int.reduceLT,Int.reduceLE,Int.reduceGT,Int.reduceGE,Int.reduceAdd,Int.reduceSub,Int.reduceNeg,Int.reduceToNat,Nat.reduceBEq,Nat.reduceEqDiff]
 have hfv : (X.getD (.sc .nilFunc)).isTop = false ∧ (X.getD (.sc .nilFunc)).ncells = 1 ∧ (X.getD (.sc .nilFunc)).isAgg = false := by
  cases hx : X with
  | none => exact ⟨rfl,rfl,rfl⟩
  | some x =>
   obtain ⟨g,rfl,_⟩ := ints_fn (hX.symm.trans hx) 0 0
   exact ⟨rfl,rfl,rfl⟩
 refine ⟨hfv,?_⟩
 refine hL _ _ ?_
 clear hL
 refine ES_seq_gen fun L hL => ?_
 have tail : rightV a = true → rightV b = true → memS knownL op = true → ∀ ts,Fr [none,none,none,some (.ptr 1 H.length 0 0),some (.ptr 3 (H.length + 1) 0 0),some (.ptr 3 (H.length + 2) 0 0),some (.ptr 3 (H.length + 3) 0 0),some (.sc (.int .i64 0)),some (.ptr 1 (H.length + 4) 0 0),none,none,none,none,none,none,none,none,none,none,none,none,none,none,none,none,none,none,none,none,none,none,none,none,none,none,none,none,none,none] ts →
   L ts (some ⟨0,mE idA intsM,true,0⟩ :: some ⟨1,[X.getD (.sc .nilFunc)],true,59⟩ :: some ⟨3,[.agg [.sc (.int .u8 0),.sc (.int .i64 0),.lst 0 [] (some [])]],true,25⟩ :: some ⟨3,[.agg [.sc (.int .u8 b.kind),.sc (.int .i64 b.num),.lst 1 (lng b.row) rb]],true,25⟩ :: some ⟨3,[.agg [.sc (.int .u8 a.kind),.sc (.int .i64 a.num),.lst 1 (lng a.row) ra]],true,25⟩ :: some ⟨1,[.sc (.string op)],true,9⟩ :: H) := fun k1 k2 k0 ts hfr => by
  obtain ⟨js,rfl⟩ := hfr.opened
  clear hfr
  have hU : binaryR op a b = binC op a b := by
   unfold binaryR binC
   rw [if_neg (by simp [k0,k1,k2])]
  refine hL _ _ ?_
  clear hL
  rw [hU]
  simp -implicitDefEqProofs (maxSteps := 99999999) (disch := first | omega | (simp only [AHeap.set_length,killO_length,List.length_cons,List.length_nil]; first | done | omega)) only [vu,mk,va,vg,vs,vw,Nat.reduceMul,ite_true,ite_false,eq_self,forall_const,implies_true,Nat.reduceAdd,Nat.reduceSub,Nat.reduceLT,Nat.reduceLeDiff,↓reduceIte,reduceCtorEq,Int.reduceEq,Int.reduceLT,Int.reduceLE,Int.reduceGT,Int.reduceGE,Int.reduceAdd,Int.reduceSub,Int.reduceNeg,Int.reduceToNat,Nat.reduceBEq,Nat.reduceEqDiff]
  refine callR_ret (tried_d (binC op a b) (by kernel_rfl) (fun G hG hl2 => bin1_d op a b ra rb k1 k2 hl H.length (H.length + 1) (H.length + 2) (H.length + 4) (X.getD (.sc .nilFunc)) G
   ((hG _ (by simp <;> omega)).trans (by simp -implicitDefEqProofs (maxSteps := 99999999) (disch := first | omega | (simp only [AHeap.set_length,killO_length,List.length_cons,List.length_nil]; first | done | omega)) only [vlA_eq,va,vg,vs,vw,Nat.reduceMul,ite_true,ite_false,eq_self,forall_const,implies_true,Nat.reduceAdd,Nat.reduceSub,Nat.reduceLT,Nat.reduceLeDiff,↓reduceIte,reduceCtorEq,Int.reduceEq,Int.reduceLT,Int.reduceLE,Int.reduceGT,Int.reduceGE,Int.reduceAdd,Int.reduceSub,Int.reduceNeg,Int.reduceToNat,Nat.reduceBEq,Nat.reduceEqDiff])) ((hG _ (by simp <;> omega)).trans (by simp -implicitDefEqProofs (maxSteps := 99999999) (disch := first | omega | (simp only [AHeap.set_length,killO_length,List.length_cons,List.length_nil]; first | done | omega)) only [vlA_eq,va,vg,vs,vw,Nat.reduceMul,ite_true,ite_false,eq_self,forall_const,implies_true,Nat.reduceAdd,Nat.reduceSub,Nat.reduceLT,Nat.reduceLeDiff,↓reduceIte,reduceCtorEq,Int.reduceEq,Int.reduceLT,Int.reduceLE,Int.reduceGT,Int.reduceGE,Int.reduceAdd,Int.reduceSub,Int.reduceNeg,Int.reduceToNat,Nat.reduceBEq,Nat.reduceEqDiff])) ((hG _ (by simp <;> omega)).trans (by simp -implicitDefEqProofs (maxSteps := 99999999) (disch := first | omega | (simp only [AHeap.set_length,killO_length,List.length_cons,List.length_nil]; first | done | omega)) only [vlA_eq,va,vg,vs,vw,Nat.reduceMul,ite_true,ite_false,eq_self,forall_const,implies_true,Nat.reduceAdd,Nat.reduceSub,Nat.reduceLT,Nat.reduceLeDiff,↓reduceIte,reduceCtorEq,Int.reduceEq,Int.reduceLT,Int.reduceLE,Int.reduceGT,Int.reduceGE,Int.reduceAdd,Int.reduceSub,Int.reduceNeg,Int.reduceToNat,Nat.reduceBEq,Nat.reduceEqDiff])) ((hG _ (by simp <;> omega)).trans (by simp -implicitDefEqProofs (maxSteps := 99999999) (disch := first | omega | (simp only [AHeap.set_length,killO_length,List.length_cons,List.length_nil]; first | done | omega)) only [vlA_eq,va,vg,vs,vw,Nat.reduceMul,ite_true,ite_false,eq_self,forall_const,implies_true,Nat.reduceAdd,Nat.reduceSub,Nat.reduceLT,Nat.reduceLeDiff,↓reduceIte,reduceCtorEq,Int.reduceEq,Int.reduceLT,Int.reduceLE,Int.reduceGT,Int.reduceGE,Int.reduceAdd,Int.reduceSub,Int.reduceNeg,Int.reduceToNat,Nat.reduceBEq,Nat.reduceEqDiff])) (fun c1 c2 c3 c4 => ?_))) ?_
  ·have hm : memS fourL op = false := by
    have e : ∀ x y : ByteArray,decide (x = y) = decide (y = x) := fun x y => by simp [eq_comm]
    simp only [memS,fourL,List.any_cons,List.any_nil,e _ op,c1,c2,c3,c4,decide_false,Bool.or_false]
   rw [k0,hm] at hks
   cases hx : X with
   | none => rw [hx] at hks; cases hks
   | some x => exact ints_fn (hX.symm.trans hx) a.num b.num
  ·rcases binC op a b with ⟨k,n⟩ | e
   ·simp -implicitDefEqProofs (maxSteps := 99999999) (disch := first | omega | (simp only [AHeap.set_length,killO_length,List.length_cons,List.length_nil]; first | done | omega)) only [vu,opTup,nvA_eq,va,vg,vs,vw,Nat.reduceMul,ite_true,ite_false,eq_self,forall_const,implies_true,Nat.reduceAdd,Nat.reduceSub,Nat.reduceLT,Nat.reduceLeDiff,↓reduceIte,reduceCtorEq,Int.reduceEq,Int.reduceLT,Int.reduceLE,Int.reduceGT,Int.reduceGE,Int.reduceAdd,Int.reduceSub,Int.reduceNeg,Int.reduceToNat,Nat.reduceBEq,Nat.reduceEqDiff]
    exact over_op k n 0 (.cons (.cons (.cons (.cons (.cons (.cons .refl))))))
   ·simp -implicitDefEqProofs (maxSteps := 99999999) (disch := first | omega | (simp only [AHeap.set_length,killO_length,List.length_cons,List.length_nil]; first | done | omega)) only [vu,opTup,nvA_eq,va,vg,vs,vw,Nat.reduceMul,ite_true,ite_false,eq_self,forall_const,implies_true,Nat.reduceAdd,Nat.reduceSub,Nat.reduceLT,Nat.reduceLeDiff,↓reduceIte,reduceCtorEq,Int.reduceEq,Int.reduceLT,Int.reduceLE,Int.reduceGT,Int.reduceGE,Int.reduceAdd,Int.reduceSub,Int.reduceNeg,Int.reduceToNat,Nat.reduceBEq,Nat.reduceEqDiff]
    exact over_op 0 0 e (.cons (.cons (.cons (.cons (.cons (.cons .refl))))))
 cases hi : X.isSome
 ·cases hm : memS fourL op
  ·have k0 : memS knownL op = false := by rw [hks,hi,hm]; rfl
   rw [hm] at hcs
   simp -implicitDefEqProofs (maxSteps := 99999999) (disch := first | omega | (simp only [AHeap.set_length,killO_length,List.length_cons,List.length_nil]; first | done | omega)) only [vu,hi,va,vg,vs,vw,Nat.reduceMul,ite_true,ite_false,eq_self,forall_const,implies_true,Nat.reduceAdd,Nat.reduceSub,Nat.reduceLT,Nat.reduceLeDiff,↓reduceIte,reduceCtorEq,Int.reduceEq,Int.reduceLT,Int.reduceLE,Int.reduceGT,Int.reduceGE,Int.reduceAdd,Int.reduceSub,Int.reduceNeg,Int.reduceToNat,Nat.reduceBEq,Nat.reduceEqDiff]
   refine callR_ret (hcs _) ?_
   simp -implicitDefEqProofs (maxSteps := 99999999) (disch := first | omega | (simp only [AHeap.set_length,killO_length,List.length_cons,List.length_nil]; first | done | omega)) only [vu,va,vg,vs,vw,Nat.reduceMul,ite_true,ite_false,eq_self,forall_const,implies_true,Nat.reduceAdd,Nat.reduceSub,Nat.reduceLT,Nat.reduceLeDiff,↓reduceIte,reduceCtorEq,Int.reduceEq,Int.reduceLT,Int.reduceLE,Int.reduceGT,Int.reduceGE,Int.reduceAdd,Int.reduceSub,Int.reduceNeg,Int.reduceToNat,Nat.reduceBEq,Nat.reduceEqDiff]
   rw [show binaryR op a b = .inr 2 by simp [binaryR,k0]]
   exact over_op 0 0 2 (.cons (.cons (.cons (.cons (.cons (.cons .refl))))))
  ·have k0 : memS knownL op = true := by rw [hks,hi,hm]; rfl
   rw [hm] at hcs
   simp -implicitDefEqProofs (maxSteps := 99999999) (disch := first | omega | (simp only [AHeap.set_length,killO_length,List.length_cons,List.length_nil]; first | done | omega)) only [vu,hi,va,vg,vs,vw,Nat.reduceMul,ite_true,ite_false,eq_self,forall_const,implies_true,Nat.reduceAdd,Nat.reduceSub,Nat.reduceLT,Nat.reduceLeDiff,↓reduceIte,reduceCtorEq,Int.reduceEq,Int.reduceLT,Int.reduceLE,Int.reduceGT,Int.reduceGE,Int.reduceAdd,Int.reduceSub,Int.reduceNeg,Int.reduceToNat,Nat.reduceBEq,Nat.reduceEqDiff]
   refine callR_ret (hcs _) ?_
   simp -implicitDefEqProofs (maxSteps := 99999999) (disch := first | omega | (simp only [AHeap.set_length,killO_length,List.length_cons,List.length_nil]; first | done | omega)) only [vu,va,vg,vs,vw,Nat.reduceMul,ite_true,ite_false,eq_self,forall_const,implies_true,Nat.reduceAdd,Nat.reduceSub,Nat.reduceLT,Nat.reduceLeDiff,↓reduceIte,reduceCtorEq,Int.reduceEq,Int.reduceLT,Int.reduceLE,Int.reduceGT,Int.reduceGE,Int.reduceAdd,Int.reduceSub,Int.reduceNeg,Int.reduceToNat,Nat.reduceBEq,Nat.reduceEqDiff]
   cases h1 : rightV a
   ·rw [h1] at hra
    refine callR_ret (hra _) ?_
    simp -implicitDefEqProofs (maxSteps := 99999999) (disch := first | omega | (simp only [AHeap.set_length,killO_length,List.length_cons,List.length_nil]; first | done | omega)) only [vu,va,vg,vs,vw,Nat.reduceMul,ite_true,ite_false,eq_self,forall_const,implies_true,Nat.reduceAdd,Nat.reduceSub,Nat.reduceLT,Nat.reduceLeDiff,↓reduceIte,reduceCtorEq,Int.reduceEq,Int.reduceLT,Int.reduceLE,Int.reduceGT,Int.reduceGE,Int.reduceAdd,Int.reduceSub,Int.reduceNeg,Int.reduceToNat,Nat.reduceBEq,Nat.reduceEqDiff]
    rw [show binaryR op a b = .inr 2 by simp [binaryR,h1]]
    exact over_op 0 0 2 (.cons (.cons (.cons (.cons (.cons (.cons .refl))))))
   rw [h1] at hra
   refine callR_ret (hra _) ?_
   simp -implicitDefEqProofs (maxSteps := 99999999) (disch := first | omega | (simp only [AHeap.set_length,killO_length,List.length_cons,List.length_nil]; first | done | omega)) only [vu,va,vg,vs,vw,Nat.reduceMul,ite_true,ite_false,eq_self,forall_const,implies_true,Nat.reduceAdd,Nat.reduceSub,Nat.reduceLT,Nat.reduceLeDiff,↓reduceIte,reduceCtorEq,Int.reduceEq,Int.reduceLT,Int.reduceLE,Int.reduceGT,Int.reduceGE,Int.reduceAdd,Int.reduceSub,Int.reduceNeg,Int.reduceToNat,Nat.reduceBEq,Nat.reduceEqDiff]
   cases h2 : rightV b
   ·rw [h2] at hrb
    refine callR_ret (hrb _) ?_
    simp -implicitDefEqProofs (maxSteps := 99999999) (disch := first | omega | (simp only [AHeap.set_length,killO_length,List.length_cons,List.length_nil]; first | done | omega)) only [vu,va,vg,vs,vw,Nat.reduceMul,ite_true,ite_false,eq_self,forall_const,implies_true,Nat.reduceAdd,Nat.reduceSub,Nat.reduceLT,Nat.reduceLeDiff,↓reduceIte,reduceCtorEq,Int.reduceEq,Int.reduceLT,Int.reduceLE,Int.reduceGT,Int.reduceGE,Int.reduceAdd,Int.reduceSub,Int.reduceNeg,Int.reduceToNat,Nat.reduceBEq,Nat.reduceEqDiff]
    rw [show binaryR op a b = .inr 2 by simp [binaryR,h2]]
    exact over_op 0 0 2 (.cons (.cons (.cons (.cons (.cons (.cons .refl))))))
   rw [h2] at hrb
   refine callR_ret (hrb _) ?_
   simp -implicitDefEqProofs (maxSteps := 99999999) (disch := first | omega | (simp only [AHeap.set_length,killO_length,List.length_cons,List.length_nil]; first | done | omega)) only [vu,va,vg,vs,vw,Nat.reduceMul,ite_true,ite_false,eq_self,forall_const,implies_true,Nat.reduceAdd,Nat.reduceSub,Nat.reduceLT,Nat.reduceLeDiff,↓reduceIte,reduceCtorEq,Int.reduceEq,Int.reduceLT,Int.reduceLE,Int.reduceGT,Int.reduceGE,Int.reduceAdd,Int.reduceSub,Int.reduceNeg,Int.reduceToNat,Nat.reduceBEq,Nat.reduceEqDiff]
   exact tail h1 h2 k0 _ (by simp [Fr])
 ·have k0 : memS knownL op = true := by rw [hks,hi]; simp
  simp -implicitDefEqProofs (maxSteps := 99999999) (disch := first | omega | (simp only [AHeap.set_length,killO_length,List.length_cons,List.length_nil]; first | done | omega)) only [vu,hi,va,vg,vs,vw,Nat.reduceMul,ite_true,ite_false,eq_self,forall_const,implies_true,Nat.reduceAdd,Nat.reduceSub,Nat.reduceLT,Nat.reduceLeDiff,↓reduceIte,reduceCtorEq,Int.reduceEq,Int.reduceLT,Int.reduceLE,Int.reduceGT,Int.reduceGE,Int.reduceAdd,Int.reduceSub,Int.reduceNeg,Int.reduceToNat,Nat.reduceBEq,Nat.reduceEqDiff]
  cases h1 : rightV a
  ·rw [h1] at hra
   refine callR_ret (hra _) ?_
   simp -implicitDefEqProofs (maxSteps := 99999999) (disch := first | omega | (simp only [AHeap.set_length,killO_length,List.length_cons,List.length_nil]; first | done | omega)) only [vu,va,vg,vs,vw,Nat.reduceMul,ite_true,ite_false,eq_self,forall_const,implies_true,Nat.reduceAdd,Nat.reduceSub,Nat.reduceLT,Nat.reduceLeDiff,↓reduceIte,reduceCtorEq,Int.reduceEq,Int.reduceLT,Int.reduceLE,Int.reduceGT,Int.reduceGE,Int.reduceAdd,Int.reduceSub,Int.reduceNeg,Int.reduceToNat,Nat.reduceBEq,Nat.reduceEqDiff]
   rw [show binaryR op a b = .inr 2 by simp [binaryR,h1]]
   exact over_op 0 0 2 (.cons (.cons (.cons (.cons (.cons (.cons .refl))))))
  rw [h1] at hra
  refine callR_ret (hra _) ?_
  simp -implicitDefEqProofs (maxSteps := 99999999) (disch := first | omega | (simp only [AHeap.set_length,killO_length,List.length_cons,List.length_nil]; first | done | omega)) only [vu,va,vg,vs,vw,Nat.reduceMul,ite_true,ite_false,eq_self,forall_const,implies_true,Nat.reduceAdd,Nat.reduceSub,Nat.reduceLT,Nat.reduceLeDiff,↓reduceIte,reduceCtorEq,Int.reduceEq,Int.reduceLT,Int.reduceLE,Int.reduceGT,Int.reduceGE,Int.reduceAdd,Int.reduceSub,Int.reduceNeg,Int.reduceToNat,Nat.reduceBEq,Nat.reduceEqDiff]
  cases h2 : rightV b
  ·rw [h2] at hrb
   refine callR_ret (hrb _) ?_
   simp -implicitDefEqProofs (maxSteps := 99999999) (disch := first | omega | (simp only [AHeap.set_length,killO_length,List.length_cons,List.length_nil]; first | done | omega)) only [vu,va,vg,vs,vw,Nat.reduceMul,ite_true,ite_false,eq_self,forall_const,implies_true,Nat.reduceAdd,Nat.reduceSub,Nat.reduceLT,Nat.reduceLeDiff,↓reduceIte,reduceCtorEq,Int.reduceEq,Int.reduceLT,Int.reduceLE,Int.reduceGT,Int.reduceGE,Int.reduceAdd,Int.reduceSub,Int.reduceNeg,Int.reduceToNat,Nat.reduceBEq,Nat.reduceEqDiff]
   rw [show binaryR op a b = .inr 2 by simp [binaryR,h2]]
   exact over_op 0 0 2 (.cons (.cons (.cons (.cons (.cons (.cons .refl))))))
  rw [h2] at hrb
  refine callR_ret (hrb _) ?_
  simp -implicitDefEqProofs (maxSteps := 99999999) (disch := first | omega | (simp only [AHeap.set_length,killO_length,List.length_cons,List.length_nil]; first | done | omega)) only [vu,va,vg,vs,vw,Nat.reduceMul,ite_true,ite_false,eq_self,forall_const,implies_true,Nat.reduceAdd,Nat.reduceSub,Nat.reduceLT,Nat.reduceLeDiff,↓reduceIte,reduceCtorEq,Int.reduceEq,Int.reduceLT,Int.reduceLE,Int.reduceGT,Int.reduceGE,Int.reduceAdd,Int.reduceSub,Int.reduceNeg,Int.reduceToNat,Nat.reduceBEq,Nat.reduceEqDiff]
  exact tail h1 h2 k0 _ (by simp [Fr])
end Go.Proofs.YtpnnpooeheiedaaDoor
