/- Values: the text of the chapter's three values. -/
import Derived.Test.YtpnnpooeheiedaaDoorS195
import Derived.Test.YtpnnpooeheiedaaDoorVE
namespace Go.Proofs.YtpnnpooeheiedaaDoor
open Go.RowKit
set_option maxRecDepth 100000
set_option linter.unusedVariables false
set_option linter.unusedSimpArgs false
def tAll : ByteArray := ⟨#[51,32,116,114,117,101,32,91,49,32,50,93]⟩
set_option maxHeartbeats 4000000 in
theorem textAll_d (H : AHeap) : D Tryd.prog 15 [.lst 3 [nvA 1 3,nvA 2 1,.agg [.sc (.int .u8 3),.sc (.int .i64 0),.lst 1 [.sc (.int .i64 1),.sc (.int .i64 2)] (some [])]] (some [])] H (.ret (.sc (.string tAll))) H := by
 refine D_of_DK (Nat.le_refl _) (dk15 (E_of_ES ?_))
 have t1 := text3_d
 have t2 := textTrue_d
 have t3' := textRow_d
 rw [nvA_eq] at t1 t2
 rw [vlA_eq,show lng [1,2] = [.sc (.int .i64 1),.sc (.int .i64 2)] from rfl] at t3'
 dsimp only at t3'
 have ej : joinT [t3,tTrue,tRow] ⟨#[32]⟩ = tAll := by kernel_rfl
 have fj := joinT_d [t3,tTrue,tRow] ⟨#[32]⟩ (by simp) (by rw [ej]; decide) []
 rw [ej] at fj
 simp only [ic15,ux]
 refine ES_seq_gen fun L hL => ?_
 simp -implicitDefEqProofs (maxSteps := 99999999) (disch := first | omega | (simp only [AHeap.set_length,killO_length,List.length_cons,List.length_nil]; first | done | omega)) only [vu,nvA_eq,va,vg,vs,vw,Nat.reduceMul,ite_true,ite_false,eq_self,forall_const,implies_true,Nat.reduceAdd,Nat.reduceSub,Nat.reduceLT,Nat.reduceLeDiff,↓reduceIte,reduceCtorEq,Int.reduceEq,Int.reduceLT,Int.reduceLE,Int.reduceGT,Int.reduceGE,Int.reduceAdd,Int.reduceSub,Int.reduceNeg,Int.reduceToNat,Nat.reduceBEq,Nat.reduceEqDiff]
 refine hL _ _ ?_
 clear hL
 refine ES_seq_gen fun L hL => ?_
 simp -implicitDefEqProofs (maxSteps := 99999999) (disch := first | omega | (simp only [AHeap.set_length,killO_length,List.length_cons,List.length_nil]; first | done | omega)) only [vu,va,vg,vs,vw,Nat.reduceMul,ite_true,ite_false,eq_self,forall_const,implies_true,Nat.reduceAdd,Nat.reduceSub,Nat.reduceLT,Nat.reduceLeDiff,↓reduceIte,reduceCtorEq,Int.reduceEq,Int.reduceLT,Int.reduceLE,Int.reduceGT,Int.reduceGE,Int.reduceAdd,Int.reduceSub,Int.reduceNeg,Int.reduceToNat,Nat.reduceBEq,Nat.reduceEqDiff]
 refine hL _ _ ?_
 clear hL
 refine ES_seq_gen fun L hL => ?_
 simp -implicitDefEqProofs (maxSteps := 99999999) (disch := first | omega | (simp only [AHeap.set_length,killO_length,List.length_cons,List.length_nil]; first | done | omega)) only [vu,va,vg,vs,vw,Nat.reduceMul,ite_true,ite_false,eq_self,forall_const,implies_true,Nat.reduceAdd,Nat.reduceSub,Nat.reduceLT,Nat.reduceLeDiff,↓reduceIte,reduceCtorEq,Int.reduceEq,Int.reduceLT,Int.reduceLE,Int.reduceGT,Int.reduceGE,Int.reduceAdd,Int.reduceSub,Int.reduceNeg,Int.reduceToNat,Nat.reduceBEq,Nat.reduceEqDiff]
 refine ES_unroll (.s (.s (.s (.s .o)))) (Lp_next fun L3 hL3 => ?_)
 simp -implicitDefEqProofs (maxSteps := 99999999) (disch := first | omega | (simp only [AHeap.set_length,killO_length,List.length_cons,List.length_nil]; first | done | omega)) only [vu,va,vg,vs,vw,Nat.reduceMul,ite_true,ite_false,eq_self,forall_const,implies_true,Nat.reduceAdd,Nat.reduceSub,Nat.reduceLT,Nat.reduceLeDiff,↓reduceIte,reduceCtorEq,Int.reduceEq,Int.reduceLT,Int.reduceLE,Int.reduceGT,Int.reduceGE,Int.reduceAdd,Int.reduceSub,Int.reduceNeg,Int.reduceToNat,Nat.reduceBEq,Nat.reduceEqDiff]
 refine callR_ret (t1 _) ?_
 simp -implicitDefEqProofs (maxSteps := 99999999) (disch := first | omega | (simp only [AHeap.set_length,killO_length,List.length_cons,List.length_nil]; first | done | omega)) only [vu,va,vg,vs,vw,Nat.reduceMul,ite_true,ite_false,eq_self,forall_const,implies_true,Nat.reduceAdd,Nat.reduceSub,Nat.reduceLT,Nat.reduceLeDiff,↓reduceIte,reduceCtorEq,Int.reduceEq,Int.reduceLT,Int.reduceLE,Int.reduceGT,Int.reduceGE,Int.reduceAdd,Int.reduceSub,Int.reduceNeg,Int.reduceToNat,Nat.reduceBEq,Nat.reduceEqDiff]
 refine hL3 _ _ (Lp_next fun L4 hL4 => ?_)
 simp -implicitDefEqProofs (maxSteps := 99999999) (disch := first | omega | (simp only [AHeap.set_length,killO_length,List.length_cons,List.length_nil]; first | done | omega)) only [vu,va,vg,vs,vw,Nat.reduceMul,ite_true,ite_false,eq_self,forall_const,implies_true,Nat.reduceAdd,Nat.reduceSub,Nat.reduceLT,Nat.reduceLeDiff,↓reduceIte,reduceCtorEq,Int.reduceEq,Int.reduceLT,Int.reduceLE,Int.reduceGT,Int.reduceGE,Int.reduceAdd,Int.reduceSub,Int.reduceNeg,Int.reduceToNat,Nat.reduceBEq,Nat.reduceEqDiff]
 refine callR_ret (t2 _) ?_
 simp -implicitDefEqProofs (maxSteps := 99999999) (disch := first | omega | (simp only [AHeap.set_length,killO_length,List.length_cons,List.length_nil]; first | done | omega)) only [vu,va,vg,vs,vw,Nat.reduceMul,ite_true,ite_false,eq_self,forall_const,implies_true,Nat.reduceAdd,Nat.reduceSub,Nat.reduceLT,Nat.reduceLeDiff,↓reduceIte,reduceCtorEq,Int.reduceEq,Int.reduceLT,Int.reduceLE,Int.reduceGT,Int.reduceGE,Int.reduceAdd,Int.reduceSub,Int.reduceNeg,Int.reduceToNat,Nat.reduceBEq,Nat.reduceEqDiff]
 refine hL4 _ _ (Lp_next fun L5 hL5 => ?_)
 simp -implicitDefEqProofs (maxSteps := 99999999) (disch := first | omega | (simp only [AHeap.set_length,killO_length,List.length_cons,List.length_nil]; first | done | omega)) only [vu,va,vg,vs,vw,Nat.reduceMul,ite_true,ite_false,eq_self,forall_const,implies_true,Nat.reduceAdd,Nat.reduceSub,Nat.reduceLT,Nat.reduceLeDiff,↓reduceIte,reduceCtorEq,Int.reduceEq,Int.reduceLT,Int.reduceLE,Int.reduceGT,Int.reduceGE,Int.reduceAdd,Int.reduceSub,Int.reduceNeg,Int.reduceToNat,Nat.reduceBEq,Nat.reduceEqDiff]
 refine callR_ret (t3' _) ?_
 simp -implicitDefEqProofs (maxSteps := 99999999) (disch := first | omega | (simp only [AHeap.set_length,killO_length,List.length_cons,List.length_nil]; first | done | omega)) only [vu,va,vg,vs,vw,Nat.reduceMul,ite_true,ite_false,eq_self,forall_const,implies_true,Nat.reduceAdd,Nat.reduceSub,Nat.reduceLT,Nat.reduceLeDiff,↓reduceIte,reduceCtorEq,Int.reduceEq,Int.reduceLT,Int.reduceLE,Int.reduceGT,Int.reduceGE,Int.reduceAdd,Int.reduceSub,Int.reduceNeg,Int.reduceToNat,Nat.reduceBEq,Nat.reduceEqDiff]
 refine hL5 _ _ (Lp_next fun L6 hL6 => ?_)
 simp -implicitDefEqProofs (maxSteps := 99999999) (disch := first | omega | (simp only [AHeap.set_length,killO_length,List.length_cons,List.length_nil]; first | done | omega)) only [vu,va,vg,vs,vw,Nat.reduceMul,ite_true,ite_false,eq_self,forall_const,implies_true,Nat.reduceAdd,Nat.reduceSub,Nat.reduceLT,Nat.reduceLeDiff,↓reduceIte,reduceCtorEq,Int.reduceEq,Int.reduceLT,Int.reduceLE,Int.reduceGT,Int.reduceGE,Int.reduceAdd,Int.reduceSub,Int.reduceNeg,Int.reduceToNat,Nat.reduceBEq,Nat.reduceEqDiff]
 refine hL _ _ ?_
 clear hL
 simp -implicitDefEqProofs (maxSteps := 99999999) (disch := first | omega | (simp only [AHeap.set_length,killO_length,List.length_cons,List.length_nil]; first | done | omega)) only [vu,va,vg,vs,vw,Nat.reduceMul,ite_true,ite_false,eq_self,forall_const,implies_true,Nat.reduceAdd,Nat.reduceSub,Nat.reduceLT,Nat.reduceLeDiff,↓reduceIte,reduceCtorEq,Int.reduceEq,Int.reduceLT,Int.reduceLE,Int.reduceGT,Int.reduceGE,Int.reduceAdd,Int.reduceSub,Int.reduceNeg,Int.reduceToNat,Nat.reduceBEq,Nat.reduceEqDiff]
 refine callR_ret (D_view (.cons (.vec (blk := ⟨1,strs [t3,tTrue,tRow],false,9⟩) (by simp -implicitDefEqProofs (maxSteps := 99999999) (disch := first | omega | (simp only [AHeap.set_length,killO_length,List.length_cons,List.length_nil]; first | done | omega)) only [va,vg,vs,vw,Nat.reduceMul,ite_true,ite_false,eq_self,forall_const,implies_true,Nat.reduceAdd,Nat.reduceSub,Nat.reduceLT,Nat.reduceLeDiff,↓reduceIte,reduceCtorEq,Int.reduceEq,Int.reduceLT,Int.reduceLE,Int.reduceGT,Int.reduceGE,Int.reduceAdd,Int.reduceSub,Int.reduceNeg,Int.reduceToNat,Nat.reduceBEq,Nat.reduceEqDiff]; rfl) rfl (by decide) (.cons .sc (.cons .sc (.cons .sc .nil)))) (.cons .sc .nil)) .sc fj) ?_
 simp -implicitDefEqProofs (maxSteps := 99999999) (disch := first | omega | (simp only [AHeap.set_length,killO_length,List.length_cons,List.length_nil]; first | done | omega)) only [vu,va,vg,vs,vw,Nat.reduceMul,ite_true,ite_false,eq_self,forall_const,implies_true,Nat.reduceAdd,Nat.reduceSub,Nat.reduceLT,Nat.reduceLeDiff,↓reduceIte,reduceCtorEq,Int.reduceEq,Int.reduceLT,Int.reduceLE,Int.reduceGT,Int.reduceGE,Int.reduceAdd,Int.reduceSub,Int.reduceNeg,Int.reduceToNat,Nat.reduceBEq,Nat.reduceEqDiff]
 exact weak_over (.cons (.cons (.cons (.cons (.cons (.cons .refl)))))) (.same trivial)
theorem whole_d (n : Int) (H : AHeap) : D Tryd.prog 18 [.sc (.int .i64 n)] H (.ret (nvA 1 n)) H := by
 refine D_of_DK (Nat.le_refl _) (dk18 (E_of_ES ?_))
 simp -implicitDefEqProofs (maxSteps := 99999999) (disch := first | omega | (simp only [AHeap.set_length,killO_length,List.length_cons,List.length_nil]; first | done | omega)) only [vu,ic18,va,vg,vs,vw,Nat.reduceMul,ite_true,ite_false,eq_self,forall_const,implies_true,Nat.reduceAdd,Nat.reduceSub,Nat.reduceLT,Nat.reduceLeDiff,↓reduceIte,reduceCtorEq,Int.reduceEq,Int.reduceLT,Int.reduceLE,Int.reduceGT,Int.reduceGE,Int.reduceAdd,Int.reduceSub,Int.reduceNeg,Int.reduceToNat,Nat.reduceBEq,Nat.reduceEqDiff]
 exact over_n (.cons .refl)
theorem vtruthL_d (n : Int) (H : AHeap) : D Tryd.prog 19 [.sc (.int .i64 n)] H (.ret (nvA 2 n)) H := by
 refine D_of_DK (Nat.le_refl _) (dk19 (E_of_ES ?_))
 simp -implicitDefEqProofs (maxSteps := 99999999) (disch := first | omega | (simp only [AHeap.set_length,killO_length,List.length_cons,List.length_nil]; first | done | omega)) only [vu,ic19,va,vg,vs,vw,Nat.reduceMul,ite_true,ite_false,eq_self,forall_const,implies_true,Nat.reduceAdd,Nat.reduceSub,Nat.reduceLT,Nat.reduceLeDiff,↓reduceIte,reduceCtorEq,Int.reduceEq,Int.reduceLT,Int.reduceLE,Int.reduceGT,Int.reduceGE,Int.reduceAdd,Int.reduceSub,Int.reduceNeg,Int.reduceToNat,Nat.reduceBEq,Nat.reduceEqDiff]
 exact over_n (.cons .refl)
theorem row12_d (H : AHeap) : D Tryd.prog 20 [.lst 1 [.sc (.int .i64 1),.sc (.int .i64 2)] (some [])] H (.ret (.agg [.sc (.int .u8 3),.sc (.int .i64 0),.lst 1 [.sc (.int .i64 1),.sc (.int .i64 2)] (some [])])) H := by
 refine D_of_DK (Nat.le_refl _) (dk20 (E_of_ES ?_))
 simp -implicitDefEqProofs (maxSteps := 99999999) (disch := first | omega | (simp only [AHeap.set_length,killO_length,List.length_cons,List.length_nil]; first | done | omega)) only [vu,ic20,va,vg,vs,vw,Nat.reduceMul,ite_true,ite_false,eq_self,forall_const,implies_true,Nat.reduceAdd,Nat.reduceSub,Nat.reduceLT,Nat.reduceLeDiff,↓reduceIte,reduceCtorEq,Int.reduceEq,Int.reduceLT,Int.reduceLE,Int.reduceGT,Int.reduceGE,Int.reduceAdd,Int.reduceSub,Int.reduceNeg,Int.reduceToNat,Nat.reduceBEq,Nat.reduceEqDiff]
 exact weak_over (.cons .refl) (.same (by simp [AV.ids,AV.idsL,AV.idsM]))
/-- The operators at values without rows. -/
theorem binN_d (op : ByteArray) (k1 n1 k2 n2 : Int) (h1 : I64 n1) (h2 : I64 n2) (H : AHeap) : D Tryd.prog 23 [.sc (.string op),nvA k1 n1,nvA k2 n2] H (.ret (opTup (binaryR op ⟨k1,n1,[]⟩ ⟨k2,n2,[]⟩))) H := by
 have h := binary_d op ⟨k1,n1,[]⟩ ⟨k2,n2,[]⟩ none none h1 h2 (by simp) []
 rw [opTup_eq] at h ⊢
 have g := D_viewO (H := H) (.cons .sc (.cons (nvA_view k1 n1) (.cons (nvA_view k2 n2) .nil))) (by simp [nvA,AV.op,AV.opL]) (fun id k hk => absurd (AHeap.find_lt hk) (by simp)) h
 simpa [nvA,AV.up,AV.upL,AHeap.up] using g
theorem unN_d (op : ByteArray) (k1 n1 : Int) (h1 : I64 n1) (H : AHeap) : D Tryd.prog 22 [.sc (.string op),nvA k1 n1] H (.ret (opTup (unaryR op ⟨k1,n1,[]⟩))) H := by
 have h := unary_d op ⟨k1,n1,[]⟩ none h1 []
 rw [opTup_eq] at h ⊢
 have g := D_viewO (H := H) (.cons .sc (.cons (nvA_view k1 n1) .nil)) (by simp [nvA,AV.op,AV.opL]) (fun id k hk => absurd (AHeap.find_lt hk) (by simp)) h
 simpa [nvA,AV.up,AV.upL,AHeap.up] using g
end Go.Proofs.YtpnnpooeheiedaaDoor
