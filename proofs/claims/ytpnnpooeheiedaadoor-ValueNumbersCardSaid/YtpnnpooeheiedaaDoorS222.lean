/- law11.ValueNumbers: the walk. -/
import Derived.Test.YtpnnpooeheiedaaDoorS221
namespace Go.Proofs.YtpnnpooeheiedaaDoor
open Go.RowKit
set_option maxRecDepth 100000
set_option linter.unusedVariables false
set_option linter.unusedSimpArgs false
theorem nc15 : ((15 : Nat) : Int) = 15 := rfl
theorem nc19 : ((19 : Nat) : Int) = 19 := rfl
theorem nc28 : ((28 : Nat) : Int) = 28 := rfl
theorem v28_length : v28.length = 28 := rfl
theorem els28_ne : els v28 ≠ [] := by simp [els,v28,v15,v13]
theorem v28_row {k : Nat} (h : k < v28.length) : (nthV v28 k).row.length ≤ 100 := by
 have h2 : (v28.all fun v => decide (v.row.length ≤ 100)) = true := by decide +kernel
 exact of_decide_eq_true (List.all_eq_true.1 h2 _ (nthV_mem h))
set_option maxHeartbeats 0 in
theorem valueNumbers_d : D Tryd.prog 5 [] [] (.ret (.sc (.bool true))) [] := by
 refine D_of_DK (Nat.le_refl _) (dk5 (E_of_ES ?_))
 have wh := whole_d
 have tr := vtruthL_d
 have hr := fun (x : AV) (H : AHeap) => rowX_d x H
 simp only [nvA_eq] at wh tr
 simp only [ic5,ux]
 refine ES_seq_gen fun L hL => ?_
 simp -implicitDefEqProofs (maxSteps := 99999999) (disch := first | omega | (simp only [AHeap.set_length,killO_length,List.length_cons,List.length_nil]; first | done | omega)) only [vu,va,vg,vs,vw,Nat.reduceMul,ite_true,ite_false,eq_self,forall_const,implies_true,Nat.reduceAdd,Nat.reduceSub,Nat.reduceLT,Nat.reduceLeDiff,↓reduceIte,reduceCtorEq,Int.reduceEq,Int.reduceLT,Int.reduceLE,Int.reduceGT,Int.reduceGE,Int.reduceAdd,Int.reduceSub,Int.reduceNeg,Int.reduceToNat,Nat.reduceBEq,Nat.reduceEqDiff]
 refine hL _ _ ?_
 clear hL
 refine ES_seq_gen fun L hL => ?_
 simp -implicitDefEqProofs (maxSteps := 99999999) (disch := first | omega | (simp only [AHeap.set_length,killO_length,List.length_cons,List.length_nil]; first | done | omega)) only [vu,va,vg,vs,vw,Nat.reduceMul,ite_true,ite_false,eq_self,forall_const,implies_true,Nat.reduceAdd,Nat.reduceSub,Nat.reduceLT,Nat.reduceLeDiff,↓reduceIte,reduceCtorEq,Int.reduceEq,Int.reduceLT,Int.reduceLE,Int.reduceGT,Int.reduceGE,Int.reduceAdd,Int.reduceSub,Int.reduceNeg,Int.reduceToNat,Nat.reduceBEq,Nat.reduceEqDiff]
 refine hL _ _ ?_
 clear hL
 refine ES_seq_gen fun L hL => ?_
 simp -implicitDefEqProofs (maxSteps := 99999999) (disch := first | omega | (simp only [AHeap.set_length,killO_length,List.length_cons,List.length_nil]; first | done | omega)) only [vu,va,vg,vs,vw,Nat.reduceMul,ite_true,ite_false,eq_self,forall_const,implies_true,Nat.reduceAdd,Nat.reduceSub,Nat.reduceLT,Nat.reduceLeDiff,↓reduceIte,reduceCtorEq,Int.reduceEq,Int.reduceLT,Int.reduceLE,Int.reduceGT,Int.reduceGE,Int.reduceAdd,Int.reduceSub,Int.reduceNeg,Int.reduceToNat,Nat.reduceBEq,Nat.reduceEqDiff]
 refine hL _ _ ?_
 clear hL
 refine ES_seq_gen fun L hL => ?_
 simp -implicitDefEqProofs (maxSteps := 99999999) (disch := first | omega | (simp only [AHeap.set_length,killO_length,List.length_cons,List.length_nil]; first | done | omega)) only [vu,va,vg,vs,vw,Nat.reduceMul,ite_true,ite_false,eq_self,forall_const,implies_true,Nat.reduceAdd,Nat.reduceSub,Nat.reduceLT,Nat.reduceLeDiff,↓reduceIte,reduceCtorEq,Int.reduceEq,Int.reduceLT,Int.reduceLE,Int.reduceGT,Int.reduceGE,Int.reduceAdd,Int.reduceSub,Int.reduceNeg,Int.reduceToNat,Nat.reduceBEq,Nat.reduceEqDiff]
 refine hL _ _ ?_
 clear hL
 refine ES_seq_gen fun L hL => ?_
 simp -implicitDefEqProofs (maxSteps := 99999999) (disch := first | omega | (simp only [AHeap.set_length,killO_length,List.length_cons,List.length_nil]; first | done | omega)) only [vu,va,vg,vs,vw,Nat.reduceMul,ite_true,ite_false,eq_self,forall_const,implies_true,Nat.reduceAdd,Nat.reduceSub,Nat.reduceLT,Nat.reduceLeDiff,↓reduceIte,reduceCtorEq,Int.reduceEq,Int.reduceLT,Int.reduceLE,Int.reduceGT,Int.reduceGE,Int.reduceAdd,Int.reduceSub,Int.reduceNeg,Int.reduceToNat,Nat.reduceBEq,Nat.reduceEqDiff]
 refine ES_loopL (fun ts F => ∃ k io : Nat,k ≤ 15 ∧ (els (v15.take k) ≠ [] → AHeap.find F io = OwnB 3 25 (els (v15.take k))) ∧ Fr [none,some (.lst 1 (strs opsL) (some [])),some (.lst 1 (lng numsL) (some [])),some (OwnV 3 (els (v15.take k)) io),some (.sc (.int .i64 k)),none,none,none,none,none,none,none,none,none,none,none,none,none,none,none,none,none,none,none,none,none,none,none,none,none,none,none,none,none,none,none,none,none,none,none,none,none,none,none,none,none,none,none,none,none,none,none,none,none,none,none,none,none,none,none,none,none,none,none,none,none,none,none,none,none,none,none,none,none,none,none,none,none,none,none,none,none,none,none,none,none,none,none,none,none,none,none,none,none,none,none,none,none,none,none,none,none,none,none,none,none,none,none,none,none,none,none,none,none,none,none,none,none,none,none,none,none] ts) (fun ts _ => 15 - (intV (ts.getD 4 .top)).toNat) ?_ ?_
 ·exact ⟨0,0,Nat.zero_le _,fun h => absurd rfl h,by simp [Fr]; exact ⟨rfl,rfl,rfl⟩⟩
 rintro ts F ⟨k,io,hk,fo,hfr⟩ L2 hL2
 obtain ⟨js,rfl⟩ := hfr.opened
 clear hfr
 have lo : (els (v15.take k)).length = k := by rw [els_length,List.length_take]; show min k 15 = k; omega
 have hln : (lng numsL).length = 15 := rfl
 by_cases h1 : k < 15
 ·have h1' : (k : Int) < 15 := by omega
  obtain ⟨io1,G1,p1,p2,p3,p4,p5,p6⟩ := apAny (k := 3) (ty := 25) (ys := [.agg [.sc (.int .u8 1),.sc (.int .i64 (nthQ numsL k)),.lst 0 [] (some [])]]) fo (by rw [lo]; simp; omega)
  rw [v15_take h1] at p2 p4
  have hg := lng_getN (l := numsL) (k := k) h1
  simp -implicitDefEqProofs (maxSteps := 99999999) (disch := first | omega | (simp only [AHeap.set_length,killO_length,List.length_cons,List.length_nil]; first | done | omega)) only [vu,mk,nc15,h1',hln,hg,va,vg,vs,vw,Nat.reduceMul,ite_true,ite_false,eq_self,forall_const,implies_true,Nat.reduceAdd,Nat.reduceSub,Nat.reduceLT,Nat.reduceLeDiff,↓reduceIte,reduceCtorEq,Int.reduceEq,Int.reduceLT,Int.reduceLE,Int.reduceGT,Int.reduceGE,Int.reduceAdd,Int.reduceSub,Int.reduceNeg,Int.reduceToNat,Nat.reduceBEq,Nat.reduceEqDiff]
  refine ⟨by omega,callR_ret (wh _ _) ?_⟩
  simp -implicitDefEqProofs (maxSteps := 99999999) (disch := first | omega | (simp only [AHeap.set_length,killO_length,List.length_cons,List.length_nil]; first | done | omega)) only [vu,p1,p2,p3,va,vg,vs,vw,Nat.reduceMul,ite_true,ite_false,eq_self,forall_const,implies_true,Nat.reduceAdd,Nat.reduceSub,Nat.reduceLT,Nat.reduceLeDiff,↓reduceIte,reduceCtorEq,Int.reduceEq,Int.reduceLT,Int.reduceLE,Int.reduceGT,Int.reduceGE,Int.reduceAdd,Int.reduceSub,Int.reduceNeg,Int.reduceToNat,Nat.reduceBEq,Nat.reduceEqDiff]
  exact hL2 _ _ ⟨k + 1,io1,by omega,fun h => (p4 h).1,by simp [Fr]⟩ (by simp [mk,intV]; omega)
 have h1' : ¬ (k : Int) < 15 := by omega
 have hk15 : k = 15 := by omega
 subst hk15
 rw [show v15.take 15 = v15 from rfl] at *
 have ids0 : ∀ (H : AHeap) (l : List AV),AV.idsL (· < H.length) l → AV.ids (· < H.length) (.lst 1 l (some [])) := fun H l h => ⟨h,trivial⟩
 simp -implicitDefEqProofs (maxSteps := 99999999) (disch := first | omega | (simp only [AHeap.set_length,killO_length,List.length_cons,List.length_nil]; first | done | omega)) only [vu,mk,nc15,hln,va,vg,vs,vw,Nat.reduceMul,ite_true,ite_false,eq_self,forall_const,implies_true,Nat.reduceAdd,Nat.reduceSub,Nat.reduceLT,Nat.reduceLeDiff,↓reduceIte,reduceCtorEq,Int.reduceEq,Int.reduceLT,Int.reduceLE,Int.reduceGT,Int.reduceGE,Int.reduceAdd,Int.reduceSub,Int.reduceNeg,Int.reduceToNat,Nat.reduceBEq,Nat.reduceEqDiff]
 refine hL _ _ ?_
 clear hL
 refine ES_seq_gen fun L hL => ?_
 simp -implicitDefEqProofs (maxSteps := 99999999) (disch := first | omega | (simp only [AHeap.set_length,killO_length,List.length_cons,List.length_nil]; first | done | omega)) only [vu,va,vg,vs,vw,Nat.reduceMul,ite_true,ite_false,eq_self,forall_const,implies_true,Nat.reduceAdd,Nat.reduceSub,Nat.reduceLT,Nat.reduceLeDiff,↓reduceIte,reduceCtorEq,Int.reduceEq,Int.reduceLT,Int.reduceLE,Int.reduceGT,Int.reduceGE,Int.reduceAdd,Int.reduceSub,Int.reduceNeg,Int.reduceToNat,Nat.reduceBEq,Nat.reduceEqDiff]
 refine callR_ret (tr _ _) ?_
 simp -implicitDefEqProofs (maxSteps := 99999999) (disch := first | omega | (simp only [AHeap.set_length,killO_length,List.length_cons,List.length_nil]; first | done | omega)) only [vu,va,vg,vs,vw,Nat.reduceMul,ite_true,ite_false,eq_self,forall_const,implies_true,Nat.reduceAdd,Nat.reduceSub,Nat.reduceLT,Nat.reduceLeDiff,↓reduceIte,reduceCtorEq,Int.reduceEq,Int.reduceLT,Int.reduceLE,Int.reduceGT,Int.reduceGE,Int.reduceAdd,Int.reduceSub,Int.reduceNeg,Int.reduceToNat,Nat.reduceBEq,Nat.reduceEqDiff]
 refine callR_ret (tr _ _) ?_
 simp -implicitDefEqProofs (maxSteps := 99999999) (disch := first | omega | (simp only [AHeap.set_length,killO_length,List.length_cons,List.length_nil]; first | done | omega)) only [vu,va,vg,vs,vw,Nat.reduceMul,ite_true,ite_false,eq_self,forall_const,implies_true,Nat.reduceAdd,Nat.reduceSub,Nat.reduceLT,Nat.reduceLeDiff,↓reduceIte,reduceCtorEq,Int.reduceEq,Int.reduceLT,Int.reduceLE,Int.reduceGT,Int.reduceGE,Int.reduceAdd,Int.reduceSub,Int.reduceNeg,Int.reduceToNat,Nat.reduceBEq,Nat.reduceEqDiff]
 refine callR_ret (tr _ _) ?_
 simp -implicitDefEqProofs (maxSteps := 99999999) (disch := first | omega | (simp only [AHeap.set_length,killO_length,List.length_cons,List.length_nil]; first | done | omega)) only [vu,va,vg,vs,vw,Nat.reduceMul,ite_true,ite_false,eq_self,forall_const,implies_true,Nat.reduceAdd,Nat.reduceSub,Nat.reduceLT,Nat.reduceLeDiff,↓reduceIte,reduceCtorEq,Int.reduceEq,Int.reduceLT,Int.reduceLE,Int.reduceGT,Int.reduceGE,Int.reduceAdd,Int.reduceSub,Int.reduceNeg,Int.reduceToNat,Nat.reduceBEq,Nat.reduceEqDiff]
 refine callR_ret (tr _ _) ?_
 simp -implicitDefEqProofs (maxSteps := 99999999) (disch := first | omega | (simp only [AHeap.set_length,killO_length,List.length_cons,List.length_nil]; first | done | omega)) only [vu,va,vg,vs,vw,Nat.reduceMul,ite_true,ite_false,eq_self,forall_const,implies_true,Nat.reduceAdd,Nat.reduceSub,Nat.reduceLT,Nat.reduceLeDiff,↓reduceIte,reduceCtorEq,Int.reduceEq,Int.reduceLT,Int.reduceLE,Int.reduceGT,Int.reduceGE,Int.reduceAdd,Int.reduceSub,Int.reduceNeg,Int.reduceToNat,Nat.reduceBEq,Nat.reduceEqDiff]
 refine callR_ret (hr _ _ ⟨rfl,rfl,rfl,rfl⟩ ⟨trivial,trivial⟩) ?_
 simp -implicitDefEqProofs (maxSteps := 99999999) (disch := first | omega | (simp only [AHeap.set_length,killO_length,List.length_cons,List.length_nil]; first | done | omega)) only [vu,va,vg,vs,vw,Nat.reduceMul,ite_true,ite_false,eq_self,forall_const,implies_true,Nat.reduceAdd,Nat.reduceSub,Nat.reduceLT,Nat.reduceLeDiff,↓reduceIte,reduceCtorEq,Int.reduceEq,Int.reduceLT,Int.reduceLE,Int.reduceGT,Int.reduceGE,Int.reduceAdd,Int.reduceSub,Int.reduceNeg,Int.reduceToNat,Nat.reduceBEq,Nat.reduceEqDiff]
 refine callR_ret (hr _ _ ⟨rfl,rfl,rfl,rfl⟩ ⟨⟨trivial,trivial⟩,trivial⟩) ?_
 simp -implicitDefEqProofs (maxSteps := 99999999) (disch := first | omega | (simp only [AHeap.set_length,killO_length,List.length_cons,List.length_nil]; first | done | omega)) only [vu,va,vg,vs,vw,Nat.reduceMul,ite_true,ite_false,eq_self,forall_const,implies_true,Nat.reduceAdd,Nat.reduceSub,Nat.reduceLT,Nat.reduceLeDiff,↓reduceIte,reduceCtorEq,Int.reduceEq,Int.reduceLT,Int.reduceLE,Int.reduceGT,Int.reduceGE,Int.reduceAdd,Int.reduceSub,Int.reduceNeg,Int.reduceToNat,Nat.reduceBEq,Nat.reduceEqDiff]
 refine callR_ret (hr _ _ ⟨rfl,rfl,rfl,rfl⟩ ⟨⟨trivial,trivial,trivial⟩,trivial⟩) ?_
 simp -implicitDefEqProofs (maxSteps := 99999999) (disch := first | omega | (simp only [AHeap.set_length,killO_length,List.length_cons,List.length_nil]; first | done | omega)) only [vu,va,vg,vs,vw,Nat.reduceMul,ite_true,ite_false,eq_self,forall_const,implies_true,Nat.reduceAdd,Nat.reduceSub,Nat.reduceLT,Nat.reduceLeDiff,↓reduceIte,reduceCtorEq,Int.reduceEq,Int.reduceLT,Int.reduceLE,Int.reduceGT,Int.reduceGE,Int.reduceAdd,Int.reduceSub,Int.reduceNeg,Int.reduceToNat,Nat.reduceBEq,Nat.reduceEqDiff]
 refine callR_ret (hr _ _ ⟨rfl,rfl,rfl,rfl⟩ ⟨⟨trivial,trivial,trivial⟩,trivial⟩) ?_
 obtain ⟨io1,G1,p1,p2,p3,p4,p5,p6⟩ := apAny (k := 3) (ty := 25) (ys := els v13) fo (by rw [lo,els_length]; show 15 + 13 ≤ _; omega)
 have e28 : els v15 ++ els v13 = els v28 := by simp [els,v28]
 rw [e28] at p2 p4
 rw [show els v13 = [.agg [.sc (.int .u8 2),.sc (.int .i64 0),.lst 0 [] (some [])],.agg [.sc (.int .u8 2),.sc (.int .i64 1),.lst 0 [] (some [])],.agg [.sc (.int .u8 2),.sc (.int .i64 2),.lst 0 [] (some [])],.agg [.sc (.int .u8 2),.sc (.int .i64 (-1)),.lst 0 [] (some [])],.agg [.sc (.int .u8 3),.sc (.int .i64 0),.lst 0 [] (some [])],.agg [.sc (.int .u8 3),.sc (.int .i64 0),.lst 1 [.sc (.int .i64 0)] (some [])],.agg [.sc (.int .u8 3),.sc (.int .i64 0),.lst 1 [.sc (.int .i64 0),.sc (.int .i64 1)] (some [])],.agg [.sc (.int .u8 3),.sc (.int .i64 0),.lst 1 [.sc (.int .i64 1),.sc (.int .i64 0)] (some [])],.agg [.sc (.int .u8 0),.sc (.int .i64 0),.lst 0 [] (some [])],.agg [.sc (.int .u8 4),.sc (.int .i64 0),.lst 0 [] (some [])],.agg [.sc (.int .u8 1),.sc (.int .i64 0),.lst 1 [.sc (.int .i64 1)] (some [])],.agg [.sc (.int .u8 2),.sc (.int .i64 0),.lst 1 [.sc (.int .i64 1)] (some [])],.agg [.sc (.int .u8 3),.sc (.int .i64 1),.lst 0 [] (some [])]] from rfl] at p1 p2 p3
 simp -implicitDefEqProofs (maxSteps := 99999999) (disch := first | omega | (simp only [AHeap.set_length,killO_length,List.length_cons,List.length_nil]; first | done | omega)) only [vu,p1,p2,p3,va,vg,vs,vw,Nat.reduceMul,ite_true,ite_false,eq_self,forall_const,implies_true,Nat.reduceAdd,Nat.reduceSub,Nat.reduceLT,Nat.reduceLeDiff,↓reduceIte,reduceCtorEq,Int.reduceEq,Int.reduceLT,Int.reduceLE,Int.reduceGT,Int.reduceGE,Int.reduceAdd,Int.reduceSub,Int.reduceNeg,Int.reduceToNat,Nat.reduceBEq,Nat.reduceEqDiff]
 have hG := (p4 els28_ne).1
 rw [OwnB_ne els28_ne] at hG
 rw [OwnV_ne els28_ne,els_length,v28_length]
 have hvw : ∀ b,View (b :: G1) (.vec 3 io1 0 28 none) (.lst 3 (vrow v28) none) := fun b => .vec ((find_past (AHeap.find_lt hG)).trans hG) rfl (by rw [els_length,v28_length]; omega) (by
  rw [List.drop_zero,List.take_of_length_le (by rw [els_length,v28_length]; omega)]
  exact els_view _)
 clear p1 p2 p3 p4 p5 p6 fo lo
 refine hL _ _ ?_
 clear hL
 refine ES_seq_gen fun L hL => ?_
 simp -implicitDefEqProofs (maxSteps := 99999999) (disch := first | omega | (simp only [AHeap.set_length,killO_length,List.length_cons,List.length_nil]; first | done | omega)) only [vu,va,vg,vs,vw,Nat.reduceMul,ite_true,ite_false,eq_self,forall_const,implies_true,Nat.reduceAdd,Nat.reduceSub,Nat.reduceLT,Nat.reduceLeDiff,↓reduceIte,reduceCtorEq,Int.reduceEq,Int.reduceLT,Int.reduceLE,Int.reduceGT,Int.reduceGE,Int.reduceAdd,Int.reduceSub,Int.reduceNeg,Int.reduceToNat,Nat.reduceBEq,Nat.reduceEqDiff]
 have hso : (strs opsL).length = 19 := rfl
 have h28 : (els v28).length = 28 := rfl
 have tel : ∀ (s : ByteArray) (i j : Nat),i < 28 → j < 28 → D Tryd.prog 10 [.sc (.string s),elA (nthV v28 i),elA (nthV v28 j)] G1 (.ret (.sc (.bool true))) G1 := fun s i j hi hj =>
  D_view (.cons .sc (.cons (elA_view _) (.cons (elA_view _) .nil))) .sc (tells_d s _ _ none none (v28_good _ (nthV_mem hi)).1 (v28_good _ (nthV_mem hj)).1 (by have := v28_row (k := i) hi; omega) [])
 refine ES_loopL (fun ts F => ∃ o : Nat,o ≤ 19 ∧ F = G1 ∧ Fr [none,some (.lst 1 (strs opsL) (some [])),none,some (.vec 3 io1 0 28 none),none,some (.sc (.int .i64 o)),none,none,none,none,none,none,none,none,none,none,none,none,none,none,none,none,none,none,none,none,none,none,none,none,none,none,none,none,none,none,none,none,none,none,none,none,none,none,none,none,none,none,none,none,none,none,none,none,none,none,none,none,none,none,none,none,none,none,none,none,none,none,none,none,none,none,none,none,none,none,none,none,none,none,none,none,none,none,none,none,none,none,none,none,none,none,none,none,none,none,none,none,none,none,none,none,none,none,none,none,none,none,none,none,none,none,none,none,none,none,none,none,none,none,none,none] ts) (fun ts _ => 19 - (intV (ts.getD 5 .top)).toNat) ⟨0,by omega,rfl,by simp [Fr]⟩ ?_
 rintro ts F ⟨o,ho,rfl,hfr⟩ L3 hL3
 obtain ⟨js,rfl⟩ := hfr.opened
 clear hfr
 by_cases g1 : o < 19
 ·have g1' : (o : Int) < 19 := by omega
  simp -implicitDefEqProofs (maxSteps := 99999999) (disch := first | omega | (simp only [AHeap.set_length,killO_length,List.length_cons,List.length_nil]; first | done | omega)) only [vu,mk,nc19,g1',hso,va,vg,vs,vw,Nat.reduceMul,ite_true,ite_false,eq_self,forall_const,implies_true,Nat.reduceAdd,Nat.reduceSub,Nat.reduceLT,Nat.reduceLeDiff,↓reduceIte,reduceCtorEq,Int.reduceEq,Int.reduceLT,Int.reduceLE,Int.reduceGT,Int.reduceGE,Int.reduceAdd,Int.reduceSub,Int.reduceNeg,Int.reduceToNat,Nat.reduceBEq,Nat.reduceEqDiff]
  refine ES_loopL (fun ts H => ∃ i : Nat,i ≤ 28 ∧ H = F ∧ Fr [none,some (.lst 1 (strs opsL) (some [])),none,some (.vec 3 io1 0 28 none),none,some (.sc (.int .i64 o)),some (.sc (.int .i64 i)),none,none,none,none,none,none,none,none,none,none,none,none,none,none,none,none,none,none,none,none,none,none,none,none,none,none,none,none,none,none,none,none,none,none,none,none,none,none,none,none,none,none,none,none,none,none,none,none,none,none,none,none,none,none,none,none,none,none,none,none,none,none,none,none,none,none,none,none,none,none,none,none,none,none,none,none,none,none,none,none,none,none,none,none,none,none,none,none,none,none,none,none,none,none,none,none,none,none,none,none,none,none,none,none,none,none,none,none,none,none,none,none,none,none,none] ts) (fun ts _ => 28 - (intV (ts.getD 6 .top)).toNat) ⟨0,by omega,rfl,by simp [Fr]⟩ ?_
  rintro ts H ⟨i,hi,rfl,hfr⟩ L4 hL4
  obtain ⟨js,rfl⟩ := hfr.opened
  clear hfr
  by_cases g2 : i < 28
  ·have g2' : (i : Int) < 28 := by omega
   simp -implicitDefEqProofs (maxSteps := 99999999) (disch := first | omega | (simp only [AHeap.set_length,killO_length,List.length_cons,List.length_nil]; first | done | omega)) only [vu,mk,nc28,g2',va,vg,vs,vw,Nat.reduceMul,ite_true,ite_false,eq_self,forall_const,implies_true,Nat.reduceAdd,Nat.reduceSub,Nat.reduceLT,Nat.reduceLeDiff,↓reduceIte,reduceCtorEq,Int.reduceEq,Int.reduceLT,Int.reduceLE,Int.reduceGT,Int.reduceGE,Int.reduceAdd,Int.reduceSub,Int.reduceNeg,Int.reduceToNat,Nat.reduceBEq,Nat.reduceEqDiff]
   refine ES_loopL (fun ts G => ∃ j : Nat,j ≤ 28 ∧ G = H ∧ Fr [none,some (.lst 1 (strs opsL) (some [])),none,some (.vec 3 io1 0 28 none),none,some (.sc (.int .i64 o)),some (.sc (.int .i64 i)),some (.sc (.int .i64 j)),none,none,none,none,none,none,none,none,none,none,none,none,none,none,none,none,none,none,none,none,none,none,none,none,none,none,none,none,none,none,none,none,none,none,none,none,none,none,none,none,none,none,none,none,none,none,none,none,none,none,none,none,none,none,none,none,none,none,none,none,none,none,none,none,none,none,none,none,none,none,none,none,none,none,none,none,none,none,none,none,none,none,none,none,none,none,none,none,none,none,none,none,none,none,none,none,none,none,none,none,none,none,none,none,none,none,none,none,none,none,none,none,none,none] ts) (fun ts _ => 28 - (intV (ts.getD 7 .top)).toNat) ⟨0,by omega,rfl,by simp [Fr]⟩ ?_
   rintro ts G ⟨j,hj,rfl,hfr⟩ L5 hL5
   obtain ⟨js,rfl⟩ := hfr.opened
   clear hfr
   by_cases g3 : j < 28
   ·have g3' : (j : Int) < 28 := by omega
    have t1 := tel (nthS opsL o) i j g2 g3
    have e1 := els_get (l := v28) g2
    have e2 := els_get (l := v28) g3
    have e3 := strs_get (l := opsL) g1
    unfold elA at t1 e1 e2
    simp -implicitDefEqProofs (maxSteps := 99999999) (disch := first | omega | (simp only [AHeap.set_length,killO_length,List.length_cons,List.length_nil]; first | done | omega)) only [vu,mk,nc28,g2',g3',g1',hso,h28,hG,e1,e2,e3,g1,g2,g3,va,vg,vs,vw,Nat.reduceMul,ite_true,ite_false,eq_self,forall_const,implies_true,Nat.reduceAdd,Nat.reduceSub,Nat.reduceLT,Nat.reduceLeDiff,↓reduceIte,reduceCtorEq,Int.reduceEq,Int.reduceLT,Int.reduceLE,Int.reduceGT,Int.reduceGE,Int.reduceAdd,Int.reduceSub,Int.reduceNeg,Int.reduceToNat,Nat.reduceBEq,Nat.reduceEqDiff]
    refine ⟨⟨by omega,by omega⟩,by omega,by omega,callD_same t1 ?_⟩
    simp -implicitDefEqProofs (maxSteps := 99999999) (disch := first | omega | (simp only [AHeap.set_length,killO_length,List.length_cons,List.length_nil]; first | done | omega)) only [vu,va,vg,vs,vw,Nat.reduceMul,ite_true,ite_false,eq_self,forall_const,implies_true,Nat.reduceAdd,Nat.reduceSub,Nat.reduceLT,Nat.reduceLeDiff,↓reduceIte,reduceCtorEq,Int.reduceEq,Int.reduceLT,Int.reduceLE,Int.reduceGT,Int.reduceGE,Int.reduceAdd,Int.reduceSub,Int.reduceNeg,Int.reduceToNat,Nat.reduceBEq,Nat.reduceEqDiff]
    exact hL5 _ _ ⟨j + 1,by omega,rfl,by simp [Fr]⟩ (by simp [mk,intV]; omega)
   ·have g3' : ¬ (j : Int) < 28 := by omega
    simp -implicitDefEqProofs (maxSteps := 99999999) (disch := first | omega | (simp only [AHeap.set_length,killO_length,List.length_cons,List.length_nil]; first | done | omega)) only [vu,mk,nc28,g3',va,vg,vs,vw,Nat.reduceMul,ite_true,ite_false,eq_self,forall_const,implies_true,Nat.reduceAdd,Nat.reduceSub,Nat.reduceLT,Nat.reduceLeDiff,↓reduceIte,reduceCtorEq,Int.reduceEq,Int.reduceLT,Int.reduceLE,Int.reduceGT,Int.reduceGE,Int.reduceAdd,Int.reduceSub,Int.reduceNeg,Int.reduceToNat,Nat.reduceBEq,Nat.reduceEqDiff]
    exact hL4 _ _ ⟨i + 1,by omega,rfl,by simp [Fr]⟩ (by simp [mk,intV]; omega)
  ·have g2' : ¬ (i : Int) < 28 := by omega
   simp -implicitDefEqProofs (maxSteps := 99999999) (disch := first | omega | (simp only [AHeap.set_length,killO_length,List.length_cons,List.length_nil]; first | done | omega)) only [vu,mk,nc28,g2',va,vg,vs,vw,Nat.reduceMul,ite_true,ite_false,eq_self,forall_const,implies_true,Nat.reduceAdd,Nat.reduceSub,Nat.reduceLT,Nat.reduceLeDiff,↓reduceIte,reduceCtorEq,Int.reduceEq,Int.reduceLT,Int.reduceLE,Int.reduceGT,Int.reduceGE,Int.reduceAdd,Int.reduceSub,Int.reduceNeg,Int.reduceToNat,Nat.reduceBEq,Nat.reduceEqDiff]
   exact hL3 _ _ ⟨o + 1,by omega,rfl,by simp [Fr]⟩ (by simp [mk,intV]; omega)
 have g1' : ¬ (o : Int) < 19 := by omega
 simp -implicitDefEqProofs (maxSteps := 99999999) (disch := first | omega | (simp only [AHeap.set_length,killO_length,List.length_cons,List.length_nil]; first | done | omega)) only [vu,mk,nc19,g1',hso,va,vg,vs,vw,Nat.reduceMul,ite_true,ite_false,eq_self,forall_const,implies_true,Nat.reduceAdd,Nat.reduceSub,Nat.reduceLT,Nat.reduceLeDiff,↓reduceIte,reduceCtorEq,Int.reduceEq,Int.reduceLT,Int.reduceLE,Int.reduceGT,Int.reduceGE,Int.reduceAdd,Int.reduceSub,Int.reduceNeg,Int.reduceToNat,Nat.reduceBEq,Nat.reduceEqDiff]
 refine hL _ _ ?_
 clear hL
 refine ES_seq_gen fun L hL => ?_
 obtain ⟨N,hN⟩ : ∃ N : Nat,N = 1025 := ⟨_,rfl⟩
 rw [show (1025 : Int) = (N : Int) by omega]
 simp -implicitDefEqProofs (maxSteps := 99999999) (disch := first | omega | (simp only [AHeap.set_length,killO_length,List.length_cons,List.length_nil]; first | done | omega)) only [vu,va,vg,vs,vw,Nat.reduceMul,ite_true,ite_false,eq_self,forall_const,implies_true,Nat.reduceAdd,Nat.reduceSub,Nat.reduceLT,Nat.reduceLeDiff,↓reduceIte,reduceCtorEq,Int.reduceEq,Int.reduceLT,Int.reduceLE,Int.reduceGT,Int.reduceGE,Int.reduceAdd,Int.reduceSub,Int.reduceNeg,Int.reduceToNat,Nat.reduceBEq,Nat.reduceEqDiff]
 refine ⟨by omega,?_⟩
 refine hL _ _ ?_
 clear hL
 simp -implicitDefEqProofs (maxSteps := 99999999) (disch := first | omega | (simp only [AHeap.set_length,killO_length,List.length_cons,List.length_nil]; first | done | omega)) only [vu,va,vg,vs,vw,Nat.reduceMul,ite_true,ite_false,eq_self,forall_const,implies_true,Nat.reduceAdd,Nat.reduceSub,Nat.reduceLT,Nat.reduceLeDiff,↓reduceIte,reduceCtorEq,Int.reduceEq,Int.reduceLT,Int.reduceLE,Int.reduceGT,Int.reduceGE,Int.reduceAdd,Int.reduceSub,Int.reduceNeg,Int.reduceToNat,Nat.reduceBEq,Nat.reduceEqDiff]
 have hN1 : 1 < N := by omega
 refine callD_same (D_view (.cons (hvw _) .nil) .sc (valueTexts_d v28 none v28_good (by decide +kernel) [])) ?_
 simp -implicitDefEqProofs (maxSteps := 99999999) (disch := first | omega | (simp only [AHeap.set_length,killO_length,List.length_cons,List.length_nil]; first | done | omega)) only [vu,hN1,va,vg,vs,vw,Nat.reduceMul,ite_true,ite_false,eq_self,forall_const,implies_true,Nat.reduceAdd,Nat.reduceSub,Nat.reduceLT,Nat.reduceLeDiff,↓reduceIte,reduceCtorEq,Int.reduceEq,Int.reduceLT,Int.reduceLE,Int.reduceGT,Int.reduceGE,Int.reduceAdd,Int.reduceSub,Int.reduceNeg,Int.reduceToNat,Nat.reduceBEq,Nat.reduceEqDiff]
 refine callD_same (D_view (.cons .nil .nil) .sc (valueTexts_d [] none (by simp) (by decide) [])) ?_
 simp -implicitDefEqProofs (maxSteps := 99999999) (disch := first | omega | (simp only [AHeap.set_length,killO_length,List.length_cons,List.length_nil]; first | done | omega)) only [vu,hN1,va,vg,vs,vw,Nat.reduceMul,ite_true,ite_false,eq_self,forall_const,implies_true,Nat.reduceAdd,Nat.reduceSub,Nat.reduceLT,Nat.reduceLeDiff,↓reduceIte,reduceCtorEq,Int.reduceEq,Int.reduceLT,Int.reduceLE,Int.reduceGT,Int.reduceGE,Int.reduceAdd,Int.reduceSub,Int.reduceNeg,Int.reduceToNat,Nat.reduceBEq,Nat.reduceEqDiff]
 have i0 : I64 0 := by unfold I64; omega
 obtain ⟨B,hB⟩ : ∃ B : Option ABlk,B = some ⟨1,List.replicate N (.sc (.int .i64 0)),true,2⟩ := ⟨_,rfl⟩
 have zl : ∀ n : Nat,List.replicate n (AV.sc (.int .i64 0)) = lng (List.replicate n 0) := fun n => by simp [lng]
 have vr1 : View (B :: F) (.vec 1 F.length 1 (N - 1) (some (N - 1))) (.lst 1 (lng (List.replicate (N - 1) 0)) none) := .vec ((find_top rfl).trans hB) rfl (by simp; omega) (by
  rw [zl]
  simp only [lng,List.map_replicate,List.drop_replicate,List.take_replicate,Nat.min_self]
  exact ViewL.scs (l := List.replicate (N - 1) (0 : Int)) |> fun h => by simpa using h)
 have vr0 : View (B :: F) (.vec 1 F.length 0 N (some N)) (.lst 1 (lng (List.replicate N 0)) none) := .vec ((find_top rfl).trans hB) rfl (by simp) (by
  rw [zl]
  simp only [lng,List.map_replicate,List.drop_replicate,List.take_replicate,Nat.min_self,Nat.sub_zero]
  exact ViewL.scs (l := List.replicate N (0 : Int)) |> fun h => by simpa using h)
 have r1 : rightV ⟨3,0,List.replicate (N - 1) 0⟩ = true := by simp [rightV]; omega
 have r0 : rightV ⟨3,0,List.replicate N 0⟩ = false := by simp [rightV]; omega
 have w1 := vright_d ⟨3,0,List.replicate (N - 1) 0⟩ none i0 []
 have w0 := vright_d ⟨3,0,List.replicate N 0⟩ none i0 []
 have z0 : ∀ n : Nat,Vl.good ⟨3,0,List.replicate n 0⟩ := fun n => ⟨i0,⟨by show (0 : Int) ≤ 3; omega,by show (3 : Int) ≤ 255; omega⟩,fun x hx => by rw [(List.mem_replicate.1 hx).2]; exact i0⟩
 have w2 := vText_d [⟨3,0,List.replicate N 0⟩] none (by simpa using z0 N) (by simp only [szV,List.length_replicate]; omega) []
 rw [show textL [(⟨3,0,List.replicate N 0⟩ : Vl)] = oneT ⟨3,0,List.replicate N 0⟩ from jn_one _,show oneT ⟨3,0,List.replicate N 0⟩ = ⟨#[63]⟩ by unfold oneT; rw [r0]; rfl] at w2
 rw [r1] at w1
 rw [r0] at w0
 have w3 := tells_d ⟨#[61,61]⟩ ⟨3,0,List.replicate (N - 1) 0⟩ ⟨3,0,List.replicate (N - 1) 0⟩ none none i0 i0 (by simp; omega) []
 have w4 := tells_d ⟨#[61,61]⟩ ⟨3,0,List.replicate N 0⟩ ⟨3,0,[1]⟩ none none i0 i0 (by simp; omega) []
 simp only [vlA_eq,vrow,List.map_cons,List.map_nil] at w1 w0 w2 w3 w4
 rw [← hB]
 have idv : ∀ off n c,(AV.vec 1 F.length off n c).ids (· < (B :: F).length) := fun off n c => by show F.length < (B :: F).length; simp
 refine ⟨⟨rfl,by omega,by omega⟩,callD_same (hr _ _ ⟨rfl,rfl,rfl,rfl⟩ (idv _ _ _)) ?_⟩
 simp -implicitDefEqProofs (maxSteps := 99999999) (disch := first | omega | (simp only [AHeap.set_length,killO_length,List.length_cons,List.length_nil]; first | done | omega)) only [vu,hN1,va,vg,vs,vw,Nat.reduceMul,ite_true,ite_false,eq_self,forall_const,implies_true,Nat.reduceAdd,Nat.reduceSub,Nat.reduceLT,Nat.reduceLeDiff,↓reduceIte,reduceCtorEq,Int.reduceEq,Int.reduceLT,Int.reduceLE,Int.reduceGT,Int.reduceGE,Int.reduceAdd,Int.reduceSub,Int.reduceNeg,Int.reduceToNat,Nat.reduceBEq,Nat.reduceEqDiff]
 refine callD_same (D_view (.cons (.agg (.cons .sc (.cons .sc (.cons vr1 .nil)))) .nil) .sc w1) ?_
 simp -implicitDefEqProofs (maxSteps := 99999999) (disch := first | omega | (simp only [AHeap.set_length,killO_length,List.length_cons,List.length_nil]; first | done | omega)) only [vu,hN1,va,vg,vs,vw,Nat.reduceMul,ite_true,ite_false,eq_self,forall_const,implies_true,Nat.reduceAdd,Nat.reduceSub,Nat.reduceLT,Nat.reduceLeDiff,↓reduceIte,reduceCtorEq,Int.reduceEq,Int.reduceLT,Int.reduceLE,Int.reduceGT,Int.reduceGE,Int.reduceAdd,Int.reduceSub,Int.reduceNeg,Int.reduceToNat,Nat.reduceBEq,Nat.reduceEqDiff]
 refine callD_same (hr _ _ ⟨rfl,rfl,rfl,rfl⟩ (idv _ _ _)) ?_
 simp -implicitDefEqProofs (maxSteps := 99999999) (disch := first | omega | (simp only [AHeap.set_length,killO_length,List.length_cons,List.length_nil]; first | done | omega)) only [vu,hN1,va,vg,vs,vw,Nat.reduceMul,ite_true,ite_false,eq_self,forall_const,implies_true,Nat.reduceAdd,Nat.reduceSub,Nat.reduceLT,Nat.reduceLeDiff,↓reduceIte,reduceCtorEq,Int.reduceEq,Int.reduceLT,Int.reduceLE,Int.reduceGT,Int.reduceGE,Int.reduceAdd,Int.reduceSub,Int.reduceNeg,Int.reduceToNat,Nat.reduceBEq,Nat.reduceEqDiff]
 refine callD_same (D_view (.cons (.agg (.cons .sc (.cons .sc (.cons vr0 .nil)))) .nil) .sc w0) ?_
 simp -implicitDefEqProofs (maxSteps := 99999999) (disch := first | omega | (simp only [AHeap.set_length,killO_length,List.length_cons,List.length_nil]; first | done | omega)) only [vu,hN1,va,vg,vs,vw,Nat.reduceMul,ite_true,ite_false,eq_self,forall_const,implies_true,Nat.reduceAdd,Nat.reduceSub,Nat.reduceLT,Nat.reduceLeDiff,↓reduceIte,reduceCtorEq,Int.reduceEq,Int.reduceLT,Int.reduceLE,Int.reduceGT,Int.reduceGE,Int.reduceAdd,Int.reduceSub,Int.reduceNeg,Int.reduceToNat,Nat.reduceBEq,Nat.reduceEqDiff]
 refine callD_same (hr _ _ ⟨rfl,rfl,rfl,rfl⟩ (idv _ _ _)) ?_
 simp -implicitDefEqProofs (maxSteps := 99999999) (disch := first | omega | (simp only [AHeap.set_length,killO_length,List.length_cons,List.length_nil]; first | done | omega)) only [vu,hN1,va,vg,vs,vw,Nat.reduceMul,ite_true,ite_false,eq_self,forall_const,implies_true,Nat.reduceAdd,Nat.reduceSub,Nat.reduceLT,Nat.reduceLeDiff,↓reduceIte,reduceCtorEq,Int.reduceEq,Int.reduceLT,Int.reduceLE,Int.reduceGT,Int.reduceGE,Int.reduceAdd,Int.reduceSub,Int.reduceNeg,Int.reduceToNat,Nat.reduceBEq,Nat.reduceEqDiff]
 refine callD_same (D_view (.cons (.lst (.cons (.agg (.cons .sc (.cons .sc (.cons vr0 .nil)))) .nil)) .nil) .sc w2) ?_
 simp -implicitDefEqProofs (maxSteps := 99999999) (disch := first | omega | (simp only [AHeap.set_length,killO_length,List.length_cons,List.length_nil]; first | done | omega)) only [vu,hN1,va,vg,vs,vw,Nat.reduceMul,ite_true,ite_false,eq_self,forall_const,implies_true,Nat.reduceAdd,Nat.reduceSub,Nat.reduceLT,Nat.reduceLeDiff,↓reduceIte,reduceCtorEq,Int.reduceEq,Int.reduceLT,Int.reduceLE,Int.reduceGT,Int.reduceGE,Int.reduceAdd,Int.reduceSub,Int.reduceNeg,Int.reduceToNat,Nat.reduceBEq,Nat.reduceEqDiff]
 refine ⟨⟨rfl,by omega,by omega⟩,callD_same (hr _ _ ⟨rfl,rfl,rfl,rfl⟩ (idv _ _ _)) ?_⟩
 simp -implicitDefEqProofs (maxSteps := 99999999) (disch := first | omega | (simp only [AHeap.set_length,killO_length,List.length_cons,List.length_nil]; first | done | omega)) only [vu,hN1,va,vg,vs,vw,Nat.reduceMul,ite_true,ite_false,eq_self,forall_const,implies_true,Nat.reduceAdd,Nat.reduceSub,Nat.reduceLT,Nat.reduceLeDiff,↓reduceIte,reduceCtorEq,Int.reduceEq,Int.reduceLT,Int.reduceLE,Int.reduceGT,Int.reduceGE,Int.reduceAdd,Int.reduceSub,Int.reduceNeg,Int.reduceToNat,Nat.reduceBEq,Nat.reduceEqDiff]
 refine ⟨⟨rfl,by omega,by omega⟩,callD_same (hr _ _ ⟨rfl,rfl,rfl,rfl⟩ (idv _ _ _)) ?_⟩
 simp -implicitDefEqProofs (maxSteps := 99999999) (disch := first | omega | (simp only [AHeap.set_length,killO_length,List.length_cons,List.length_nil]; first | done | omega)) only [vu,hN1,va,vg,vs,vw,Nat.reduceMul,ite_true,ite_false,eq_self,forall_const,implies_true,Nat.reduceAdd,Nat.reduceSub,Nat.reduceLT,Nat.reduceLeDiff,↓reduceIte,reduceCtorEq,Int.reduceEq,Int.reduceLT,Int.reduceLE,Int.reduceGT,Int.reduceGE,Int.reduceAdd,Int.reduceSub,Int.reduceNeg,Int.reduceToNat,Nat.reduceBEq,Nat.reduceEqDiff]
 refine callD_same (D_view (.cons .sc (.cons (.agg (.cons .sc (.cons .sc (.cons vr1 .nil)))) (.cons (.agg (.cons .sc (.cons .sc (.cons vr1 .nil)))) .nil))) .sc w3) ?_
 simp -implicitDefEqProofs (maxSteps := 99999999) (disch := first | omega | (simp only [AHeap.set_length,killO_length,List.length_cons,List.length_nil]; first | done | omega)) only [vu,hN1,va,vg,vs,vw,Nat.reduceMul,ite_true,ite_false,eq_self,forall_const,implies_true,Nat.reduceAdd,Nat.reduceSub,Nat.reduceLT,Nat.reduceLeDiff,↓reduceIte,reduceCtorEq,Int.reduceEq,Int.reduceLT,Int.reduceLE,Int.reduceGT,Int.reduceGE,Int.reduceAdd,Int.reduceSub,Int.reduceNeg,Int.reduceToNat,Nat.reduceBEq,Nat.reduceEqDiff]
 refine callD_same (hr _ _ ⟨rfl,rfl,rfl,rfl⟩ (idv _ _ _)) ?_
 simp -implicitDefEqProofs (maxSteps := 99999999) (disch := first | omega | (simp only [AHeap.set_length,killO_length,List.length_cons,List.length_nil]; first | done | omega)) only [vu,hN1,va,vg,vs,vw,Nat.reduceMul,ite_true,ite_false,eq_self,forall_const,implies_true,Nat.reduceAdd,Nat.reduceSub,Nat.reduceLT,Nat.reduceLeDiff,↓reduceIte,reduceCtorEq,Int.reduceEq,Int.reduceLT,Int.reduceLE,Int.reduceGT,Int.reduceGE,Int.reduceAdd,Int.reduceSub,Int.reduceNeg,Int.reduceToNat,Nat.reduceBEq,Nat.reduceEqDiff]
 refine callD_same (hr _ _ ⟨rfl,rfl,rfl,rfl⟩ ⟨⟨trivial,trivial⟩,trivial⟩) ?_
 simp -implicitDefEqProofs (maxSteps := 99999999) (disch := first | omega | (simp only [AHeap.set_length,killO_length,List.length_cons,List.length_nil]; first | done | omega)) only [vu,hN1,va,vg,vs,vw,Nat.reduceMul,ite_true,ite_false,eq_self,forall_const,implies_true,Nat.reduceAdd,Nat.reduceSub,Nat.reduceLT,Nat.reduceLeDiff,↓reduceIte,reduceCtorEq,Int.reduceEq,Int.reduceLT,Int.reduceLE,Int.reduceGT,Int.reduceGE,Int.reduceAdd,Int.reduceSub,Int.reduceNeg,Int.reduceToNat,Nat.reduceBEq,Nat.reduceEqDiff]
 refine callD_same (D_view (.cons .sc (.cons (.agg (.cons .sc (.cons .sc (.cons vr0 .nil)))) (.cons (.agg (.cons .sc (.cons .sc (.cons (.lst (.cons .sc .nil)) .nil)))) .nil))) .sc w4) ?_
 simp -implicitDefEqProofs (maxSteps := 99999999) (disch := first | omega | (simp only [AHeap.set_length,killO_length,List.length_cons,List.length_nil]; first | done | omega)) only [vu,hN1,va,vg,vs,vw,Nat.reduceMul,ite_true,ite_false,eq_self,forall_const,implies_true,Nat.reduceAdd,Nat.reduceSub,Nat.reduceLT,Nat.reduceLeDiff,↓reduceIte,reduceCtorEq,Int.reduceEq,Int.reduceLT,Int.reduceLE,Int.reduceGT,Int.reduceGE,Int.reduceAdd,Int.reduceSub,Int.reduceNeg,Int.reduceToNat,Nat.reduceBEq,Nat.reduceEqDiff]
 refine callD_same (awake11_d _) ?_
 simp -implicitDefEqProofs (maxSteps := 99999999) (disch := first | omega | (simp only [AHeap.set_length,killO_length,List.length_cons,List.length_nil]; first | done | omega)) only [vu,hN1,va,vg,vs,vw,Nat.reduceMul,ite_true,ite_false,eq_self,forall_const,implies_true,Nat.reduceAdd,Nat.reduceSub,Nat.reduceLT,Nat.reduceLeDiff,↓reduceIte,reduceCtorEq,Int.reduceEq,Int.reduceLT,Int.reduceLE,Int.reduceGT,Int.reduceGE,Int.reduceAdd,Int.reduceSub,Int.reduceNeg,Int.reduceToNat,Nat.reduceBEq,Nat.reduceEqDiff]
 exact weak_gen [] (by simp) (by simp) (by simp) (fun id k hid hk => by simp at hid) (fun i s k hs => by simp at hs) (.same trivial)
end Go.Proofs.YtpnnpooeheiedaaDoor
