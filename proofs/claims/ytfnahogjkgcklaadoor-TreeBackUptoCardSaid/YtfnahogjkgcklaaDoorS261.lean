/- The law's bound: small. -/
import Derived.Test.YtfnahogjkgcklaaDoorS260
import Derived.Test.YtfnahogjkgcklaaDoorIc42
namespace Go.Proofs.YtfnahogjkgcklaaDoor
open Go.RowKit
set_option maxRecDepth 100000
set_option linter.unusedVariables false
set_option linter.unusedSimpArgs false
def smallQ (l : List Nd) : Bool := decide (bulkL l 400 0 ≤ 400)
theorem bulkL_size (most : Int) : ∀ (l : List Nd) (c : Int),bulkL l most c ≤ most → c + Nd.sizeL l ≤ bulkL l most c
 | [],c,_ => by simp [bulkL,Nd.sizeL]
 | t :: r,c,h => by
  unfold bulkL at h ⊢
  simp only [Nd.sizeL]
  split at h
  ·rename_i h1
   rw [if_pos h1]
   have h2 := bulkL_ge most r (c + bulk t (most - c))
   have h3 := bulk_size t (most - c) (by omega)
   have h4 := bulkL_size most r (c + bulk t (most - c)) h
   omega
  ·omega
theorem small_size {l : List Nd} (h : smallQ l = true) : Nd.sizeL l ≤ 400 := by
 have h1 : bulkL l 400 0 ≤ 400 := of_decide_eq_true h
 have := bulkL_size 400 l 0 h1
 omega
set_option maxHeartbeats 0 in
theorem small_d (l : List Nd) (ro : Option (List AV)) (hz : Nd.wtL l ≤ 2000000) (H : AHeap) : D Tryd.prog 8 [.lst 4 (ndL l) ro] H (.ret (.sc (.bool (smallQ l)))) H := by
 have hkl := Nd.wtL_len l
 refine D_of_DK (Nat.le_refl _) (dk8 (E_of_ES ?_))
 simp only [ic8,ux]
 refine ES_seq_gen fun L hL => ?_
 simp -implicitDefEqProofs (maxSteps := 99999999) (disch := first | omega | (simp only [AHeap.set_length,killO_length,List.length_cons,List.length_nil]; first | done | omega)) only [vu,va,vg,vs,vw,Nat.reduceMul,ite_true,ite_false,eq_self,forall_const,implies_true,Nat.reduceAdd,Nat.reduceSub,Nat.reduceLT,Nat.reduceLeDiff,↓reduceIte,reduceCtorEq,Int.reduceEq,Int.reduceLT,Int.reduceLE,Int.reduceGT,Int.reduceGE,Int.reduceAdd,Int.reduceSub,Int.reduceNeg,Int.reduceToNat,Nat.reduceBEq,Nat.reduceEqDiff]
 refine hL _ _ ?_
 clear hL
 refine ES_seq_gen fun L hL => ?_
 simp -implicitDefEqProofs (maxSteps := 99999999) (disch := first | omega | (simp only [AHeap.set_length,killO_length,List.length_cons,List.length_nil]; first | done | omega)) only [vu,va,vg,vs,vw,Nat.reduceMul,ite_true,ite_false,eq_self,forall_const,implies_true,Nat.reduceAdd,Nat.reduceSub,Nat.reduceLT,Nat.reduceLeDiff,↓reduceIte,reduceCtorEq,Int.reduceEq,Int.reduceLT,Int.reduceLE,Int.reduceGT,Int.reduceGE,Int.reduceAdd,Int.reduceSub,Int.reduceNeg,Int.reduceToNat,Nat.reduceBEq,Nat.reduceEqDiff]
 refine hL _ _ ?_
 clear hL
 refine ES_seq_gen fun L hL => ?_
 simp -implicitDefEqProofs (maxSteps := 99999999) (disch := first | omega | (simp only [AHeap.set_length,killO_length,List.length_cons,List.length_nil]; first | done | omega)) only [vu,va,vg,vs,vw,Nat.reduceMul,ite_true,ite_false,eq_self,forall_const,implies_true,Nat.reduceAdd,Nat.reduceSub,Nat.reduceLT,Nat.reduceLeDiff,↓reduceIte,reduceCtorEq,Int.reduceEq,Int.reduceLT,Int.reduceLE,Int.reduceGT,Int.reduceGE,Int.reduceAdd,Int.reduceSub,Int.reduceNeg,Int.reduceToNat,Nat.reduceBEq,Nat.reduceEqDiff]
 refine ES_loopL (fun ts F => ∃ (k : Nat) (c : Int),(k ≤ l.length ∧ 0 ≤ c ∧ c + Nd.wtL (l.drop k) ≤ Nd.wtL l ∧ bulkL (l.drop k) 400 c = bulkL l 400 0) ∧ F = H ∧ Fr [some (.lst 4 (ndL l) ro),none,none,some (.sc (.int .i64 c)),some (.sc (.int .i64 k)),none,none,none,none,none,none,none,none,none,none,none,none,none,none,none,none,none,none,none,none,none] ts) (fun ts _ => l.length - (intV (ts.getD 4 .top)).toNat) ?_ ?_
 ·exact ⟨0,0,⟨Nat.zero_le _,by omega,by rw [List.drop_zero]; omega,by rw [List.drop_zero]⟩,rfl,by simp [Fr]⟩
 rintro ts F ⟨k,c,⟨hk,hc0,hc1,hb⟩,rfl,hfr⟩ L2 hL2
 obtain ⟨js,rfl⟩ := hfr.opened
 clear hfr
 by_cases hd : k < l.length
 ·have d1 : (k : Int) < l.length := by omega
  have hg := ndL_get hd
  have hmem := nthN_mem hd
  have hwm := Nd.wtL_mem hmem
  rw [bulkL_drop hd] at hb
  rw [wtL_drop hd] at hc1
  by_cases d2 : c ≤ 400
  ·rw [if_pos d2] at hb
   have hi := fun H => nodesOf_d (nthN l k) none (400 - c) (by omega) (by omega) H
   have hhi := bulk_hi (nthN l k) (400 - c)
   have hlo := bulk_lo (nthN l k) (400 - c)
   rw [ndR_eq] at hi
   simp -implicitDefEqProofs (maxSteps := 99999999) (disch := first | omega | (simp only [AHeap.set_length,killO_length,List.length_cons,List.length_nil]; first | done | omega)) only [mk,d1,d2,hg,ndL_length,va,vg,vs,vw,Nat.reduceMul,ite_true,ite_false,eq_self,forall_const,implies_true,Nat.reduceAdd,Nat.reduceSub,Nat.reduceLT,Nat.reduceLeDiff,↓reduceIte,reduceCtorEq,Int.reduceEq,Int.reduceLT,Int.reduceLE,Int.reduceGT,Int.reduceGE,Int.reduceAdd,Int.reduceSub,Int.reduceNeg,Int.reduceToNat,Nat.reduceBEq,Nat.reduceEqDiff]
   refine ⟨by omega,callR_ret (hi _) ?_⟩
   simp -implicitDefEqProofs (maxSteps := 99999999) (disch := first | omega | (simp only [AHeap.set_length,killO_length,List.length_cons,List.length_nil]; first | done | omega)) only [vu,va,vg,vs,vw,Nat.reduceMul,ite_true,ite_false,eq_self,forall_const,implies_true,Nat.reduceAdd,Nat.reduceSub,Nat.reduceLT,Nat.reduceLeDiff,↓reduceIte,reduceCtorEq,Int.reduceEq,Int.reduceLT,Int.reduceLE,Int.reduceGT,Int.reduceGE,Int.reduceAdd,Int.reduceSub,Int.reduceNeg,Int.reduceToNat,Nat.reduceBEq,Nat.reduceEqDiff]
   exact hL2 _ _ ⟨k + 1,_,⟨by omega,by omega,by omega,hb⟩,rfl,by simp [Fr]⟩ (by simp [intV,mk]; omega)
  ·rw [if_neg d2] at hb
   simp -implicitDefEqProofs (maxSteps := 99999999) (disch := first | omega | (simp only [AHeap.set_length,killO_length,List.length_cons,List.length_nil]; first | done | omega)) only [mk,d1,d2,ndL_length,va,vg,vs,vw,Nat.reduceMul,ite_true,ite_false,eq_self,forall_const,implies_true,Nat.reduceAdd,Nat.reduceSub,Nat.reduceLT,Nat.reduceLeDiff,↓reduceIte,reduceCtorEq,Int.reduceEq,Int.reduceLT,Int.reduceLE,Int.reduceGT,Int.reduceGE,Int.reduceAdd,Int.reduceSub,Int.reduceNeg,Int.reduceToNat,Nat.reduceBEq,Nat.reduceEqDiff]
   refine hL _ _ ?_
   clear hL
   simp -implicitDefEqProofs (maxSteps := 99999999) (disch := first | omega | (simp only [AHeap.set_length,killO_length,List.length_cons,List.length_nil]; first | done | omega)) only [va,vg,vs,vw,Nat.reduceMul,ite_true,ite_false,eq_self,forall_const,implies_true,Nat.reduceAdd,Nat.reduceSub,Nat.reduceLT,Nat.reduceLeDiff,↓reduceIte,reduceCtorEq,Int.reduceEq,Int.reduceLT,Int.reduceLE,Int.reduceGT,Int.reduceGE,Int.reduceAdd,Int.reduceSub,Int.reduceNeg,Int.reduceToNat,Nat.reduceBEq,Nat.reduceEqDiff]
   exact over_bN .refl (by unfold smallQ; rw [hb])
 ·have d1 : ¬ (k : Int) < l.length := by omega
  have e : l.drop k = [] := List.drop_of_length_le (by omega)
  rw [e] at hb
  simp only [bulkL] at hb
  simp -implicitDefEqProofs (maxSteps := 99999999) (disch := first | omega | (simp only [AHeap.set_length,killO_length,List.length_cons,List.length_nil]; first | done | omega)) only [mk,d1,ndL_length,va,vg,vs,vw,Nat.reduceMul,ite_true,ite_false,eq_self,forall_const,implies_true,Nat.reduceAdd,Nat.reduceSub,Nat.reduceLT,Nat.reduceLeDiff,↓reduceIte,reduceCtorEq,Int.reduceEq,Int.reduceLT,Int.reduceLE,Int.reduceGT,Int.reduceGE,Int.reduceAdd,Int.reduceSub,Int.reduceNeg,Int.reduceToNat,Nat.reduceBEq,Nat.reduceEqDiff]
  refine hL _ _ ?_
  clear hL
  simp -implicitDefEqProofs (maxSteps := 99999999) (disch := first | omega | (simp only [AHeap.set_length,killO_length,List.length_cons,List.length_nil]; first | done | omega)) only [va,vg,vs,vw,Nat.reduceMul,ite_true,ite_false,eq_self,forall_const,implies_true,Nat.reduceAdd,Nat.reduceSub,Nat.reduceLT,Nat.reduceLeDiff,↓reduceIte,reduceCtorEq,Int.reduceEq,Int.reduceLT,Int.reduceLE,Int.reduceGT,Int.reduceGE,Int.reduceAdd,Int.reduceSub,Int.reduceNeg,Int.reduceToNat,Nat.reduceBEq,Nat.reduceEqDiff]
  exact over_bN .refl (by unfold smallQ; rw [hb])
end Go.Proofs.YtfnahogjkgcklaaDoor
