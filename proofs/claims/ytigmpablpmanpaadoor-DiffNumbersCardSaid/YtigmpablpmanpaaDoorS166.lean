/- law02.DiffNumbers: the walk's end: the long rows. -/
import Derived.Test.YtigmpablpmanpaaDoorS161
import Derived.Test.YtigmpablpmanpaaDoorS159
import Derived.Test.YtigmpablpmanpaaDoorV41
import Derived.Test.YtigmpablpmanpaaDoorIc25
namespace Go.Proofs.YtigmpablpmanpaaDoor
open Go.RowKit
set_option maxRecDepth 100000
set_option linter.unusedVariables false
set_option linter.unusedSimpArgs false
def IC.l : IC → IC
 | .seq a _ => a
 | .block _ a => a
 | .loop a => a
 | _ => .skip
def IC.r : IC → IC
 | .seq _ a => a
 | _ => .skip
def xT : ByteArray := ⟨#[120]⟩
/-- The row as far as it is filled. -/
def fil (n k : Nat) : List ByteArray := List.replicate k xT ++ List.replicate (n - k) ⟨#[]⟩
theorem fil_zero (n : Nat) : fil n 0 = List.replicate n ⟨#[]⟩ := by simp [fil]
theorem fil_full (n : Nat) : fil n n = List.replicate n xT := by simp [fil]
theorem fil_length {n k : Nat} (h : k ≤ n) : (fil n k).length = n := by simp [fil]; omega
theorem fil_set {n k : Nat} (h : k < n) : (strs (fil n k)).set k (.sc (.string xT)) = strs (fil n (k + 1)) := by
 obtain ⟨m,hm⟩ : ∃ m,n - k = m + 1 := ⟨n - k - 1,by omega⟩
 have h2 : n - (k + 1) = m := by omega
 unfold fil strs
 rw [hm,h2,List.replicate_succ,List.map_append,List.set_append_right (h := by simp),List.map_cons]
 rw [show k - (List.map (fun s => AV.sc (Value.string s)) (List.replicate k xT)).length = 0 by simp,List.set_cons_zero,List.replicate_succ',List.append_assoc,List.map_append]
 rfl
theorem strs_rep (n : Nat) (s : ByteArray) : List.replicate n (AV.sc (.string s)) = strs (List.replicate n s) := by simp [strs]
theorem long_one (n : Nat) (h : n = 4097) : (cmL ((List.replicate n xT).drop 1) [xT]).length = 1 := by
 obtain ⟨n,rfl⟩ : ∃ m,n = m + 2 := ⟨n - 2,by omega⟩
 rw [List.drop_replicate,show n + 2 - 1 = n + 1 by omega]
 rw [cmL_short (by simp; omega) (by simp),cmn_lcs,lcs_comm,lcs_sub]
 ·rfl
 ·rw [List.replicate_succ]
  exact .cons_cons _ (by simp)
theorem long_none (n : Nat) (b : List ByteArray) (h : 4096 < n) : cmL (List.replicate n xT) b = [] := if_pos (.inl (by simpa using h))
theorem none_long (n : Nat) (b : List ByteArray) (h : 4096 < n) : cmL b (List.replicate n xT) = [] := if_pos (.inr (by simpa using h))
theorem long_hunk (n : Nat) (b : List ByteArray) (h : 4096 < n) : (difL (List.replicate n xT) b).length = 1 := by
 unfold difL
 rw [long_none n b h,List.nil_append,List.length_replicate]
 unfold bet
 rw [if_neg (by omega)]
 unfold bet
 rfl
theorem long_parts : ic4.r.r.r.r = .seq (ic4.r.r.r.r.l) (.seq (.seq (ic4.r.r.r.r.r.l.l) (.block 10 (.loop (.seq (ic4.r.r.r.r.r.l.r.l.l.l) (ic4.r.r.r.r.r.l.r.l.l.r))))) (.seq (ic4.r.r.r.r.r.r.l) (.seq (ic4.r.r.r.r.r.r.r.l) .ret))) := rfl
set_option maxHeartbeats 0 in
theorem numbers_long (F : AHeap) (ts : List AV) (hfr : Fr [some (.sc (.bool false)),none,none,none,none,none,none,none,none,none,none,none,none,none,none,none,none,none,none,none,none,none,none,none,none,none,none,none,none,none,none,none,none,none,none,none,none,none,none,none,none,none,none,none,none,none,none,none,none,none,none,none,none,none,none,none,none,none,none,none,none,none,none,none,none,none,none,none,none,none,none,none,none,none,none,none,none,none,none,none,none,none,none,none,none,none,none,none,none,none,none,none,none,none,none,none,none,none,none,none,none,none,none,none,none,none,none,none,none,none,none,none,none,none,none,none,none,none,none,none,none,none,none,none,none,none,none,none,none,none,none,none,none,none,none,none,none] ts) :
  SE Tryd.prog [] (ic4.r.r.r.r) (bodyS [RV.t 0] fun e1 H1 => Weak [] e1 H1 (.ret (.sc (.bool true))) []) ts F := by
 obtain ⟨js,rfl⟩ := hfr.opened
 clear hfr
 rw [long_parts]
 obtain ⟨w0,hw0⟩ : ∃ x,x = ic4.r.r.r.r.l := ⟨_,rfl⟩
 obtain ⟨w1,hw1⟩ : ∃ x,x = ic4.r.r.r.r.r.l.l := ⟨_,rfl⟩
 obtain ⟨w2,hw2⟩ : ∃ x,x = ic4.r.r.r.r.r.l.r.l.l.l := ⟨_,rfl⟩
 obtain ⟨w3,hw3⟩ : ∃ x,x = ic4.r.r.r.r.r.l.r.l.l.r := ⟨_,rfl⟩
 obtain ⟨w4,hw4⟩ : ∃ x,x = ic4.r.r.r.r.r.r.l := ⟨_,rfl⟩
 obtain ⟨w5,hw5⟩ : ∃ x,x = ic4.r.r.r.r.r.r.r.l := ⟨_,rfl⟩
 rw [← hw0,← hw1,← hw2,← hw3,← hw4,← hw5]
 simp only [ic4,IC.l,IC.r] at hw0 hw1 hw2 hw3 hw4 hw5
 obtain ⟨N,hN,hw0⟩ : ∃ N : Nat,N = 4097 ∧ w0 = .ops [⟨some 96,none,.h (.mksl 1 9 (.sc (.string ⟨#[]⟩)) (kI (N : Int)) (kI (N : Int)))⟩,iM 8 96] := ⟨4097,rfl,hw0⟩
 have c0 : 0 < N := by omega
 have n1 : (N : Int) ≤ 100000000 := by omega
 have n2 : (0 : Int) ≤ (N : Int) := by omega
 refine SE.seq (SE.of_ES ?_)
 rw [hw0]
 simp -implicitDefEqProofs (maxSteps := 99999999) (disch := first | omega | (simp only [AHeap.set_length,killO_length,List.length_cons,List.length_nil]; first | done | omega)) only [vu,mk,n1,n2,strs_rep,← fil_zero,va,vg,vs,vw,Nat.reduceMul,ite_true,ite_false,eq_self,forall_const,implies_true,Nat.reduceAdd,Nat.reduceSub,Nat.reduceLT,Nat.reduceLeDiff,↓reduceIte,reduceCtorEq,Int.reduceEq,Int.reduceLT,Int.reduceLE,Int.reduceGT,Int.reduceGE,Int.reduceAdd,Int.reduceSub,Int.reduceNeg,Int.reduceToNat,Nat.reduceBEq,Nat.reduceEqDiff]
 refine ⟨Int.le_refl _,SE.seq (SE.seq (SE.of_ES ?_))⟩
 rw [hw1]
 simp -implicitDefEqProofs (maxSteps := 99999999) (disch := first | omega | (simp only [AHeap.set_length,killO_length,List.length_cons,List.length_nil]; first | done | omega)) only [vu,va,vg,vs,vw,Nat.reduceMul,ite_true,ite_false,eq_self,forall_const,implies_true,Nat.reduceAdd,Nat.reduceSub,Nat.reduceLT,Nat.reduceLeDiff,↓reduceIte,reduceCtorEq,Int.reduceEq,Int.reduceLT,Int.reduceLE,Int.reduceGT,Int.reduceGE,Int.reduceAdd,Int.reduceSub,Int.reduceNeg,Int.reduceToNat,Nat.reduceBEq,Nat.reduceEqDiff]
 refine SE.gen fun K hK => ?_
 refine SE.block (SE.loopL (fun ts G => ∃ k : Nat,k ≤ N ∧ AHeap.find G F.length = some ⟨1,strs (fil N k),true,9⟩ ∧ Fr [none,none,none,none,none,none,none,none,some (.vec 1 F.length 0 N (some N)),some (.sc (.int .i64 k)),none,none,none,none,none,none,none,none,none,none,none,none,none,none,none,none,none,none,none,none,none,none,none,none,none,none,none,none,none,none,none,none,none,none,none,none,none,none,none,none,none,none,none,none,none,none,none,none,none,none,none,none,none,none,none,none,none,none,none,none,none,none,none,none,none,none,none,none,none,none,none,none,none,none,none,none,none,none,none,none,none,none,none,none,none,none,none,none,none,none,none,none,none,none,none,none,none,none,none,none,none,none,none,none,none,none,none,none,none,none,none,none,none,none,none,none,none,none,none,none,none,none,none,none,none,none,none] ts) (fun ts _ => N - (intV (ts.getD 9 .top)).toNat) ?_ ?_)
 ·exact ⟨0,Nat.zero_le _,find_top rfl,by simp [Fr]⟩
 rintro ts G ⟨k,hk,hf,hfr⟩ L1 hL1
 obtain ⟨js,rfl⟩ := hfr.opened
 clear hfr
 by_cases hd : k < N
 ·have h1 : (k : Int) < N := by omega
  have hg : (strs (fil N k)).getD k .top = .sc (.string (nthS (fil N k) k)) := strs_get (by rw [fil_length hk]; exact hd)
  have hst := fil_set hd
  have hfl := fil_length hk
  refine SE.of_ES (ES_seq_gen fun L hL => ?_)
  rw [hw2]
  simp -implicitDefEqProofs (maxSteps := 99999999) (disch := first | omega | (simp only [AHeap.set_length,killO_length,List.length_cons,List.length_nil]; first | done | omega)) only [vu,mk,h1,va,vg,vs,vw,Nat.reduceMul,ite_true,ite_false,eq_self,forall_const,implies_true,Nat.reduceAdd,Nat.reduceSub,Nat.reduceLT,Nat.reduceLeDiff,↓reduceIte,reduceCtorEq,Int.reduceEq,Int.reduceLT,Int.reduceLE,Int.reduceGT,Int.reduceGE,Int.reduceAdd,Int.reduceSub,Int.reduceNeg,Int.reduceToNat,Nat.reduceBEq,Nat.reduceEqDiff]
  refine hL _ _ ?_
  clear hL
  rw [hw3]
  simp -implicitDefEqProofs (maxSteps := 99999999) (disch := first | omega | (simp only [AHeap.set_length,killO_length,List.length_cons,List.length_nil]; first | done | omega)) only [vu,hf,hfl,hg,h1,strs_length,hd,va,vg,vs,vw,Nat.reduceMul,ite_true,ite_false,eq_self,forall_const,implies_true,Nat.reduceAdd,Nat.reduceSub,Nat.reduceLT,Nat.reduceLeDiff,↓reduceIte,reduceCtorEq,Int.reduceEq,Int.reduceLT,Int.reduceLE,Int.reduceGT,Int.reduceGE,Int.reduceAdd,Int.reduceSub,Int.reduceNeg,Int.reduceToNat,Nat.reduceBEq,Nat.reduceEqDiff]
  rw [show ByteArray.mk #[120] = xT from rfl]
  simp -implicitDefEqProofs (maxSteps := 99999999) (disch := first | omega | (simp only [AHeap.set_length,killO_length,List.length_cons,List.length_nil]; first | done | omega)) only [hst,va,vg,vs,vw,Nat.reduceMul,ite_true,ite_false,eq_self,forall_const,implies_true,Nat.reduceAdd,Nat.reduceSub,Nat.reduceLT,Nat.reduceLeDiff,↓reduceIte,reduceCtorEq,Int.reduceEq,Int.reduceLT,Int.reduceLE,Int.reduceGT,Int.reduceGE,Int.reduceAdd,Int.reduceSub,Int.reduceNeg,Int.reduceToNat,Nat.reduceBEq,Nat.reduceEqDiff]
  exact ⟨by omega,hL1 _ _ ⟨k + 1,by omega,AHeap.find_set_same (AHeap.find_lt hf),by simp [Fr]⟩ (by simp [intV,mk]; omega)⟩
 ·have h1 : ¬ (k : Int) < N := by omega
  obtain rfl : k = N := by omega
  refine SE.of_ES (ES_seq_gen fun L hL => ?_)
  rw [hw2]
  simp -implicitDefEqProofs (maxSteps := 99999999) (disch := first | omega | (simp only [AHeap.set_length,killO_length,List.length_cons,List.length_nil]; first | done | omega)) only [vu,mk,h1,va,vg,vs,vw,Nat.reduceMul,ite_true,ite_false,eq_self,forall_const,implies_true,Nat.reduceAdd,Nat.reduceSub,Nat.reduceLT,Nat.reduceLeDiff,↓reduceIte,reduceCtorEq,Int.reduceEq,Int.reduceLT,Int.reduceLE,Int.reduceGT,Int.reduceGE,Int.reduceAdd,Int.reduceSub,Int.reduceNeg,Int.reduceToNat,Nat.reduceBEq,Nat.reduceEqDiff]
  clear hL hL1
  refine hK _ _ _ ?_
  rw [fil_full] at hf
  have hv : View G (.vec 1 F.length 0 k (some k)) (.lst 1 (strs (List.replicate k xT)) none) := .vec hf rfl (by simp [strs_length]) (by rw [List.drop_zero,List.take_of_length_le (by simp [strs_length])]; exact strs_view)
  refine SE.freeze (ts' := mk [none,none,none,none,none,none,none,none,some (.lst 1 (strs (List.replicate k xT)) none),none,none,none,none,none,none,none,none,none,none,none,none,none,none,none,none,none,none,none,none,none,none,none,none,none,none,none,none,none,none,none,none,none,none,none,none,none,none,none,none,none,none,none,none,none,none,none,none,none,none,none,none,none,none,none,none,none,none,none,none,none,none,none,none,none,none,none,none,none,none,none,none,none,none,none,none,none,none,none,none,none,none,none,none,none,none,none,none,none,none,none,none,none,none,none,none,none,none,none,none,none,none,none,none,none,none,none,none,none,none,none,none,none,none,none,none,none,none,none,none,none,none,none,none,none,none,none,none] fun _ => .top) ?_ ?_
  ·simp only [mk]
   repeat' first | exact TViewL.nil | refine TViewL.top ?_ | refine TViewL.view hv ?_
  clear hv hf
  generalize gone0 G = F2
  clear hK
  have e1 := long_one k hN
  have e2 := long_none k [xT] (by omega)
  have e3 := none_long k [xT] (by omega)
  have e4 := long_hunk k [xT] (by omega)
  have e0 : (List.replicate k xT).length = 4097 := by simp [hN]
  generalize List.replicate k xT = A at e0 e1 e2 e3 e4 ⊢
  refine SE.seq (SE.of_ES ?_)
  rw [hw4]
  simp -implicitDefEqProofs (maxSteps := 99999999) (disch := first | omega | (simp only [AHeap.set_length,killO_length,List.length_cons,List.length_nil]; first | done | omega)) only [vu,mk,va,vg,vs,vw,Nat.reduceMul,ite_true,ite_false,eq_self,forall_const,implies_true,Nat.reduceAdd,Nat.reduceSub,Nat.reduceLT,Nat.reduceLeDiff,↓reduceIte,reduceCtorEq,Int.reduceEq,Int.reduceLT,Int.reduceLE,Int.reduceGT,Int.reduceGE,Int.reduceAdd,Int.reduceSub,Int.reduceNeg,Int.reduceToNat,Nat.reduceBEq,Nat.reduceEqDiff]
  refine SE.seq (SE.of_ES ?_)
  rw [hw5,show ByteArray.mk #[120] = xT from rfl]
  simp -implicitDefEqProofs (maxSteps := 99999999) (disch := first | omega | (simp only [AHeap.set_length,killO_length,List.length_cons,List.length_nil]; first | done | omega)) only [vu,va,vg,vs,vw,Nat.reduceMul,ite_true,ite_false,eq_self,forall_const,implies_true,Nat.reduceAdd,Nat.reduceSub,Nat.reduceLT,Nat.reduceLeDiff,↓reduceIte,reduceCtorEq,Int.reduceEq,Int.reduceLT,Int.reduceLE,Int.reduceGT,Int.reduceGE,Int.reduceAdd,Int.reduceSub,Int.reduceNeg,Int.reduceToNat,Nat.reduceBEq,Nat.reduceEqDiff]
  have v1 : ∀ G,View G (.lst 1 [.sc (.string xT)] (some [])) (.lst 1 (strs [xT]) none) := fun G => .lst (strs_view (l := [xT]))
  have v2 : ∀ G,View G (.lst 1 (strs A) none) (.lst 1 (strs A) none) := fun G => .lst strs_view
  have v3 : ∀ G,View G (.lst 1 (List.drop 1 (List.take A.length (strs A))) none) (.lst 1 (strs (A.drop 1)) none) := fun G => .lst (by rw [List.take_of_length_le (by rw [strs_length]; exact Nat.le_refl _),strs_dr]; exact strs_view)
  have e5 : (A.drop 1).length = 4096 := by rw [List.length_drop]; omega
  refine ⟨by omega,callR_ret (common_v (v3 _) (v1 _) (by omega) (by simp)) ?_⟩
  simp -implicitDefEqProofs (maxSteps := 99999999) (disch := first | omega | (simp only [AHeap.set_length,killO_length,List.length_cons,List.length_nil]; first | done | omega)) only [vu,prs_length,e1,va,vg,vs,vw,Nat.reduceMul,ite_true,ite_false,eq_self,forall_const,implies_true,Nat.reduceAdd,Nat.reduceSub,Nat.reduceLT,Nat.reduceLeDiff,↓reduceIte,reduceCtorEq,Int.reduceEq,Int.reduceLT,Int.reduceLE,Int.reduceGT,Int.reduceGE,Int.reduceAdd,Int.reduceSub,Int.reduceNeg,Int.reduceToNat,Nat.reduceBEq,Nat.reduceEqDiff]
  refine callR_ret (common_v (v2 _) (v1 _) (by omega) (by simp)) ?_
  rw [e2]
  simp -implicitDefEqProofs (maxSteps := 99999999) (disch := first | omega | (simp only [AHeap.set_length,killO_length,List.length_cons,List.length_nil]; first | done | omega)) only [vu,prs_length,e2,show prs [] = [] from rfl,va,vg,vs,vw,Nat.reduceMul,ite_true,ite_false,eq_self,forall_const,implies_true,Nat.reduceAdd,Nat.reduceSub,Nat.reduceLT,Nat.reduceLeDiff,↓reduceIte,reduceCtorEq,Int.reduceEq,Int.reduceLT,Int.reduceLE,Int.reduceGT,Int.reduceGE,Int.reduceAdd,Int.reduceSub,Int.reduceNeg,Int.reduceToNat,Nat.reduceBEq,Nat.reduceEqDiff]
  refine callR_ret (common_v (v1 _) (v2 _) (by simp) (by omega)) ?_
  rw [e3]
  simp -implicitDefEqProofs (maxSteps := 99999999) (disch := first | omega | (simp only [AHeap.set_length,killO_length,List.length_cons,List.length_nil]; first | done | omega)) only [vu,prs_length,e3,show prs [] = [] from rfl,va,vg,vs,vw,Nat.reduceMul,ite_true,ite_false,eq_self,forall_const,implies_true,Nat.reduceAdd,Nat.reduceSub,Nat.reduceLT,Nat.reduceLeDiff,↓reduceIte,reduceCtorEq,Int.reduceEq,Int.reduceLT,Int.reduceLE,Int.reduceGT,Int.reduceGE,Int.reduceAdd,Int.reduceSub,Int.reduceNeg,Int.reduceToNat,Nat.reduceBEq,Nat.reduceEqDiff]
  refine callR_ret (hunks_v (v2 _) (v1 _) (by omega) (by simp)) ?_
  simp -implicitDefEqProofs (maxSteps := 99999999) (disch := first | omega | (simp only [AHeap.set_length,killO_length,List.length_cons,List.length_nil]; first | done | omega)) only [vu,hrowV,hrs_length,plc_length,e4,va,vg,vs,vw,Nat.reduceMul,ite_true,ite_false,eq_self,forall_const,implies_true,Nat.reduceAdd,Nat.reduceSub,Nat.reduceLT,Nat.reduceLeDiff,↓reduceIte,reduceCtorEq,Int.reduceEq,Int.reduceLT,Int.reduceLE,Int.reduceGT,Int.reduceGE,Int.reduceAdd,Int.reduceSub,Int.reduceNeg,Int.reduceToNat,Nat.reduceBEq,Nat.reduceEqDiff]
  refine callR_ret (awakeD_d _) ?_
  simp -implicitDefEqProofs (maxSteps := 99999999) (disch := first | omega | (simp only [AHeap.set_length,killO_length,List.length_cons,List.length_nil]; first | done | omega)) only [vu,va,vg,vs,vw,Nat.reduceMul,ite_true,ite_false,eq_self,forall_const,implies_true,Nat.reduceAdd,Nat.reduceSub,Nat.reduceLT,Nat.reduceLeDiff,↓reduceIte,reduceCtorEq,Int.reduceEq,Int.reduceLT,Int.reduceLE,Int.reduceGT,Int.reduceGE,Int.reduceAdd,Int.reduceSub,Int.reduceNeg,Int.reduceToNat,Nat.reduceBEq,Nat.reduceEqDiff]
  refine SE.of_ES ?_
  simp -implicitDefEqProofs (maxSteps := 99999999) (disch := first | omega | (simp only [AHeap.set_length,killO_length,List.length_cons,List.length_nil]; first | done | omega)) only [vu,va,vg,vs,vw,Nat.reduceMul,ite_true,ite_false,eq_self,forall_const,implies_true,Nat.reduceAdd,Nat.reduceSub,Nat.reduceLT,Nat.reduceLeDiff,↓reduceIte,reduceCtorEq,Int.reduceEq,Int.reduceLT,Int.reduceLE,Int.reduceGT,Int.reduceGE,Int.reduceAdd,Int.reduceSub,Int.reduceNeg,Int.reduceToNat,Nat.reduceBEq,Nat.reduceEqDiff]
  exact weak_end
end Go.Proofs.YtigmpablpmanpaaDoor
