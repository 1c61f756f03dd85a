/- Values that are lent. -/
import Derived.Test.YtpnnpooeheiedaaDoorS213
namespace Go.Proofs.YtpnnpooeheiedaaDoor
open Go.RowKit
set_option maxRecDepth 100000
set_option linter.unusedVariables false
set_option linter.unusedSimpArgs false
/-- A value that marks a place. -/
def mkV (k i : Int) : AV := .agg [.sc (.int .u8 0),.sc (.int .i64 (markI k i)),.lst 0 [] (some [])]
theorem mkV_eq (k i : Int) : mkV k i = .agg [.sc (.int .u8 0),.sc (.int .i64 (markI k i)),.lst 0 [] (some [])] := rfl
theorem markValue_d (k i : Int) (H : AHeap) : D Tryd.prog 30 [.sc (.int .i64 k),.sc (.int .i64 i)] H (.ret (mkV k i)) H := by
 refine D_of_DK (Nat.le_refl _) (dk30 (E_of_ES ?_))
 simp -implicitDefEqProofs (maxSteps := 99999999) (disch := first | omega | (simp only [AHeap.set_length,killO_length,List.length_cons,List.length_nil]; first | done | omega)) only [ic30,va,vg,vs,vw,Nat.reduceMul,ite_true,ite_false,eq_self,forall_const,implies_true,Nat.reduceAdd,Nat.reduceSub,Nat.reduceLT,Nat.reduceLeDiff,↓reduceIte,reduceCtorEq,Int.reduceEq,Int.reduceLT,Int.reduceLE,Int.reduceGT,Int.reduceGE,Int.reduceAdd,Int.reduceSub,Int.reduceNeg,Int.reduceToNat,Nat.reduceBEq,Nat.reduceEqDiff]
 refine callR_ret (mark_d _ _ _) ?_
 simp -implicitDefEqProofs (maxSteps := 99999999) (disch := first | omega | (simp only [AHeap.set_length,killO_length,List.length_cons,List.length_nil]; first | done | omega)) only [wrap_markI,va,vg,vs,vw,Nat.reduceMul,ite_true,ite_false,eq_self,forall_const,implies_true,Nat.reduceAdd,Nat.reduceSub,Nat.reduceLT,Nat.reduceLeDiff,↓reduceIte,reduceCtorEq,Int.reduceEq,Int.reduceLT,Int.reduceLE,Int.reduceGT,Int.reduceGE,Int.reduceAdd,Int.reduceSub,Int.reduceNeg,Int.reduceToNat,Nat.reduceBEq,Nat.reduceEqDiff]
 exact weak_over (.cons .refl) (.same (by simp [mkV,AV.ids,AV.idsL,AV.idsM]))
/-- Lent values: the elements, where their rows lie in own memory; the marks behind them. -/
def lentVs (l : List Vl) (io : Nat → Nat) : List AV := (List.range l.length).map fun i => lvA (nthV l i) (io i)
def mksV (j : Nat) : List AV := (List.range j).map fun i : Nat => mkV 1 (i : Int)
theorem lentVs_length {l : List Vl} {io : Nat → Nat} : (lentVs l io).length = l.length := by simp [lentVs]
theorem mksV_length {j : Nat} : (mksV j).length = j := by simp [mksV]
theorem mksV_succ {j : Nat} : mksV (j + 1) = mksV j ++ [mkV 1 j] := by simp [mksV,List.range_succ]
abbrev lentVB (l : List Vl) (io : Nat → Nat) : Option ABlk := some ⟨3,lentVs l io ++ mksV 12,true,25⟩
abbrev lentVV (l : List Vl) (id : Nat) : AV := .vec 3 id 0 l.length (some (l.length + 12))
abbrev zeroV : AV := .agg [.sc (.int .u8 0),.sc (.int .i64 0),.lst 0 [] (some [])]
/-- The blocks that are laid for them. -/
def lentBv (l : List Vl) : List (Option ABlk) := (List.range l.length).map fun j => lentRB (nthV l j).row
/-- What is made of it, up to the k-th. -/
def partV (l : List Vl) (n0 k : Nat) : List AV := (List.range k).map fun i => lvA (nthV l i) (n0 + 1 + 2 * i)
theorem partV_length {l : List Vl} {n0 k : Nat} : (partV l n0 k).length = k := by simp [partV]
theorem partV_succ {l : List Vl} {n0 k : Nat} : partV l n0 (k + 1) = partV l n0 k ++ [lvA (nthV l k) (n0 + 1 + 2 * k)] := by simp [partV,List.range_succ]
/-- The new number of a block that is kept. -/
theorem newId_atV {n0 : Nat} {src : List Nat} (hn : src.Nodup) {i s : Nat} (h : src[i]? = some s) (hs : n0 ≤ s) : newId n0 src s = some (n0 + i) := by
 unfold newId
 rw [if_neg (by omega),get_idxOf? hn h]
 rfl
theorem few_row {l : List Vl} (hs : szV l ≤ 1000000) {k : Nat} (hk : k < l.length) : (nthV l k).row.length ≤ 1000000 := by
 have := (szV_mem (l := l)).2 _ (nthV_mem hk)
 omega
set_option maxHeartbeats 0 in
theorem lentValues_d (l : List Vl) (ro : Option (List AV)) (H : AHeap) (hf : szV l ≤ 1000000) :
  D Tryd.prog 14 [.lst 3 (vrow l) ro] H (.ret (lentVV l (H.length + l.length))) (lays (lentBv l ++ [lentVB l (fun i => H.length + i)]) H) := by
 have hlen : l.length ≤ 1000000 := by have := (szV_mem (l := l)).1; omega
 refine D_of_DK (by rw [lays_length]; omega) (dk14 (E_of_ES ?_))
 simp only [ic14,ux]
 obtain ⟨m,hm⟩ : ∃ m,m = l.length + 12 := ⟨_,rfl⟩
 have e12 : ((l.length : Int) + 12).toNat = m := by omega
 have hl3 := vrow_length l
 refine ES_seq_gen fun L hL => ?_
 simp -implicitDefEqProofs (maxSteps := 99999999) (disch := first | omega | (simp only [AHeap.set_length,killO_length,List.length_cons,List.length_nil]; first | done | omega)) only [va,vg,vs,vw,Nat.reduceMul,ite_true,ite_false,eq_self,forall_const,implies_true,Nat.reduceAdd,Nat.reduceSub,Nat.reduceLT,Nat.reduceLeDiff,↓reduceIte,reduceCtorEq,Int.reduceEq,Int.reduceLT,Int.reduceLE,Int.reduceGT,Int.reduceGE,Int.reduceAdd,Int.reduceSub,Int.reduceNeg,Int.reduceToNat,Nat.reduceBEq,Nat.reduceEqDiff]
 refine hL _ _ ?_
 clear hL
 refine ES_seq_gen fun L hL => ?_
 simp -implicitDefEqProofs (maxSteps := 99999999) (disch := first | omega | (simp only [AHeap.set_length,killO_length,List.length_cons,List.length_nil]; first | done | omega)) only [hl3,e12,va,vg,vs,vw,Nat.reduceMul,ite_true,ite_false,eq_self,forall_const,implies_true,Nat.reduceAdd,Nat.reduceSub,Nat.reduceLT,Nat.reduceLeDiff,↓reduceIte,reduceCtorEq,Int.reduceEq,Int.reduceLT,Int.reduceLE,Int.reduceGT,Int.reduceGE,Int.reduceAdd,Int.reduceSub,Int.reduceNeg,Int.reduceToNat,Nat.reduceBEq,Nat.reduceEqDiff]
 refine ⟨by omega,?_⟩
 refine hL _ _ ?_
 clear hL
 refine ES_seq_gen fun L hL => ?_
 simp -implicitDefEqProofs (maxSteps := 99999999) (disch := first | omega | (simp only [AHeap.set_length,killO_length,List.length_cons,List.length_nil]; first | done | omega)) only [va,vg,vs,vw,Nat.reduceMul,ite_true,ite_false,eq_self,forall_const,implies_true,Nat.reduceAdd,Nat.reduceSub,Nat.reduceLT,Nat.reduceLeDiff,↓reduceIte,reduceCtorEq,Int.reduceEq,Int.reduceLT,Int.reduceLE,Int.reduceGT,Int.reduceGE,Int.reduceAdd,Int.reduceSub,Int.reduceNeg,Int.reduceToNat,Nat.reduceBEq,Nat.reduceEqDiff]
 refine ES_loopL (fun ts G => ∃ k : Nat,(k ≤ l.length ∧ G.length = H.length + 1 + 2 * k ∧ AHeap.find G H.length = some ⟨3,partV l H.length k ++ List.replicate (m - k) zeroV,true,25⟩ ∧ (∀ i,i < k → AHeap.find G (H.length + 1 + 2 * i) = lentRB (nthV l i).row) ∧ ∀ i,i < H.length → AHeap.find G i = AHeap.find H i) ∧ Fr [some (.lst 3 (vrow l) ro),none,none,some (.vec 3 H.length 0 k (some m)),some (.sc (.int .i64 k)),none,none,none,none,none,none,none,none,none,none,none,none,none,none,none,none,none,none,none,none,none,none,none,none,none,none,none,none,none,none,none,none,none,none] ts) (fun ts _ => l.length - (intV (ts.getD 4 .top)).toNat) ?_ ?_
 ·refine ⟨0,⟨Nat.zero_le _,by simp,?_,fun i hi => by omega,fun i hi => ?_⟩,by simp [Fr]⟩
  ·simp -implicitDefEqProofs (maxSteps := 99999999) (disch := first | omega | (simp only [AHeap.set_length,killO_length,List.length_cons,List.length_nil]; first | done | omega)) only [va,vg,vs,vw,Nat.reduceMul,ite_true,ite_false,eq_self,forall_const,implies_true,Nat.reduceAdd,Nat.reduceSub,Nat.reduceLT,Nat.reduceLeDiff,↓reduceIte,reduceCtorEq,Int.reduceEq,Int.reduceLT,Int.reduceLE,Int.reduceGT,Int.reduceGE,Int.reduceAdd,Int.reduceSub,Int.reduceNeg,Int.reduceToNat,Nat.reduceBEq,Nat.reduceEqDiff]
   simp [partV]
  ·simp -implicitDefEqProofs (maxSteps := 99999999) (disch := first | omega | (simp only [AHeap.set_length,killO_length,List.length_cons,List.length_nil]; first | done | omega)) only [va,vg,vs,vw,Nat.reduceMul,ite_true,ite_false,eq_self,forall_const,implies_true,Nat.reduceAdd,Nat.reduceSub,Nat.reduceLT,Nat.reduceLeDiff,↓reduceIte,reduceCtorEq,Int.reduceEq,Int.reduceLT,Int.reduceLE,Int.reduceGT,Int.reduceGE,Int.reduceAdd,Int.reduceSub,Int.reduceNeg,Int.reduceToNat,Nat.reduceBEq,Nat.reduceEqDiff]
 ·rintro ts G ⟨k,⟨hk,q1,q2,q3,q4⟩,hfr⟩ L2 hL2
  obtain ⟨js,rfl⟩ := hfr.opened
  clear hfr
  simp -implicitDefEqProofs (maxSteps := 99999999) (disch := first | omega | (simp only [AHeap.set_length,killO_length,List.length_cons,List.length_nil]; first | done | omega)) only [mk,hl3,va,vg,vs,vw,Nat.reduceMul,ite_true,ite_false,eq_self,forall_const,implies_true,Nat.reduceAdd,Nat.reduceSub,Nat.reduceLT,Nat.reduceLeDiff,↓reduceIte,reduceCtorEq,Int.reduceEq,Int.reduceLT,Int.reduceLE,Int.reduceGT,Int.reduceGE,Int.reduceAdd,Int.reduceSub,Int.reduceNeg,Int.reduceToNat,Nat.reduceBEq,Nat.reduceEqDiff]
  refine condR_if (fun h => ?_) (fun h => ?_)
  ·have h1 : k < l.length := by omega
   have k0 : (0 : Int) ≤ (k : Int) := by omega
   have k1 : (k : Int) < l.length := by omega
   have hg := vrow_get h1
   have hlv := lentValue_d (nthV l k) none G (few_row hf h1)
   rw [vlA_eq] at hlv
   simp -implicitDefEqProofs (maxSteps := 99999999) (disch := first | omega | (simp only [AHeap.set_length,killO_length,List.length_cons,List.length_nil]; first | done | omega)) only [hl3,hg,h1,k0,k1,va,vg,vs,vw,Nat.reduceMul,ite_true,ite_false,eq_self,forall_const,implies_true,Nat.reduceAdd,Nat.reduceSub,Nat.reduceLT,Nat.reduceLeDiff,↓reduceIte,reduceCtorEq,Int.reduceEq,Int.reduceLT,Int.reduceLE,Int.reduceGT,Int.reduceGE,Int.reduceAdd,Int.reduceSub,Int.reduceNeg,Int.reduceToNat,Nat.reduceBEq,Nat.reduceEqDiff]
   refine callR_ret hlv ?_
   have hpl := partV_length (l := l) (n0 := H.length) (k := k)
   have htk : (partV l H.length k ++ List.replicate (m - k) zeroV).take k = partV l H.length k := by rw [List.take_append_of_le_length (by omega),List.take_of_length_le (by omega)]
   have hdk : (partV l H.length k ++ List.replicate (m - k) zeroV).drop (k + 1) = List.replicate (m - (k + 1)) zeroV := by
    rw [List.drop_append,List.drop_of_length_le (by omega),hpl,List.nil_append,List.drop_replicate]
    congr 1
    omega
   have hll : (partV l H.length k ++ List.replicate (m - k) zeroV).length = m := by rw [List.length_append,hpl,List.length_replicate]; omega
   have hroom : k + 1 ≤ m := by omega
   have hkm : k ≤ m := by omega
   have hlim : k + 1 ≤ 100000000 := by omega
   simp -implicitDefEqProofs (maxSteps := 99999999) (disch := first | omega | (simp only [AHeap.set_length,killO_length,List.length_cons,List.length_nil]; first | done | omega)) only [q2,htk,hdk,hll,hroom,hkm,hlim,lvA_eq,va,vg,vs,vw,Nat.reduceMul,ite_true,ite_false,eq_self,forall_const,implies_true,Nat.reduceAdd,Nat.reduceSub,Nat.reduceLT,Nat.reduceLeDiff,↓reduceIte,reduceCtorEq,Int.reduceEq,Int.reduceLT,Int.reduceLE,Int.reduceGT,Int.reduceGE,Int.reduceAdd,Int.reduceSub,Int.reduceNeg,Int.reduceToNat,Nat.reduceBEq,Nat.reduceEqDiff]
   refine hL2 _ _ ⟨k + 1,⟨by omega,by simp [AHeap.set_length]; omega,?_,fun i hi => ?_,fun i hi => ?_⟩,by simp [Fr]⟩ (by simp [intV,mk]; omega)
   ·simp -implicitDefEqProofs (maxSteps := 99999999) (disch := first | omega | (simp only [AHeap.set_length,killO_length,List.length_cons,List.length_nil]; first | done | omega)) only [va,vg,vs,vw,Nat.reduceMul,ite_true,ite_false,eq_self,forall_const,implies_true,Nat.reduceAdd,Nat.reduceSub,Nat.reduceLT,Nat.reduceLeDiff,↓reduceIte,reduceCtorEq,Int.reduceEq,Int.reduceLT,Int.reduceLE,Int.reduceGT,Int.reduceGE,Int.reduceAdd,Int.reduceSub,Int.reduceNeg,Int.reduceToNat,Nat.reduceBEq,Nat.reduceEqDiff]
    rw [partV_succ,q1]
    simp only [List.append_assoc,List.singleton_append,lvA]
   ·by_cases e : i = k
    ·subst e
     rw [show H.length + 1 + 2 * i = G.length from by omega]
     simp -implicitDefEqProofs (maxSteps := 99999999) (disch := first | omega | (simp only [AHeap.set_length,killO_length,List.length_cons,List.length_nil]; first | done | omega)) only [va,vg,vs,vw,Nat.reduceMul,ite_true,ite_false,eq_self,forall_const,implies_true,Nat.reduceAdd,Nat.reduceSub,Nat.reduceLT,Nat.reduceLeDiff,↓reduceIte,reduceCtorEq,Int.reduceEq,Int.reduceLT,Int.reduceLE,Int.reduceGT,Int.reduceGE,Int.reduceAdd,Int.reduceSub,Int.reduceNeg,Int.reduceToNat,Nat.reduceBEq,Nat.reduceEqDiff]
    ·rw [find_past (by simp [AHeap.set_length]; omega),find_past (by rw [AHeap.set_length]; omega),AHeap.find_set_ne (by omega)]
     exact q3 i (by omega)
   ·rw [find_past (by simp [AHeap.set_length]; omega),find_past (by rw [AHeap.set_length]; omega),AHeap.find_set_ne (by omega)]
    exact q4 i hi
  ·have hkl : k = l.length := by omega
   subst hkl
   refine hL _ _ ?_
   clear hL hL2
   refine ES_seq_gen fun L hL => ?_
   simp -implicitDefEqProofs (maxSteps := 99999999) (disch := first | omega | (simp only [AHeap.set_length,killO_length,List.length_cons,List.length_nil]; first | done | omega)) only [va,vg,vs,vw,Nat.reduceMul,ite_true,ite_false,eq_self,forall_const,implies_true,Nat.reduceAdd,Nat.reduceSub,Nat.reduceLT,Nat.reduceLeDiff,↓reduceIte,reduceCtorEq,Int.reduceEq,Int.reduceLT,Int.reduceLE,Int.reduceGT,Int.reduceGE,Int.reduceAdd,Int.reduceSub,Int.reduceNeg,Int.reduceToNat,Nat.reduceBEq,Nat.reduceEqDiff]
   have hpl := partV_length (l := l) (n0 := H.length) (k := l.length)
   have ed : m - l.length = 12 := by omega
   rw [ed] at q2
   refine ES_loopL (fun ts F => ∃ j : Nat,(j ≤ 12 ∧ F.length = G.length ∧ AHeap.find F H.length = some ⟨3,partV l H.length l.length ++ (mksV j ++ List.replicate (12 - j) zeroV),true,25⟩ ∧ ∀ i,i < G.length → i ≠ H.length → AHeap.find F i = AHeap.find G i) ∧ Fr [some (.lst 3 (vrow l) ro),none,none,some (.vec 3 H.length 0 (l.length + j) (some m)),none,none,some (.sc (.int .i64 j)),none,none,none,none,none,none,none,none,none,none,none,none,none,none,none,none,none,none,none,none,none,none,none,none,none,none,none,none,none,none,none,none] ts) (fun ts _ => 12 - (intV (ts.getD 6 .top)).toNat) ⟨0,⟨by omega,rfl,by simpa [mksV] using q2,fun _ _ _ => rfl⟩,by simp [Fr]⟩ ?_
   rintro ts F ⟨j,⟨hj,p1,p2,p3⟩,hfr⟩ L2 hL2
   obtain ⟨js,rfl⟩ := hfr.opened
   clear hfr
   simp -implicitDefEqProofs (maxSteps := 99999999) (disch := first | omega | (simp only [AHeap.set_length,killO_length,List.length_cons,List.length_nil]; first | done | omega)) only [mk,va,vg,vs,vw,Nat.reduceMul,ite_true,ite_false,eq_self,forall_const,implies_true,Nat.reduceAdd,Nat.reduceSub,Nat.reduceLT,Nat.reduceLeDiff,↓reduceIte,reduceCtorEq,Int.reduceEq,Int.reduceLT,Int.reduceLE,Int.reduceGT,Int.reduceGE,Int.reduceAdd,Int.reduceSub,Int.reduceNeg,Int.reduceToNat,Nat.reduceBEq,Nat.reduceEqDiff]
   refine condR_if (fun h => ?_) (fun h => ?_)
   ·have h1 : j < 12 := by omega
    simp -implicitDefEqProofs (maxSteps := 99999999) (disch := first | omega | (simp only [AHeap.set_length,killO_length,List.length_cons,List.length_nil]; first | done | omega)) only [va,vg,vs,vw,Nat.reduceMul,ite_true,ite_false,eq_self,forall_const,implies_true,Nat.reduceAdd,Nat.reduceSub,Nat.reduceLT,Nat.reduceLeDiff,↓reduceIte,reduceCtorEq,Int.reduceEq,Int.reduceLT,Int.reduceLE,Int.reduceGT,Int.reduceGE,Int.reduceAdd,Int.reduceSub,Int.reduceNeg,Int.reduceToNat,Nat.reduceBEq,Nat.reduceEqDiff]
    refine callR_ret (markValue_d _ _ _) ?_
    have hml := mksV_length (j := j)
    have htk : (partV l H.length l.length ++ (mksV j ++ List.replicate (12 - j) zeroV)).take (l.length + j) = partV l H.length l.length ++ mksV j := by
     rw [← List.append_assoc,List.take_append_of_le_length (by simp [hpl,hml]),List.take_of_length_le (by simp [hpl,hml])]
    have hdk : (partV l H.length l.length ++ (mksV j ++ List.replicate (12 - j) zeroV)).drop (l.length + (j + 1)) = List.replicate (12 - (j + 1)) zeroV := by
     rw [← List.append_assoc,List.drop_append,List.drop_of_length_le (by simp [hpl,hml]),List.length_append,hpl,hml,List.nil_append,List.drop_replicate]
     congr 1
     omega
    have hll : (partV l H.length l.length ++ (mksV j ++ List.replicate (12 - j) zeroV)).length = m := by rw [List.length_append,List.length_append,hpl,hml,List.length_replicate]; omega
    have hroom : l.length + (j + 1) ≤ m := by omega
    have hkm : l.length + j ≤ m := by omega
    have hlim : l.length + (j + 1) ≤ 100000000 := by omega
    simp -implicitDefEqProofs (maxSteps := 99999999) (disch := first | omega | (simp only [AHeap.set_length,killO_length,List.length_cons,List.length_nil]; first | done | omega)) only [p2,htk,hdk,hll,hroom,hkm,hlim,mkV_eq,va,vg,vs,vw,Nat.reduceMul,ite_true,ite_false,eq_self,forall_const,implies_true,Nat.reduceAdd,Nat.reduceSub,Nat.reduceLT,Nat.reduceLeDiff,↓reduceIte,reduceCtorEq,Int.reduceEq,Int.reduceLT,Int.reduceLE,Int.reduceGT,Int.reduceGE,Int.reduceAdd,Int.reduceSub,Int.reduceNeg,Int.reduceToNat,Nat.reduceBEq,Nat.reduceEqDiff]
    refine hL2 _ _ ⟨j + 1,⟨by omega,by rw [AHeap.set_length]; exact p1,?_,fun i h2 h3 => ?_⟩,by simp [Fr]⟩ (by simp [intV,mk]; omega)
    ·rw [AHeap.find_set_same (by omega),mksV_succ]
     simp only [List.append_assoc,List.singleton_append,List.cons_append,List.nil_append]
     rfl
    ·rw [AHeap.find_set_ne h3]
     exact p3 i h2 h3
   ·have hj12 : j = 12 := by omega
    subst hj12
    refine hL _ _ ?_
    clear hL hL2
    have hkm : l.length ≤ m := by omega
    have h0m : 0 < m := by omega
    simp -implicitDefEqProofs (maxSteps := 99999999) (disch := first | omega | (simp only [AHeap.set_length,killO_length,List.length_cons,List.length_nil]; first | done | omega)) only [hl3,hkm,h0m,Nat.sub_zero,va,vg,vs,vw,Nat.reduceMul,ite_true,ite_false,eq_self,forall_const,implies_true,Nat.reduceAdd,Nat.reduceSub,Nat.reduceLT,Nat.reduceLeDiff,↓reduceIte,reduceCtorEq,Int.reduceEq,Int.reduceLT,Int.reduceLE,Int.reduceGT,Int.reduceGE,Int.reduceAdd,Int.reduceSub,Int.reduceNeg,Int.reduceToNat,Nat.reduceBEq,Nat.reduceEqDiff]
    refine ⟨⟨by omega,rfl,by omega⟩,?_⟩
    simp only [Nat.sub_self,List.replicate_zero,List.append_nil] at p2
    have hsl : (lentBv l).length = l.length := by simp [lentBv]
    obtain ⟨src,hsrc⟩ : ∃ src,src = (List.range l.length).map (fun j => H.length + 1 + 2 * j) ++ [H.length] := ⟨_,rfl⟩
    have sget : ∀ j,j < l.length → src[j]? = some (H.length + 1 + 2 * j) := fun j hj => by
     rw [hsrc,List.getElem?_append_left (by simpa using hj)]
     simp [hj]
    have slast : src[l.length]? = some H.length := by
     rw [hsrc,List.getElem?_append_right (by simp)]
     simp
    have snd : src.Nodup := by
     rw [hsrc]
     refine List.nodup_append.2 ⟨nodup_map (fun i j hij => by omega),by simp,fun a ha b hb => ?_⟩
     obtain ⟨j,_,rfl⟩ := List.mem_map.1 ha
     rw [List.mem_singleton.1 hb]
     omega
    have slen : src.length = l.length + 1 := by rw [hsrc]; simp
    have eV : lentVV l (H.length + l.length) = .vec 3 (H.length + l.length) 0 l.length (some m) := by rw [hm]
    rw [eV]
    refine weak_lays _ src (by simp [slen,hsl]) snd (fun s hs => ?_) (fun i hi => (p3 i (by omega) (by omega)).trans (q4 i hi)) (fun i k s h1 h2 => ?_) (.vecR (newId_atV snd slast (Nat.le_refl _)) (.inl rfl))
    ·rw [hsrc] at hs
     rcases List.mem_append.1 hs with h | h
     ·obtain ⟨j,_,rfl⟩ := List.mem_map.1 h; omega
     ·rw [List.mem_singleton.1 h]; exact Nat.le_refl _
    ·by_cases e : i < l.length
     ·rw [List.getElem?_append_left (by rw [hsl]; exact e)] at h1
      rw [sget i e] at h2
      cases h2
      have z1 := q3 _ e
      simp [lentBv,e] at h1
      subst h1
      refine ⟨_,?_,rfl,rfl,fun h => h,lng_gz⟩
      rw [p3 _ (by omega) (by omega)]
      exact z1
     ·have e3 : i = l.length := by
       have := (List.getElem?_eq_some_iff.1 h2).1
       omega
      subst e3
      rw [slast] at h2
      cases h2
      rw [List.getElem?_append_right (by omega),hsl] at h1
      simp at h1
      subst h1
      refine ⟨_,p2,rfl,rfl,fun h => h,?_⟩
      refine GzL.append (GzL.map fun i hi => ?_) (GzL.map fun i hi => .same ⟨trivial,trivial,⟨trivial,trivial⟩,trivial⟩)
      have hi' : i < l.length := by simpa using hi
      have s1 := newId_atV (n0 := H.length) snd (sget i hi') (by omega)
      exact .agg (.cons (.same (x := .sc _) trivial) (.cons (.same (x := .sc _) trivial) (.cons (.vecR s1 (.inl rfl)) .nil)))
end Go.Proofs.YtpnnpooeheiedaaDoor
