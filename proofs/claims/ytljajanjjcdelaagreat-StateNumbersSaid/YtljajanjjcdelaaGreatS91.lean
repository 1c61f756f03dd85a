/- Lists of files: written over; how much they are. -/
import Derived.Test.YtljajanjjcdelaaGreatS31
import Derived.Test.YtljajanjjcdelaaGreatS90
import Derived.Test.YtljajanjjcdelaaGreatIc16
namespace Go.Proofs.YtljajanjjcdelaaGreat
open Go.RowKit
set_option maxRecDepth 100000
set_option linter.unusedVariables false
set_option linter.unusedSimpArgs false
/-- A list, written over up to place j. -/
def ovrD (l : List Dc) (j : Nat) : List Dc := ((List.range j).map fun i : Nat => markD 2 (i : Int)) ++ l.drop j
theorem ovrD_zero {l : List Dc} : ovrD l 0 = l := by simp [ovrD]
theorem ovrD_length {l : List Dc} {j : Nat} (h : j ≤ l.length) : (ovrD l j).length = l.length := by simp [ovrD]; omega
theorem ovrD_set {l : List Dc} {j : Nat} (h : j < l.length) : (docs (ovrD l j)).set j (dcA (markD 2 j)) = docs (ovrD l (j + 1)) := by
 unfold ovrD
 rw [docs_append,docs_append,List.set_append_right _ _ (by simp [docs_length])]
 rw [List.range_succ,List.map_append,docs_append,List.append_assoc,List.drop_eq_getElem_cons h]
 simp only [docs_length,List.length_map,List.length_range,Nat.sub_self]
 rfl
theorem overDocs_d (l : List Dc) (H : AHeap) (id : Nat) (ty : TypeId) (hf : AHeap.find H id = some ⟨2,docs (l ++ mksD 12),true,ty⟩) (hl : l.length ≤ 1000000) :
  D Tryz.prog 15 [.vec 2 id 0 l.length (some (l.length + 12))] H (.ret (.tup [])) (AHeap.set H id (some ⟨2,docs ((List.range (l.length + 12)).map fun i : Nat => markD 2 (i : Int)),true,ty⟩)) := by
 refine D_of_DK (by simp [AHeap.set_length]) (dk15 (E_of_ES ?_))
 simp only [ic15,ux]
 obtain ⟨m,hm⟩ : ∃ m,m = l.length + 12 := ⟨_,rfl⟩
 have e12 : ((l.length : Int) + 12).toNat = m := by omega
 have c0 : 0 < m := by omega
 have hlen : (l ++ mksD 12).length = m := by simp [mksD_length]; omega
 rw [← hm]
 refine ES_seq_gen fun L hL => ?_
 simp -implicitDefEqProofs (maxSteps := 99999999) (disch := first | omega | (simp only [AHeap.set_length,killO_length,List.length_cons,List.length_nil]; first | done | omega)) only [docs_length,e12,c0,Nat.sub_zero,va,vg,vs,vw,Nat.reduceMul,ite_true,ite_false,eq_self,forall_const,implies_true,Nat.reduceAdd,Nat.reduceSub,Nat.reduceLT,Nat.reduceLeDiff,↓reduceIte,reduceCtorEq,Int.reduceEq,Int.reduceLT,Int.reduceLE,Int.reduceGT,Int.reduceGE,Int.reduceAdd,Int.reduceSub,Int.reduceNeg,Int.reduceToNat,Nat.reduceBEq,Nat.reduceEqDiff]
 refine ⟨⟨by omega,rfl,by omega,by omega⟩,?_⟩
 refine hL _ _ ?_
 clear hL
 refine ES_seq_gen fun L hL => ?_
 simp -implicitDefEqProofs (maxSteps := 99999999) (disch := first | omega | (simp only [AHeap.set_length,killO_length,List.length_cons,List.length_nil]; first | done | omega)) only [va,vg,vs,vw,Nat.reduceMul,ite_true,ite_false,eq_self,forall_const,implies_true,Nat.reduceAdd,Nat.reduceSub,Nat.reduceLT,Nat.reduceLeDiff,↓reduceIte,reduceCtorEq,Int.reduceEq,Int.reduceLT,Int.reduceLE,Int.reduceGT,Int.reduceGE,Int.reduceAdd,Int.reduceSub,Int.reduceNeg,Int.reduceToNat,Nat.reduceBEq,Nat.reduceEqDiff]
 refine hL _ _ ?_
 clear hL
 have hid := AHeap.find_lt hf
 refine ES_loopL (fun ts H' => ∃ j : Nat,j ≤ m ∧ H' = AHeap.set H id (some ⟨2,docs (ovrD (l ++ mksD 12) j),true,ty⟩) ∧ Fr [some (.vec 2 id 0 l.length (some m)),none,some (.vec 2 id 0 m (some m)),some (.sc (.int .i64 j)),none,none,none,none,none,none,none,none,none,none,none,none,none,none,none,none] ts) (fun ts _ => m - (intV (ts.getD 3 .top)).toNat) ⟨0,by omega,by rw [ovrD_zero,set_same hf],by simp [Fr]⟩ ?_
 rintro ts _ ⟨j,hj,rfl,hfr⟩ L2 hL2
 obtain ⟨js,rfl⟩ := hfr.opened
 clear hfr
 have hf2 : AHeap.find (AHeap.set H id (some ⟨2,docs (ovrD (l ++ mksD 12) j),true,ty⟩)) id = some ⟨2,docs (ovrD (l ++ mksD 12) j),true,ty⟩ := AHeap.find_set_same hid
 simp -implicitDefEqProofs (maxSteps := 99999999) (disch := first | omega | (simp only [AHeap.set_length,killO_length,List.length_cons,List.length_nil]; first | done | omega)) only [mk,va,vg,vs,vw,Nat.reduceMul,ite_true,ite_false,eq_self,forall_const,implies_true,Nat.reduceAdd,Nat.reduceSub,Nat.reduceLT,Nat.reduceLeDiff,↓reduceIte,reduceCtorEq,Int.reduceEq,Int.reduceLT,Int.reduceLE,Int.reduceGT,Int.reduceGE,Int.reduceAdd,Int.reduceSub,Int.reduceNeg,Int.reduceToNat,Nat.reduceBEq,Nat.reduceEqDiff]
 refine condR_if (fun h => ?_) (fun h => ?_)
 ·have h1 : j < m := by omega
  have hol := ovrD_length (l := l ++ mksD 12) (j := j) (by omega)
  have hg : (docs (ovrD (l ++ mksD 12) j)).getD j .top = .agg [.sc (.string (nthD (ovrD (l ++ mksD 12) j) j).1),.sc (.string (nthD (ovrD (l ++ mksD 12) j) j).2)] := docs_get (by omega)
  have hst := ovrD_set (l := l ++ mksD 12) (j := j) (by omega)
  simp -implicitDefEqProofs (maxSteps := 99999999) (disch := first | omega | (simp only [AHeap.set_length,killO_length,List.length_cons,List.length_nil]; first | done | omega)) only [hf2,docs_length,hol,hlen,h1,hg,va,vg,vs,vw,Nat.reduceMul,ite_true,ite_false,eq_self,forall_const,implies_true,Nat.reduceAdd,Nat.reduceSub,Nat.reduceLT,Nat.reduceLeDiff,↓reduceIte,reduceCtorEq,Int.reduceEq,Int.reduceLT,Int.reduceLE,Int.reduceGT,Int.reduceGE,Int.reduceAdd,Int.reduceSub,Int.reduceNeg,Int.reduceToNat,Nat.reduceBEq,Nat.reduceEqDiff]
  refine callR_ret (markDoc_d _ _ _) ?_
  simp -implicitDefEqProofs (maxSteps := 99999999) (disch := first | omega | (simp only [AHeap.set_length,killO_length,List.length_cons,List.length_nil]; first | done | omega)) only [hf2,docs_length,hol,hlen,h1,hg,hst,set_set,va,vg,vs,vw,Nat.reduceMul,ite_true,ite_false,eq_self,forall_const,implies_true,Nat.reduceAdd,Nat.reduceSub,Nat.reduceLT,Nat.reduceLeDiff,↓reduceIte,reduceCtorEq,Int.reduceEq,Int.reduceLT,Int.reduceLE,Int.reduceGT,Int.reduceGE,Int.reduceAdd,Int.reduceSub,Int.reduceNeg,Int.reduceToNat,Nat.reduceBEq,Nat.reduceEqDiff]
  exact ⟨⟨by omega,by omega⟩,hL2 _ _ ⟨j + 1,by omega,rfl,by simp [Fr]⟩ (by simp [intV,mk]; omega)⟩
 ·have h1 : j = m := by omega
  have e1 : ovrD (l ++ mksD 12) m = (List.range m).map fun i : Nat => markD 2 (i : Int) := by
   unfold ovrD
   rw [List.drop_of_length_le (by omega),List.append_nil]
  subst h1
  simp -implicitDefEqProofs (maxSteps := 99999999) (disch := first | omega | (simp only [AHeap.set_length,killO_length,List.length_cons,List.length_nil]; first | done | omega)) only [e1,va,vg,vs,vw,Nat.reduceMul,ite_true,ite_false,eq_self,forall_const,implies_true,Nat.reduceAdd,Nat.reduceSub,Nat.reduceLT,Nat.reduceLeDiff,↓reduceIte,reduceCtorEq,Int.reduceEq,Int.reduceLT,Int.reduceLE,Int.reduceGT,Int.reduceGE,Int.reduceAdd,Int.reduceSub,Int.reduceNeg,Int.reduceToNat,Nat.reduceBEq,Nat.reduceEqDiff]
  exact Weak.refl _ _ _
def ShortD (l : List Dc) : Prop := l.length ≤ 100000000 ∧ ∀ d ∈ l,d.1.size ≤ 100000000 ∧ d.2.size ≤ 100000000
theorem ShortD.nth {l : List Dc} (h : ShortD l) {k : Nat} (hk : k < l.length) : (nthD l k).1.size ≤ 100000000 ∧ (nthD l k).2.size ≤ 100000000 := by
 rw [nthD_eq hk]; exact h.2 _ (List.getElem_mem hk)
def dcnt : List Dc → Int → Int → Int
 | [],n,_ => n
 | d :: r,n,most => if n ≤ most then dcnt r (n + ((d.1.size + d.2.size) / 8 : Nat)) most else n
theorem dcnt_step {l : List Dc} {k : Nat} (h : k < l.length) (n most : Int) : dcnt (l.drop k) n most = if n ≤ most then dcnt (l.drop (k + 1)) (n + (((nthD l k).1.size + (nthD l k).2.size) / 8 : Nat)) most else n := by
 rw [List.drop_eq_getElem_cons h,nthD_eq h]
 rfl
def docsOf (l : List Dc) (most : Int) : Int := dcnt l l.length most
theorem tdiv8s (a b : Nat) : ((a : Int) + (b : Int)).tdiv 8 = ((a + b) / 8 : Nat) := by
 rw [← Int.natCast_add,Int.tdiv_eq_ediv_of_nonneg (by omega)]; omega
theorem docsOf_d (a : List Dc) (ra : Option (List AV)) (most : Int) (H : AHeap) (hl : ShortD a) (hm : 0 ≤ most ∧ most ≤ 1000000) : D Tryz.prog 9 [.lst 2 (docs a) ra,.sc (.int .i64 most)] H (.ret (.sc (.int .i64 (docsOf a most)))) H := by
 have hlen := hl.1
 refine D_of_DK (Nat.le_refl _) (dk9 (E_of_ES ?_))
 simp -implicitDefEqProofs (maxSteps := 99999999) (disch := omega) only [docs_length,ic9,va,vg,vs,vh,Nat.reduceMul,ite_true,ite_false,eq_self,forall_const,implies_true,Nat.reduceAdd,Nat.reduceSub,Nat.reduceLT,Nat.reduceLeDiff,↓reduceIte,reduceCtorEq,Int.reduceEq,Int.reduceLT,Int.reduceLE,Int.reduceGT,Int.reduceGE,Int.reduceAdd,Int.reduceSub,Int.reduceNeg,Int.reduceToNat,Nat.reduceBEq,Nat.reduceEqDiff]
 refine ES_loop (fun ts H' => H' = H ∧ ∃ (k : Nat) (n : Int),(k ≤ a.length ∧ 0 ≤ n ∧ n ≤ 200000000 ∧ dcnt (a.drop k) n most = docsOf a most) ∧ Fr [some (.lst 2 (docs a) ra),some (.sc (.int .i64 most)),none,none,none,some (.sc (.int .i64 n)),some (.sc (.int .i64 k)),none,none,none,none,none,none,none,none,none,none,none,none,none,none,none,none,none,none,none,none,none,none,none,none,none,none,none,none,none,none] ts) (fun ts _ => a.length - (intV (ts.getD 6 .top)).toNat) ?_ ?_
 ·exact ⟨rfl,0,a.length,⟨Nat.zero_le _,by omega,by omega,rfl⟩,by simp [Fr]⟩
 rintro ts _ ⟨rfl,k,n,⟨hk,hn0,hn1,hp⟩,hfr⟩
 obtain ⟨js,rfl⟩ := hfr.opened
 clear hfr
 by_cases h1 : k < a.length
 ·have h1' : (k : Int) < a.length := by omega
  have hs := hl.nth h1
  rw [dcnt_step h1] at hp
  by_cases h2 : n ≤ most
  ·rw [if_pos h2] at hp
   have hq : ((((nthD a k).1.size + (nthD a k).2.size) / 8 : Nat) : Int) ≤ 25000000 := by omega
   simp -implicitDefEqProofs (maxSteps := 99999999) (disch := omega) only [docs_length,mk,h1',h2,docs_get h1,tdiv8s,va,vg,vs,vh,Nat.reduceMul,ite_true,ite_false,eq_self,forall_const,implies_true,Nat.reduceAdd,Nat.reduceSub,Nat.reduceLT,Nat.reduceLeDiff,↓reduceIte,reduceCtorEq,Int.reduceEq,Int.reduceLT,Int.reduceLE,Int.reduceGT,Int.reduceGE,Int.reduceAdd,Int.reduceSub,Int.reduceNeg,Int.reduceToNat,Nat.reduceBEq,Nat.reduceEqDiff]
   refine ⟨by omega,by omega,?_⟩
   exact ⟨⟨k + 1,n + (((nthD a k).1.size + (nthD a k).2.size) / 8 : Nat),⟨by omega,by omega,by omega,hp⟩,by simp [Fr]⟩,by omega⟩
  ·rw [if_neg h2] at hp
   subst hp
   simp -implicitDefEqProofs (maxSteps := 99999999) (disch := omega) only [docs_length,mk,h1',h2,va,vg,vs,vh,Nat.reduceMul,ite_true,ite_false,eq_self,forall_const,implies_true,Nat.reduceAdd,Nat.reduceSub,Nat.reduceLT,Nat.reduceLeDiff,↓reduceIte,reduceCtorEq,Int.reduceEq,Int.reduceLT,Int.reduceLE,Int.reduceGT,Int.reduceGE,Int.reduceAdd,Int.reduceSub,Int.reduceNeg,Int.reduceToNat,Nat.reduceBEq,Nat.reduceEqDiff]
   exact weak_sc .refl
 ·have h1' : ¬ (k : Int) < a.length := by omega
  have hp' : n = docsOf a most := by rw [← hp,List.drop_eq_nil_of_le (by omega)]; rfl
  subst hp'
  simp -implicitDefEqProofs (maxSteps := 99999999) (disch := omega) only [docs_length,mk,h1',va,vg,vs,vh,Nat.reduceMul,ite_true,ite_false,eq_self,forall_const,implies_true,Nat.reduceAdd,Nat.reduceSub,Nat.reduceLT,Nat.reduceLeDiff,↓reduceIte,reduceCtorEq,Int.reduceEq,Int.reduceLT,Int.reduceLE,Int.reduceGT,Int.reduceGE,Int.reduceAdd,Int.reduceSub,Int.reduceNeg,Int.reduceToNat,Nat.reduceBEq,Nat.reduceEqDiff]
  exact weak_sc .refl
theorem equalD_d (a b : List Dc) (ra rb : Option (List AV)) (H : AHeap) (hl : a.length ≤ 100000000) : D Tryz.prog 41 [.lst 2 (docs a) ra,.lst 2 (docs b) rb] H (.ret (.sc (.bool (decide (a = b))))) H := by
 refine D_of_DK (Nat.le_refl _) (dk41 (E_of_ES ?_))
 simp -implicitDefEqProofs (maxSteps := 99999999) (disch := omega) only [docs_length,ic41,va,vg,vs,vh,Nat.reduceMul,ite_true,ite_false,eq_self,forall_const,implies_true,Nat.reduceAdd,Nat.reduceSub,Nat.reduceLT,Nat.reduceLeDiff,↓reduceIte,reduceCtorEq,Int.reduceEq,Int.reduceLT,Int.reduceLE,Int.reduceGT,Int.reduceGE,Int.reduceAdd,Int.reduceSub,Int.reduceNeg,Int.reduceToNat,Nat.reduceBEq,Nat.reduceEqDiff]
 refine condR_if (fun h => ?_) (fun h => ?_)
 ·have hne : ¬ a = b := fun e => by simp [e] at h
  simp -implicitDefEqProofs (maxSteps := 99999999) (disch := omega) only [docs_length,hne,va,vg,vs,vh,Nat.reduceMul,ite_true,ite_false,eq_self,forall_const,implies_true,Nat.reduceAdd,Nat.reduceSub,Nat.reduceLT,Nat.reduceLeDiff,↓reduceIte,reduceCtorEq,Int.reduceEq,Int.reduceLT,Int.reduceLE,Int.reduceGT,Int.reduceGE,Int.reduceAdd,Int.reduceSub,Int.reduceNeg,Int.reduceToNat,Nat.reduceBEq,Nat.reduceEqDiff]
  exact weak_sc .refl
 have hl2 : a.length = b.length := by omega
 simp -implicitDefEqProofs (maxSteps := 99999999) (disch := omega) only [docs_length,va,vg,vs,vh,Nat.reduceMul,ite_true,ite_false,eq_self,forall_const,implies_true,Nat.reduceAdd,Nat.reduceSub,Nat.reduceLT,Nat.reduceLeDiff,↓reduceIte,reduceCtorEq,Int.reduceEq,Int.reduceLT,Int.reduceLE,Int.reduceGT,Int.reduceGE,Int.reduceAdd,Int.reduceSub,Int.reduceNeg,Int.reduceToNat,Nat.reduceBEq,Nat.reduceEqDiff]
 refine ES_loop (fun ts H' => H' = H ∧ ∃ k : Nat,(k ≤ a.length ∧ ∀ j,j < k → nthD a j = nthD b j) ∧ Fr [some (.lst 2 (docs a) ra),some (.lst 2 (docs b) rb),none,none,some (.sc (.bool false)),none,none,none,none,none,none,none,some (.sc (.int .i64 a.length)),some (.sc (.int .i64 k)),none,none,none,none,none,none,none,none,none,none,none,none] ts) (fun ts _ => a.length - (intV (ts.getD 13 .top)).toNat) ?_ ?_
 ·exact ⟨rfl,0,⟨Nat.zero_le _,fun j h => absurd h (Nat.not_lt_zero _)⟩,by simp [Fr]⟩
 rintro ts _ ⟨rfl,k,⟨hk,hp⟩,hfr⟩
 obtain ⟨js,rfl⟩ := hfr.opened
 clear hfr
 simp -implicitDefEqProofs (maxSteps := 99999999) (disch := omega) only [docs_length,mk,va,vg,vs,vh,Nat.reduceMul,ite_true,ite_false,eq_self,forall_const,implies_true,Nat.reduceAdd,Nat.reduceSub,Nat.reduceLT,Nat.reduceLeDiff,↓reduceIte,reduceCtorEq,Int.reduceEq,Int.reduceLT,Int.reduceLE,Int.reduceGT,Int.reduceGE,Int.reduceAdd,Int.reduceSub,Int.reduceNeg,Int.reduceToNat,Nat.reduceBEq,Nat.reduceEqDiff]
 refine condR_if (fun h => ?_) (fun h => ?_)
 ·have h1 : k < a.length := by omega
  have h2 : k < b.length := by omega
  simp -implicitDefEqProofs (maxSteps := 99999999) (disch := omega) only [docs_length,docs_get h1,docs_get h2,va,vg,vs,vh,Nat.reduceMul,ite_true,ite_false,eq_self,forall_const,implies_true,Nat.reduceAdd,Nat.reduceSub,Nat.reduceLT,Nat.reduceLeDiff,↓reduceIte,reduceCtorEq,Int.reduceEq,Int.reduceLT,Int.reduceLE,Int.reduceGT,Int.reduceGE,Int.reduceAdd,Int.reduceSub,Int.reduceNeg,Int.reduceToNat,Nat.reduceBEq,Nat.reduceEqDiff]
  refine ⟨by omega,by omega,condR_if (fun h => ?_) (fun h => ?_)⟩
  ·have hne : ¬ a = b := fun e => by simp [e] at h
   simp -implicitDefEqProofs (maxSteps := 99999999) (disch := omega) only [docs_length,hne,va,vg,vs,vh,Nat.reduceMul,ite_true,ite_false,eq_self,forall_const,implies_true,Nat.reduceAdd,Nat.reduceSub,Nat.reduceLT,Nat.reduceLeDiff,↓reduceIte,reduceCtorEq,Int.reduceEq,Int.reduceLT,Int.reduceLE,Int.reduceGT,Int.reduceGE,Int.reduceAdd,Int.reduceSub,Int.reduceNeg,Int.reduceToNat,Nat.reduceBEq,Nat.reduceEqDiff]
   exact weak_sc .refl
  ·simp -implicitDefEqProofs (maxSteps := 99999999) (disch := omega) only [docs_length,va,vg,vs,vh,Nat.reduceMul,ite_true,ite_false,eq_self,forall_const,implies_true,Nat.reduceAdd,Nat.reduceSub,Nat.reduceLT,Nat.reduceLeDiff,↓reduceIte,reduceCtorEq,Int.reduceEq,Int.reduceLT,Int.reduceLE,Int.reduceGT,Int.reduceGE,Int.reduceAdd,Int.reduceSub,Int.reduceNeg,Int.reduceToNat,Nat.reduceBEq,Nat.reduceEqDiff]
   refine ⟨⟨k + 1,⟨by omega,fun j hj => ?_⟩,by simp [Fr]⟩,by omega⟩
   rcases Nat.lt_succ_iff_lt_or_eq.1 hj with h' | rfl
   ·exact hp j h'
   ·have := Classical.not_not.1 h
    exact Prod.ext this.1 this.2
 ·have hab : a = b := nthD_ext hl2 (fun i hi => hp i (by omega))
  simp -implicitDefEqProofs (maxSteps := 99999999) (disch := omega) only [docs_length,hab,va,vg,vs,vh,Nat.reduceMul,ite_true,ite_false,eq_self,forall_const,implies_true,Nat.reduceAdd,Nat.reduceSub,Nat.reduceLT,Nat.reduceLeDiff,↓reduceIte,reduceCtorEq,Int.reduceEq,Int.reduceLT,Int.reduceLE,Int.reduceGT,Int.reduceGE,Int.reduceAdd,Int.reduceSub,Int.reduceNeg,Int.reduceToNat,Nat.reduceBEq,Nat.reduceEqDiff]
  exact weak_sc .refl
theorem same_d (a b : List Dc) (ra rb : Option (List AV)) (H : AHeap) (hl : a.length ≤ 100000000) : D Tryz.prog 21 [.lst 2 (docs a) ra,.lst 2 (docs b) rb] H (.ret (.sc (.bool (decide (a = b))))) H := by
 refine D_of_DK (Nat.le_refl _) (dk21 (E_of_ES ?_))
 simp -implicitDefEqProofs (maxSteps := 99999999) (disch := omega) only [docs_length,ic21,va,vg,vs,vh,Nat.reduceMul,ite_true,ite_false,eq_self,forall_const,implies_true,Nat.reduceAdd,Nat.reduceSub,Nat.reduceLT,Nat.reduceLeDiff,↓reduceIte,reduceCtorEq,Int.reduceEq,Int.reduceLT,Int.reduceLE,Int.reduceGT,Int.reduceGE,Int.reduceAdd,Int.reduceSub,Int.reduceNeg,Int.reduceToNat,Nat.reduceBEq,Nat.reduceEqDiff]
 refine callR_ret (equalD_d a b ra rb _ hl) ?_
 simp -implicitDefEqProofs (maxSteps := 99999999) (disch := omega) only [docs_length,va,vg,vs,vh,Nat.reduceMul,ite_true,ite_false,eq_self,forall_const,implies_true,Nat.reduceAdd,Nat.reduceSub,Nat.reduceLT,Nat.reduceLeDiff,↓reduceIte,reduceCtorEq,Int.reduceEq,Int.reduceLT,Int.reduceLE,Int.reduceGT,Int.reduceGE,Int.reduceAdd,Int.reduceSub,Int.reduceNeg,Int.reduceToNat,Nat.reduceBEq,Nat.reduceEqDiff]
 exact weak_sc .refl
end Go.Proofs.YtljajanjjcdelaaGreat
