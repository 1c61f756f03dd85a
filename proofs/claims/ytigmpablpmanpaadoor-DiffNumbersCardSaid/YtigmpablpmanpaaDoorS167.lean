/- law02.DiffNumbers: the walk's middle: all pairs of rows. -/
import Derived.Test.YtigmpablpmanpaaDoorS166
namespace Go.Proofs.YtigmpablpmanpaaDoor
open Go.RowKit
set_option maxRecDepth 100000
set_option linter.unusedVariables false
set_option linter.unusedSimpArgs false
def rws (l : List (List ByteArray)) : List AV := l.map fun r => .lst 1 (strs r) none
theorem rws_length (l : List (List ByteArray)) : (rws l).length = l.length := by simp [rws]
theorem rws_get {l : List (List ByteArray)} {k : Nat} (h : k < l.length) : (rws l).getD k .top = .lst 1 (strs (l.getD k [])) none := by simp [rws,List.getD,h]
theorem rows_parts : ic4.r.r.r = .seq (.seq (ic4.r.r.r.l.l) (.block 6 (.loop (.seq (ic4.r.r.r.l.r.l.l.l) (.seq (.block 7 (.seq (ic4.r.r.r.l.r.l.l.r.l.l.l) (.block 8 (.loop (.seq (ic4.r.r.r.l.r.l.l.r.l.l.r.l.l.l) (.seq (.block 9 (.seq (ic4.r.r.r.l.r.l.l.r.l.l.r.l.l.r.l.l.l) (ic4.r.r.r.l.r.l.l.r.l.l.r.l.l.r.l.l.r))) (ic4.r.r.r.l.r.l.l.r.l.l.r.l.l.r.r))))))) (ic4.r.r.r.l.r.l.l.r.r)))))) (ic4.r.r.r.r) := rfl
set_option maxHeartbeats 0 in
theorem numbers_rows (rows : List (List ByteArray)) (hr : ∀ r ∈ rows,r.length ≤ 4) (hn : rows.length ≤ 100000) (F : AHeap) (ts : List AV) (hfr : Fr [some (.sc (.bool false)),some (.lst 1 (rws rows) none),none,none,none,none,none,none,none,none,none,none,none,none,none,none,none,none,none,none,none,none,none,none,none,none,none,none,none,none,none,none,none,none,none,none,none,none,none,none,none,none,none,none,none,none,none,none,none,none,none,none,none,none,none,none,none,none,none,none,none,none,none,none,none,none,none,none,none,none,none,none,none,none,none,none,none,none,none,none,none,none,none,none,none,none,none,none,none,none,none,none,none,none,none,none,none,none,none,none,none,none,none,none,none,none,none,none,none,none,none,none,none,none,none,none,none,none,none,none,none,none,none,none,none,none,none,none,none,none,none,none,none,none,none,none,none] ts) :
  SE Tryd.prog [] (ic4.r.r.r) (bodyS [RV.t 0] fun e1 H1 => Weak [] e1 H1 (.ret (.sc (.bool true))) []) ts F := by
 obtain ⟨js,rfl⟩ := hfr.opened
 clear hfr
 rw [rows_parts]
 obtain ⟨a0,ha0⟩ : ∃ x,x = ic4.r.r.r.l.l := ⟨_,rfl⟩
 obtain ⟨g6,hg6⟩ : ∃ x,x = ic4.r.r.r.l.r.l.l.l := ⟨_,rfl⟩
 obtain ⟨n6,hn6⟩ : ∃ x,x = ic4.r.r.r.l.r.l.l.r.r := ⟨_,rfl⟩
 obtain ⟨b0,hb0⟩ : ∃ x,x = ic4.r.r.r.l.r.l.l.r.l.l.l := ⟨_,rfl⟩
 obtain ⟨g8,hg8⟩ : ∃ x,x = ic4.r.r.r.l.r.l.l.r.l.l.r.l.l.l := ⟨_,rfl⟩
 obtain ⟨n8,hn8⟩ : ∃ x,x = ic4.r.r.r.l.r.l.l.r.l.l.r.l.l.r.r := ⟨_,rfl⟩
 obtain ⟨zd,hzd⟩ : ∃ x,x = ic4.r.r.r.l.r.l.l.r.l.l.r.l.l.r.l.l.l := ⟨_,rfl⟩
 obtain ⟨zc,hzc⟩ : ∃ x,x = ic4.r.r.r.l.r.l.l.r.l.l.r.l.l.r.l.l.r := ⟨_,rfl⟩
 obtain ⟨tl,htl⟩ : ∃ x,x = ic4.r.r.r.r := ⟨_,rfl⟩
 rw [← ha0,← hg6,← hn6,← hb0,← hg8,← hn8,← hzd,← hzc,← htl]
 simp only [ic4,IC.l,IC.r] at ha0 hg6 hn6 hb0 hg8 hn8 hzd hzc
 refine SE.seq (SE.seq (SE.of_ES ?_))
 rw [ha0]
 simp -implicitDefEqProofs (maxSteps := 99999999) (disch := first | omega | (simp only [AHeap.set_length,killO_length,List.length_cons,List.length_nil]; first | done | omega)) only [vu,mk,va,vg,vs,vw,Nat.reduceMul,ite_true,ite_false,eq_self,forall_const,implies_true,Nat.reduceAdd,Nat.reduceSub,Nat.reduceLT,Nat.reduceLeDiff,↓reduceIte,reduceCtorEq,Int.reduceEq,Int.reduceLT,Int.reduceLE,Int.reduceGT,Int.reduceGE,Int.reduceAdd,Int.reduceSub,Int.reduceNeg,Int.reduceToNat,Nat.reduceBEq,Nat.reduceEqDiff]
 refine SE.gen fun K hK => ?_
 refine SE.block (SE.loopL (fun ts G => ∃ i : Nat,i ≤ rows.length ∧ Fr [some (.sc (.bool false)),some (.lst 1 (rws rows) none),none,none,none,none,some (.sc (.int .i64 i)),none,none,none,none,none,none,none,none,none,none,none,none,none,none,none,none,none,none,none,none,none,none,none,none,none,none,none,none,none,none,none,none,none,none,none,none,none,none,none,none,none,none,none,none,none,none,none,none,none,none,none,none,none,none,none,none,none,none,none,none,none,none,none,none,none,none,none,none,none,none,none,none,none,none,none,none,none,none,none,none,none,none,none,none,none,none,none,none,none,none,none,none,none,none,none,none,none,none,none,none,none,none,none,none,none,none,none,none,none,none,none,none,none,none,none,none,none,none,none,none,none,none,none,none,none,none,none,none,none,none] ts) (fun ts _ => rows.length - (intV (ts.getD 6 .top)).toNat) ?_ ?_)
 ·exact ⟨0,Nat.zero_le _,by simp [Fr]⟩
 rintro ts G ⟨i,hi,hfr⟩ L1 hL1
 obtain ⟨js,rfl⟩ := hfr.opened
 clear hfr
 have hrl := rws_length rows
 refine SE.seq (SE.of_ES ?_)
 rw [hg6]
 by_cases hd : i < rows.length
 ·have h1 : (i : Int) < rows.length := by omega
  have hgi := rws_get hd
  have hri := hr _ (List.getElem_mem hd)
  rw [show rows.getD i [] = rows[i] by simp [List.getD,hd]] at hgi
  generalize rows[i] = a at hgi hri
  simp -implicitDefEqProofs (maxSteps := 99999999) (disch := first | omega | (simp only [AHeap.set_length,killO_length,List.length_cons,List.length_nil]; first | done | omega)) only [vu,mk,h1,hrl,va,vg,vs,vw,Nat.reduceMul,ite_true,ite_false,eq_self,forall_const,implies_true,Nat.reduceAdd,Nat.reduceSub,Nat.reduceLT,Nat.reduceLeDiff,↓reduceIte,reduceCtorEq,Int.reduceEq,Int.reduceLT,Int.reduceLE,Int.reduceGT,Int.reduceGE,Int.reduceAdd,Int.reduceSub,Int.reduceNeg,Int.reduceToNat,Nat.reduceBEq,Nat.reduceEqDiff]
  refine SE.seq (SE.gen fun K2 hK2 => ?_)
  refine SE.block (SE.seq (SE.of_ES ?_))
  rw [hb0]
  simp -implicitDefEqProofs (maxSteps := 99999999) (disch := first | omega | (simp only [AHeap.set_length,killO_length,List.length_cons,List.length_nil]; first | done | omega)) only [vu,va,vg,vs,vw,Nat.reduceMul,ite_true,ite_false,eq_self,forall_const,implies_true,Nat.reduceAdd,Nat.reduceSub,Nat.reduceLT,Nat.reduceLeDiff,↓reduceIte,reduceCtorEq,Int.reduceEq,Int.reduceLT,Int.reduceLE,Int.reduceGT,Int.reduceGE,Int.reduceAdd,Int.reduceSub,Int.reduceNeg,Int.reduceToNat,Nat.reduceBEq,Nat.reduceEqDiff]
  refine SE.gen fun K3 hK3 => ?_
  refine SE.block (SE.loopL (fun ts G => ∃ k : Nat,k ≤ rows.length ∧ Fr [some (.sc (.bool false)),some (.lst 1 (rws rows) none),none,none,none,none,some (.sc (.int .i64 i)),some (.sc (.int .i64 k)),none,none,none,none,none,none,none,none,none,none,none,none,none,none,none,none,none,none,none,none,none,none,none,none,none,none,none,none,none,none,none,none,none,none,none,none,none,none,none,none,none,none,none,none,none,none,none,none,none,none,none,none,none,none,none,none,none,none,none,none,none,none,none,none,none,none,none,none,none,none,none,none,none,none,none,none,none,none,none,none,none,none,none,none,none,none,none,none,none,none,none,none,none,none,none,none,none,none,none,none,none,none,none,none,none,none,none,none,none,none,none,none,none,none,none,none,none,none,none,none,none,none,none,none,none,none,none,none,none] ts) (fun ts _ => rows.length - (intV (ts.getD 7 .top)).toNat) ?_ ?_)
  ·exact ⟨0,Nat.zero_le _,by simp [Fr]⟩
  rintro ts G ⟨k,hk,hfr⟩ L2 hL2
  obtain ⟨js,rfl⟩ := hfr.opened
  clear hfr
  refine SE.seq (SE.of_ES ?_)
  rw [hg8]
  by_cases hd2 : k < rows.length
  ·have h2 : (k : Int) < rows.length := by omega
   have hgk := rws_get hd2
   have hrk := hr _ (List.getElem_mem hd2)
   rw [show rows.getD k [] = rows[k] by simp [List.getD,hd2]] at hgk
   generalize rows[k] = b at hgk hrk
   simp -implicitDefEqProofs (maxSteps := 99999999) (disch := first | omega | (simp only [AHeap.set_length,killO_length,List.length_cons,List.length_nil]; first | done | omega)) only [vu,mk,h2,hrl,va,vg,vs,vw,Nat.reduceMul,ite_true,ite_false,eq_self,forall_const,implies_true,Nat.reduceAdd,Nat.reduceSub,Nat.reduceLT,Nat.reduceLeDiff,↓reduceIte,reduceCtorEq,Int.reduceEq,Int.reduceLT,Int.reduceLE,Int.reduceGT,Int.reduceGE,Int.reduceAdd,Int.reduceSub,Int.reduceNeg,Int.reduceToNat,Nat.reduceBEq,Nat.reduceEqDiff]
   refine SE.seq (SE.gen fun K4 hK4 => ?_)
   refine SE.block (SE.seq (SE.of_ES ?_))
   rw [hzd]
   simp -implicitDefEqProofs (maxSteps := 99999999) (disch := first | omega | (simp only [AHeap.set_length,killO_length,List.length_cons,List.length_nil]; first | done | omega)) only [vu,h1,h2,hrl,hgi,hgk,va,vg,vs,vw,Nat.reduceMul,ite_true,ite_false,eq_self,forall_const,implies_true,Nat.reduceAdd,Nat.reduceSub,Nat.reduceLT,Nat.reduceLeDiff,↓reduceIte,reduceCtorEq,Int.reduceEq,Int.reduceLT,Int.reduceLE,Int.reduceGT,Int.reduceGE,Int.reduceAdd,Int.reduceSub,Int.reduceNeg,Int.reduceToNat,Nat.reduceBEq,Nat.reduceEqDiff]
   refine ⟨by omega,by omega,callD_ret (common_o a b (by omega) (by omega) _) (by simp [chS]) ?_⟩
   have hcl := cmn_le a b 0 0 (Nat.zero_le _)
   generalize hc : cmn a b 0 0 = c at hcl
   obtain ⟨G1,hG1⟩ : ∃ G1 : AHeap,G1 = OwnB 2 40 (prs c) :: G := ⟨_,rfl⟩
   have p1 : AHeap.find G1 G.length = OwnB 2 40 (prs c) := by rw [hG1]; exact find_top rfl
   have l1 : G1.length = G.length + 1 := by rw [hG1]; rfl
   rw [← hG1]
   clear hG1
   simp -implicitDefEqProofs (maxSteps := 99999999) (disch := first | omega | (simp only [AHeap.set_length,killO_length,List.length_cons,List.length_nil]; first | done | omega)) only [vu,h1,h2,hrl,hgi,hgk,va,vg,vs,vw,Nat.reduceMul,ite_true,ite_false,eq_self,forall_const,implies_true,Nat.reduceAdd,Nat.reduceSub,Nat.reduceLT,Nat.reduceLeDiff,↓reduceIte,reduceCtorEq,Int.reduceEq,Int.reduceLT,Int.reduceLE,Int.reduceGT,Int.reduceGE,Int.reduceAdd,Int.reduceSub,Int.reduceNeg,Int.reduceToNat,Nat.reduceBEq,Nat.reduceEqDiff]
   refine ⟨by omega,by omega,callD_ret (refCommon_o a b (by omega) (by omega) _) (by simp [chS]) ?_⟩
   rw [hc]
   obtain ⟨G2,hG2⟩ : ∃ G2 : AHeap,G2 = OwnB 2 40 (prs c) :: G1 := ⟨_,rfl⟩
   have p2 : AHeap.find G2 G1.length = OwnB 2 40 (prs c) := by rw [hG2]; exact find_top rfl
   have p3 : AHeap.find G2 G.length = OwnB 2 40 (prs c) := by rw [hG2,find_past (by omega)]; exact p1
   rw [← hG2]
   clear hG2 p1
   simp -implicitDefEqProofs (maxSteps := 99999999) (disch := first | omega | (simp only [AHeap.set_length,killO_length,List.length_cons,List.length_nil]; first | done | omega)) only [vu,h1,h2,hrl,hgi,hgk,va,vg,vs,vw,Nat.reduceMul,ite_true,ite_false,eq_self,forall_const,implies_true,Nat.reduceAdd,Nat.reduceSub,Nat.reduceLT,Nat.reduceLeDiff,↓reduceIte,reduceCtorEq,Int.reduceEq,Int.reduceLT,Int.reduceLE,Int.reduceGT,Int.reduceGE,Int.reduceAdd,Int.reduceSub,Int.reduceNeg,Int.reduceToNat,Nat.reduceBEq,Nat.reduceEqDiff]
   refine callD_same (D_view (.cons (ViewL.own (fun _ => p3) prs_view) (.cons (ViewL.own (fun _ => p2) prs_view) .nil)) .sc (samePairs_d c c none none [] (by omega))) ?_
   simp -implicitDefEqProofs (maxSteps := 99999999) (disch := first | omega | (simp only [AHeap.set_length,killO_length,List.length_cons,List.length_nil]; first | done | omega)) only [vu,h1,h2,hrl,hgi,hgk,va,vg,vs,vw,Nat.reduceMul,ite_true,ite_false,eq_self,forall_const,implies_true,Nat.reduceAdd,Nat.reduceSub,Nat.reduceLT,Nat.reduceLeDiff,↓reduceIte,reduceCtorEq,Int.reduceEq,Int.reduceLT,Int.reduceLE,Int.reduceGT,Int.reduceGE,Int.reduceAdd,Int.reduceSub,Int.reduceNeg,Int.reduceToNat,Nat.reduceBEq,Nat.reduceEqDiff]
   obtain ⟨lh,lt⟩ := difH_few (a := a) (b := b) (by omega) (by omega)
   have hs : ∀ h ∈ difH a b,h.old.length ≤ 100000000 ∧ h.new.length ≤ 100000000 := fun h hm => by have := lt h hm; omega
   refine ⟨by omega,by omega,callD_same (hunks_d a b (by omega) (by omega) _) ?_⟩
   simp -implicitDefEqProofs (maxSteps := 99999999) (disch := first | omega | (simp only [AHeap.set_length,killO_length,List.length_cons,List.length_nil]; first | done | omega)) only [vu,h1,h2,hrl,hgi,hgk,va,vg,vs,vw,Nat.reduceMul,ite_true,ite_false,eq_self,forall_const,implies_true,Nat.reduceAdd,Nat.reduceSub,Nat.reduceLT,Nat.reduceLeDiff,↓reduceIte,reduceCtorEq,Int.reduceEq,Int.reduceLT,Int.reduceLE,Int.reduceGT,Int.reduceGE,Int.reduceAdd,Int.reduceSub,Int.reduceNeg,Int.reduceToNat,Nat.reduceBEq,Nat.reduceEqDiff]
   refine ⟨by omega,by omega,callD_same (refHunks_d a b (by omega) (by omega) _) ?_⟩
   simp -implicitDefEqProofs (maxSteps := 99999999) (disch := first | omega | (simp only [AHeap.set_length,killO_length,List.length_cons,List.length_nil]; first | done | omega)) only [vu,va,vg,vs,vw,Nat.reduceMul,ite_true,ite_false,eq_self,forall_const,implies_true,Nat.reduceAdd,Nat.reduceSub,Nat.reduceLT,Nat.reduceLeDiff,↓reduceIte,reduceCtorEq,Int.reduceEq,Int.reduceLT,Int.reduceLE,Int.reduceGT,Int.reduceGE,Int.reduceAdd,Int.reduceSub,Int.reduceNeg,Int.reduceToNat,Nat.reduceBEq,Nat.reduceEqDiff]
   refine callD_same (sameHunks_d (difH a b) (difH a b) none none _ (by omega) hs) ?_
   simp -implicitDefEqProofs (maxSteps := 99999999) (disch := first | omega | (simp only [AHeap.set_length,killO_length,List.length_cons,List.length_nil]; first | done | omega)) only [vu,va,vg,vs,vw,Nat.reduceMul,ite_true,ite_false,eq_self,forall_const,implies_true,Nat.reduceAdd,Nat.reduceSub,Nat.reduceLT,Nat.reduceLeDiff,↓reduceIte,reduceCtorEq,Int.reduceEq,Int.reduceLT,Int.reduceLE,Int.reduceGT,Int.reduceGE,Int.reduceAdd,Int.reduceSub,Int.reduceNeg,Int.reduceToNat,Nat.reduceBEq,Nat.reduceEqDiff]
   refine SE.of_ES ?_
   rw [hzc]
   simp -implicitDefEqProofs (maxSteps := 99999999) (disch := first | omega | (simp only [AHeap.set_length,killO_length,List.length_cons,List.length_nil]; first | done | omega)) only [vu,va,vg,vs,vw,Nat.reduceMul,ite_true,ite_false,eq_self,forall_const,implies_true,Nat.reduceAdd,Nat.reduceSub,Nat.reduceLT,Nat.reduceLeDiff,↓reduceIte,reduceCtorEq,Int.reduceEq,Int.reduceLT,Int.reduceLE,Int.reduceGT,Int.reduceGE,Int.reduceAdd,Int.reduceSub,Int.reduceNeg,Int.reduceToNat,Nat.reduceBEq,Nat.reduceEqDiff]
   refine hK4 _ _ _ ?_
   simp -implicitDefEqProofs (maxSteps := 99999999) (disch := first | omega | (simp only [AHeap.set_length,killO_length,List.length_cons,List.length_nil]; first | done | omega)) only [vu,va,vg,vs,vw,Nat.reduceMul,ite_true,ite_false,eq_self,forall_const,implies_true,Nat.reduceAdd,Nat.reduceSub,Nat.reduceLT,Nat.reduceLeDiff,↓reduceIte,reduceCtorEq,Int.reduceEq,Int.reduceLT,Int.reduceLE,Int.reduceGT,Int.reduceGE,Int.reduceAdd,Int.reduceSub,Int.reduceNeg,Int.reduceToNat,Nat.reduceBEq,Nat.reduceEqDiff]
   refine SE.of_ES ?_
   rw [hn8]
   simp -implicitDefEqProofs (maxSteps := 99999999) (disch := first | omega | (simp only [AHeap.set_length,killO_length,List.length_cons,List.length_nil]; first | done | omega)) only [vu,va,vg,vs,vw,Nat.reduceMul,ite_true,ite_false,eq_self,forall_const,implies_true,Nat.reduceAdd,Nat.reduceSub,Nat.reduceLT,Nat.reduceLeDiff,↓reduceIte,reduceCtorEq,Int.reduceEq,Int.reduceLT,Int.reduceLE,Int.reduceGT,Int.reduceGE,Int.reduceAdd,Int.reduceSub,Int.reduceNeg,Int.reduceToNat,Nat.reduceBEq,Nat.reduceEqDiff]
   exact hL2 _ _ ⟨k + 1,by omega,by simp [Fr]⟩ (by simp [intV,mk]; omega)
  ·have h2 : ¬ (k : Int) < rows.length := by omega
   simp -implicitDefEqProofs (maxSteps := 99999999) (disch := first | omega | (simp only [AHeap.set_length,killO_length,List.length_cons,List.length_nil]; first | done | omega)) only [vu,mk,h2,hrl,va,vg,vs,vw,Nat.reduceMul,ite_true,ite_false,eq_self,forall_const,implies_true,Nat.reduceAdd,Nat.reduceSub,Nat.reduceLT,Nat.reduceLeDiff,↓reduceIte,reduceCtorEq,Int.reduceEq,Int.reduceLT,Int.reduceLE,Int.reduceGT,Int.reduceGE,Int.reduceAdd,Int.reduceSub,Int.reduceNeg,Int.reduceToNat,Nat.reduceBEq,Nat.reduceEqDiff]
   clear hL2
   refine hK3 _ _ _ ?_
   simp -implicitDefEqProofs (maxSteps := 99999999) (disch := first | omega | (simp only [AHeap.set_length,killO_length,List.length_cons,List.length_nil]; first | done | omega)) only [vu,va,vg,vs,vw,Nat.reduceMul,ite_true,ite_false,eq_self,forall_const,implies_true,Nat.reduceAdd,Nat.reduceSub,Nat.reduceLT,Nat.reduceLeDiff,↓reduceIte,reduceCtorEq,Int.reduceEq,Int.reduceLT,Int.reduceLE,Int.reduceGT,Int.reduceGE,Int.reduceAdd,Int.reduceSub,Int.reduceNeg,Int.reduceToNat,Nat.reduceBEq,Nat.reduceEqDiff]
   refine hK2 _ _ _ ?_
   simp -implicitDefEqProofs (maxSteps := 99999999) (disch := first | omega | (simp only [AHeap.set_length,killO_length,List.length_cons,List.length_nil]; first | done | omega)) only [vu,va,vg,vs,vw,Nat.reduceMul,ite_true,ite_false,eq_self,forall_const,implies_true,Nat.reduceAdd,Nat.reduceSub,Nat.reduceLT,Nat.reduceLeDiff,↓reduceIte,reduceCtorEq,Int.reduceEq,Int.reduceLT,Int.reduceLE,Int.reduceGT,Int.reduceGE,Int.reduceAdd,Int.reduceSub,Int.reduceNeg,Int.reduceToNat,Nat.reduceBEq,Nat.reduceEqDiff]
   refine SE.of_ES ?_
   rw [hn6]
   simp -implicitDefEqProofs (maxSteps := 99999999) (disch := first | omega | (simp only [AHeap.set_length,killO_length,List.length_cons,List.length_nil]; first | done | omega)) only [vu,va,vg,vs,vw,Nat.reduceMul,ite_true,ite_false,eq_self,forall_const,implies_true,Nat.reduceAdd,Nat.reduceSub,Nat.reduceLT,Nat.reduceLeDiff,↓reduceIte,reduceCtorEq,Int.reduceEq,Int.reduceLT,Int.reduceLE,Int.reduceGT,Int.reduceGE,Int.reduceAdd,Int.reduceSub,Int.reduceNeg,Int.reduceToNat,Nat.reduceBEq,Nat.reduceEqDiff]
   exact hL1 _ _ ⟨i + 1,by omega,by simp [Fr]⟩ (by simp [intV,mk]; omega)
 ·have h1 : ¬ (i : Int) < rows.length := by omega
  simp -implicitDefEqProofs (maxSteps := 99999999) (disch := first | omega | (simp only [AHeap.set_length,killO_length,List.length_cons,List.length_nil]; first | done | omega)) only [vu,mk,h1,hrl,va,vg,vs,vw,Nat.reduceMul,ite_true,ite_false,eq_self,forall_const,implies_true,Nat.reduceAdd,Nat.reduceSub,Nat.reduceLT,Nat.reduceLeDiff,↓reduceIte,reduceCtorEq,Int.reduceEq,Int.reduceLT,Int.reduceLE,Int.reduceGT,Int.reduceGE,Int.reduceAdd,Int.reduceSub,Int.reduceNeg,Int.reduceToNat,Nat.reduceBEq,Nat.reduceEqDiff]
  clear hL1
  refine hK _ _ _ ?_
  clear hK
  simp -implicitDefEqProofs (maxSteps := 99999999) (disch := first | omega | (simp only [AHeap.set_length,killO_length,List.length_cons,List.length_nil]; first | done | omega)) only [vu,va,vg,vs,vw,Nat.reduceMul,ite_true,ite_false,eq_self,forall_const,implies_true,Nat.reduceAdd,Nat.reduceSub,Nat.reduceLT,Nat.reduceLeDiff,↓reduceIte,reduceCtorEq,Int.reduceEq,Int.reduceLT,Int.reduceLE,Int.reduceGT,Int.reduceGE,Int.reduceAdd,Int.reduceSub,Int.reduceNeg,Int.reduceToNat,Nat.reduceBEq,Nat.reduceEqDiff]
  rw [htl]
  exact numbers_long _ _ (by simp [Fr])
end Go.Proofs.YtigmpablpmanpaaDoor
