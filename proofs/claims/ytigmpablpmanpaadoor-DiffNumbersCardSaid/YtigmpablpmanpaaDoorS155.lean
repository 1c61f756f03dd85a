/- The document's Common; diff.Common of rows of any length. -/
import Derived.Test.YtigmpablpmanpaaDoorS154
import Derived.Test.YtigmpablpmanpaaDoorS151
namespace Go.Proofs.YtigmpablpmanpaaDoor
open Go.RowKit
set_option maxRecDepth 100000
set_option linter.unusedVariables false
set_option linter.unusedSimpArgs false
theorem refCommon_o (a b : List ByteArray) (hla : a.length ≤ 4096) (hlb : b.length ≤ 4096) (H : AHeap) :
  D Tryd.prog 12 [.lst 1 (strs a) none,.lst 1 (strs b) none] H (.ret (OwnV 2 (prs (cmn a b 0 0)) H.length)) (OwnB 2 40 (prs (cmn a b 0 0)) :: H) := by
 have c1 : ¬ (a.length : Int) > 4096 := by omega
 have c2 : ¬ (b.length : Int) > 4096 := by omega
 refine D_of_DK (by simp) (dk12 (E_of_ES ?_))
 simp -implicitDefEqProofs (maxSteps := 99999999) (disch := omega) only [vu,ic12,strs_length,c1,c2,va,vg,vs,vh,Nat.reduceMul,ite_true,ite_false,eq_self,forall_const,implies_true,Nat.reduceAdd,Nat.reduceSub,Nat.reduceLT,Nat.reduceLeDiff,↓reduceIte,reduceCtorEq,Int.reduceEq,Int.reduceLT,Int.reduceLE,Int.reduceGT,Int.reduceGE,Int.reduceAdd,Int.reduceSub,Int.reduceNeg,Int.reduceToNat,Nat.reduceBEq,Nat.reduceEqDiff]
 refine callR_ret (longest_d a b hla hlb _) ?_
 simp -implicitDefEqProofs (maxSteps := 99999999) (disch := omega) only [vu,va,vg,vs,vh,Nat.reduceMul,ite_true,ite_false,eq_self,forall_const,implies_true,Nat.reduceAdd,Nat.reduceSub,Nat.reduceLT,Nat.reduceLeDiff,↓reduceIte,reduceCtorEq,Int.reduceEq,Int.reduceLT,Int.reduceLE,Int.reduceGT,Int.reduceGE,Int.reduceAdd,Int.reduceSub,Int.reduceNeg,Int.reduceToNat,Nat.reduceBEq,Nat.reduceEqDiff]
 refine ES_gen fun K hK => ?_
 refine ES_loopL (fun ts F => ∃ (i j io : Nat) (out : List (Nat × Nat)),(i ≤ a.length ∧ j ≤ b.length ∧ out ++ cmn a b i j = cmn a b 0 0 ∧ out.length ≤ i) ∧ H.length ≤ F.length ∧
   ((prs out ≠ [] → AHeap.find F io = OwnB 2 40 (prs out) ∧ H.length ≤ io) ∧ ∀ id,id < H.length → AHeap.find F id = AHeap.find H id) ∧
   Fr [some (.lst 1 (strs a) none),some (.lst 1 (strs b) none),none,none,none,some (.lst 1 (lonV a b) none),some (OwnV 2 (prs out) io),some (.sc (.int .i64 i)),some (.sc (.int .i64 j)),none,none,none,none,none,none,none,none,none,none,none,none,none,none,none,none,none,none,none,none,none,none,none,none,none,none,none,none,none,none,none,none,none,none,none,none,none,none,none,none,none,none,none,none,none,none,none,none,none,none,none,none,none,none,none,none,none,none,none,none,none,none,none,none] ts) (fun ts _ => (a.length - (intV (ts.getD 7 .top)).toNat) + (b.length - (intV (ts.getD 8 .top)).toNat)) ?_ ?_
 ·exact ⟨0,0,0,[],⟨Nat.zero_le _,Nat.zero_le _,rfl,Nat.zero_le _⟩,Nat.le_refl _,⟨fun h => (h rfl).elim,fun id hid => rfl⟩,by simp [Fr]; rfl⟩
 ·rintro ts F ⟨i,j,io,out,⟨hi,hj,ho,hlo⟩,hFl,⟨m1,m2⟩,hfr⟩ L1 hL1
  obtain ⟨js,rfl⟩ := hfr.opened
  clear hfr
  by_cases hd : i < a.length ∧ j < b.length
  ·obtain ⟨h1,h2⟩ := hd
   have h1' : (i : Int) < a.length := by omega
   have h2' : (j : Int) < b.length := by omega
   by_cases e : nthS a i = nthS b j
   ·obtain ⟨io1,G1,p1,p2,p3,p4,p5,p6⟩ := apAny (k := 2) (ty := 40) (xs := prs out) (ys := [.agg [.sc (.int .i64 i),.sc (.int .i64 j)]]) (fun h => (m1 h).1) (by rw [prs_length]; simp; omega)
    have hap : prs out ++ [AV.agg [.sc (.int .i64 i),.sc (.int .i64 j)]] = prs (out ++ [(i,j)]) := by simp [prs]
    rw [hap] at p2 p4
    simp -implicitDefEqProofs (maxSteps := 99999999) (disch := first | omega | (simp only [AHeap.set_length,killO_length,List.length_cons,List.length_nil]; first | done | omega)) only [vu,mk,h1',h2',strs_length,strs_get h1,strs_get h2,e,p1,p2,p3,va,vg,vs,vw,Nat.reduceMul,ite_true,ite_false,eq_self,forall_const,implies_true,Nat.reduceAdd,Nat.reduceSub,Nat.reduceLT,Nat.reduceLeDiff,↓reduceIte,reduceCtorEq,Int.reduceEq,Int.reduceLT,Int.reduceLE,Int.reduceGT,Int.reduceGE,Int.reduceAdd,Int.reduceSub,Int.reduceNeg,Int.reduceToNat,Nat.reduceBEq,Nat.reduceEqDiff]
    and_intros <;> first | omega | skip
    refine hL1 _ _ ⟨i + 1,j + 1,io1,out ++ [(i,j)],⟨by omega,by omega,by rw [← ho,cmn_eq h1 h2 e]; simp,by simp; omega⟩,by omega,
     ⟨fun h => ⟨(p4 h).1,by have := (p4 h).2; omega⟩,fun id hid => by rw [p6 _ (by omega) (fun h => by have := (m1 h).2; omega)]; exact m2 id hid⟩,by simp [Fr]⟩ ?_
    simp [mk,intV]
    omega
   ·have l0 := lonV_get (a := a) (b := b) (i := i) (by omega)
    have l1 := lonV_get (a := a) (b := b) (i := i + 1) (by omega)
    have q2 := tabI_get (N := b.length + 1) (f := lcd a b (i + 1)) (k := j) (by omega)
    have q3 := tabI_get (N := b.length + 1) (f := lcd a b i) (k := j + 1) (by omega)
    have t1 : ((i : Int) + 1).toNat = i + 1 := by omega
    have t2 : ((j : Int) + 1).toNat = j + 1 := by omega
    by_cases g : lcd a b (i + 1) j ≥ lcd a b i (j + 1)
    ·have g' : ((lcd a b (i + 1) j : Nat) : Int) ≥ ((lcd a b i (j + 1) : Nat) : Int) := by omega
     simp -implicitDefEqProofs (maxSteps := 99999999) (disch := first | omega | (simp only [AHeap.set_length,killO_length,List.length_cons,List.length_nil]; first | done | omega)) only [vu,mk,h1',h2',strs_length,strs_get h1,strs_get h2,e,l0,l1,lonV_length,tabI_length,q2,q3,t1,t2,g',va,vg,vs,vw,Nat.reduceMul,ite_true,ite_false,eq_self,forall_const,implies_true,Nat.reduceAdd,Nat.reduceSub,Nat.reduceLT,Nat.reduceLeDiff,↓reduceIte,reduceCtorEq,Int.reduceEq,Int.reduceLT,Int.reduceLE,Int.reduceGT,Int.reduceGE,Int.reduceAdd,Int.reduceSub,Int.reduceNeg,Int.reduceToNat,Nat.reduceBEq,Nat.reduceEqDiff]
     and_intros <;> first | omega | skip
     refine hL1 _ _ ⟨i + 1,j,io,out,⟨by omega,by omega,by rw [← ho,cmn_i h1 h2 e g],by omega⟩,hFl,⟨m1,m2⟩,by simp [Fr]⟩ ?_
     simp [mk,intV]
     omega
    ·have g' : ¬ ((lcd a b (i + 1) j : Nat) : Int) ≥ ((lcd a b i (j + 1) : Nat) : Int) := by omega
     simp -implicitDefEqProofs (maxSteps := 99999999) (disch := first | omega | (simp only [AHeap.set_length,killO_length,List.length_cons,List.length_nil]; first | done | omega)) only [vu,mk,h1',h2',strs_length,strs_get h1,strs_get h2,e,l0,l1,lonV_length,tabI_length,q2,q3,t1,t2,g',va,vg,vs,vw,Nat.reduceMul,ite_true,ite_false,eq_self,forall_const,implies_true,Nat.reduceAdd,Nat.reduceSub,Nat.reduceLT,Nat.reduceLeDiff,↓reduceIte,reduceCtorEq,Int.reduceEq,Int.reduceLT,Int.reduceLE,Int.reduceGT,Int.reduceGE,Int.reduceAdd,Int.reduceSub,Int.reduceNeg,Int.reduceToNat,Nat.reduceBEq,Nat.reduceEqDiff]
     and_intros <;> first | omega | skip
     refine hL1 _ _ ⟨i,j + 1,io,out,⟨by omega,by omega,by rw [← ho,cmn_j h1 h2 e g],by omega⟩,hFl,⟨m1,m2⟩,by simp [Fr]⟩ ?_
     simp [mk,intV]
     omega
  ·by_cases h1 : i < a.length
   ·have h1' : (i : Int) < a.length := by omega
    have h2' : ¬ (j : Int) < b.length := by omega
    simp -implicitDefEqProofs (maxSteps := 99999999) (disch := first | omega | (simp only [AHeap.set_length,killO_length,List.length_cons,List.length_nil]; first | done | omega)) only [vu,mk,h1',h2',strs_length,va,vg,vs,vw,Nat.reduceMul,ite_true,ite_false,eq_self,forall_const,implies_true,Nat.reduceAdd,Nat.reduceSub,Nat.reduceLT,Nat.reduceLeDiff,↓reduceIte,reduceCtorEq,Int.reduceEq,Int.reduceLT,Int.reduceLE,Int.reduceGT,Int.reduceGE,Int.reduceAdd,Int.reduceSub,Int.reduceNeg,Int.reduceToNat,Nat.reduceBEq,Nat.reduceEqDiff]
    clear hL1
    refine hK _ _ _ ?_
    clear hK
    rw [cmn_end hd,List.append_nil] at ho
    subst ho
    simp -implicitDefEqProofs (maxSteps := 99999999) (disch := first | omega | (simp only [AHeap.set_length,killO_length,List.length_cons,List.length_nil]; first | done | omega)) only [vu,va,vg,vs,vw,Nat.reduceMul,ite_true,ite_false,eq_self,forall_const,implies_true,Nat.reduceAdd,Nat.reduceSub,Nat.reduceLT,Nat.reduceLeDiff,↓reduceIte,reduceCtorEq,Int.reduceEq,Int.reduceLT,Int.reduceLE,Int.reduceGT,Int.reduceGE,Int.reduceAdd,Int.reduceSub,Int.reduceNeg,Int.reduceToNat,Nat.reduceBEq,Nat.reduceEqDiff]
    exact weak_own m2 m1 fun s => prs_gz
   ·have h1' : ¬ (i : Int) < a.length := by omega
    simp -implicitDefEqProofs (maxSteps := 99999999) (disch := first | omega | (simp only [AHeap.set_length,killO_length,List.length_cons,List.length_nil]; first | done | omega)) only [vu,mk,h1',strs_length,va,vg,vs,vw,Nat.reduceMul,ite_true,ite_false,eq_self,forall_const,implies_true,Nat.reduceAdd,Nat.reduceSub,Nat.reduceLT,Nat.reduceLeDiff,↓reduceIte,reduceCtorEq,Int.reduceEq,Int.reduceLT,Int.reduceLE,Int.reduceGT,Int.reduceGE,Int.reduceAdd,Int.reduceSub,Int.reduceNeg,Int.reduceToNat,Nat.reduceBEq,Nat.reduceEqDiff]
    clear hL1
    refine hK _ _ _ ?_
    clear hK
    rw [cmn_end hd,List.append_nil] at ho
    subst ho
    simp -implicitDefEqProofs (maxSteps := 99999999) (disch := first | omega | (simp only [AHeap.set_length,killO_length,List.length_cons,List.length_nil]; first | done | omega)) only [vu,va,vg,vs,vw,Nat.reduceMul,ite_true,ite_false,eq_self,forall_const,implies_true,Nat.reduceAdd,Nat.reduceSub,Nat.reduceLT,Nat.reduceLeDiff,↓reduceIte,reduceCtorEq,Int.reduceEq,Int.reduceLT,Int.reduceLE,Int.reduceGT,Int.reduceGE,Int.reduceAdd,Int.reduceSub,Int.reduceNeg,Int.reduceToNat,Nat.reduceBEq,Nat.reduceEqDiff]
    exact weak_own m2 m1 fun s => prs_gz
/-- The pairs, none of rows that are too long. -/
def cmL (a b : List ByteArray) : List (Nat × Nat) := if a.length > 4096 ∨ b.length > 4096 then [] else cmn a b 0 0
theorem cmL_short {a b : List ByteArray} (ha : a.length ≤ 4096) (hb : b.length ≤ 4096) : cmL a b = cmn a b 0 0 := if_neg (by omega)
theorem common_g (a b : List ByteArray) (hla : a.length ≤ 100000) (hlb : b.length ≤ 100000) (H : AHeap) :
  D Tryd.prog 9 [.lst 1 (strs a) none,.lst 1 (strs b) none] H (.ret (OwnV 2 (prs (cmL a b)) H.length)) (OwnB 2 40 (prs (cmL a b)) :: H) := by
 by_cases h : a.length > 4096 ∨ b.length > 4096
 ·have e : cmL a b = [] := if_pos h
  rw [e]
  refine D_of_DK (by simp) (dk9 (E_of_ES ?_))
  by_cases c1 : (a.length : Int) > 4096
  ·simp -implicitDefEqProofs (maxSteps := 99999999) (disch := omega) only [vu,ic9,strs_length,c1,va,vg,vs,vh,Nat.reduceMul,ite_true,ite_false,eq_self,forall_const,implies_true,Nat.reduceAdd,Nat.reduceSub,Nat.reduceLT,Nat.reduceLeDiff,↓reduceIte,reduceCtorEq,Int.reduceEq,Int.reduceLT,Int.reduceLE,Int.reduceGT,Int.reduceGE,Int.reduceAdd,Int.reduceSub,Int.reduceNeg,Int.reduceToNat,Nat.reduceBEq,Nat.reduceEqDiff]
   exact weak_own (io := 0) (fun id hid => rfl) (fun h => (h rfl).elim) fun s => .nil
  ·have c2 : (b.length : Int) > 4096 := by omega
   simp -implicitDefEqProofs (maxSteps := 99999999) (disch := omega) only [vu,ic9,strs_length,c1,c2,va,vg,vs,vh,Nat.reduceMul,ite_true,ite_false,eq_self,forall_const,implies_true,Nat.reduceAdd,Nat.reduceSub,Nat.reduceLT,Nat.reduceLeDiff,↓reduceIte,reduceCtorEq,Int.reduceEq,Int.reduceLT,Int.reduceLE,Int.reduceGT,Int.reduceGE,Int.reduceAdd,Int.reduceSub,Int.reduceNeg,Int.reduceToNat,Nat.reduceBEq,Nat.reduceEqDiff]
   exact weak_own (io := 0) (fun id hid => rfl) (fun h => (h rfl).elim) fun s => .nil
 ·rw [cmL_short (by omega) (by omega)]
  exact common_o a b (by omega) (by omega) H
end Go.Proofs.YtigmpablpmanpaaDoor
