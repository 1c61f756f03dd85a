/- clerestoryref20.put: what it makes. -/
import Derived.Test.YtljajanjjcdelaaGreatS101
namespace Go.Proofs.YtljajanjjcdelaaGreat
open Go.RowKit
set_option maxRecDepth 100000
set_option linter.unusedVariables false
set_option linter.unusedSimpArgs false
theorem rp_drop {d : Dc} {b : Bool} {l : List Dc} {k : Nat} (h : k < l.length) : rp d b (l.drop k) = (if (!b && !lt (nthD l k).1 d.1) = true then [d] else []) ++ ((if (nthD l k).1 = d.1 then [] else [nthD l k]) ++ rp d (b || !lt (nthD l k).1 d.1) (l.drop (k + 1))) := by
 rw [List.drop_eq_getElem_cons h,nthD_eq h]
 rfl
theorem docs_app {l : List Dc} {d : Dc} : docs l ++ [dcA d] = docs (l ++ [d]) := by simp [docs]
/-- Rows that are laid. -/
theorem refput_d (l : List Dc) (d : Dc) (ro : Option (List AV)) (H : AHeap) (hl : l.length ≤ 10000000) :
  D Tryz.prog 36 [.lst 2 (docs l) ro,dcA d] H (.ret (DocV (rp d false l) H.length)) (DocB (rp d false l) :: H) := by
 refine D_of_DK (by simp) (dk36 (E_of_ES ?_))
 simp only [ic36,ux]
 refine ES_seq_gen fun L hL => ?_
 simp -implicitDefEqProofs (maxSteps := 99999999) (disch := first | omega | (simp only [AHeap.set_length,killO_length,List.length_cons,List.length_nil]; first | done | omega)) only [va,vg,vs,vw,Nat.reduceMul,ite_true,ite_false,eq_self,forall_const,implies_true,Nat.reduceAdd,Nat.reduceSub,Nat.reduceLT,Nat.reduceLeDiff,↓reduceIte,reduceCtorEq,Int.reduceEq,Int.reduceLT,Int.reduceLE,Int.reduceGT,Int.reduceGE,Int.reduceAdd,Int.reduceSub,Int.reduceNeg,Int.reduceToNat,Nat.reduceBEq,Nat.reduceEqDiff]
 refine hL _ _ ?_
 clear hL
 refine ES_seq_gen fun L hL => ?_
 simp -implicitDefEqProofs (maxSteps := 99999999) (disch := first | omega | (simp only [AHeap.set_length,killO_length,List.length_cons,List.length_nil]; first | done | omega)) only [va,vg,vs,vw,Nat.reduceMul,ite_true,ite_false,eq_self,forall_const,implies_true,Nat.reduceAdd,Nat.reduceSub,Nat.reduceLT,Nat.reduceLeDiff,↓reduceIte,reduceCtorEq,Int.reduceEq,Int.reduceLT,Int.reduceLE,Int.reduceGT,Int.reduceGE,Int.reduceAdd,Int.reduceSub,Int.reduceNeg,Int.reduceToNat,Nat.reduceBEq,Nat.reduceEqDiff]
 refine hL _ _ ?_
 clear hL
 refine ES_seq_gen fun L hL => ?_
 simp -implicitDefEqProofs (maxSteps := 99999999) (disch := first | omega | (simp only [AHeap.set_length,killO_length,List.length_cons,List.length_nil]; first | done | omega)) only [va,vg,vs,vw,Nat.reduceMul,ite_true,ite_false,eq_self,forall_const,implies_true,Nat.reduceAdd,Nat.reduceSub,Nat.reduceLT,Nat.reduceLeDiff,↓reduceIte,reduceCtorEq,Int.reduceEq,Int.reduceLT,Int.reduceLE,Int.reduceGT,Int.reduceGE,Int.reduceAdd,Int.reduceSub,Int.reduceNeg,Int.reduceToNat,Nat.reduceBEq,Nat.reduceEqDiff]
 refine hL _ _ ?_
 clear hL
 refine ES_seq_gen fun L hL => ?_
 simp -implicitDefEqProofs (maxSteps := 99999999) (disch := first | omega | (simp only [AHeap.set_length,killO_length,List.length_cons,List.length_nil]; first | done | omega)) only [docs_length,va,vg,vs,vw,Nat.reduceMul,ite_true,ite_false,eq_self,forall_const,implies_true,Nat.reduceAdd,Nat.reduceSub,Nat.reduceLT,Nat.reduceLeDiff,↓reduceIte,reduceCtorEq,Int.reduceEq,Int.reduceLT,Int.reduceLE,Int.reduceGT,Int.reduceGE,Int.reduceAdd,Int.reduceSub,Int.reduceNeg,Int.reduceToNat,Nat.reduceBEq,Nat.reduceEqDiff]
 refine ES_loopL (fun ts F => ∃ (k oid : Nat) (out : List Dc) (b : Bool),(k ≤ l.length ∧ rp d false l = out ++ rp d b (l.drop k) ∧ out.length ≤ 2 * k) ∧ (H.length + 1 ≤ F.length ∧ H.length + 1 ≤ oid ∧ (out ≠ [] → AHeap.find F oid = DocB out)) ∧ (∀ id,id < H.length → AHeap.find F id = AHeap.find H id) ∧ AHeap.find F H.length = some ⟨2,[dcA d],true,40⟩ ∧
   Fr [some (.lst 2 (docs l) ro),none,none,some (.ptr 2 H.length 0 0),none,some (DocV out oid),some (.sc (.bool b)),some (.sc (.int .i64 k)),none,none,none,none,none,none,none,none,none,none,none,none,none,none,none,none,none,none,none,none,none,none,none,none,none,none,none,none,none,none,none,none,none,none,none,none,none,none,none,none,none,none,none,none] ts) (fun ts _ => l.length - (intV (ts.getD 7 .top)).toNat) ?_ ?_
 ·exact ⟨0,H.length + 1,[],false,⟨Nat.zero_le _,rfl,by simp⟩,⟨by simp,Nat.le_refl _,fun h => (h rfl).elim⟩,fun id hid => by simp -implicitDefEqProofs (maxSteps := 99999999) (disch := first | omega | (simp only [AHeap.set_length,killO_length,List.length_cons,List.length_nil]; first | done | omega)) only [va,vg,vs,vw,Nat.reduceMul,ite_true,ite_false,eq_self,forall_const,implies_true,Nat.reduceAdd,Nat.reduceSub,Nat.reduceLT,Nat.reduceLeDiff,↓reduceIte,reduceCtorEq,Int.reduceEq,Int.reduceLT,Int.reduceLE,Int.reduceGT,Int.reduceGE,Int.reduceAdd,Int.reduceSub,Int.reduceNeg,Int.reduceToNat,Nat.reduceBEq,Nat.reduceEqDiff],by simp -implicitDefEqProofs (maxSteps := 99999999) (disch := first | omega | (simp only [AHeap.set_length,killO_length,List.length_cons,List.length_nil]; first | done | omega)) only [va,vg,vs,vw,Nat.reduceMul,ite_true,ite_false,eq_self,forall_const,implies_true,Nat.reduceAdd,Nat.reduceSub,Nat.reduceLT,Nat.reduceLeDiff,↓reduceIte,reduceCtorEq,Int.reduceEq,Int.reduceLT,Int.reduceLE,Int.reduceGT,Int.reduceGE,Int.reduceAdd,Int.reduceSub,Int.reduceNeg,Int.reduceToNat,Nat.reduceBEq,Nat.reduceEqDiff],by simp [Fr]; rfl⟩
 rintro ts F ⟨k,oid,out,b,⟨h1,h2,h3⟩,⟨f1,f2,f3⟩,g1,g2,hfr⟩ L2 hL2
 obtain ⟨js,rfl⟩ := hfr.opened
 clear hfr
 simp -implicitDefEqProofs (maxSteps := 99999999) (disch := first | omega | (simp only [AHeap.set_length,killO_length,List.length_cons,List.length_nil]; first | done | omega)) only [docs_length,mk,va,vg,vs,vw,Nat.reduceMul,ite_true,ite_false,eq_self,forall_const,implies_true,Nat.reduceAdd,Nat.reduceSub,Nat.reduceLT,Nat.reduceLeDiff,↓reduceIte,reduceCtorEq,Int.reduceEq,Int.reduceLT,Int.reduceLE,Int.reduceGT,Int.reduceGE,Int.reduceAdd,Int.reduceSub,Int.reduceNeg,Int.reduceToNat,Nat.reduceBEq,Nat.reduceEqDiff]
 refine condR_if (fun h => ?_) (fun h => ?_)
 ·have hk : k < l.length := by omega
  have hg := docs_get hk
  rw [rp_drop hk] at h2
  obtain ⟨b1,hb1⟩ : ∃ b1,b1 = (b || !lt (nthD l k).1 d.1) := ⟨_,rfl⟩
  obtain ⟨o1,ho1⟩ : ∃ o1,o1 = out ++ (if (!b && !lt (nthD l k).1 d.1) = true then [d] else []) := ⟨_,rfl⟩
  have ho1l : o1.length ≤ 2 * k + 1 := by
   rw [ho1]; split <;> simp <;> omega
  rw [← hb1,← List.append_assoc,← ho1] at h2
  show ES Tryz.prog (IC.seq (IC.block _ (IC.seq _ _)) _) _ _ _
  refine ES_seq_gen fun L3 hL3 => ?_
  show ES Tryz.prog (IC.seq _ _) _ _ _
  refine ES_seq_gen fun L4 hL4 => ?_
  have mid : ∀ ts F,(∃ oid,(H.length + 1 ≤ F.length ∧ H.length + 1 ≤ oid ∧ (o1 ≠ [] → AHeap.find F oid = DocB o1)) ∧ (∀ id,id < H.length → AHeap.find F id = AHeap.find H id) ∧ AHeap.find F H.length = some ⟨2,[dcA d],true,40⟩ ∧
    Fr [some (.lst 2 (docs l) ro),none,none,some (.ptr 2 H.length 0 0),none,some (DocV o1 oid),some (.sc (.bool b1)),some (.sc (.int .i64 k)),none,none,none,none,none,none,none,none,none,none,none,none,none,none,none,none,none,none,none,none,none,none,none,none,none,none,none,none,none,none,none,none,none,none,none,none,none,none,none,none,none,none,none,none] ts) → L4 ts F := by
   clear f1 f2 f3 g1 g2
   rintro ts F ⟨oid,⟨f1,f2,f3⟩,g1,g2,hfr⟩
   obtain ⟨js,rfl⟩ := hfr.opened
   clear hfr
   refine hL4 _ _ ?_
   clear hL4
   simp -implicitDefEqProofs (maxSteps := 99999999) (disch := first | omega | (simp only [AHeap.set_length,killO_length,List.length_cons,List.length_nil]; first | done | omega)) only [docs_length,mk,hg,g2,va,vg,vs,vw,Nat.reduceMul,ite_true,ite_false,eq_self,forall_const,implies_true,Nat.reduceAdd,Nat.reduceSub,Nat.reduceLT,Nat.reduceLeDiff,↓reduceIte,reduceCtorEq,Int.reduceEq,Int.reduceLT,Int.reduceLE,Int.reduceGT,Int.reduceGE,Int.reduceAdd,Int.reduceSub,Int.reduceNeg,Int.reduceToNat,Nat.reduceBEq,Nat.reduceEqDiff]
   refine ⟨by omega,condR_if (fun h => ?_) (fun h => ?_)⟩
   ·have hne : ¬ (nthD l k).1 = d.1 := h
    rw [if_neg hne,← List.append_assoc] at h2
    by_cases e0 : o1 = []
    ·subst e0
     have eV : DocV [] oid = .lst 0 [] (some []) := rfl
     rw [eV]
     simp -implicitDefEqProofs (maxSteps := 99999999) (disch := first | omega | (simp only [AHeap.set_length,killO_length,List.length_cons,List.length_nil]; first | done | omega)) only [docs_length,hg,va,vg,vs,vw,Nat.reduceMul,ite_true,ite_false,eq_self,forall_const,implies_true,Nat.reduceAdd,Nat.reduceSub,Nat.reduceLT,Nat.reduceLeDiff,↓reduceIte,reduceCtorEq,Int.reduceEq,Int.reduceLT,Int.reduceLE,Int.reduceGT,Int.reduceGE,Int.reduceAdd,Int.reduceSub,Int.reduceNeg,Int.reduceToNat,Nat.reduceBEq,Nat.reduceEqDiff]
     refine ⟨by omega,?_⟩
     refine hL3 _ _ ?_
     clear hL3
     simp -implicitDefEqProofs (maxSteps := 99999999) (disch := first | omega | (simp only [AHeap.set_length,killO_length,List.length_cons,List.length_nil]; first | done | omega)) only [va,vg,vs,vw,Nat.reduceMul,ite_true,ite_false,eq_self,forall_const,implies_true,Nat.reduceAdd,Nat.reduceSub,Nat.reduceLT,Nat.reduceLeDiff,↓reduceIte,reduceCtorEq,Int.reduceEq,Int.reduceLT,Int.reduceLE,Int.reduceGT,Int.reduceGE,Int.reduceAdd,Int.reduceSub,Int.reduceNeg,Int.reduceToNat,Nat.reduceBEq,Nat.reduceEqDiff]
     refine hL2 _ _ ⟨k + 1,F.length,[] ++ [nthD l k],b1,⟨by omega,h2,by simp; omega⟩,⟨by simp; omega,by omega,fun _ => find_top rfl⟩,fun i hi => by simp -implicitDefEqProofs (maxSteps := 99999999) (disch := first | omega | (simp only [AHeap.set_length,killO_length,List.length_cons,List.length_nil]; first | done | omega)) only [g1 i hi,va,vg,vs,vw,Nat.reduceMul,ite_true,ite_false,eq_self,forall_const,implies_true,Nat.reduceAdd,Nat.reduceSub,Nat.reduceLT,Nat.reduceLeDiff,↓reduceIte,reduceCtorEq,Int.reduceEq,Int.reduceLT,Int.reduceLE,Int.reduceGT,Int.reduceGE,Int.reduceAdd,Int.reduceSub,Int.reduceNeg,Int.reduceToNat,Nat.reduceBEq,Nat.reduceEqDiff],by simp -implicitDefEqProofs (maxSteps := 99999999) (disch := first | omega | (simp only [AHeap.set_length,killO_length,List.length_cons,List.length_nil]; first | done | omega)) only [g2,va,vg,vs,vw,Nat.reduceMul,ite_true,ite_false,eq_self,forall_const,implies_true,Nat.reduceAdd,Nat.reduceSub,Nat.reduceLT,Nat.reduceLeDiff,↓reduceIte,reduceCtorEq,Int.reduceEq,Int.reduceLT,Int.reduceLE,Int.reduceGT,Int.reduceGE,Int.reduceAdd,Int.reduceSub,Int.reduceNeg,Int.reduceToNat,Nat.reduceBEq,Nat.reduceEqDiff],by simp [Fr]; rfl⟩ (by simp only [List.getD_cons_succ,List.getD_cons_zero,intV,mk]; omega)
    ·have fo : AHeap.find F oid = some ⟨2,docs o1,false,40⟩ := by rw [f3 e0,DocB_ne e0]
     have ea : docs o1 ++ [.agg [.sc (.string (nthD l k).1),.sc (.string (nthD l k).2)]] = docs (o1 ++ [nthD l k]) := docs_app
     have hlo := AHeap.find_lt fo
     rw [DocV_ne e0]
     simp -implicitDefEqProofs (maxSteps := 99999999) (disch := first | omega | (simp only [AHeap.set_length,killO_length,List.length_cons,List.length_nil]; first | done | omega)) only [docs_length,hg,fo,ea,va,vg,vs,vw,Nat.reduceMul,ite_true,ite_false,eq_self,forall_const,implies_true,Nat.reduceAdd,Nat.reduceSub,Nat.reduceLT,Nat.reduceLeDiff,↓reduceIte,reduceCtorEq,Int.reduceEq,Int.reduceLT,Int.reduceLE,Int.reduceGT,Int.reduceGE,Int.reduceAdd,Int.reduceSub,Int.reduceNeg,Int.reduceToNat,Nat.reduceBEq,Nat.reduceEqDiff]
     refine ⟨by omega,by omega,?_⟩
     refine hL3 _ _ ?_
     clear hL3
     simp -implicitDefEqProofs (maxSteps := 99999999) (disch := first | omega | (simp only [AHeap.set_length,killO_length,List.length_cons,List.length_nil]; first | done | omega)) only [va,vg,vs,vw,Nat.reduceMul,ite_true,ite_false,eq_self,forall_const,implies_true,Nat.reduceAdd,Nat.reduceSub,Nat.reduceLT,Nat.reduceLeDiff,↓reduceIte,reduceCtorEq,Int.reduceEq,Int.reduceLT,Int.reduceLE,Int.reduceGT,Int.reduceGE,Int.reduceAdd,Int.reduceSub,Int.reduceNeg,Int.reduceToNat,Nat.reduceBEq,Nat.reduceEqDiff]
     have eV : AV.vec 2 F.length 0 (o1.length + 1) none = DocV (o1 ++ [nthD l k]) F.length := by rw [DocV_ne (by simp),List.length_append]; rfl
     rw [eV]
     refine hL2 _ _ ⟨k + 1,F.length,o1 ++ [nthD l k],b1,⟨by omega,h2,by simp; omega⟩,⟨by simp [AHeap.set_length]; omega,by omega,fun _ => by rw [DocB_ne (by simp)]; exact find_top (by simp [AHeap.set_length])⟩,fun i hi => ?_,?_,by simp [Fr]⟩ (by simp only [List.getD_cons_succ,List.getD_cons_zero,intV,mk]; omega)
     ·have n1 : i ≠ oid := by omega
      simp -implicitDefEqProofs (maxSteps := 99999999) (disch := first | omega | (simp only [AHeap.set_length,killO_length,List.length_cons,List.length_nil]; first | done | omega)) only [g1 i hi,va,vg,vs,vw,Nat.reduceMul,ite_true,ite_false,eq_self,forall_const,implies_true,Nat.reduceAdd,Nat.reduceSub,Nat.reduceLT,Nat.reduceLeDiff,↓reduceIte,reduceCtorEq,Int.reduceEq,Int.reduceLT,Int.reduceLE,Int.reduceGT,Int.reduceGE,Int.reduceAdd,Int.reduceSub,Int.reduceNeg,Int.reduceToNat,Nat.reduceBEq,Nat.reduceEqDiff]
     ·have n1 : H.length ≠ oid := by omega
      simp -implicitDefEqProofs (maxSteps := 99999999) (disch := first | omega | (simp only [AHeap.set_length,killO_length,List.length_cons,List.length_nil]; first | done | omega)) only [g2,va,vg,vs,vw,Nat.reduceMul,ite_true,ite_false,eq_self,forall_const,implies_true,Nat.reduceAdd,Nat.reduceSub,Nat.reduceLT,Nat.reduceLeDiff,↓reduceIte,reduceCtorEq,Int.reduceEq,Int.reduceLT,Int.reduceLE,Int.reduceGT,Int.reduceGE,Int.reduceAdd,Int.reduceSub,Int.reduceNeg,Int.reduceToNat,Nat.reduceBEq,Nat.reduceEqDiff]
   ·have heq : (nthD l k).1 = d.1 := Classical.not_not.1 h
    rw [if_pos heq,List.nil_append] at h2
    simp -implicitDefEqProofs (maxSteps := 99999999) (disch := first | omega | (simp only [AHeap.set_length,killO_length,List.length_cons,List.length_nil]; first | done | omega)) only [va,vg,vs,vw,Nat.reduceMul,ite_true,ite_false,eq_self,forall_const,implies_true,Nat.reduceAdd,Nat.reduceSub,Nat.reduceLT,Nat.reduceLeDiff,↓reduceIte,reduceCtorEq,Int.reduceEq,Int.reduceLT,Int.reduceLE,Int.reduceGT,Int.reduceGE,Int.reduceAdd,Int.reduceSub,Int.reduceNeg,Int.reduceToNat,Nat.reduceBEq,Nat.reduceEqDiff]
    refine hL3 _ _ ?_
    clear hL3
    simp -implicitDefEqProofs (maxSteps := 99999999) (disch := first | omega | (simp only [AHeap.set_length,killO_length,List.length_cons,List.length_nil]; first | done | omega)) only [va,vg,vs,vw,Nat.reduceMul,ite_true,ite_false,eq_self,forall_const,implies_true,Nat.reduceAdd,Nat.reduceSub,Nat.reduceLT,Nat.reduceLeDiff,↓reduceIte,reduceCtorEq,Int.reduceEq,Int.reduceLT,Int.reduceLE,Int.reduceGT,Int.reduceGE,Int.reduceAdd,Int.reduceSub,Int.reduceNeg,Int.reduceToNat,Nat.reduceBEq,Nat.reduceEqDiff]
    exact hL2 _ _ ⟨k + 1,oid,o1,b1,⟨by omega,h2,by omega⟩,⟨by omega,f2,f3⟩,g1,g2,by simp [Fr]⟩ (by simp only [List.getD_cons_succ,List.getD_cons_zero,intV,mk]; omega)
  clear hL hL2 hL3 hL4 h2
  cases b with
  | true =>
   simp only [Bool.not_true,Bool.false_and,Bool.false_eq_true,if_false,List.append_nil,Bool.true_or] at ho1 hb1
   subst ho1 hb1
   simp -implicitDefEqProofs (maxSteps := 99999999) (disch := first | omega | (simp only [AHeap.set_length,killO_length,List.length_cons,List.length_nil]; first | done | omega)) only [docs_length,hg,g2,va,vg,vs,vw,Nat.reduceMul,ite_true,ite_false,eq_self,forall_const,implies_true,Nat.reduceAdd,Nat.reduceSub,Nat.reduceLT,Nat.reduceLeDiff,↓reduceIte,reduceCtorEq,Int.reduceEq,Int.reduceLT,Int.reduceLE,Int.reduceGT,Int.reduceGE,Int.reduceAdd,Int.reduceSub,Int.reduceNeg,Int.reduceToNat,Nat.reduceBEq,Nat.reduceEqDiff]
   exact mid _ _ ⟨oid,⟨f1,f2,f3⟩,g1,g2,by simp [Fr]⟩
  | false =>
   cases hlt : lt (nthD l k).1 d.1 with
   | true =>
    have hlt' : Op.bytesLess (nthD l k).1.toList d.1.toList = true := hlt
    rw [hlt] at ho1 hb1
    simp only [Bool.not_true,Bool.and_false,Bool.false_eq_true,if_false,List.append_nil,Bool.or_false] at ho1 hb1
    subst ho1 hb1
    simp -implicitDefEqProofs (maxSteps := 99999999) (disch := first | omega | (simp only [AHeap.set_length,killO_length,List.length_cons,List.length_nil]; first | done | omega)) only [docs_length,hg,g2,hlt',va,vg,vs,vw,Nat.reduceMul,ite_true,ite_false,eq_self,forall_const,implies_true,Nat.reduceAdd,Nat.reduceSub,Nat.reduceLT,Nat.reduceLeDiff,↓reduceIte,reduceCtorEq,Int.reduceEq,Int.reduceLT,Int.reduceLE,Int.reduceGT,Int.reduceGE,Int.reduceAdd,Int.reduceSub,Int.reduceNeg,Int.reduceToNat,Nat.reduceBEq,Nat.reduceEqDiff]
    exact ⟨by omega,mid _ _ ⟨oid,⟨f1,f2,f3⟩,g1,g2,by simp [Fr]⟩⟩
   | false =>
    have hlt' : Op.bytesLess (nthD l k).1.toList d.1.toList = false := hlt
    rw [hlt] at ho1 hb1
    simp only [Bool.not_false,Bool.and_self,if_true,Bool.false_or] at ho1 hb1
    subst ho1 hb1
    by_cases e0 : out = []
    ·subst e0
     have eV : DocV [] oid = .lst 0 [] (some []) := rfl
     rw [eV]
     simp -implicitDefEqProofs (maxSteps := 99999999) (disch := first | omega | (simp only [AHeap.set_length,killO_length,List.length_cons,List.length_nil]; first | done | omega)) only [docs_length,hg,g2,hlt',va,vg,vs,vw,Nat.reduceMul,ite_true,ite_false,eq_self,forall_const,implies_true,Nat.reduceAdd,Nat.reduceSub,Nat.reduceLT,Nat.reduceLeDiff,↓reduceIte,reduceCtorEq,Int.reduceEq,Int.reduceLT,Int.reduceLE,Int.reduceGT,Int.reduceGE,Int.reduceAdd,Int.reduceSub,Int.reduceNeg,Int.reduceToNat,Nat.reduceBEq,Nat.reduceEqDiff]
     refine ⟨by omega,mid _ _ ⟨F.length,⟨by simp; omega,by omega,fun _ => find_top rfl⟩,fun i hi => by simp -implicitDefEqProofs (maxSteps := 99999999) (disch := first | omega | (simp only [AHeap.set_length,killO_length,List.length_cons,List.length_nil]; first | done | omega)) only [g1 i hi,va,vg,vs,vw,Nat.reduceMul,ite_true,ite_false,eq_self,forall_const,implies_true,Nat.reduceAdd,Nat.reduceSub,Nat.reduceLT,Nat.reduceLeDiff,↓reduceIte,reduceCtorEq,Int.reduceEq,Int.reduceLT,Int.reduceLE,Int.reduceGT,Int.reduceGE,Int.reduceAdd,Int.reduceSub,Int.reduceNeg,Int.reduceToNat,Nat.reduceBEq,Nat.reduceEqDiff],by simp -implicitDefEqProofs (maxSteps := 99999999) (disch := first | omega | (simp only [AHeap.set_length,killO_length,List.length_cons,List.length_nil]; first | done | omega)) only [g2,va,vg,vs,vw,Nat.reduceMul,ite_true,ite_false,eq_self,forall_const,implies_true,Nat.reduceAdd,Nat.reduceSub,Nat.reduceLT,Nat.reduceLeDiff,↓reduceIte,reduceCtorEq,Int.reduceEq,Int.reduceLT,Int.reduceLE,Int.reduceGT,Int.reduceGE,Int.reduceAdd,Int.reduceSub,Int.reduceNeg,Int.reduceToNat,Nat.reduceBEq,Nat.reduceEqDiff],by simp [Fr]; rfl⟩⟩
    ·have fo : AHeap.find F oid = some ⟨2,docs out,false,40⟩ := by rw [f3 e0,DocB_ne e0]
     have ea : docs out ++ [dcA d] = docs (out ++ [d]) := docs_app
     have hlo := AHeap.find_lt fo
     rw [DocV_ne e0]
     simp -implicitDefEqProofs (maxSteps := 99999999) (disch := first | omega | (simp only [AHeap.set_length,killO_length,List.length_cons,List.length_nil]; first | done | omega)) only [docs_length,hg,g2,hlt',fo,ea,va,vg,vs,vw,Nat.reduceMul,ite_true,ite_false,eq_self,forall_const,implies_true,Nat.reduceAdd,Nat.reduceSub,Nat.reduceLT,Nat.reduceLeDiff,↓reduceIte,reduceCtorEq,Int.reduceEq,Int.reduceLT,Int.reduceLE,Int.reduceGT,Int.reduceGE,Int.reduceAdd,Int.reduceSub,Int.reduceNeg,Int.reduceToNat,Nat.reduceBEq,Nat.reduceEqDiff]
     have eV : AV.vec 2 F.length 0 (out.length + 1) none = DocV (out ++ [d]) F.length := by rw [DocV_ne (by simp),List.length_append]; rfl
     rw [eV]
     refine ⟨by omega,by omega,mid _ _ ⟨F.length,⟨by simp [AHeap.set_length]; omega,by omega,fun _ => by rw [DocB_ne (by simp)]; exact find_top (by simp [AHeap.set_length])⟩,fun i hi => ?_,?_,by simp [Fr]⟩⟩
     ·have n1 : i ≠ oid := by omega
      simp -implicitDefEqProofs (maxSteps := 99999999) (disch := first | omega | (simp only [AHeap.set_length,killO_length,List.length_cons,List.length_nil]; first | done | omega)) only [g1 i hi,va,vg,vs,vw,Nat.reduceMul,ite_true,ite_false,eq_self,forall_const,implies_true,Nat.reduceAdd,Nat.reduceSub,Nat.reduceLT,Nat.reduceLeDiff,↓reduceIte,reduceCtorEq,Int.reduceEq,Int.reduceLT,Int.reduceLE,Int.reduceGT,Int.reduceGE,Int.reduceAdd,Int.reduceSub,Int.reduceNeg,Int.reduceToNat,Nat.reduceBEq,Nat.reduceEqDiff]
     ·have n1 : H.length ≠ oid := by omega
      simp -implicitDefEqProofs (maxSteps := 99999999) (disch := first | omega | (simp only [AHeap.set_length,killO_length,List.length_cons,List.length_nil]; first | done | omega)) only [g2,va,vg,vs,vw,Nat.reduceMul,ite_true,ite_false,eq_self,forall_const,implies_true,Nat.reduceAdd,Nat.reduceSub,Nat.reduceLT,Nat.reduceLeDiff,↓reduceIte,reduceCtorEq,Int.reduceEq,Int.reduceLT,Int.reduceLE,Int.reduceGT,Int.reduceGE,Int.reduceAdd,Int.reduceSub,Int.reduceNeg,Int.reduceToNat,Nat.reduceBEq,Nat.reduceEqDiff]
 ·have hk : k = l.length := by omega
  subst hk
  rw [List.drop_length] at h2
  clear hL2
  simp -implicitDefEqProofs (maxSteps := 99999999) (disch := first | omega | (simp only [AHeap.set_length,killO_length,List.length_cons,List.length_nil]; first | done | omega)) only [va,vg,vs,vw,Nat.reduceMul,ite_true,ite_false,eq_self,forall_const,implies_true,Nat.reduceAdd,Nat.reduceSub,Nat.reduceLT,Nat.reduceLeDiff,↓reduceIte,reduceCtorEq,Int.reduceEq,Int.reduceLT,Int.reduceLE,Int.reduceGT,Int.reduceGE,Int.reduceAdd,Int.reduceSub,Int.reduceNeg,Int.reduceToNat,Nat.reduceBEq,Nat.reduceEqDiff]
  refine hL _ _ ?_
  clear hL
  cases b with
  | true =>
   have e : rp d false l = out := by rw [h2]; simp [rp]
   simp -implicitDefEqProofs (maxSteps := 99999999) (disch := first | omega | (simp only [AHeap.set_length,killO_length,List.length_cons,List.length_nil]; first | done | omega)) only [OwnV_top,OwnV_ncells,OwnV_isAgg,OwnV_cells,va,vg,vs,vw,Nat.reduceMul,ite_true,ite_false,eq_self,forall_const,implies_true,Nat.reduceAdd,Nat.reduceSub,Nat.reduceLT,Nat.reduceLeDiff,↓reduceIte,reduceCtorEq,Int.reduceEq,Int.reduceLT,Int.reduceLE,Int.reduceGT,Int.reduceGE,Int.reduceAdd,Int.reduceSub,Int.reduceNeg,Int.reduceToNat,Nat.reduceBEq,Nat.reduceEqDiff]
   rw [e]
   exact weak_rowD (by omega) g1 (fun h => f3 fun e => h (by rw [e]; rfl)) docs_gz (row_gzD (by omega))
  | false =>
   have e : rp d false l = out ++ [d] := by rw [h2]; simp [rp]
   by_cases e0 : out = []
   ·subst e0
    have eV : DocV [] oid = .lst 0 [] (some []) := rfl
    rw [eV]
    simp -implicitDefEqProofs (maxSteps := 99999999) (disch := first | omega | (simp only [AHeap.set_length,killO_length,List.length_cons,List.length_nil]; first | done | omega)) only [g2,va,vg,vs,vw,Nat.reduceMul,ite_true,ite_false,eq_self,forall_const,implies_true,Nat.reduceAdd,Nat.reduceSub,Nat.reduceLT,Nat.reduceLeDiff,↓reduceIte,reduceCtorEq,Int.reduceEq,Int.reduceLT,Int.reduceLE,Int.reduceGT,Int.reduceGE,Int.reduceAdd,Int.reduceSub,Int.reduceNeg,Int.reduceToNat,Nat.reduceBEq,Nat.reduceEqDiff]
    rw [e]
    exact weak_rowD (xs := docs [d]) (s := F.length) (by omega) (fun i hi => by simp -implicitDefEqProofs (maxSteps := 99999999) (disch := first | omega | (simp only [AHeap.set_length,killO_length,List.length_cons,List.length_nil]; first | done | omega)) only [g1 i hi,va,vg,vs,vw,Nat.reduceMul,ite_true,ite_false,eq_self,forall_const,implies_true,Nat.reduceAdd,Nat.reduceSub,Nat.reduceLT,Nat.reduceLeDiff,↓reduceIte,reduceCtorEq,Int.reduceEq,Int.reduceLT,Int.reduceLE,Int.reduceGT,Int.reduceGE,Int.reduceAdd,Int.reduceSub,Int.reduceNeg,Int.reduceToNat,Nat.reduceBEq,Nat.reduceEqDiff]) (fun _ => find_top rfl) docs_gz (row_gzD (xs := docs [d]) (k := 2) (by omega))
   ·have fo : AHeap.find F oid = some ⟨2,docs out,false,40⟩ := by rw [f3 e0,DocB_ne e0]
    have ea : docs out ++ [dcA d] = docs (out ++ [d]) := docs_app
    have hlo := AHeap.find_lt fo
    rw [DocV_ne e0]
    simp -implicitDefEqProofs (maxSteps := 99999999) (disch := first | omega | (simp only [AHeap.set_length,killO_length,List.length_cons,List.length_nil]; first | done | omega)) only [docs_length,g2,fo,ea,va,vg,vs,vw,Nat.reduceMul,ite_true,ite_false,eq_self,forall_const,implies_true,Nat.reduceAdd,Nat.reduceSub,Nat.reduceLT,Nat.reduceLeDiff,↓reduceIte,reduceCtorEq,Int.reduceEq,Int.reduceLT,Int.reduceLE,Int.reduceGT,Int.reduceGE,Int.reduceAdd,Int.reduceSub,Int.reduceNeg,Int.reduceToNat,Nat.reduceBEq,Nat.reduceEqDiff]
    rw [e]
    have eV : AV.vec 2 F.length 0 (out.length + 1) none = DocV (out ++ [d]) F.length := by rw [DocV_ne (by simp),List.length_append]; rfl
    rw [eV]
    refine ⟨by omega,weak_rowD (s := F.length) (by omega) (fun i hi => ?_) (fun _ => ?_) docs_gz (row_gzD (by omega))⟩
    ·have n1 : i ≠ oid := by omega
     simp -implicitDefEqProofs (maxSteps := 99999999) (disch := first | omega | (simp only [AHeap.set_length,killO_length,List.length_cons,List.length_nil]; first | done | omega)) only [g1 i hi,va,vg,vs,vw,Nat.reduceMul,ite_true,ite_false,eq_self,forall_const,implies_true,Nat.reduceAdd,Nat.reduceSub,Nat.reduceLT,Nat.reduceLeDiff,↓reduceIte,reduceCtorEq,Int.reduceEq,Int.reduceLT,Int.reduceLE,Int.reduceGT,Int.reduceGE,Int.reduceAdd,Int.reduceSub,Int.reduceNeg,Int.reduceToNat,Nat.reduceBEq,Nat.reduceEqDiff]
    ·have : DocB (out ++ [d]) = some ⟨2,docs (out ++ [d]),false,40⟩ := DocB_ne (by simp)
     exact (find_top (by simp [AHeap.set_length])).trans this.symm
end Go.Proofs.YtljajanjjcdelaaGreat
