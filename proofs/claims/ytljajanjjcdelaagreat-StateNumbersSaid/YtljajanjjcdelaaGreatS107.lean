/- States: the law's own files; the chapter's examples. -/
import Derived.Test.YtljajanjjcdelaaGreatS95
import Derived.Test.YtljajanjjcdelaaGreatS103
import Derived.Test.YtljajanjjcdelaaGreatIc18
namespace Go.Proofs.YtljajanjjcdelaaGreat
open Go.RowKit
set_option maxRecDepth 100000
set_option linter.unusedVariables false
set_option linter.unusedSimpArgs false
/-- Files out of names and texts in turns. -/
def pairs : List ByteArray → List Dc
 | a :: b :: r => (a,b) :: pairs r
 | _ => []
theorem pairs_length : ∀ (l : List ByteArray),(pairs l).length = l.length / 2
 | [] => rfl
 | [_] => by simp [pairs]
 | a :: b :: r => by
  have := pairs_length r
  simp only [pairs,List.length_cons,this]
  omega
theorem pairs_nth : ∀ (l : List ByteArray) (k : Nat),k < l.length / 2 → nthD (pairs l) k = (nthS l (2 * k),nthS l (2 * k + 1))
 | [],k,h => by simp at h
 | [_],k,h => by simp at h
 | a :: b :: r,0,_ => rfl
 | a :: b :: r,k + 1,h => by
  have := pairs_nth r k (by simp at h; omega)
  have e1 : 2 * (k + 1) = 2 * k + 1 + 1 := by omega
  rw [e1]
  simp only [pairs,nthD,nthS,List.getD_cons_succ] at this ⊢
  exact this
theorem pairs_take {l : List ByteArray} {k : Nat} (h : k < l.length / 2) : (pairs l).take (k + 1) = (pairs l).take k ++ [(nthS l (2 * k),nthS l (2 * k + 1))] := by
 have hk : k < (pairs l).length := by rw [pairs_length]; exact h
 rw [List.take_succ_eq_append_getElem hk,← nthD_eq hk,pairs_nth l k h]
set_option maxHeartbeats 0 in
theorem of_d (l : List ByteArray) (ro : Option (List AV)) (H : AHeap) (hl : l.length ≤ 1000000) : D Tryz.prog 5 [.lst 1 (strs l) ro] H (.ret (DocV (pairs l) H.length)) (DocB (pairs l) :: H) := by
 refine D_of_DK (by simp) (dk5 (E_of_ES ?_))
 simp only [ic5,ux]
 refine ES_seq_gen fun L hL => ?_
 simp -implicitDefEqProofs (maxSteps := 99999999) (disch := first | omega | (simp only [AHeap.set_length,killO_length,List.length_cons,List.length_nil]; first | done | omega)) only [va,vg,vs,vw,Nat.reduceMul,ite_true,ite_false,eq_self,forall_const,implies_true,Nat.reduceAdd,Nat.reduceSub,Nat.reduceLT,Nat.reduceLeDiff,↓reduceIte,reduceCtorEq,Int.reduceEq,Int.reduceLT,Int.reduceLE,Int.reduceGT,Int.reduceGE,Int.reduceAdd,Int.reduceSub,Int.reduceNeg,Int.reduceToNat,Nat.reduceBEq,Nat.reduceEqDiff]
 refine hL _ _ ?_
 clear hL
 refine ES_seq_gen fun L hL => ?_
 simp -implicitDefEqProofs (maxSteps := 99999999) (disch := first | omega | (simp only [AHeap.set_length,killO_length,List.length_cons,List.length_nil]; first | done | omega)) only [strs_length,va,vg,vs,vw,Nat.reduceMul,ite_true,ite_false,eq_self,forall_const,implies_true,Nat.reduceAdd,Nat.reduceSub,Nat.reduceLT,Nat.reduceLeDiff,↓reduceIte,reduceCtorEq,Int.reduceEq,Int.reduceLT,Int.reduceLE,Int.reduceGT,Int.reduceGE,Int.reduceAdd,Int.reduceSub,Int.reduceNeg,Int.reduceToNat,Nat.reduceBEq,Nat.reduceEqDiff]
 refine hL _ _ ?_
 clear hL
 refine ES_seq_gen fun L hL => ?_
 simp -implicitDefEqProofs (maxSteps := 99999999) (disch := first | omega | (simp only [AHeap.set_length,killO_length,List.length_cons,List.length_nil]; first | done | omega)) only [strs_length,va,vg,vs,vw,Nat.reduceMul,ite_true,ite_false,eq_self,forall_const,implies_true,Nat.reduceAdd,Nat.reduceSub,Nat.reduceLT,Nat.reduceLeDiff,↓reduceIte,reduceCtorEq,Int.reduceEq,Int.reduceLT,Int.reduceLE,Int.reduceGT,Int.reduceGE,Int.reduceAdd,Int.reduceSub,Int.reduceNeg,Int.reduceToNat,Nat.reduceBEq,Nat.reduceEqDiff]
 refine ES_loopL (fun ts F => ∃ (k oid : Nat) (out : List Dc),(k ≤ l.length / 2 ∧ out = (pairs l).take k) ∧ (H.length ≤ F.length ∧ H.length ≤ oid ∧ (out ≠ [] → AHeap.find F oid = DocB out)) ∧ (∀ id,id < H.length → AHeap.find F id = AHeap.find H id) ∧
   Fr [some (.lst 1 (strs l) ro),none,none,some (DocV out oid),some (.sc (.int .i64 (2 * k : Nat))),none,none,none,none,none,none,none,none,none,none,none,none,none,none,none,none,none,none,none,none,none] ts) (fun ts _ => l.length - (intV (ts.getD 4 .top)).toNat) ?_ ?_
 ·exact ⟨0,H.length,[],⟨Nat.zero_le _,rfl⟩,⟨Nat.le_refl _,Nat.le_refl _,fun h => (h rfl).elim⟩,fun id hid => rfl,by simp [Fr]; rfl⟩
 rintro ts F ⟨k,oid,out,⟨hk,ho⟩,⟨f1,f2,f3⟩,g1,hfr⟩ L2 hL2
 obtain ⟨js,rfl⟩ := hfr.opened
 clear hfr
 have hol : out.length = k := by rw [ho,List.length_take,pairs_length]; omega
 simp -implicitDefEqProofs (maxSteps := 99999999) (disch := first | omega | (simp only [AHeap.set_length,killO_length,List.length_cons,List.length_nil]; first | done | omega)) only [strs_length,mk,va,vg,vs,vw,Nat.reduceMul,ite_true,ite_false,eq_self,forall_const,implies_true,Nat.reduceAdd,Nat.reduceSub,Nat.reduceLT,Nat.reduceLeDiff,↓reduceIte,reduceCtorEq,Int.reduceEq,Int.reduceLT,Int.reduceLE,Int.reduceGT,Int.reduceGE,Int.reduceAdd,Int.reduceSub,Int.reduceNeg,Int.reduceToNat,Nat.reduceBEq,Nat.reduceEqDiff]
 refine condR_if (fun h => ?_) (fun h => ?_)
 ·have hk2 : k < l.length / 2 := by omega
  have hp := pairs_take hk2
  rw [← ho] at hp
  have a1 : 2 * k < l.length := by omega
  have a2 : 2 * k + 1 < l.length := by omega
  have a1' : ((2 * k : Nat) : Int) < l.length := by omega
  have a2' : ((2 * k : Nat) : Int) + 1 < l.length := by omega
  have a0 : (0 : Int) ≤ ((2 * k : Nat) : Int) := by omega
  have a3 : (0 : Int) ≤ ((2 * k : Nat) : Int) + 1 := by omega
  have a4 : (((2 * k : Nat) : Int) + 1).toNat = 2 * k + 1 := by omega
  have w1 : IntKind.i64.wrap (((2 * k : Nat) : Int) + 1) = ((2 * k : Nat) : Int) + 1 := wrap_i64 (by omega) (by omega)
  have w2 : IntKind.i64.wrap (((2 * k : Nat) : Int) + 2) = ((2 * (k + 1) : Nat) : Int) := by rw [wrap_i64 (by omega) (by omega)]; omega
  have g2 := strs_get a1
  have g3 := strs_get a2
  by_cases e0 : out = []
  ·subst e0
   have eV : DocV [] oid = .lst 0 [] (some []) := rfl
   rw [eV]
   simp -implicitDefEqProofs (maxSteps := 99999999) (disch := first | omega | (simp only [AHeap.set_length,killO_length,List.length_cons,List.length_nil]; first | done | omega)) only [strs_length,g2,g3,w1,w2,a0,a1',a2',a3,a4,va,vg,vs,vw,Nat.reduceMul,ite_true,ite_false,eq_self,forall_const,implies_true,Nat.reduceAdd,Nat.reduceSub,Nat.reduceLT,Nat.reduceLeDiff,↓reduceIte,reduceCtorEq,Int.reduceEq,Int.reduceLT,Int.reduceLE,Int.reduceGT,Int.reduceGE,Int.reduceAdd,Int.reduceSub,Int.reduceNeg,Int.reduceToNat,Nat.reduceBEq,Nat.reduceEqDiff]
   refine hL2 _ _ ⟨k + 1,F.length,[] ++ [(nthS l (2 * k),nthS l (2 * k + 1))],⟨by omega,hp.symm⟩,⟨by simp; omega,by omega,fun _ => find_top rfl⟩,fun i hi => by simp -implicitDefEqProofs (maxSteps := 99999999) (disch := first | omega | (simp only [AHeap.set_length,killO_length,List.length_cons,List.length_nil]; first | done | omega)) only [g1 i hi,va,vg,vs,vw,Nat.reduceMul,ite_true,ite_false,eq_self,forall_const,implies_true,Nat.reduceAdd,Nat.reduceSub,Nat.reduceLT,Nat.reduceLeDiff,↓reduceIte,reduceCtorEq,Int.reduceEq,Int.reduceLT,Int.reduceLE,Int.reduceGT,Int.reduceGE,Int.reduceAdd,Int.reduceSub,Int.reduceNeg,Int.reduceToNat,Nat.reduceBEq,Nat.reduceEqDiff],by simp [Fr]; rfl⟩ (by simp only [List.getD_cons_succ,List.getD_cons_zero,intV,mk]; omega)
  ·have fo : AHeap.find F oid = some ⟨2,docs out,false,40⟩ := by rw [f3 e0,DocB_ne e0]
   have ea : docs out ++ [.agg [.sc (.string (nthS l (2 * k))),.sc (.string (nthS l (2 * k + 1)))]] = docs (out ++ [(nthS l (2 * k),nthS l (2 * k + 1))]) := docs_app (d := (nthS l (2 * k),nthS l (2 * k + 1)))
   have hlo := AHeap.find_lt fo
   rw [DocV_ne e0]
   simp -implicitDefEqProofs (maxSteps := 99999999) (disch := first | omega | (simp only [AHeap.set_length,killO_length,List.length_cons,List.length_nil]; first | done | omega)) only [strs_length,g2,g3,w1,w2,a0,a1',a2',a3,a4,docs_length,fo,ea,va,vg,vs,vw,Nat.reduceMul,ite_true,ite_false,eq_self,forall_const,implies_true,Nat.reduceAdd,Nat.reduceSub,Nat.reduceLT,Nat.reduceLeDiff,↓reduceIte,reduceCtorEq,Int.reduceEq,Int.reduceLT,Int.reduceLE,Int.reduceGT,Int.reduceGE,Int.reduceAdd,Int.reduceSub,Int.reduceNeg,Int.reduceToNat,Nat.reduceBEq,Nat.reduceEqDiff]
   have eV : AV.vec 2 F.length 0 (out.length + 1) none = DocV (out ++ [(nthS l (2 * k),nthS l (2 * k + 1))]) F.length := by rw [DocV_ne (by simp),List.length_append]; rfl
   rw [eV]
   refine ⟨by omega,hL2 _ _ ⟨k + 1,F.length,out ++ [(nthS l (2 * k),nthS l (2 * k + 1))],⟨by omega,hp.symm⟩,⟨by simp [AHeap.set_length]; omega,by omega,fun _ => by rw [DocB_ne (by simp)]; exact find_top (by simp [AHeap.set_length])⟩,fun i hi => ?_,by simp [Fr]⟩ (by simp only [List.getD_cons_succ,List.getD_cons_zero,intV,mk]; omega)⟩
   have n1 : i ≠ oid := by omega
   simp -implicitDefEqProofs (maxSteps := 99999999) (disch := first | omega | (simp only [AHeap.set_length,killO_length,List.length_cons,List.length_nil]; first | done | omega)) only [g1 i hi,va,vg,vs,vw,Nat.reduceMul,ite_true,ite_false,eq_self,forall_const,implies_true,Nat.reduceAdd,Nat.reduceSub,Nat.reduceLT,Nat.reduceLeDiff,↓reduceIte,reduceCtorEq,Int.reduceEq,Int.reduceLT,Int.reduceLE,Int.reduceGT,Int.reduceGE,Int.reduceAdd,Int.reduceSub,Int.reduceNeg,Int.reduceToNat,Nat.reduceBEq,Nat.reduceEqDiff]
 ·have hk2 : k = l.length / 2 := by omega
  have he : out = pairs l := by rw [ho,List.take_of_length_le (by rw [pairs_length]; omega)]
  clear hL2
  simp -implicitDefEqProofs (maxSteps := 99999999) (disch := first | omega | (simp only [AHeap.set_length,killO_length,List.length_cons,List.length_nil]; first | done | omega)) only [va,vg,vs,vw,Nat.reduceMul,ite_true,ite_false,eq_self,forall_const,implies_true,Nat.reduceAdd,Nat.reduceSub,Nat.reduceLT,Nat.reduceLeDiff,↓reduceIte,reduceCtorEq,Int.reduceEq,Int.reduceLT,Int.reduceLE,Int.reduceGT,Int.reduceGE,Int.reduceAdd,Int.reduceSub,Int.reduceNeg,Int.reduceToNat,Nat.reduceBEq,Nat.reduceEqDiff]
  refine hL _ _ ?_
  clear hL
  simp -implicitDefEqProofs (maxSteps := 99999999) (disch := first | omega | (simp only [AHeap.set_length,killO_length,List.length_cons,List.length_nil]; first | done | omega)) only [OwnV_top,OwnV_ncells,OwnV_isAgg,OwnV_cells,va,vg,vs,vw,Nat.reduceMul,ite_true,ite_false,eq_self,forall_const,implies_true,Nat.reduceAdd,Nat.reduceSub,Nat.reduceLT,Nat.reduceLeDiff,↓reduceIte,reduceCtorEq,Int.reduceEq,Int.reduceLT,Int.reduceLE,Int.reduceGT,Int.reduceGE,Int.reduceAdd,Int.reduceSub,Int.reduceNeg,Int.reduceToNat,Nat.reduceBEq,Nat.reduceEqDiff]
  rw [← he]
  exact weak_rowD (by omega) g1 (fun h => f3 fun e => h (by rw [e]; rfl)) docs_gz (row_gzD (by omega))
end Go.Proofs.YtljajanjjcdelaaGreat
