/- What is found; the same states, as the document's answer tells. -/
import Derived.Test.YtljajanjjcdelaaGreatS94
namespace Go.Proofs.YtljajanjjcdelaaGreat
open Go.RowKit
set_option maxRecDepth 100000
set_option linter.unusedVariables false
set_option linter.unusedSimpArgs false
def isN (nm : ByteArray) (d : Dc) : Bool := decide (d.1 = nm)
def fdT (l : List Dc) (nm : ByteArray) : ByteArray := if l.any (isN nm) = true then (nthD l (l.findIdx (isN nm))).2 else ⟨#[]⟩
theorem fd_at {l : List Dc} {nm : ByteArray} {k : Nat} (h : k < l.length) (hk : isN nm (nthD l k) = true) (hb : ∀ j,j < k → isN nm (nthD l j) = false) : l.any (isN nm) = true ∧ fdT l nm = (nthD l k).2 ∧ fi (isN nm) l = k := by
 have h1 : l.any (isN nm) = true := List.any_eq_true.2 ⟨_,List.getElem_mem h,by rw [← nthD_eq h]; exact hk⟩
 have h2 : fi (isN nm) l = k := fi_at h (by rw [← nthD_eq h]; exact hk) (fun j hj hl => by rw [← nthD_eq hj]; exact hb j hl)
 have h3 : l.findIdx (isN nm) = k := by
  unfold fi at h2
  rw [if_pos h1] at h2
  omega
 exact ⟨h1,by rw [fdT,if_pos h1,h3],h2⟩
theorem fd_no {l : List Dc} {nm : ByteArray} (hb : ∀ j,j < l.length → isN nm (nthD l j) = false) : l.any (isN nm) = false ∧ fdT l nm = ⟨#[]⟩ := by
 have h1 : l.any (isN nm) = false := by
  rw [List.any_eq_false]
  intro x hx
  obtain ⟨j,hj,rfl⟩ := List.getElem_of_mem hx
  rw [← nthD_eq hj,hb j hj]
  simp
 exact ⟨h1,by rw [fdT,h1]; rfl⟩
theorem findF_d (d : Dc) (nm : ByteArray) (H : AHeap) : D Tryz.prog 40 [dcA d,.ptr 1 H.length 0 0] (some ⟨1,[.sc (.string nm)],true,9⟩ :: H) (.ret (.sc (.bool (isN nm d)))) (some ⟨1,[.sc (.string nm)],true,9⟩ :: H) := by
 refine D_of_DK (Nat.le_refl _) (dk40 (E_of_ES ?_))
 simp -implicitDefEqProofs (maxSteps := 99999999) (disch := omega) only [ic40,va,vg,vs,vh,Nat.reduceMul,ite_true,ite_false,eq_self,forall_const,implies_true,Nat.reduceAdd,Nat.reduceSub,Nat.reduceLT,Nat.reduceLeDiff,↓reduceIte,reduceCtorEq,Int.reduceEq,Int.reduceLT,Int.reduceLE,Int.reduceGT,Int.reduceGE,Int.reduceAdd,Int.reduceSub,Int.reduceNeg,Int.reduceToNat,Nat.reduceBEq,Nat.reduceEqDiff]
 exact weak_sc (.cons .refl)
theorem find_d (l : List Dc) (room : Option (List AV)) (nm : ByteArray) (H : AHeap) (hl : l.length ≤ 100000000) : D Tryz.prog 17 [.lst 2 (docs l) room,.sc (.string nm)] H (.ret (.tup [.sc (.string (fdT l nm)),.sc (.bool (l.any (isN nm)))])) H := by
 refine D_of_DK (Nat.le_refl _) (dk17 (E_of_ES ?_))
 simp -implicitDefEqProofs (maxSteps := 99999999) (disch := omega) only [ic17,va,vg,vs,vh,Nat.reduceMul,ite_true,ite_false,eq_self,forall_const,implies_true,Nat.reduceAdd,Nat.reduceSub,Nat.reduceLT,Nat.reduceLeDiff,↓reduceIte,reduceCtorEq,Int.reduceEq,Int.reduceLT,Int.reduceLE,Int.reduceGT,Int.reduceGE,Int.reduceAdd,Int.reduceSub,Int.reduceNeg,Int.reduceToNat,Nat.reduceBEq,Nat.reduceEqDiff]
 refine callR_ret (indexFuncD_d l room 40 [.ptr 1 H.length 0 0] (isN nm) _ rfl (fun d _ => findF_d d nm H) hl) ?_
 cases ha : l.any (isN nm) with
 | true =>
  have hf : fi (isN nm) l = (l.findIdx (isN nm) : Nat) := by unfold fi; rw [if_pos ha]
  have hlt : l.findIdx (isN nm) < l.length := List.findIdx_lt_length_of_exists (List.any_eq_true.1 ha)
  have e : fdT l nm = (nthD l (l.findIdx (isN nm))).2 := by rw [fdT,if_pos ha]
  rw [hf,e]
  generalize l.findIdx (isN nm) = k at hlt
  have c0 : ¬ ((k : Int) < 0) := by omega
  simp -implicitDefEqProofs (maxSteps := 99999999) (disch := omega) only [docs_length,docs_get hlt,c0,va,vg,vs,vh,Nat.reduceMul,ite_true,ite_false,eq_self,forall_const,implies_true,Nat.reduceAdd,Nat.reduceSub,Nat.reduceLT,Nat.reduceLeDiff,↓reduceIte,reduceCtorEq,Int.reduceEq,Int.reduceLT,Int.reduceLE,Int.reduceGT,Int.reduceGE,Int.reduceAdd,Int.reduceSub,Int.reduceNeg,Int.reduceToNat,Nat.reduceBEq,Nat.reduceEqDiff]
  refine ⟨by omega,weak_over (.cons .refl) (.tup (.cons (.same trivial) (.cons (.same trivial) .nil)))⟩
 | false =>
  have hf : fi (isN nm) l = -1 := by unfold fi; rw [ha]; rfl
  have e : fdT l nm = ⟨#[]⟩ := by rw [fdT,ha]; rfl
  rw [hf,e]
  simp -implicitDefEqProofs (maxSteps := 99999999) (disch := omega) only [va,vg,vs,vh,Nat.reduceMul,ite_true,ite_false,eq_self,forall_const,implies_true,Nat.reduceAdd,Nat.reduceSub,Nat.reduceLT,Nat.reduceLeDiff,↓reduceIte,reduceCtorEq,Int.reduceEq,Int.reduceLT,Int.reduceLE,Int.reduceGT,Int.reduceGE,Int.reduceAdd,Int.reduceSub,Int.reduceNeg,Int.reduceToNat,Nat.reduceBEq,Nat.reduceEqDiff]
  exact weak_over (.cons .refl) (.tup (.cons (.same trivial) (.cons (.same trivial) .nil)))
theorem refFind_d (l : List Dc) (room : Option (List AV)) (nm : ByteArray) (H : AHeap) (hl : l.length ≤ 100000000) : D Tryz.prog 18 [.lst 2 (docs l) room,.sc (.string nm)] H (.ret (.tup [.sc (.string (fdT l nm)),.sc (.bool (l.any (isN nm)))])) H := by
 refine D_of_DK (Nat.le_refl _) (dk18 (E_of_ES ?_))
 simp -implicitDefEqProofs (maxSteps := 99999999) (disch := omega) only [docs_length,ic18,va,vg,vs,vh,Nat.reduceMul,ite_true,ite_false,eq_self,forall_const,implies_true,Nat.reduceAdd,Nat.reduceSub,Nat.reduceLT,Nat.reduceLeDiff,↓reduceIte,reduceCtorEq,Int.reduceEq,Int.reduceLT,Int.reduceLE,Int.reduceGT,Int.reduceGE,Int.reduceAdd,Int.reduceSub,Int.reduceNeg,Int.reduceToNat,Nat.reduceBEq,Nat.reduceEqDiff]
 refine ES_loop (fun ts H' => H' = H ∧ ∃ k : Nat,(k ≤ l.length ∧ ∀ j,j < k → isN nm (nthD l j) = false) ∧ Fr [some (.lst 2 (docs l) room),some (.sc (.string nm)),none,none,some (.sc (.string ⟨#[]⟩)),some (.sc (.bool false)),some (.sc (.int .i64 k)),none,none,none,none,none,none,none,none,none,none,none,none,none,none,none,none,none,none] ts) (fun ts _ => l.length - (intV (ts.getD 6 .top)).toNat) ?_ ?_
 ·exact ⟨rfl,0,⟨Nat.zero_le _,fun j h => absurd h (Nat.not_lt_zero _)⟩,by simp [Fr]⟩
 rintro ts _ ⟨rfl,k,⟨hk,hp⟩,hfr⟩
 obtain ⟨js,rfl⟩ := hfr.opened
 clear hfr
 simp -implicitDefEqProofs (maxSteps := 99999999) (disch := omega) only [docs_length,mk,va,vg,vs,vh,Nat.reduceMul,ite_true,ite_false,eq_self,forall_const,implies_true,Nat.reduceAdd,Nat.reduceSub,Nat.reduceLT,Nat.reduceLeDiff,↓reduceIte,reduceCtorEq,Int.reduceEq,Int.reduceLT,Int.reduceLE,Int.reduceGT,Int.reduceGE,Int.reduceAdd,Int.reduceSub,Int.reduceNeg,Int.reduceToNat,Nat.reduceBEq,Nat.reduceEqDiff]
 refine condR_if (fun h => ?_) (fun h => ?_)
 ·have h1 : k < l.length := by omega
  simp -implicitDefEqProofs (maxSteps := 99999999) (disch := omega) only [docs_length,docs_get h1,va,vg,vs,vh,Nat.reduceMul,ite_true,ite_false,eq_self,forall_const,implies_true,Nat.reduceAdd,Nat.reduceSub,Nat.reduceLT,Nat.reduceLeDiff,↓reduceIte,reduceCtorEq,Int.reduceEq,Int.reduceLT,Int.reduceLE,Int.reduceGT,Int.reduceGE,Int.reduceAdd,Int.reduceSub,Int.reduceNeg,Int.reduceToNat,Nat.reduceBEq,Nat.reduceEqDiff]
  refine ⟨by omega,condR_if (fun h => ?_) (fun h => ?_)⟩
  ·obtain ⟨e1,e2,_⟩ := fd_at h1 (by simpa [isN] using h) hp
   simp -implicitDefEqProofs (maxSteps := 99999999) (disch := omega) only [docs_length,docs_get h1,e1,e2,va,vg,vs,vh,Nat.reduceMul,ite_true,ite_false,eq_self,forall_const,implies_true,Nat.reduceAdd,Nat.reduceSub,Nat.reduceLT,Nat.reduceLeDiff,↓reduceIte,reduceCtorEq,Int.reduceEq,Int.reduceLT,Int.reduceLE,Int.reduceGT,Int.reduceGE,Int.reduceAdd,Int.reduceSub,Int.reduceNeg,Int.reduceToNat,Nat.reduceBEq,Nat.reduceEqDiff]
   exact ⟨by omega,weak_over .refl (.tup (.cons (.same trivial) (.cons (.same trivial) .nil)))⟩
  ·simp -implicitDefEqProofs (maxSteps := 99999999) (disch := omega) only [va,vg,vs,vh,Nat.reduceMul,ite_true,ite_false,eq_self,forall_const,implies_true,Nat.reduceAdd,Nat.reduceSub,Nat.reduceLT,Nat.reduceLeDiff,↓reduceIte,reduceCtorEq,Int.reduceEq,Int.reduceLT,Int.reduceLE,Int.reduceGT,Int.reduceGE,Int.reduceAdd,Int.reduceSub,Int.reduceNeg,Int.reduceToNat,Nat.reduceBEq,Nat.reduceEqDiff]
   refine ⟨⟨k + 1,⟨by omega,fun j hj => ?_⟩,by simp [Fr]⟩,by omega⟩
   rcases Nat.lt_succ_iff_lt_or_eq.1 hj with h' | rfl
   ·exact hp j h'
   ·simpa [isN] using h
 ·obtain ⟨e1,e2⟩ := fd_no (l := l) (nm := nm) (fun j hj => hp j (by omega))
  simp -implicitDefEqProofs (maxSteps := 99999999) (disch := omega) only [e1,e2,va,vg,vs,vh,Nat.reduceMul,ite_true,ite_false,eq_self,forall_const,implies_true,Nat.reduceAdd,Nat.reduceSub,Nat.reduceLT,Nat.reduceLeDiff,↓reduceIte,reduceCtorEq,Int.reduceEq,Int.reduceLT,Int.reduceLE,Int.reduceGT,Int.reduceGE,Int.reduceAdd,Int.reduceSub,Int.reduceNeg,Int.reduceToNat,Nat.reduceBEq,Nat.reduceEqDiff]
  exact weak_over .refl (.tup (.cons (.same trivial) (.cons (.same trivial) .nil)))
theorem refSame_d (a b : List Dc) (ra rb : Option (List AV)) (H : AHeap) (hl : a.length ≤ 100000000) : D Tryz.prog 22 [.lst 2 (docs a) ra,.lst 2 (docs b) rb] H (.ret (.sc (.bool (decide (a = b))))) H := by
 refine D_of_DK (Nat.le_refl _) (dk22 (E_of_ES ?_))
 simp -implicitDefEqProofs (maxSteps := 99999999) (disch := omega) only [docs_length,ic22,va,vg,vs,vh,Nat.reduceMul,ite_true,ite_false,eq_self,forall_const,implies_true,Nat.reduceAdd,Nat.reduceSub,Nat.reduceLT,Nat.reduceLeDiff,↓reduceIte,reduceCtorEq,Int.reduceEq,Int.reduceLT,Int.reduceLE,Int.reduceGT,Int.reduceGE,Int.reduceAdd,Int.reduceSub,Int.reduceNeg,Int.reduceToNat,Nat.reduceBEq,Nat.reduceEqDiff]
 refine condR_if (fun h => ?_) (fun h => ?_)
 ·have hne : ¬ a = b := fun e => by simp [e] at h
  simp -implicitDefEqProofs (maxSteps := 99999999) (disch := omega) only [docs_length,hne,va,vg,vs,vh,Nat.reduceMul,ite_true,ite_false,eq_self,forall_const,implies_true,Nat.reduceAdd,Nat.reduceSub,Nat.reduceLT,Nat.reduceLeDiff,↓reduceIte,reduceCtorEq,Int.reduceEq,Int.reduceLT,Int.reduceLE,Int.reduceGT,Int.reduceGE,Int.reduceAdd,Int.reduceSub,Int.reduceNeg,Int.reduceToNat,Nat.reduceBEq,Nat.reduceEqDiff]
  exact weak_sc .refl
 have hl2 : a.length = b.length := by omega
 simp -implicitDefEqProofs (maxSteps := 99999999) (disch := omega) only [docs_length,va,vg,vs,vh,Nat.reduceMul,ite_true,ite_false,eq_self,forall_const,implies_true,Nat.reduceAdd,Nat.reduceSub,Nat.reduceLT,Nat.reduceLeDiff,↓reduceIte,reduceCtorEq,Int.reduceEq,Int.reduceLT,Int.reduceLE,Int.reduceGT,Int.reduceGE,Int.reduceAdd,Int.reduceSub,Int.reduceNeg,Int.reduceToNat,Nat.reduceBEq,Nat.reduceEqDiff]
 refine ES_loop (fun ts H' => H' = H ∧ ∃ k : Nat,(k ≤ a.length ∧ ∀ j,j < k → nthD a j = nthD b j) ∧ Fr [some (.lst 2 (docs a) ra),some (.lst 2 (docs b) rb),none,none,some (.sc (.bool false)),some (.sc (.int .i64 k)),none,none,none,none,none,none,none,none,none,none,none,none,none,none,none,none,none,none,none,none] ts) (fun ts _ => a.length - (intV (ts.getD 5 .top)).toNat) ?_ ?_
 ·exact ⟨rfl,0,⟨Nat.zero_le _,fun j h => absurd h (Nat.not_lt_zero _)⟩,by simp [Fr]⟩
 rintro ts _ ⟨rfl,k,⟨hk,hp⟩,hfr⟩
 obtain ⟨js,rfl⟩ := hfr.opened
 clear hfr
 simp -implicitDefEqProofs (maxSteps := 99999999) (disch := omega) only [docs_length,mk,va,vg,vs,vh,Nat.reduceMul,ite_true,ite_false,eq_self,forall_const,implies_true,Nat.reduceAdd,Nat.reduceSub,Nat.reduceLT,Nat.reduceLeDiff,↓reduceIte,reduceCtorEq,Int.reduceEq,Int.reduceLT,Int.reduceLE,Int.reduceGT,Int.reduceGE,Int.reduceAdd,Int.reduceSub,Int.reduceNeg,Int.reduceToNat,Nat.reduceBEq,Nat.reduceEqDiff]
 refine condR_if (fun h => ?_) (fun h => ?_)
 ·have h1 : k < a.length := by omega
  have h2 : k < b.length := by omega
  simp -implicitDefEqProofs (maxSteps := 99999999) (disch := omega) only [docs_length,docs_get h1,docs_get h2,va,vg,vs,vh,Nat.reduceMul,ite_true,ite_false,eq_self,forall_const,implies_true,Nat.reduceAdd,Nat.reduceSub,Nat.reduceLT,Nat.reduceLeDiff,↓reduceIte,reduceCtorEq,Int.reduceEq,Int.reduceLT,Int.reduceLE,Int.reduceGT,Int.reduceGE,Int.reduceAdd,Int.reduceSub,Int.reduceNeg,Int.reduceToNat,Nat.reduceBEq,Nat.reduceEqDiff]
  refine ⟨by omega,by omega,condR_if (fun h => ?_) (fun h => ?_)⟩
  ·have hne : ¬ a = b := fun e => by simp [e] at h
   simp -implicitDefEqProofs (maxSteps := 99999999) (disch := omega) only [docs_length,hne,va,vg,vs,vh,Nat.reduceMul,ite_true,ite_false,eq_self,forall_const,implies_true,Nat.reduceAdd,Nat.reduceSub,Nat.reduceLT,Nat.reduceLeDiff,↓reduceIte,reduceCtorEq,Int.reduceEq,Int.reduceLT,Int.reduceLE,Int.reduceGT,Int.reduceGE,Int.reduceAdd,Int.reduceSub,Int.reduceNeg,Int.reduceToNat,Nat.reduceBEq,Nat.reduceEqDiff]
   exact weak_sc .refl
  ·simp -implicitDefEqProofs (maxSteps := 99999999) (disch := omega) only [docs_length,va,vg,vs,vh,Nat.reduceMul,ite_true,ite_false,eq_self,forall_const,implies_true,Nat.reduceAdd,Nat.reduceSub,Nat.reduceLT,Nat.reduceLeDiff,↓reduceIte,reduceCtorEq,Int.reduceEq,Int.reduceLT,Int.reduceLE,Int.reduceGT,Int.reduceGE,Int.reduceAdd,Int.reduceSub,Int.reduceNeg,Int.reduceToNat,Nat.reduceBEq,Nat.reduceEqDiff]
   refine ⟨⟨k + 1,⟨by omega,fun j hj => ?_⟩,by simp [Fr]⟩,by omega⟩
   rcases Nat.lt_succ_iff_lt_or_eq.1 hj with h' | rfl
   ·exact hp j h'
   ·have := Classical.not_not.1 h
    exact Prod.ext this.1 this.2
 ·have hab : a = b := nthD_ext hl2 (fun i hi => hp i (by omega))
  simp -implicitDefEqProofs (maxSteps := 99999999) (disch := omega) only [docs_length,hab,va,vg,vs,vh,Nat.reduceMul,ite_true,ite_false,eq_self,forall_const,implies_true,Nat.reduceAdd,Nat.reduceSub,Nat.reduceLT,Nat.reduceLeDiff,↓reduceIte,reduceCtorEq,Int.reduceEq,Int.reduceLT,Int.reduceLE,Int.reduceGT,Int.reduceGE,Int.reduceAdd,Int.reduceSub,Int.reduceNeg,Int.reduceToNat,Nat.reduceBEq,Nat.reduceEqDiff]
  exact weak_sc .refl
end Go.Proofs.YtljajanjjcdelaaGreat
