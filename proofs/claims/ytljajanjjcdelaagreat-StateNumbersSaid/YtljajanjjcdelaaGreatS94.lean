/- Right states; what is found; the same states. -/
import Derived.Test.YtljajanjjcdelaaGreatS93
namespace Go.Proofs.YtljajanjjcdelaaGreat
open Go.RowKit
set_option maxRecDepth 100000
set_option linter.unusedVariables false
set_option linter.unusedSimpArgs false
def lt (a b : ByteArray) : Bool := Op.bytesLess a.toList b.toList
def badN (d : Dc) : Bool := !nameB d.1
def upAt (s : List Dc) (k : Nat) : Bool := decide (k = 0) || lt (nthD s (k - 1)).1 (nthD s k).1
def riseB (s : List Dc) : Bool := (List.range s.length).all (upAt s)
def rightS (s : List Dc) : Bool := riseB s && !s.any badN
theorem riseB_ok {s : List Dc} (h : ∀ k,k < s.length → upAt s k = true) : riseB s = true :=
 List.all_eq_true.2 fun k hk => h k (List.mem_range.1 hk)
theorem riseB_no {s : List Dc} {k : Nat} (hk : k < s.length) (h : upAt s k = false) : riseB s = false :=
 List.all_eq_false.2 ⟨k,List.mem_range.2 hk,by simp [h]⟩
theorem namesF_d (d : Dc) (H : AHeap) (hl : d.1.size ≤ 100000000) : D Tryz.prog 49 [dcA d] H (.ret (.sc (.bool (badN d)))) H := by
 refine D_of_DK (Nat.le_refl _) (dk49 (E_of_ES ?_))
 simp -implicitDefEqProofs (maxSteps := 99999999) (disch := omega) only [ic49,va,vg,vs,vh,Nat.reduceMul,ite_true,ite_false,eq_self,forall_const,implies_true,Nat.reduceAdd,Nat.reduceSub,Nat.reduceLT,Nat.reduceLeDiff,↓reduceIte,reduceCtorEq,Int.reduceEq,Int.reduceLT,Int.reduceLE,Int.reduceGT,Int.reduceGE,Int.reduceAdd,Int.reduceSub,Int.reduceNeg,Int.reduceToNat,Nat.reduceBEq,Nat.reduceEqDiff]
 refine callR_ret (name_d d.1 _ hl) ?_
 simp -implicitDefEqProofs (maxSteps := 99999999) (disch := omega) only [va,vg,vs,vh,Nat.reduceMul,ite_true,ite_false,eq_self,forall_const,implies_true,Nat.reduceAdd,Nat.reduceSub,Nat.reduceLT,Nat.reduceLeDiff,↓reduceIte,reduceCtorEq,Int.reduceEq,Int.reduceLT,Int.reduceLE,Int.reduceGT,Int.reduceGE,Int.reduceAdd,Int.reduceSub,Int.reduceNeg,Int.reduceToNat,Nat.reduceBEq,Nat.reduceEqDiff]
 exact weak_sc (.cons .refl)
/-- A fact of a list's elements, told as a contract of a function. -/
theorem containsS_d (l : List Dc) (room : Option (List AV)) (H : AHeap) (hl : ShortD l) :
  D Tryz.prog 48 [.lst 2 (docs l) room,.fn (.func 49) [] []] H (.ret (.sc (.bool (l.any badN)))) H :=
 containsFuncD_d l room 49 [] badN H rfl (fun d hd => namesF_d d H (hl.2 d hd).1) hl.1
theorem names_d (l : List Dc) (room : Option (List AV)) (H : AHeap) (hl : ShortD l) : D Tryz.prog 32 [.lst 2 (docs l) room] H (.ret (.sc (.bool (!l.any badN)))) H := by
 refine D_of_DK (Nat.le_refl _) (dk32 (E_of_ES ?_))
 simp -implicitDefEqProofs (maxSteps := 99999999) (disch := omega) only [ic32,va,vg,vs,vh,Nat.reduceMul,ite_true,ite_false,eq_self,forall_const,implies_true,Nat.reduceAdd,Nat.reduceSub,Nat.reduceLT,Nat.reduceLeDiff,↓reduceIte,reduceCtorEq,Int.reduceEq,Int.reduceLT,Int.reduceLE,Int.reduceGT,Int.reduceGE,Int.reduceAdd,Int.reduceSub,Int.reduceNeg,Int.reduceToNat,Nat.reduceBEq,Nat.reduceEqDiff]
 refine callR_ret (containsS_d l room _ hl) ?_
 simp -implicitDefEqProofs (maxSteps := 99999999) (disch := omega) only [va,vg,vs,vh,Nat.reduceMul,ite_true,ite_false,eq_self,forall_const,implies_true,Nat.reduceAdd,Nat.reduceSub,Nat.reduceLT,Nat.reduceLeDiff,↓reduceIte,reduceCtorEq,Int.reduceEq,Int.reduceLT,Int.reduceLE,Int.reduceGT,Int.reduceGE,Int.reduceAdd,Int.reduceSub,Int.reduceNeg,Int.reduceToNat,Nat.reduceBEq,Nat.reduceEqDiff]
 exact weak_sc .refl
theorem rightS_d (s : List Dc) (room : Option (List AV)) (H : AHeap) (hl : ShortD s) : D Tryz.prog 19 [.lst 2 (docs s) room] H (.ret (.sc (.bool (rightS s)))) H := by
 have hlen := hl.1
 refine D_of_DK (Nat.le_refl _) (dk19 (E_of_ES ?_))
 simp only [ic19,ux]
 refine ES_seq_gen fun L hL => ?_
 simp -implicitDefEqProofs (maxSteps := 99999999) (disch := omega) only [docs_length,va,vg,vs,vh,Nat.reduceMul,ite_true,ite_false,eq_self,forall_const,implies_true,Nat.reduceAdd,Nat.reduceSub,Nat.reduceLT,Nat.reduceLeDiff,↓reduceIte,reduceCtorEq,Int.reduceEq,Int.reduceLT,Int.reduceLE,Int.reduceGT,Int.reduceGE,Int.reduceAdd,Int.reduceSub,Int.reduceNeg,Int.reduceToNat,Nat.reduceBEq,Nat.reduceEqDiff]
 refine hL _ _ ?_
 clear hL
 refine ES_seq_gen fun L hL => ?_
 simp -implicitDefEqProofs (maxSteps := 99999999) (disch := omega) only [docs_length,va,vg,vs,vh,Nat.reduceMul,ite_true,ite_false,eq_self,forall_const,implies_true,Nat.reduceAdd,Nat.reduceSub,Nat.reduceLT,Nat.reduceLeDiff,↓reduceIte,reduceCtorEq,Int.reduceEq,Int.reduceLT,Int.reduceLE,Int.reduceGT,Int.reduceGE,Int.reduceAdd,Int.reduceSub,Int.reduceNeg,Int.reduceToNat,Nat.reduceBEq,Nat.reduceEqDiff]
 refine ES_loopL (fun ts H' => H' = H ∧ ∃ k : Nat,(k ≤ s.length ∧ ∀ j,j < k → upAt s j = true) ∧ Fr [some (.lst 2 (docs s) room),none,some (.sc (.bool false)),none,none,some (.sc (.int .i64 s.length)),some (.sc (.int .i64 k)),none,none,none,none,none,none,none,none,none,none,none,none,none,none,none,none,none,none,none,none,none] ts) (fun ts _ => s.length - (intV (ts.getD 6 .top)).toNat) ⟨rfl,0,⟨Nat.zero_le _,fun j h => absurd h (Nat.not_lt_zero _)⟩,by simp [Fr]⟩ ?_
 rintro ts _ ⟨rfl,k,⟨hk,hp⟩,hfr⟩ L2 hL2
 obtain ⟨js,rfl⟩ := hfr.opened
 clear hfr
 simp -implicitDefEqProofs (maxSteps := 99999999) (disch := omega) only [docs_length,mk,va,vg,vs,vh,Nat.reduceMul,ite_true,ite_false,eq_self,forall_const,implies_true,Nat.reduceAdd,Nat.reduceSub,Nat.reduceLT,Nat.reduceLeDiff,↓reduceIte,reduceCtorEq,Int.reduceEq,Int.reduceLT,Int.reduceLE,Int.reduceGT,Int.reduceGE,Int.reduceAdd,Int.reduceSub,Int.reduceNeg,Int.reduceToNat,Nat.reduceBEq,Nat.reduceEqDiff]
 refine condR_if (fun h => ?_) (fun h => ?_)
 ·have h1 : k < s.length := by omega
  rcases Nat.eq_zero_or_pos k with rfl | h0
  ·simp -implicitDefEqProofs (maxSteps := 99999999) (disch := omega) only [docs_length,va,vg,vs,vh,Nat.reduceMul,ite_true,ite_false,eq_self,forall_const,implies_true,Nat.reduceAdd,Nat.reduceSub,Nat.reduceLT,Nat.reduceLeDiff,↓reduceIte,reduceCtorEq,Int.reduceEq,Int.reduceLT,Int.reduceLE,Int.reduceGT,Int.reduceGE,Int.reduceAdd,Int.reduceSub,Int.reduceNeg,Int.reduceToNat,Nat.reduceBEq,Nat.reduceEqDiff]
   exact hL2 _ _ ⟨rfl,1,⟨by omega,fun j hj => by
    have : j = 0 := by omega
    subst this; rfl⟩,by simp [Fr]⟩ (by simp [intV,mk]; omega)
  ·obtain ⟨j,rfl⟩ : ∃ j,k = j + 1 := ⟨k - 1,by omega⟩
   have c0 : ((j + 1 : Nat) : Int) > 0 := by omega
   have e1 : ((j + 1 : Nat) : Int) - 1 = (j : Int) := by omega
   have hu : upAt s (j + 1) = lt (nthD s j).1 (nthD s (j + 1)).1 := by simp [upAt]
   cases hlt : lt (nthD s j).1 (nthD s (j + 1)).1 with
   | true =>
    have hlt' : Op.bytesLess (nthD s j).1.toList (nthD s (j + 1)).1.toList = true := hlt
    simp -implicitDefEqProofs (maxSteps := 99999999) (disch := omega) only [docs_length,c0,e1,docs_get h1,docs_get (Nat.lt_of_succ_lt h1),hlt',va,vg,vs,vh,Nat.reduceMul,ite_true,ite_false,eq_self,forall_const,implies_true,Nat.reduceAdd,Nat.reduceSub,Nat.reduceLT,Nat.reduceLeDiff,↓reduceIte,reduceCtorEq,Int.reduceEq,Int.reduceLT,Int.reduceLE,Int.reduceGT,Int.reduceGE,Int.reduceAdd,Int.reduceSub,Int.reduceNeg,Int.reduceToNat,Nat.reduceBEq,Nat.reduceEqDiff]
    refine ⟨by omega,by omega,hL2 _ _ ⟨rfl,j + 2,⟨by omega,fun i hi => ?_⟩,by simp [Fr]; omega⟩ (by simp [intV,mk]; omega)⟩
    rcases Nat.lt_succ_iff_lt_or_eq.1 hi with h' | rfl
    ·exact hp i h'
    ·rw [hu,hlt]
   | false =>
    have hlt' : Op.bytesLess (nthD s j).1.toList (nthD s (j + 1)).1.toList = false := hlt
    have e : rightS s = false := by rw [rightS,riseB_no h1 (by rw [hu,hlt])]; rfl
    simp -implicitDefEqProofs (maxSteps := 99999999) (disch := omega) only [docs_length,c0,e1,docs_get h1,docs_get (Nat.lt_of_succ_lt h1),hlt',va,vg,vs,vh,Nat.reduceMul,ite_true,ite_false,eq_self,forall_const,implies_true,Nat.reduceAdd,Nat.reduceSub,Nat.reduceLT,Nat.reduceLeDiff,↓reduceIte,reduceCtorEq,Int.reduceEq,Int.reduceLT,Int.reduceLE,Int.reduceGT,Int.reduceGE,Int.reduceAdd,Int.reduceSub,Int.reduceNeg,Int.reduceToNat,Nat.reduceBEq,Nat.reduceEqDiff]
    refine ⟨by omega,by omega,?_⟩
    rw [e]
    exact weak_sc .refl
 ·have e : rightS s = !s.any badN := by rw [rightS,riseB_ok (fun i hi => hp i (by omega))]; rfl
  refine hL _ _ ?_
  clear hL
  simp -implicitDefEqProofs (maxSteps := 99999999) (disch := omega) only [docs_length,va,vg,vs,vh,Nat.reduceMul,ite_true,ite_false,eq_self,forall_const,implies_true,Nat.reduceAdd,Nat.reduceSub,Nat.reduceLT,Nat.reduceLeDiff,↓reduceIte,reduceCtorEq,Int.reduceEq,Int.reduceLT,Int.reduceLE,Int.reduceGT,Int.reduceGE,Int.reduceAdd,Int.reduceSub,Int.reduceNeg,Int.reduceToNat,Nat.reduceBEq,Nat.reduceEqDiff]
  refine callR_ret (names_d s room _ hl) ?_
  simp -implicitDefEqProofs (maxSteps := 99999999) (disch := omega) only [va,vg,vs,vh,Nat.reduceMul,ite_true,ite_false,eq_self,forall_const,implies_true,Nat.reduceAdd,Nat.reduceSub,Nat.reduceLT,Nat.reduceLeDiff,↓reduceIte,reduceCtorEq,Int.reduceEq,Int.reduceLT,Int.reduceLE,Int.reduceGT,Int.reduceGE,Int.reduceAdd,Int.reduceSub,Int.reduceNeg,Int.reduceToNat,Nat.reduceBEq,Nat.reduceEqDiff]
  rw [e]
  exact weak_sc .refl
theorem refRight_d (s : List Dc) (room : Option (List AV)) (H : AHeap) (hl : ShortD s) : D Tryz.prog 20 [.lst 2 (docs s) room] H (.ret (.sc (.bool (rightS s)))) H := by
 have hlen := hl.1
 refine D_of_DK (Nat.le_refl _) (dk20 (E_of_ES ?_))
 simp -implicitDefEqProofs (maxSteps := 99999999) (disch := omega) only [docs_length,ic20,va,vg,vs,vh,Nat.reduceMul,ite_true,ite_false,eq_self,forall_const,implies_true,Nat.reduceAdd,Nat.reduceSub,Nat.reduceLT,Nat.reduceLeDiff,↓reduceIte,reduceCtorEq,Int.reduceEq,Int.reduceLT,Int.reduceLE,Int.reduceGT,Int.reduceGE,Int.reduceAdd,Int.reduceSub,Int.reduceNeg,Int.reduceToNat,Nat.reduceBEq,Nat.reduceEqDiff]
 refine ES_loop (fun ts H' => H' = H ∧ ∃ k : Nat,(k ≤ s.length ∧ (∀ j,j < k → upAt s j = true) ∧ ∀ j,j < k → badN (nthD s j) = false) ∧ Fr [some (.lst 2 (docs s) room),none,some (.sc (.bool false)),some (.sc (.int .i64 k)),none,none,none,none,none,none,none,none,none,none,none,none,none,none,none,none,none,none,none,none,none,none,none,none,none,none,none,none,none,none,none] ts) (fun ts _ => s.length - (intV (ts.getD 3 .top)).toNat) ?_ ?_
 ·exact ⟨rfl,0,⟨Nat.zero_le _,fun j h => absurd h (Nat.not_lt_zero _),fun j h => absurd h (Nat.not_lt_zero _)⟩,by simp [Fr]⟩
 rintro ts _ ⟨rfl,k,⟨hk,hp,hq⟩,hfr⟩
 obtain ⟨js,rfl⟩ := hfr.opened
 clear hfr
 simp -implicitDefEqProofs (maxSteps := 99999999) (disch := omega) only [docs_length,mk,va,vg,vs,vh,Nat.reduceMul,ite_true,ite_false,eq_self,forall_const,implies_true,Nat.reduceAdd,Nat.reduceSub,Nat.reduceLT,Nat.reduceLeDiff,↓reduceIte,reduceCtorEq,Int.reduceEq,Int.reduceLT,Int.reduceLE,Int.reduceGT,Int.reduceGE,Int.reduceAdd,Int.reduceSub,Int.reduceNeg,Int.reduceToNat,Nat.reduceBEq,Nat.reduceEqDiff]
 refine condR_if (fun h => ?_) (fun h => ?_)
 ·have h1 : k < s.length := by omega
  have hs := hl.nth h1
  simp -implicitDefEqProofs (maxSteps := 99999999) (disch := omega) only [docs_length,docs_get h1,va,vg,vs,vh,Nat.reduceMul,ite_true,ite_false,eq_self,forall_const,implies_true,Nat.reduceAdd,Nat.reduceSub,Nat.reduceLT,Nat.reduceLeDiff,↓reduceIte,reduceCtorEq,Int.reduceEq,Int.reduceLT,Int.reduceLE,Int.reduceGT,Int.reduceGE,Int.reduceAdd,Int.reduceSub,Int.reduceNeg,Int.reduceToNat,Nat.reduceBEq,Nat.reduceEqDiff]
  refine ⟨by omega,callD_same (refName_d _ _ hs.1) ?_⟩
  cases hb : badN (nthD s k) with
  | true =>
   have hn : nameB (nthD s k).1 = false := by simpa [badN] using hb
   have e : rightS s = false := by
    have : s.any badN = true := List.any_eq_true.2 ⟨_,List.getElem_mem h1,by rw [← nthD_eq h1]; exact hb⟩
    simp [rightS,this]
   simp -implicitDefEqProofs (maxSteps := 99999999) (disch := omega) only [docs_length,docs_get h1,hn,va,vg,vs,vh,Nat.reduceMul,ite_true,ite_false,eq_self,forall_const,implies_true,Nat.reduceAdd,Nat.reduceSub,Nat.reduceLT,Nat.reduceLeDiff,↓reduceIte,reduceCtorEq,Int.reduceEq,Int.reduceLT,Int.reduceLE,Int.reduceGT,Int.reduceGE,Int.reduceAdd,Int.reduceSub,Int.reduceNeg,Int.reduceToNat,Nat.reduceBEq,Nat.reduceEqDiff]
   rw [e]
   exact weak_sc .refl
  | false =>
   have hn : nameB (nthD s k).1 = true := by simpa [badN] using hb
   rcases Nat.eq_zero_or_pos k with rfl | h0
   ·simp -implicitDefEqProofs (maxSteps := 99999999) (disch := omega) only [docs_length,docs_get h1,hn,va,vg,vs,vh,Nat.reduceMul,ite_true,ite_false,eq_self,forall_const,implies_true,Nat.reduceAdd,Nat.reduceSub,Nat.reduceLT,Nat.reduceLeDiff,↓reduceIte,reduceCtorEq,Int.reduceEq,Int.reduceLT,Int.reduceLE,Int.reduceGT,Int.reduceGE,Int.reduceAdd,Int.reduceSub,Int.reduceNeg,Int.reduceToNat,Nat.reduceBEq,Nat.reduceEqDiff]
    exact ⟨⟨1,⟨by omega,fun j hj => by
     have : j = 0 := by omega
     subst this; rfl,fun j hj => by
     have : j = 0 := by omega
     subst this; exact hb⟩,by simp [Fr]⟩,by omega⟩
   ·obtain ⟨j,rfl⟩ : ∃ j,k = j + 1 := ⟨k - 1,by omega⟩
    have c0 : ((j + 1 : Nat) : Int) > 0 := by omega
    have e1 : ((j + 1 : Nat) : Int) - 1 = (j : Int) := by omega
    have hu : upAt s (j + 1) = lt (nthD s j).1 (nthD s (j + 1)).1 := by simp [upAt]
    cases hlt : lt (nthD s j).1 (nthD s (j + 1)).1 with
    | true =>
     have hlt' : Op.bytesLess (nthD s j).1.toList (nthD s (j + 1)).1.toList = true := hlt
     simp -implicitDefEqProofs (maxSteps := 99999999) (disch := omega) only [docs_length,c0,e1,docs_get h1,docs_get (Nat.lt_of_succ_lt h1),hlt',hn,va,vg,vs,vh,Nat.reduceMul,ite_true,ite_false,eq_self,forall_const,implies_true,Nat.reduceAdd,Nat.reduceSub,Nat.reduceLT,Nat.reduceLeDiff,↓reduceIte,reduceCtorEq,Int.reduceEq,Int.reduceLT,Int.reduceLE,Int.reduceGT,Int.reduceGE,Int.reduceAdd,Int.reduceSub,Int.reduceNeg,Int.reduceToNat,Nat.reduceBEq,Nat.reduceEqDiff]
     refine ⟨by omega,by omega,⟨j + 2,⟨by omega,fun i hi => ?_,fun i hi => ?_⟩,by simp [Fr]; omega⟩,by omega⟩
     ·rcases Nat.lt_succ_iff_lt_or_eq.1 hi with h' | rfl
      ·exact hp i h'
      ·rw [hu,hlt]
     ·rcases Nat.lt_succ_iff_lt_or_eq.1 hi with h' | rfl
      ·exact hq i h'
      ·exact hb
    | false =>
     have hlt' : Op.bytesLess (nthD s j).1.toList (nthD s (j + 1)).1.toList = false := hlt
     have e : rightS s = false := by rw [rightS,riseB_no h1 (by rw [hu,hlt])]; rfl
     simp -implicitDefEqProofs (maxSteps := 99999999) (disch := omega) only [docs_length,c0,e1,docs_get h1,docs_get (Nat.lt_of_succ_lt h1),hlt',hn,va,vg,vs,vh,Nat.reduceMul,ite_true,ite_false,eq_self,forall_const,implies_true,Nat.reduceAdd,Nat.reduceSub,Nat.reduceLT,Nat.reduceLeDiff,↓reduceIte,reduceCtorEq,Int.reduceEq,Int.reduceLT,Int.reduceLE,Int.reduceGT,Int.reduceGE,Int.reduceAdd,Int.reduceSub,Int.reduceNeg,Int.reduceToNat,Nat.reduceBEq,Nat.reduceEqDiff]
     refine ⟨by omega,by omega,?_⟩
     rw [e]
     exact weak_sc .refl
 ·have ha : s.any badN = false := by
   rw [List.any_eq_false]
   intro x hx
   obtain ⟨j,hj,rfl⟩ := List.getElem_of_mem hx
   rw [← nthD_eq hj,hq j (by omega)]
   simp
  have e : rightS s = true := by rw [rightS,riseB_ok (fun i hi => hp i (by omega)),ha]; rfl
  simp -implicitDefEqProofs (maxSteps := 99999999) (disch := omega) only [docs_length,va,vg,vs,vh,Nat.reduceMul,ite_true,ite_false,eq_self,forall_const,implies_true,Nat.reduceAdd,Nat.reduceSub,Nat.reduceLT,Nat.reduceLeDiff,↓reduceIte,reduceCtorEq,Int.reduceEq,Int.reduceLT,Int.reduceLE,Int.reduceGT,Int.reduceGE,Int.reduceAdd,Int.reduceSub,Int.reduceNeg,Int.reduceToNat,Nat.reduceBEq,Nat.reduceEqDiff]
  rw [e]
  exact weak_sc .refl
end Go.Proofs.YtljajanjjcdelaaGreat
