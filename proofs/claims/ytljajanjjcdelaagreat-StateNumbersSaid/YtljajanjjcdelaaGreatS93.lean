/- Names of files: as the program tells them, as the document's answer does. -/
import Derived.Test.YtljajanjjcdelaaGreatS92
namespace Go.Proofs.YtljajanjjcdelaaGreat
open Go.RowKit
set_option maxRecDepth 100000
set_option linter.unusedVariables false
set_option linter.unusedSimpArgs false
def signN (n : Nat) : Bool := (decide (97 ≤ n) && decide (n ≤ 122)) || (decide (65 ≤ n) && decide (n ≤ 90)) || (decide (48 ≤ n) && decide (n ≤ 57)) || decide (n = 46) || decide (n = 95)
def signB (b : UInt8) : Bool := signN b.toNat
def signsL : ByteArray := ⟨#[97,98,99,100,101,102,103,104,105,106,107,108,109,110,111,112,113,114,115,116,117,118,119,120,121,122,65,66,67,68,69,70,71,72,73,74,75,76,77,78,79,80,81,82,83,84,85,86,87,88,89,90,48,49,50,51,52,53,54,55,56,57,46,95]⟩
theorem signs_all : ((List.range 256).all fun n => (decide (firstIdx signsL n.toUInt8 < 0)) == !signN n) = true := by kernel_rfl
theorem signs_at (b : UInt8) : decide (firstIdx signsL b < 0) = !signB b := by
 have h := List.all_eq_true.1 signs_all b.toNat (List.mem_range.2 b.toNat_lt)
 simpa [signB] using h
def nameB (s : ByteArray) : Bool := decide (s ≠ ⟨#[]⟩) && (decide (s.size ≤ 24) && !s.data.toList.any fun b => !signB b)
theorem indexByteG_d (s : ByteArray) (c : Int) (H : AHeap) : D Tryz.prog 78 [.sc (.string s),.sc (.int .u8 c)] H (.ret (.sc (.int .i64 (firstIdx s c.toNat.toUInt8)))) H := by
 have h1 : D Tryz.prog 110 [.sc (.string s),.sc (.int .u8 c)] H (.ret (.sc (.int .i64 (firstIdx s c.toNat.toUInt8)))) H := by
  refine D_of_DK (Nat.le_refl _) (dk110 (E_of_ES ?_))
  simp -implicitDefEqProofs (maxSteps := 99999999) (disch := omega) only [ic110,va,vg,vs,vh,Nat.reduceMul,ite_true,ite_false,eq_self,forall_const,implies_true,Nat.reduceAdd,Nat.reduceSub,Nat.reduceLT,Nat.reduceLeDiff,↓reduceIte,reduceCtorEq,Int.reduceEq,Int.reduceLT,Int.reduceLE,Int.reduceGT,Int.reduceGE,Int.reduceAdd,Int.reduceSub,Int.reduceNeg,Int.reduceToNat,Nat.reduceBEq,Nat.reduceEqDiff]
  exact weak_sc .refl
 refine D_of_DK (Nat.le_refl _) (dk78 (E_of_ES ?_))
 simp -implicitDefEqProofs (maxSteps := 99999999) (disch := omega) only [ic78,va,vg,vs,vh,Nat.reduceMul,ite_true,ite_false,eq_self,forall_const,implies_true,Nat.reduceAdd,Nat.reduceSub,Nat.reduceLT,Nat.reduceLeDiff,↓reduceIte,reduceCtorEq,Int.reduceEq,Int.reduceLT,Int.reduceLE,Int.reduceGT,Int.reduceGE,Int.reduceAdd,Int.reduceSub,Int.reduceNeg,Int.reduceToNat,Nat.reduceBEq,Nat.reduceEqDiff]
 refine callR_ret h1 ?_
 simp -implicitDefEqProofs (maxSteps := 99999999) (disch := omega) only [va,vg,vs,vh,Nat.reduceMul,ite_true,ite_false,eq_self,forall_const,implies_true,Nat.reduceAdd,Nat.reduceSub,Nat.reduceLT,Nat.reduceLeDiff,↓reduceIte,reduceCtorEq,Int.reduceEq,Int.reduceLT,Int.reduceLE,Int.reduceGT,Int.reduceGE,Int.reduceAdd,Int.reduceSub,Int.reduceNeg,Int.reduceToNat,Nat.reduceBEq,Nat.reduceEqDiff]
 exact weak_sc .refl
theorem odd_d (b : UInt8) (H : AHeap) : D Tryz.prog 77 [.sc (.int .u8 (b.toNat : Nat))] H (.ret (.sc (.bool (!signB b)))) H := by
 refine D_of_DK (Nat.le_refl _) (dk77 (E_of_ES ?_))
 simp -implicitDefEqProofs (maxSteps := 99999999) (disch := omega) only [ic77,va,vg,vs,vh,Nat.reduceMul,ite_true,ite_false,eq_self,forall_const,implies_true,Nat.reduceAdd,Nat.reduceSub,Nat.reduceLT,Nat.reduceLeDiff,↓reduceIte,reduceCtorEq,Int.reduceEq,Int.reduceLT,Int.reduceLE,Int.reduceGT,Int.reduceGE,Int.reduceAdd,Int.reduceSub,Int.reduceNeg,Int.reduceToNat,Nat.reduceBEq,Nat.reduceEqDiff]
 refine callR_ret (indexByteG_d signsL _ _) ?_
 simp -implicitDefEqProofs (maxSteps := 99999999) (disch := omega) only [va,vg,vs,vh,Nat.reduceMul,ite_true,ite_false,eq_self,forall_const,implies_true,Nat.reduceAdd,Nat.reduceSub,Nat.reduceLT,Nat.reduceLeDiff,↓reduceIte,reduceCtorEq,Int.reduceEq,Int.reduceLT,Int.reduceLE,Int.reduceGT,Int.reduceGE,Int.reduceAdd,Int.reduceSub,Int.reduceNeg,Int.reduceToNat,Nat.reduceBEq,Nat.reduceEqDiff]
 have h := signs_at b
 simp only [Int.toNat_natCast,UInt8.ofNat_toNat,Nat.toUInt8] at h ⊢
 rw [h]
 exact weak_sc .refl
theorem name_d (s : ByteArray) (H : AHeap) (hl : s.size ≤ 100000000) : D Tryz.prog 50 [.sc (.string s)] H (.ret (.sc (.bool (nameB s)))) H := by
 refine D_of_DK (Nat.le_refl _) (dk50 (E_of_ES ?_))
 by_cases c0 : s = ⟨#[]⟩
 ·have e : nameB s = false := by simp [nameB,c0]
  simp -implicitDefEqProofs (maxSteps := 99999999) (disch := omega) only [ic50,c0,va,vg,vs,vh,Nat.reduceMul,ite_true,ite_false,eq_self,forall_const,implies_true,Nat.reduceAdd,Nat.reduceSub,Nat.reduceLT,Nat.reduceLeDiff,↓reduceIte,reduceCtorEq,Int.reduceEq,Int.reduceLT,Int.reduceLE,Int.reduceGT,Int.reduceGE,Int.reduceAdd,Int.reduceSub,Int.reduceNeg,Int.reduceToNat,Nat.reduceBEq,Nat.reduceEqDiff]
  rw [← c0,e]
  exact weak_sc .refl
 by_cases c1 : (s.size : Int) ≤ 24
 ·have c1' : s.size ≤ 24 := by omega
  simp -implicitDefEqProofs (maxSteps := 99999999) (disch := omega) only [ic50,c0,c1,va,vg,vs,vh,Nat.reduceMul,ite_true,ite_false,eq_self,forall_const,implies_true,Nat.reduceAdd,Nat.reduceSub,Nat.reduceLT,Nat.reduceLeDiff,↓reduceIte,reduceCtorEq,Int.reduceEq,Int.reduceLT,Int.reduceLE,Int.reduceGT,Int.reduceGE,Int.reduceAdd,Int.reduceSub,Int.reduceNeg,Int.reduceToNat,Nat.reduceBEq,Nat.reduceEqDiff]
  refine ⟨hl,callR_ret (containsFuncB_d s none 77 _ _ rfl (fun b => odd_d b _) hl) ?_⟩
  simp -implicitDefEqProofs (maxSteps := 99999999) (disch := omega) only [va,vg,vs,vh,Nat.reduceMul,ite_true,ite_false,eq_self,forall_const,implies_true,Nat.reduceAdd,Nat.reduceSub,Nat.reduceLT,Nat.reduceLeDiff,↓reduceIte,reduceCtorEq,Int.reduceEq,Int.reduceLT,Int.reduceLE,Int.reduceGT,Int.reduceGE,Int.reduceAdd,Int.reduceSub,Int.reduceNeg,Int.reduceToNat,Nat.reduceBEq,Nat.reduceEqDiff]
  have e : nameB s = !s.data.toList.any fun b => !signB b := by simp only [nameB,c0,c1',ne_eq,not_false_eq_true,decide_true,Bool.true_and]
  rw [e]
  exact weak_sc .refl
 ·have c1' : ¬ s.size ≤ 24 := by omega
  have e : nameB s = false := by simp [nameB,c1']
  simp -implicitDefEqProofs (maxSteps := 99999999) (disch := omega) only [ic50,c0,c1,va,vg,vs,vh,Nat.reduceMul,ite_true,ite_false,eq_self,forall_const,implies_true,Nat.reduceAdd,Nat.reduceSub,Nat.reduceLT,Nat.reduceLeDiff,↓reduceIte,reduceCtorEq,Int.reduceEq,Int.reduceLT,Int.reduceLE,Int.reduceGT,Int.reduceGE,Int.reduceAdd,Int.reduceSub,Int.reduceNeg,Int.reduceToNat,Nat.reduceBEq,Nat.reduceEqDiff]
  rw [e]
  exact weak_sc .refl
theorem refName_d (s : ByteArray) (H : AHeap) (hl : s.size ≤ 100000000) : D Tryz.prog 35 [.sc (.string s)] H (.ret (.sc (.bool (nameB s)))) H := by
 refine D_of_DK (Nat.le_refl _) (dk35 (E_of_ES ?_))
 simp -implicitDefEqProofs (maxSteps := 99999999) (disch := omega) only [ic35,va,vg,vs,vh,Nat.reduceMul,ite_true,ite_false,eq_self,forall_const,implies_true,Nat.reduceAdd,Nat.reduceSub,Nat.reduceLT,Nat.reduceLeDiff,↓reduceIte,reduceCtorEq,Int.reduceEq,Int.reduceLT,Int.reduceLE,Int.reduceGT,Int.reduceGE,Int.reduceAdd,Int.reduceSub,Int.reduceNeg,Int.reduceToNat,Nat.reduceBEq,Nat.reduceEqDiff]
 refine ES_loop (fun ts H' => H' = H ∧ ∃ k : Nat,(k ≤ s.size ∧ ∀ j,j < k → signB (nthB s j) = true) ∧ Fr [some (.sc (.string s)),none,some (.sc (.bool false)),some (.sc (.int .i64 k)),none,none,none,none,none,none,none,none,none,none,none,none,none,none,none,none,none,none,none,none,none,none,none,none,none,none,none,none,none,none,none,none,none,none,none,none,none,none,none,none,none,none,none,none,none,none,none,none,none] ts) (fun ts _ => s.size - (intV (ts.getD 3 .top)).toNat) ?_ ?_
 ·exact ⟨rfl,0,⟨Nat.zero_le _,fun j h => absurd h (Nat.not_lt_zero _)⟩,by simp [Fr]⟩
 rintro ts _ ⟨rfl,k,⟨hk,hp⟩,hfr⟩
 obtain ⟨js,rfl⟩ := hfr.opened
 clear hfr
 by_cases h1 : k < s.size
 ·have h1' : (k : Int) < s.size := by omega
  have hb0 : s.data.getD k 0 = nthB s k := by
   rw [nthB_eq (by rw [bytes_length]; exact h1)]
   have : k < s.data.size := h1
   unfold Array.getD
   rw [dif_pos this]
   rfl
  have hN : (nthB s k).toNat < 256 := (nthB s k).toNat_lt
  obtain ⟨c,hc⟩ : ∃ c : Int,c = ((nthB s k).toNat : Int) := ⟨_,rfl⟩
  have hsn : signB (nthB s k) = signN c.toNat := by rw [hc]; rfl
  have hc0 : 0 ≤ c := by omega
  have go : signN c.toNat = true → (∃ k_1 : Nat,(k_1 ≤ s.size ∧ ∀ j,j < k_1 → signB (nthB s j) = true) ∧ k_1 = k + 1) := fun h => by
   refine ⟨k + 1,⟨by omega,fun j hj => ?_⟩,rfl⟩
   rcases Nat.lt_succ_iff_lt_or_eq.1 hj with h' | rfl
   ·exact hp j h'
   ·rw [hsn]; exact h
  have bad : signN c.toNat = false → nameB s = false := fun h => by
   have : s.data.toList.any (fun b => !signB b) = true := List.any_eq_true.2 ⟨_,List.getElem_mem (by rw [bytes_length]; exact h1),by rw [← nthB_eq,hsn,h]; rfl⟩
   simp [nameB,this]
  rcases (by omega : c ≤ 45 ∨ c = 46 ∨ c = 47 ∨ (48 ≤ c ∧ c ≤ 57) ∨ (58 ≤ c ∧ c ≤ 64) ∨ (65 ≤ c ∧ c ≤ 90) ∨ (91 ≤ c ∧ c ≤ 94) ∨ c = 95 ∨ c = 96 ∨ (97 ≤ c ∧ c ≤ 122) ∨ 123 ≤ c) with hr | hr | hr | hr | hr | hr | hr | hr | hr | hr | hr
  ·have q0 : (c ≥ 97) = False := by simp; omega
   have q1 : (c ≤ 122) = True := by simp; omega
   have q2 : (c ≥ 65) = False := by simp; omega
   have q3 : (c ≤ 90) = True := by simp; omega
   have q4 : (c ≥ 48) = False := by simp; omega
   have q5 : (c ≤ 57) = True := by simp; omega
   have q6 : (c = 46) = False := by simp; omega
   have q7 : (c = 95) = False := by simp; omega
   have hs : signN c.toNat = false := by simp [signN]; omega
   simp -implicitDefEqProofs (maxSteps := 99999999) (disch := omega) only [mk,h1',hb0,← hc,q0,q1,q2,q3,q4,q5,q6,q7,va,vg,vs,vh,Nat.reduceMul,ite_true,ite_false,eq_self,forall_const,implies_true,Nat.reduceAdd,Nat.reduceSub,Nat.reduceLT,Nat.reduceLeDiff,↓reduceIte,reduceCtorEq,Int.reduceEq,Int.reduceLT,Int.reduceLE,Int.reduceGT,Int.reduceGE,Int.reduceAdd,Int.reduceSub,Int.reduceNeg,Int.reduceToNat,Nat.reduceBEq,Nat.reduceEqDiff]
   rw [bad hs]
   exact ⟨by omega,weak_sc .refl⟩
  ·have q0 : (c ≥ 97) = False := by simp; omega
   have q1 : (c ≤ 122) = True := by simp; omega
   have q2 : (c ≥ 65) = False := by simp; omega
   have q3 : (c ≤ 90) = True := by simp; omega
   have q4 : (c ≥ 48) = False := by simp; omega
   have q5 : (c ≤ 57) = True := by simp; omega
   have q6 : (c = 46) = True := by simp; omega
   have q7 : (c = 95) = False := by simp; omega
   have hs : signN c.toNat = true := by simp [signN]; omega
   simp -implicitDefEqProofs (maxSteps := 99999999) (disch := omega) only [mk,h1',hb0,← hc,q0,q1,q2,q3,q4,q5,q6,q7,va,vg,vs,vh,Nat.reduceMul,ite_true,ite_false,eq_self,forall_const,implies_true,Nat.reduceAdd,Nat.reduceSub,Nat.reduceLT,Nat.reduceLeDiff,↓reduceIte,reduceCtorEq,Int.reduceEq,Int.reduceLT,Int.reduceLE,Int.reduceGT,Int.reduceGE,Int.reduceAdd,Int.reduceSub,Int.reduceNeg,Int.reduceToNat,Nat.reduceBEq,Nat.reduceEqDiff]
   obtain ⟨k1,hk1,rfl⟩ := go hs
   exact ⟨by omega,⟨k + 1,hk1,by simp [Fr]⟩,by omega⟩
  ·have q0 : (c ≥ 97) = False := by simp; omega
   have q1 : (c ≤ 122) = True := by simp; omega
   have q2 : (c ≥ 65) = False := by simp; omega
   have q3 : (c ≤ 90) = True := by simp; omega
   have q4 : (c ≥ 48) = False := by simp; omega
   have q5 : (c ≤ 57) = True := by simp; omega
   have q6 : (c = 46) = False := by simp; omega
   have q7 : (c = 95) = False := by simp; omega
   have hs : signN c.toNat = false := by simp [signN]; omega
   simp -implicitDefEqProofs (maxSteps := 99999999) (disch := omega) only [mk,h1',hb0,← hc,q0,q1,q2,q3,q4,q5,q6,q7,va,vg,vs,vh,Nat.reduceMul,ite_true,ite_false,eq_self,forall_const,implies_true,Nat.reduceAdd,Nat.reduceSub,Nat.reduceLT,Nat.reduceLeDiff,↓reduceIte,reduceCtorEq,Int.reduceEq,Int.reduceLT,Int.reduceLE,Int.reduceGT,Int.reduceGE,Int.reduceAdd,Int.reduceSub,Int.reduceNeg,Int.reduceToNat,Nat.reduceBEq,Nat.reduceEqDiff]
   rw [bad hs]
   exact ⟨by omega,weak_sc .refl⟩
  ·have q0 : (c ≥ 97) = False := by simp; omega
   have q1 : (c ≤ 122) = True := by simp; omega
   have q2 : (c ≥ 65) = False := by simp; omega
   have q3 : (c ≤ 90) = True := by simp; omega
   have q4 : (c ≥ 48) = True := by simp; omega
   have q5 : (c ≤ 57) = True := by simp; omega
   have q6 : (c = 46) = False := by simp; omega
   have q7 : (c = 95) = False := by simp; omega
   have hs : signN c.toNat = true := by simp [signN]; omega
   simp -implicitDefEqProofs (maxSteps := 99999999) (disch := omega) only [mk,h1',hb0,← hc,q0,q1,q2,q3,q4,q5,q6,q7,va,vg,vs,vh,Nat.reduceMul,ite_true,ite_false,eq_self,forall_const,implies_true,Nat.reduceAdd,Nat.reduceSub,Nat.reduceLT,Nat.reduceLeDiff,↓reduceIte,reduceCtorEq,Int.reduceEq,Int.reduceLT,Int.reduceLE,Int.reduceGT,Int.reduceGE,Int.reduceAdd,Int.reduceSub,Int.reduceNeg,Int.reduceToNat,Nat.reduceBEq,Nat.reduceEqDiff]
   obtain ⟨k1,hk1,rfl⟩ := go hs
   exact ⟨by omega,⟨k + 1,hk1,by simp [Fr]⟩,by omega⟩
  ·have q0 : (c ≥ 97) = False := by simp; omega
   have q1 : (c ≤ 122) = True := by simp; omega
   have q2 : (c ≥ 65) = False := by simp; omega
   have q3 : (c ≤ 90) = True := by simp; omega
   have q4 : (c ≥ 48) = True := by simp; omega
   have q5 : (c ≤ 57) = False := by simp; omega
   have q6 : (c = 46) = False := by simp; omega
   have q7 : (c = 95) = False := by simp; omega
   have hs : signN c.toNat = false := by simp [signN]; omega
   simp -implicitDefEqProofs (maxSteps := 99999999) (disch := omega) only [mk,h1',hb0,← hc,q0,q1,q2,q3,q4,q5,q6,q7,va,vg,vs,vh,Nat.reduceMul,ite_true,ite_false,eq_self,forall_const,implies_true,Nat.reduceAdd,Nat.reduceSub,Nat.reduceLT,Nat.reduceLeDiff,↓reduceIte,reduceCtorEq,Int.reduceEq,Int.reduceLT,Int.reduceLE,Int.reduceGT,Int.reduceGE,Int.reduceAdd,Int.reduceSub,Int.reduceNeg,Int.reduceToNat,Nat.reduceBEq,Nat.reduceEqDiff]
   rw [bad hs]
   exact ⟨by omega,weak_sc .refl⟩
  ·have q0 : (c ≥ 97) = False := by simp; omega
   have q1 : (c ≤ 122) = True := by simp; omega
   have q2 : (c ≥ 65) = True := by simp; omega
   have q3 : (c ≤ 90) = True := by simp; omega
   have q4 : (c ≥ 48) = True := by simp; omega
   have q5 : (c ≤ 57) = False := by simp; omega
   have q6 : (c = 46) = False := by simp; omega
   have q7 : (c = 95) = False := by simp; omega
   have hs : signN c.toNat = true := by simp [signN]; omega
   simp -implicitDefEqProofs (maxSteps := 99999999) (disch := omega) only [mk,h1',hb0,← hc,q0,q1,q2,q3,q4,q5,q6,q7,va,vg,vs,vh,Nat.reduceMul,ite_true,ite_false,eq_self,forall_const,implies_true,Nat.reduceAdd,Nat.reduceSub,Nat.reduceLT,Nat.reduceLeDiff,↓reduceIte,reduceCtorEq,Int.reduceEq,Int.reduceLT,Int.reduceLE,Int.reduceGT,Int.reduceGE,Int.reduceAdd,Int.reduceSub,Int.reduceNeg,Int.reduceToNat,Nat.reduceBEq,Nat.reduceEqDiff]
   obtain ⟨k1,hk1,rfl⟩ := go hs
   exact ⟨by omega,⟨k + 1,hk1,by simp [Fr]⟩,by omega⟩
  ·have q0 : (c ≥ 97) = False := by simp; omega
   have q1 : (c ≤ 122) = True := by simp; omega
   have q2 : (c ≥ 65) = True := by simp; omega
   have q3 : (c ≤ 90) = False := by simp; omega
   have q4 : (c ≥ 48) = True := by simp; omega
   have q5 : (c ≤ 57) = False := by simp; omega
   have q6 : (c = 46) = False := by simp; omega
   have q7 : (c = 95) = False := by simp; omega
   have hs : signN c.toNat = false := by simp [signN]; omega
   simp -implicitDefEqProofs (maxSteps := 99999999) (disch := omega) only [mk,h1',hb0,← hc,q0,q1,q2,q3,q4,q5,q6,q7,va,vg,vs,vh,Nat.reduceMul,ite_true,ite_false,eq_self,forall_const,implies_true,Nat.reduceAdd,Nat.reduceSub,Nat.reduceLT,Nat.reduceLeDiff,↓reduceIte,reduceCtorEq,Int.reduceEq,Int.reduceLT,Int.reduceLE,Int.reduceGT,Int.reduceGE,Int.reduceAdd,Int.reduceSub,Int.reduceNeg,Int.reduceToNat,Nat.reduceBEq,Nat.reduceEqDiff]
   rw [bad hs]
   exact ⟨by omega,weak_sc .refl⟩
  ·have q0 : (c ≥ 97) = False := by simp; omega
   have q1 : (c ≤ 122) = True := by simp; omega
   have q2 : (c ≥ 65) = True := by simp; omega
   have q3 : (c ≤ 90) = False := by simp; omega
   have q4 : (c ≥ 48) = True := by simp; omega
   have q5 : (c ≤ 57) = False := by simp; omega
   have q6 : (c = 46) = False := by simp; omega
   have q7 : (c = 95) = True := by simp; omega
   have hs : signN c.toNat = true := by simp [signN]; omega
   simp -implicitDefEqProofs (maxSteps := 99999999) (disch := omega) only [mk,h1',hb0,← hc,q0,q1,q2,q3,q4,q5,q6,q7,va,vg,vs,vh,Nat.reduceMul,ite_true,ite_false,eq_self,forall_const,implies_true,Nat.reduceAdd,Nat.reduceSub,Nat.reduceLT,Nat.reduceLeDiff,↓reduceIte,reduceCtorEq,Int.reduceEq,Int.reduceLT,Int.reduceLE,Int.reduceGT,Int.reduceGE,Int.reduceAdd,Int.reduceSub,Int.reduceNeg,Int.reduceToNat,Nat.reduceBEq,Nat.reduceEqDiff]
   obtain ⟨k1,hk1,rfl⟩ := go hs
   exact ⟨by omega,⟨k + 1,hk1,by simp [Fr]⟩,by omega⟩
  ·have q0 : (c ≥ 97) = False := by simp; omega
   have q1 : (c ≤ 122) = True := by simp; omega
   have q2 : (c ≥ 65) = True := by simp; omega
   have q3 : (c ≤ 90) = False := by simp; omega
   have q4 : (c ≥ 48) = True := by simp; omega
   have q5 : (c ≤ 57) = False := by simp; omega
   have q6 : (c = 46) = False := by simp; omega
   have q7 : (c = 95) = False := by simp; omega
   have hs : signN c.toNat = false := by simp [signN]; omega
   simp -implicitDefEqProofs (maxSteps := 99999999) (disch := omega) only [mk,h1',hb0,← hc,q0,q1,q2,q3,q4,q5,q6,q7,va,vg,vs,vh,Nat.reduceMul,ite_true,ite_false,eq_self,forall_const,implies_true,Nat.reduceAdd,Nat.reduceSub,Nat.reduceLT,Nat.reduceLeDiff,↓reduceIte,reduceCtorEq,Int.reduceEq,Int.reduceLT,Int.reduceLE,Int.reduceGT,Int.reduceGE,Int.reduceAdd,Int.reduceSub,Int.reduceNeg,Int.reduceToNat,Nat.reduceBEq,Nat.reduceEqDiff]
   rw [bad hs]
   exact ⟨by omega,weak_sc .refl⟩
  ·have q0 : (c ≥ 97) = True := by simp; omega
   have q1 : (c ≤ 122) = True := by simp; omega
   have q2 : (c ≥ 65) = True := by simp; omega
   have q3 : (c ≤ 90) = False := by simp; omega
   have q4 : (c ≥ 48) = True := by simp; omega
   have q5 : (c ≤ 57) = False := by simp; omega
   have q6 : (c = 46) = False := by simp; omega
   have q7 : (c = 95) = False := by simp; omega
   have hs : signN c.toNat = true := by simp [signN]; omega
   simp -implicitDefEqProofs (maxSteps := 99999999) (disch := omega) only [mk,h1',hb0,← hc,q0,q1,q2,q3,q4,q5,q6,q7,va,vg,vs,vh,Nat.reduceMul,ite_true,ite_false,eq_self,forall_const,implies_true,Nat.reduceAdd,Nat.reduceSub,Nat.reduceLT,Nat.reduceLeDiff,↓reduceIte,reduceCtorEq,Int.reduceEq,Int.reduceLT,Int.reduceLE,Int.reduceGT,Int.reduceGE,Int.reduceAdd,Int.reduceSub,Int.reduceNeg,Int.reduceToNat,Nat.reduceBEq,Nat.reduceEqDiff]
   obtain ⟨k1,hk1,rfl⟩ := go hs
   exact ⟨by omega,⟨k + 1,hk1,by simp [Fr]⟩,by omega⟩
  ·have q0 : (c ≥ 97) = True := by simp; omega
   have q1 : (c ≤ 122) = False := by simp; omega
   have q2 : (c ≥ 65) = True := by simp; omega
   have q3 : (c ≤ 90) = False := by simp; omega
   have q4 : (c ≥ 48) = True := by simp; omega
   have q5 : (c ≤ 57) = False := by simp; omega
   have q6 : (c = 46) = False := by simp; omega
   have q7 : (c = 95) = False := by simp; omega
   have hs : signN c.toNat = false := by simp [signN]; omega
   simp -implicitDefEqProofs (maxSteps := 99999999) (disch := omega) only [mk,h1',hb0,← hc,q0,q1,q2,q3,q4,q5,q6,q7,va,vg,vs,vh,Nat.reduceMul,ite_true,ite_false,eq_self,forall_const,implies_true,Nat.reduceAdd,Nat.reduceSub,Nat.reduceLT,Nat.reduceLeDiff,↓reduceIte,reduceCtorEq,Int.reduceEq,Int.reduceLT,Int.reduceLE,Int.reduceGT,Int.reduceGE,Int.reduceAdd,Int.reduceSub,Int.reduceNeg,Int.reduceToNat,Nat.reduceBEq,Nat.reduceEqDiff]
   rw [bad hs]
   exact ⟨by omega,weak_sc .refl⟩
 ·have h1' : ¬ (k : Int) < s.size := by omega
  have hany : s.data.toList.any (fun b => !signB b) = false := by
   rw [List.any_eq_false]
   intro x hx
   obtain ⟨j,hj,rfl⟩ := List.getElem_of_mem hx
   rw [← nthB_eq hj,hp j (by rw [bytes_length] at hj; omega)]
   simp
  by_cases c2 : (s.size : Int) ≥ 1
  ·have c0 : ¬ s = ⟨#[]⟩ := fun e => by rw [e] at c2; exact absurd c2 (by decide)
   by_cases c1 : (s.size : Int) ≤ 24
   ·have c1' : s.size ≤ 24 := by omega
    have e : nameB s = true := by simp only [nameB,c0,c1',hany,ne_eq,not_false_eq_true,decide_true,Bool.true_and,Bool.not_false]
    simp -implicitDefEqProofs (maxSteps := 99999999) (disch := omega) only [mk,h1',c2,c1,va,vg,vs,vh,Nat.reduceMul,ite_true,ite_false,eq_self,forall_const,implies_true,Nat.reduceAdd,Nat.reduceSub,Nat.reduceLT,Nat.reduceLeDiff,↓reduceIte,reduceCtorEq,Int.reduceEq,Int.reduceLT,Int.reduceLE,Int.reduceGT,Int.reduceGE,Int.reduceAdd,Int.reduceSub,Int.reduceNeg,Int.reduceToNat,Nat.reduceBEq,Nat.reduceEqDiff]
    rw [e]
    exact weak_sc .refl
   ·have c1' : ¬ s.size ≤ 24 := by omega
    have e : nameB s = false := by simp [nameB,c1']
    simp -implicitDefEqProofs (maxSteps := 99999999) (disch := omega) only [mk,h1',c2,c1,va,vg,vs,vh,Nat.reduceMul,ite_true,ite_false,eq_self,forall_const,implies_true,Nat.reduceAdd,Nat.reduceSub,Nat.reduceLT,Nat.reduceLeDiff,↓reduceIte,reduceCtorEq,Int.reduceEq,Int.reduceLT,Int.reduceLE,Int.reduceGT,Int.reduceGE,Int.reduceAdd,Int.reduceSub,Int.reduceNeg,Int.reduceToNat,Nat.reduceBEq,Nat.reduceEqDiff]
    rw [e]
    exact weak_sc .refl
  ·have c0 : s = ⟨#[]⟩ := by
    have : s.data.size = 0 := by have : s.size = s.data.size := rfl; omega
    cases s; simp at this; simp [this]
   have e : nameB s = false := by simp [nameB,c0]
   simp -implicitDefEqProofs (maxSteps := 99999999) (disch := omega) only [mk,h1',c2,va,vg,vs,vh,Nat.reduceMul,ite_true,ite_false,eq_self,forall_const,implies_true,Nat.reduceAdd,Nat.reduceSub,Nat.reduceLT,Nat.reduceLeDiff,↓reduceIte,reduceCtorEq,Int.reduceEq,Int.reduceLT,Int.reduceLE,Int.reduceGT,Int.reduceGE,Int.reduceAdd,Int.reduceSub,Int.reduceNeg,Int.reduceToNat,Nat.reduceBEq,Nat.reduceEqDiff]
   rw [e]
   exact weak_sc .refl
end Go.Proofs.YtljajanjjcdelaaGreat
