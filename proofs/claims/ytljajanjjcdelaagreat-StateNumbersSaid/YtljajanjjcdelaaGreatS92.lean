/- Which of a list is the first of a kind; names. -/
import Derived.Test.YtljajanjjcdelaaGreatS91
import Derived.Test.YtljajanjjcdelaaGreatIc17
namespace Go.Proofs.YtljajanjjcdelaaGreat
open Go.RowKit
set_option maxRecDepth 100000
set_option linter.unusedVariables false
set_option linter.unusedSimpArgs false
/-- The first place of a kind, or -1. -/
def fi {α : Type} (p : α → Bool) (l : List α) : Int := if l.any p = true then (l.findIdx p : Nat) else -1
theorem fi_at {α : Type} {p : α → Bool} {l : List α} {k : Nat} (h : k < l.length) (hk : p l[k] = true) (hb : ∀ j (hj : j < l.length),j < k → p l[j] = false) : fi p l = k := by
 have h1 : l.any p = true := List.any_eq_true.2 ⟨_,List.getElem_mem h,hk⟩
 unfold fi
 rw [if_pos h1]
 congr 1
 rcases Nat.lt_trichotomy (l.findIdx p) k with h2 | h2 | h2
 ·have h3 : p (l[l.findIdx p]'(by omega)) = true := List.findIdx_getElem
  rw [hb _ (by omega) h2] at h3
  simp at h3
 ·exact h2
 ·have := List.not_of_lt_findIdx h2
  rw [hk] at this
  simp at this
theorem fi_no {α : Type} {p : α → Bool} {l : List α} (hb : ∀ j (hj : j < l.length),p l[j] = false) : fi p l = -1 := by
 have h1 : ¬ l.any p = true := by
  rw [List.any_eq_true]
  rintro ⟨x,hx,hp⟩
  obtain ⟨j,hj,rfl⟩ := List.getElem_of_mem hx
  rw [hb j hj] at hp
  simp at hp
 unfold fi
 rw [if_neg h1]
theorem fi_ge {α : Type} {p : α → Bool} {l : List α} : decide (fi p l ≥ 0) = l.any p := by
 unfold fi
 split
 ·rename_i h; rw [h]; simp
 ·rename_i h; simp at h; simpa using h
def nthB (s : ByteArray) (k : Nat) : UInt8 := s.data.toList.getD k 0
theorem byteL_length (s : ByteArray) : (byteL s).length = s.size := by
 unfold byteL; rw [List.length_map,Array.length_toList]; rfl
theorem bytes_length (s : ByteArray) : s.data.toList.length = s.size := by rw [Array.length_toList]; rfl
theorem nthB_eq {s : ByteArray} {k : Nat} (h : k < s.data.toList.length) : nthB s k = s.data.toList[k] := by
 unfold nthB
 rw [List.getD,List.getElem?_eq_getElem h]
 rfl
theorem byteL_get {s : ByteArray} {k : Nat} (h : k < s.size) : (byteL s).getD k .top = .sc (.int .u8 ((nthB s k).toNat : Nat)) := by
 rw [← bytes_length] at h
 rw [nthB_eq h]
 unfold byteL
 rw [List.getD,List.getElem?_map,List.getElem?_eq_getElem h]
 rfl
theorem indexFuncB_d (s : ByteArray) (room : Option (List AV)) (f : FuncId) (p : UInt8 → Bool) (H : AHeap) (hc : callable Tryz.prog f = true) (hf : ∀ b : UInt8,D Tryz.prog f [.sc (.int .u8 (b.toNat : Nat))] H (.ret (.sc (.bool (p b)))) H) (hl : s.size ≤ 100000000) :
  D Tryz.prog 111 [.lst 1 (byteL s) room,.fn (.func f) [] []] H (.ret (.sc (.int .i64 (fi p s.data.toList)))) H := by
 refine D_of_DK (Nat.le_refl _) (dk111 (E_of_ES ?_))
 simp -implicitDefEqProofs (maxSteps := 99999999) (disch := omega) only [byteL_length,ic111,va,vg,vs,vh,Nat.reduceMul,ite_true,ite_false,eq_self,forall_const,implies_true,Nat.reduceAdd,Nat.reduceSub,Nat.reduceLT,Nat.reduceLeDiff,↓reduceIte,reduceCtorEq,Int.reduceEq,Int.reduceLT,Int.reduceLE,Int.reduceGT,Int.reduceGE,Int.reduceAdd,Int.reduceSub,Int.reduceNeg,Int.reduceToNat,Nat.reduceBEq,Nat.reduceEqDiff]
 refine ES_loop (fun ts H' => H' = H ∧ ∃ k : Nat,(k ≤ s.size ∧ ∀ j (hj : j < s.data.toList.length),j < k → p s.data.toList[j] = false) ∧ Fr [some (.lst 1 (byteL s) room),some (.fn (.func f) [] []),none,none,none,none,none,some (.sc (.int .i64 s.size)),some (.sc (.int .i64 k)),none,none,none,none,none,none,none,none,none,none] ts) (fun ts _ => s.size - (intV (ts.getD 8 .top)).toNat) ?_ ?_
 ·exact ⟨rfl,0,⟨Nat.zero_le _,fun j _ h => absurd h (Nat.not_lt_zero _)⟩,by simp [Fr]⟩
 rintro ts _ ⟨rfl,k,⟨hk,hp⟩,hfr⟩
 obtain ⟨js,rfl⟩ := hfr.opened
 clear hfr
 simp -implicitDefEqProofs (maxSteps := 99999999) (disch := omega) only [byteL_length,mk,va,vg,vs,vh,Nat.reduceMul,ite_true,ite_false,eq_self,forall_const,implies_true,Nat.reduceAdd,Nat.reduceSub,Nat.reduceLT,Nat.reduceLeDiff,↓reduceIte,reduceCtorEq,Int.reduceEq,Int.reduceLT,Int.reduceLE,Int.reduceGT,Int.reduceGE,Int.reduceAdd,Int.reduceSub,Int.reduceNeg,Int.reduceToNat,Nat.reduceBEq,Nat.reduceEqDiff]
 refine condR_if (fun h => ?_) (fun h => ?_)
 ·have h1 : k < s.size := by omega
  have h2 : k < s.data.toList.length := by rw [bytes_length]; exact h1
  simp -implicitDefEqProofs (maxSteps := 99999999) (disch := omega) only [byteL_length,byteL_get h1,hc,va,vg,vs,vh,Nat.reduceMul,ite_true,ite_false,eq_self,forall_const,implies_true,Nat.reduceAdd,Nat.reduceSub,Nat.reduceLT,Nat.reduceLeDiff,↓reduceIte,reduceCtorEq,Int.reduceEq,Int.reduceLT,Int.reduceLE,Int.reduceGT,Int.reduceGE,Int.reduceAdd,Int.reduceSub,Int.reduceNeg,Int.reduceToNat,Nat.reduceBEq,Nat.reduceEqDiff]
  refine ⟨by omega,callR_ret (hf _) ?_⟩
  rw [nthB_eq h2]
  cases hb : p s.data.toList[k] with
  | true =>
   simp -implicitDefEqProofs (maxSteps := 99999999) (disch := omega) only [fi_at h2 hb (fun j hj h => hp j hj h),va,vg,vs,vh,Nat.reduceMul,ite_true,ite_false,eq_self,forall_const,implies_true,Nat.reduceAdd,Nat.reduceSub,Nat.reduceLT,Nat.reduceLeDiff,↓reduceIte,reduceCtorEq,Int.reduceEq,Int.reduceLT,Int.reduceLE,Int.reduceGT,Int.reduceGE,Int.reduceAdd,Int.reduceSub,Int.reduceNeg,Int.reduceToNat,Nat.reduceBEq,Nat.reduceEqDiff]
   exact weak_sc .refl
  | false =>
   simp -implicitDefEqProofs (maxSteps := 99999999) (disch := omega) only [va,vg,vs,vh,Nat.reduceMul,ite_true,ite_false,eq_self,forall_const,implies_true,Nat.reduceAdd,Nat.reduceSub,Nat.reduceLT,Nat.reduceLeDiff,↓reduceIte,reduceCtorEq,Int.reduceEq,Int.reduceLT,Int.reduceLE,Int.reduceGT,Int.reduceGE,Int.reduceAdd,Int.reduceSub,Int.reduceNeg,Int.reduceToNat,Nat.reduceBEq,Nat.reduceEqDiff]
   refine ⟨⟨k + 1,⟨by omega,fun j hj h => ?_⟩,by simp [Fr]⟩,by omega⟩
   rcases Nat.lt_succ_iff_lt_or_eq.1 h with h' | rfl
   ·exact hp j hj h'
   ·exact hb
 ·have hno : fi p s.data.toList = -1 := fi_no fun j hj => hp j hj (by rw [bytes_length] at hj; omega)
  simp -implicitDefEqProofs (maxSteps := 99999999) (disch := omega) only [hno,va,vg,vs,vh,Nat.reduceMul,ite_true,ite_false,eq_self,forall_const,implies_true,Nat.reduceAdd,Nat.reduceSub,Nat.reduceLT,Nat.reduceLeDiff,↓reduceIte,reduceCtorEq,Int.reduceEq,Int.reduceLT,Int.reduceLE,Int.reduceGT,Int.reduceGE,Int.reduceAdd,Int.reduceSub,Int.reduceNeg,Int.reduceToNat,Nat.reduceBEq,Nat.reduceEqDiff]
  exact weak_sc .refl
theorem containsFuncB_d (s : ByteArray) (room : Option (List AV)) (f : FuncId) (p : UInt8 → Bool) (H : AHeap) (hc : callable Tryz.prog f = true) (hf : ∀ b : UInt8,D Tryz.prog f [.sc (.int .u8 (b.toNat : Nat))] H (.ret (.sc (.bool (p b)))) H) (hl : s.size ≤ 100000000) :
  D Tryz.prog 79 [.lst 1 (byteL s) room,.fn (.func f) [] []] H (.ret (.sc (.bool (s.data.toList.any p)))) H := by
 refine D_of_DK (Nat.le_refl _) (dk79 (E_of_ES ?_))
 simp -implicitDefEqProofs (maxSteps := 99999999) (disch := omega) only [ic79,va,vg,vs,vh,Nat.reduceMul,ite_true,ite_false,eq_self,forall_const,implies_true,Nat.reduceAdd,Nat.reduceSub,Nat.reduceLT,Nat.reduceLeDiff,↓reduceIte,reduceCtorEq,Int.reduceEq,Int.reduceLT,Int.reduceLE,Int.reduceGT,Int.reduceGE,Int.reduceAdd,Int.reduceSub,Int.reduceNeg,Int.reduceToNat,Nat.reduceBEq,Nat.reduceEqDiff]
 refine callR_ret (indexFuncB_d s room f p _ hc hf hl) ?_
 simp -implicitDefEqProofs (maxSteps := 99999999) (disch := omega) only [va,vg,vs,vh,Nat.reduceMul,ite_true,ite_false,eq_self,forall_const,implies_true,Nat.reduceAdd,Nat.reduceSub,Nat.reduceLT,Nat.reduceLeDiff,↓reduceIte,reduceCtorEq,Int.reduceEq,Int.reduceLT,Int.reduceLE,Int.reduceGT,Int.reduceGE,Int.reduceAdd,Int.reduceSub,Int.reduceNeg,Int.reduceToNat,Nat.reduceBEq,Nat.reduceEqDiff]
 rw [fi_ge]
 exact weak_sc .refl
theorem indexFuncD_d (l : List Dc) (room : Option (List AV)) (f : FuncId) (caps : List AV) (p : Dc → Bool) (H : AHeap) (hc : callable Tryz.prog f = true) (hf : ∀ d ∈ l,D Tryz.prog f (dcA d :: caps) H (.ret (.sc (.bool (p d)))) H) (hl : l.length ≤ 100000000) :
  D Tryz.prog 39 [.lst 2 (docs l) room,.fn (.func f) [] caps] H (.ret (.sc (.int .i64 (fi p l)))) H := by
 refine D_of_DK (Nat.le_refl _) (dk39 (E_of_ES ?_))
 simp -implicitDefEqProofs (maxSteps := 99999999) (disch := omega) only [docs_length,ic39,va,vg,vs,vh,Nat.reduceMul,ite_true,ite_false,eq_self,forall_const,implies_true,Nat.reduceAdd,Nat.reduceSub,Nat.reduceLT,Nat.reduceLeDiff,↓reduceIte,reduceCtorEq,Int.reduceEq,Int.reduceLT,Int.reduceLE,Int.reduceGT,Int.reduceGE,Int.reduceAdd,Int.reduceSub,Int.reduceNeg,Int.reduceToNat,Nat.reduceBEq,Nat.reduceEqDiff]
 refine ES_loop (fun ts H' => H' = H ∧ ∃ k : Nat,(k ≤ l.length ∧ ∀ j (hj : j < l.length),j < k → p l[j] = false) ∧ Fr [some (.lst 2 (docs l) room),some (.fn (.func f) [] caps),none,none,none,none,none,some (.sc (.int .i64 l.length)),some (.sc (.int .i64 k)),none,none,none,none,none,none,none,none,none,none] ts) (fun ts _ => l.length - (intV (ts.getD 8 .top)).toNat) ?_ ?_
 ·exact ⟨rfl,0,⟨Nat.zero_le _,fun j _ h => absurd h (Nat.not_lt_zero _)⟩,by simp [Fr]⟩
 rintro ts _ ⟨rfl,k,⟨hk,hp⟩,hfr⟩
 obtain ⟨js,rfl⟩ := hfr.opened
 clear hfr
 simp -implicitDefEqProofs (maxSteps := 99999999) (disch := omega) only [docs_length,mk,va,vg,vs,vh,Nat.reduceMul,ite_true,ite_false,eq_self,forall_const,implies_true,Nat.reduceAdd,Nat.reduceSub,Nat.reduceLT,Nat.reduceLeDiff,↓reduceIte,reduceCtorEq,Int.reduceEq,Int.reduceLT,Int.reduceLE,Int.reduceGT,Int.reduceGE,Int.reduceAdd,Int.reduceSub,Int.reduceNeg,Int.reduceToNat,Nat.reduceBEq,Nat.reduceEqDiff]
 refine condR_if (fun h => ?_) (fun h => ?_)
 ·have h1 : k < l.length := by omega
  simp -implicitDefEqProofs (maxSteps := 99999999) (disch := omega) only [docs_length,docs_get h1,hc,va,vg,vs,vh,Nat.reduceMul,ite_true,ite_false,eq_self,forall_const,implies_true,Nat.reduceAdd,Nat.reduceSub,Nat.reduceLT,Nat.reduceLeDiff,↓reduceIte,reduceCtorEq,Int.reduceEq,Int.reduceLT,Int.reduceLE,Int.reduceGT,Int.reduceGE,Int.reduceAdd,Int.reduceSub,Int.reduceNeg,Int.reduceToNat,Nat.reduceBEq,Nat.reduceEqDiff]
  refine ⟨by omega,callR_ret (hf (nthD l k) (nthD_eq h1 ▸ List.getElem_mem h1)) ?_⟩
  rw [nthD_eq h1]
  cases hb : p l[k] with
  | true =>
   simp -implicitDefEqProofs (maxSteps := 99999999) (disch := omega) only [fi_at h1 hb (fun j hj h => hp j hj h),va,vg,vs,vh,Nat.reduceMul,ite_true,ite_false,eq_self,forall_const,implies_true,Nat.reduceAdd,Nat.reduceSub,Nat.reduceLT,Nat.reduceLeDiff,↓reduceIte,reduceCtorEq,Int.reduceEq,Int.reduceLT,Int.reduceLE,Int.reduceGT,Int.reduceGE,Int.reduceAdd,Int.reduceSub,Int.reduceNeg,Int.reduceToNat,Nat.reduceBEq,Nat.reduceEqDiff]
   exact weak_sc .refl
  | false =>
   simp -implicitDefEqProofs (maxSteps := 99999999) (disch := omega) only [va,vg,vs,vh,Nat.reduceMul,ite_true,ite_false,eq_self,forall_const,implies_true,Nat.reduceAdd,Nat.reduceSub,Nat.reduceLT,Nat.reduceLeDiff,↓reduceIte,reduceCtorEq,Int.reduceEq,Int.reduceLT,Int.reduceLE,Int.reduceGT,Int.reduceGE,Int.reduceAdd,Int.reduceSub,Int.reduceNeg,Int.reduceToNat,Nat.reduceBEq,Nat.reduceEqDiff]
   refine ⟨⟨k + 1,⟨by omega,fun j hj h => ?_⟩,by simp [Fr]⟩,by omega⟩
   rcases Nat.lt_succ_iff_lt_or_eq.1 h with h' | rfl
   ·exact hp j hj h'
   ·exact hb
 ·have hno : fi p l = -1 := fi_no fun j hj => hp j hj (by omega)
  simp -implicitDefEqProofs (maxSteps := 99999999) (disch := omega) only [hno,va,vg,vs,vh,Nat.reduceMul,ite_true,ite_false,eq_self,forall_const,implies_true,Nat.reduceAdd,Nat.reduceSub,Nat.reduceLT,Nat.reduceLeDiff,↓reduceIte,reduceCtorEq,Int.reduceEq,Int.reduceLT,Int.reduceLE,Int.reduceGT,Int.reduceGE,Int.reduceAdd,Int.reduceSub,Int.reduceNeg,Int.reduceToNat,Nat.reduceBEq,Nat.reduceEqDiff]
  exact weak_sc .refl
theorem containsFuncD_d (l : List Dc) (room : Option (List AV)) (f : FuncId) (caps : List AV) (p : Dc → Bool) (H : AHeap) (hc : callable Tryz.prog f = true) (hf : ∀ d ∈ l,D Tryz.prog f (dcA d :: caps) H (.ret (.sc (.bool (p d)))) H) (hl : l.length ≤ 100000000) :
  D Tryz.prog 48 [.lst 2 (docs l) room,.fn (.func f) [] caps] H (.ret (.sc (.bool (l.any p)))) H := by
 refine D_of_DK (Nat.le_refl _) (dk48 (E_of_ES ?_))
 simp -implicitDefEqProofs (maxSteps := 99999999) (disch := omega) only [ic48,va,vg,vs,vh,Nat.reduceMul,ite_true,ite_false,eq_self,forall_const,implies_true,Nat.reduceAdd,Nat.reduceSub,Nat.reduceLT,Nat.reduceLeDiff,↓reduceIte,reduceCtorEq,Int.reduceEq,Int.reduceLT,Int.reduceLE,Int.reduceGT,Int.reduceGE,Int.reduceAdd,Int.reduceSub,Int.reduceNeg,Int.reduceToNat,Nat.reduceBEq,Nat.reduceEqDiff]
 refine callR_ret (indexFuncD_d l room f caps p _ hc hf hl) ?_
 simp -implicitDefEqProofs (maxSteps := 99999999) (disch := omega) only [va,vg,vs,vh,Nat.reduceMul,ite_true,ite_false,eq_self,forall_const,implies_true,Nat.reduceAdd,Nat.reduceSub,Nat.reduceLT,Nat.reduceLeDiff,↓reduceIte,reduceCtorEq,Int.reduceEq,Int.reduceLT,Int.reduceLE,Int.reduceGT,Int.reduceGE,Int.reduceAdd,Int.reduceSub,Int.reduceNeg,Int.reduceToNat,Nat.reduceBEq,Nat.reduceEqDiff]
 rw [fi_ge]
 exact weak_sc .refl
end Go.Proofs.YtljajanjjcdelaaGreat
