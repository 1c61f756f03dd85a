/- Rows of texts that a call hands out: laid one behind the other; Clone, Invert, moved with results of the call's own. -/
import Derived.Test.YtigmpablpmanpaaDoorS34
import Derived.Test.YtigmpablpmanpaaDoorVE
namespace Go.Proofs.YtigmpablpmanpaaDoor
open Go.RowKit
set_option maxRecDepth 100000
set_option linter.unusedVariables false
set_option linter.unusedSimpArgs false
/-- Rows of texts, one behind the other. -/
def outs : List (List ByteArray) → AHeap → AHeap
 | [],H => H
 | l :: r,H => outs r (OutB l :: H)
theorem outs_length : ∀ {rs : List (List ByteArray)} {H : AHeap},(outs rs H).length = H.length + rs.length
 | [],H => rfl
 | l :: r,H => by simp only [outs,outs_length (rs := r),List.length_cons]; omega
theorem outs_old : ∀ {rs : List (List ByteArray)} {H : AHeap} {i : Nat},i < H.length → AHeap.find (outs rs H) i = AHeap.find H i
 | [],H,i,h => rfl
 | l :: r,H,i,h => by
  simp only [outs]
  rw [outs_old (by simp; omega),AHeap.find_cons h]
theorem outs_new : ∀ {rs : List (List ByteArray)} {H : AHeap} {i : Nat} {l : List ByteArray},rs[i]? = some l → AHeap.find (outs rs H) (H.length + i) = OutB l
 | [],H,i,l,h => by simp at h
 | x :: r,H,0,l,h => by
  simp at h
  subst h
  simp only [outs]
  rw [Nat.add_zero,outs_old (by simp),AHeap.find_new]
 | x :: r,H,i + 1,l,h => by
  simp only [outs]
  have := outs_new (rs := r) (H := OutB x :: H) (i := i) (by simpa using h)
  rw [List.length_cons,show H.length + 1 + i = H.length + (i + 1) from by omega] at this
  exact this
theorem newId_at {n0 : Nat} {src : List Nat} {i s : Nat} (hn : src.Nodup) (hi : src[i]? = some s) (hs : n0 ≤ s) : newId n0 src s = some (n0 + i) := by
 unfold newId
 rw [if_neg (by omega),get_idxOf? hn hi]
 rfl
theorem weak_outs {H F : AHeap} (rs : List (List ByteArray)) (src : List Nat) {x y : AV} (hl : src.length = rs.length) (hn : src.Nodup) (ha : ∀ s ∈ src,H.length ≤ s) (h1 : ∀ id,id < H.length → AHeap.find F id = AHeap.find H id)
  (h2 : ∀ (i : Nat) (l : List ByteArray) (s : Nat),rs[i]? = some l → src[i]? = some s → l ≠ [] → AHeap.find F s = OutB l) (hz : Gz F H.length src x y) : Weak H (.ret x) F (.ret y) (outs rs H) := by
 refine weak_gen src (by rw [outs_length,hl]) hn ha (fun id k hid hk => ?_) (fun i s k hs hk => ?_) hz
 ·rw [outs_old hid] at hk
  exact .inl ⟨hk,by rw [h1 id hid]; exact hk⟩
 ·have hi : i < rs.length := by
   have := (List.getElem?_eq_some_iff.1 hs).1
   omega
  have hr : rs[i]? = some rs[i] := by simp [hi]
  rw [outs_new hr] at hk
  obtain ⟨n1,rfl⟩ := OwnB_some hk
  have n2 : rs[i] ≠ [] := fun e => n1 (by rw [e]; rfl)
  exact ⟨_,by rw [h2 i _ s hr hs n2]; exact hk,rfl,rfl,fun h => h,strs_gz⟩
theorem OutV_ne {l : List ByteArray} {id : Nat} (h : l ≠ []) : OutV l id = .vec 1 id 0 l.length none := by rw [OutV,OwnV_ne (strs_ne h),strs_length]
theorem OutB_ne {l : List ByteArray} (h : l ≠ []) : OutB l = some ⟨1,strs l,false,9⟩ := by rw [OutB,OwnB_ne (strs_ne h)]
theorem clone_o (l : List ByteArray) (ro : Option (List AV)) (H : AHeap) (hl : l.length ≤ 100000000) : D Tryd.prog 34 [.lst 1 (strs l) ro] H (.ret (OutV l H.length)) (OutB l :: H) := by
 refine D_of_DK (by simp) (dk34 (E_of_ES ?_))
 cases l with
 | nil =>
  have key : ∀ k,Weak H (.ret (.lst k [] (some []))) H (.ret (OutV [] H.length)) (OutB [] :: H) := fun k =>
   weak_outs [[]] [H.length] rfl (by simp) (by simp) (fun _ _ => rfl) (fun i l s h1 h2 h3 => by
    rcases i with _ | i
    ·simp at h1; exact (h3 (by first | exact h1 | exact h1.symm)).elim
    ·simp at h1) .nil0
  simp -implicitDefEqProofs (maxSteps := 99999999) (disch := omega) only [ic34,strs_nil,va,vg,vs,vh,Nat.reduceMul,ite_true,ite_false,eq_self,forall_const,implies_true,Nat.reduceAdd,Nat.reduceSub,Nat.reduceLT,Nat.reduceLeDiff,↓reduceIte,reduceCtorEq,Int.reduceEq,Int.reduceLT,Int.reduceLE,Int.reduceGT,Int.reduceGE,Int.reduceAdd,Int.reduceSub,Int.reduceNeg,Int.reduceToNat,Nat.reduceBEq,Nat.reduceEqDiff]
  refine condR_u ?_ ?_
  ·simp -implicitDefEqProofs (maxSteps := 99999999) (disch := omega) only [va,vg,vs,vh,Nat.reduceMul,ite_true,ite_false,eq_self,forall_const,implies_true,Nat.reduceAdd,Nat.reduceSub,Nat.reduceLT,Nat.reduceLeDiff,↓reduceIte,reduceCtorEq,Int.reduceEq,Int.reduceLT,Int.reduceLE,Int.reduceGT,Int.reduceGE,Int.reduceAdd,Int.reduceSub,Int.reduceNeg,Int.reduceToNat,Nat.reduceBEq,Nat.reduceEqDiff]
   exact key _
  ·simp -implicitDefEqProofs (maxSteps := 99999999) (disch := omega) only [va,vg,vs,vh,Nat.reduceMul,ite_true,ite_false,eq_self,forall_const,implies_true,Nat.reduceAdd,Nat.reduceSub,Nat.reduceLT,Nat.reduceLeDiff,↓reduceIte,reduceCtorEq,Int.reduceEq,Int.reduceLT,Int.reduceLE,Int.reduceGT,Int.reduceGE,Int.reduceAdd,Int.reduceSub,Int.reduceNeg,Int.reduceToNat,Nat.reduceBEq,Nat.reduceEqDiff]
   exact key _
 | cons s l =>
  simp only [List.length_cons] at hl
  rw [OutV_ne (by simp),OutB_ne (by simp)]
  simp -implicitDefEqProofs (maxSteps := 99999999) (disch := omega) only [ic34,strs_cons,strs_length,va,vg,vs,vh,Nat.reduceMul,ite_true,ite_false,eq_self,forall_const,implies_true,Nat.reduceAdd,Nat.reduceSub,Nat.reduceLT,Nat.reduceLeDiff,↓reduceIte,reduceCtorEq,Int.reduceEq,Int.reduceLT,Int.reduceLE,Int.reduceGT,Int.reduceGE,Int.reduceAdd,Int.reduceSub,Int.reduceNeg,Int.reduceToNat,Nat.reduceBEq,Nat.reduceEqDiff]
  exact ⟨by omega,Weak.refl _ _ _⟩
/-- A hunk whose texts lie in own memory. -/
abbrev hkO (h : Hk) (i j : Nat) : AV := .agg [.sc (.int .i64 h.at_),OutV h.old i,OutV h.new j]
end Go.Proofs.YtigmpablpmanpaaDoor
