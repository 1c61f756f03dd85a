/- Own maps whose keys are texts, as lists of pairs. Nothing of the program is named here. -/
import Derived.Test.YtpnnpooeheiedaaDoorSA
namespace Go.Proofs.YtpnnpooeheiedaaDoor
open Go.RowKit
set_option linter.unusedVariables false
set_option linter.unusedSimpArgs false
section
variable {α : Type}
/-- Entries. -/
def mE (f : α → AV) (M : List (ByteArray × α)) : List AV := M.map fun p => .tup [.sc (.string p.1),f p.2]
theorem mE_length (f : α → AV) (M : List (ByteArray × α)) : (mE f M).length = M.length := by simp [mE]
theorem mE_ok (f : α → AV) (M : List (ByteArray × α)) : entsOk none (mE f M) := fun x hx => by
 obtain ⟨p,_,rfl⟩ := List.mem_map.1 hx
 rfl
theorem mE_okT (f : α → AV) (M : List (ByteArray × α)) : entsOk none (mE f M) = True := by simp [mE_ok]
def kIdx (k : ByteArray) : List (ByteArray × α) → Nat
 | [] => 0
 | p :: r => if k = p.1 then 0 else kIdx k r + 1
def mGet (k : ByteArray) : List (ByteArray × α) → Option α
 | [] => none
 | p :: r => if k = p.1 then some p.2 else mGet k r
def mSetL (k : ByteArray) (a : α) : List (ByteArray × α) → List (ByteArray × α)
 | [] => [(k,a)]
 | p :: r => if k = p.1 then (k,a) :: r else p :: mSetL k a r
theorem mIdx_mE {f : α → AV} {k : ByteArray} : ∀ {M : List (ByteArray × α)},mIdx (.string k) (mE f M) = kIdx k M
 | [] => rfl
 | p :: r => by
  show (if entHit _ _ = true then 0 else mIdx _ (mE f r) + 1) = _
  rw [mIdx_mE (M := r)]
  simp [entHit,kSame,kIdx]
theorem kIdx_lt {k : ByteArray} : ∀ {M : List (ByteArray × α)},(decide (kIdx k M < M.length)) = (mGet k M).isSome
 | [] => rfl
 | p :: r => by
  have ih := kIdx_lt (k := k) (M := r)
  unfold kIdx mGet
  by_cases h : k = p.1
  ·simp [h]
  ·simp only [if_neg h,List.length_cons,Nat.add_lt_add_iff_right,ih]
theorem mVal_mE {f : α → AV} {k : ByteArray} {z : AV} : ∀ {M : List (ByteArray × α)},mVal (.string k) z (mE f M) = ((mGet k M).map f).getD z
 | [] => rfl
 | p :: r => by
  have ih := mVal_mE (f := f) (k := k) (z := z) (M := r)
  unfold mVal at ih ⊢
  rw [mIdx_mE,mE_length] at ih ⊢
  unfold kIdx mGet
  by_cases h : k = p.1
  ·simp [h,mE,entV]
  ·simp only [if_neg h,List.length_cons,Nat.add_lt_add_iff_right] at ih ⊢
   rw [← ih]
   rfl
theorem mPut_mE {f : α → AV} {k : ByteArray} {a : α} : ∀ {M : List (ByteArray × α)},mPut (.string k) (f a) (mE f M) = mE f (mSetL k a M)
 | [] => rfl
 | p :: r => by
  have ih := mPut_mE (f := f) (k := k) (a := a) (M := r)
  unfold mPut at ih ⊢
  rw [mIdx_mE,mE_length] at ih ⊢
  unfold kIdx mSetL
  by_cases h : k = p.1
  ·simp [h,mE]
  ·simp only [if_neg h,List.length_cons,Nat.add_lt_add_iff_right]
   split
   ·rename_i hlt
    rw [if_pos hlt] at ih
    show _ :: (mE f r).set _ _ = _ :: mE f _
    rw [← ih]
   ·rename_i hlt
    rw [if_neg hlt] at ih
    show _ :: (mE f r ++ _) = _ :: mE f _
    rw [← ih]
end
end Go.Proofs.YtpnnpooeheiedaaDoor
