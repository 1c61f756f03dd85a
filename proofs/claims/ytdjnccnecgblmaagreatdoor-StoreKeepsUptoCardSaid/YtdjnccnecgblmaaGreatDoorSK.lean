import Derived.Test.YtdjnccnecgblmaaGreatDoorSA
namespace Go.Proofs.YtdjnccnecgblmaaGreatDoor
open Go.RowKit
set_option linter.unusedVariables false
set_option linter.unusedSimpArgs false
section
variable {α : Type}
def mE (f : α→AV) (M : List (ByteArray × α)) : List AV:=M.map fun p=>.tup [.sc (.string p.1),f p.2]
theorem mE_length (f : α→AV) (M : List (ByteArray × α)) : (mE f M).length=M.length:=by simp[mE]
theorem mE_ok (f : α→AV) (M : List (ByteArray × α)) : entsOk none (mE f M):=fun x hx=>by
 obtain ⟨p,_,rfl⟩:=List.mem_map.1 hx
 rfl
def kIdx (k : ByteArray) : List (ByteArray × α)→Nat
 | []=>0
 | p :: r=>if k=p.1 then 0 else kIdx k r+1
def mGet (k : ByteArray) : List (ByteArray × α)→Option α
 | []=>none
 | p :: r=>if k=p.1 then some p.2 else mGet k r
def mSetL (k : ByteArray) (a : α) : List (ByteArray × α)→List (ByteArray × α)
 | []=>[(k,a)]
 | p :: r=>if k=p.1 then (k,a) :: r else p :: mSetL k a r
theorem mIdx_mE {f : α→AV} {k : ByteArray} : ∀ {M : List (ByteArray × α)},mIdx (.string k) (mE f M)=kIdx k M
 | []=>rfl
 | p :: r=>by
  show (if entHit _ _=true then 0 else mIdx _ (mE f r)+1)=_
  rw[mIdx_mE (M:=r)]
  simp[entHit,kSame,kIdx]
theorem kIdx_le {k : ByteArray} : ∀ {M : List (ByteArray × α)},kIdx k M ≤ M.length
 | []=>Nat.le_refl _
 | p :: r=>by
  have:=kIdx_le (k:=k) (M:=r)
  unfold kIdx
  split <;> simp <;> omega
theorem kIdx_lt {k : ByteArray} : ∀ {M : List (ByteArray × α)},(decide (kIdx k M < M.length))=(mGet k M).isSome
 | []=>rfl
 | p :: r=>by
  have ih:=kIdx_lt (k:=k) (M:=r)
  unfold kIdx mGet
  by_cases h : k=p.1
  ·simp[h]
  ·simp only[if_neg h,List.length_cons,Nat.add_lt_add_iff_right,ih]
theorem mVal_mE {f : α→AV} {k : ByteArray} {z : AV} : ∀ {M : List (ByteArray × α)},mVal (.string k) z (mE f M)=((mGet k M).map f).getD z
 | []=>rfl
 | p :: r=>by
  have ih:=mVal_mE (f:=f) (k:=k) (z:=z) (M:=r)
  unfold mVal at ih ⊢
  rw[mIdx_mE,mE_length] at ih ⊢
  unfold kIdx mGet
  by_cases h : k=p.1
  ·simp[h,mE,entV]
  ·simp only[if_neg h,List.length_cons,Nat.add_lt_add_iff_right] at ih ⊢
   rw[← ih]
   rfl
theorem mPut_mE {f : α→AV} {k : ByteArray} {a : α} : ∀ {M : List (ByteArray × α)},mPut (.string k) (f a) (mE f M)=mE f (mSetL k a M)
 | []=>rfl
 | p :: r=>by
  have ih:=mPut_mE (f:=f) (k:=k) (a:=a) (M:=r)
  unfold mPut at ih ⊢
  rw[mIdx_mE,mE_length] at ih ⊢
  unfold kIdx mSetL
  by_cases h : k=p.1
  ·simp[h,mE]
  ·simp only[if_neg h,List.length_cons,Nat.add_lt_add_iff_right]
   split
   ·rename_i hlt
    rw[if_pos hlt] at ih
    show _ :: (mE f r).set _ _=_ :: mE f _
    rw[← ih]
   ·rename_i hlt
    rw[if_neg hlt] at ih
    show _ :: (mE f r ++ _)=_ :: mE f _
    rw[← ih]
theorem mGet_set {k k' : ByteArray} {a : α} : ∀ {M : List (ByteArray × α)},mGet k' (mSetL k a M)=if k'=k then some a else mGet k' M
 | []=>by by_cases h : k'=k <;> simp[mSetL,mGet,h]
 | p :: r=>by
  have ih:=mGet_set (k:=k) (k':=k') (a:=a) (M:=r)
  unfold mSetL
  by_cases h : k=p.1
  ·by_cases h2 : k'=k
   ·simp[h,mGet,h2]
   ·have h3 : ¬ k'=p.1:=fun e=>h2 (e.trans h.symm)
    simp[h,mGet,h2,h3,if_neg]
  ·rw[if_neg h]
   by_cases h2 : k'=p.1
   ·have h3 : ¬ k'=k:=fun e=>h (e.symm.trans h2)
    simp only[mGet,if_pos h2,if_neg h3]
   ·simp only[mGet,if_neg h2,ih]
theorem mem_mSetL {k : ByteArray} {a : α} {x : ByteArray} : ∀ {M : List (ByteArray × α)},x ∈ (mSetL k a M).map (·.1)→x=k ∨ x ∈ M.map (·.1)
 | [],h=>by simpa [mSetL] using h
 | p :: r,h=>by
  unfold mSetL at h
  split at h
  ·rename_i e
   simp only[List.map_cons,List.mem_cons] at h ⊢
   rcases h with h | h
   ·exact .inl h
   ·exact .inr (.inr h)
  ·simp only[List.map_cons,List.mem_cons] at h ⊢
   rcases h with h | h
   ·exact .inr (.inl h)
   ·rcases mem_mSetL h with h | h
    ·exact .inl h
    ·exact .inr (.inr h)
theorem mSetL_nodup {k : ByteArray} {a : α} : ∀ {M : List (ByteArray × α)},(M.map (·.1)).Nodup→((mSetL k a M).map (·.1)).Nodup
 | [],_=>by simp[mSetL]
 | p :: r,h=>by
  simp only[List.map_cons,List.nodup_cons] at h
  unfold mSetL
  split
  ·rename_i e
   simp only[List.map_cons,List.nodup_cons]
   rw[e];exact h
  ·rename_i e
   simp only[List.map_cons,List.nodup_cons]
   refine ⟨fun hm=>?_,mSetL_nodup h.2⟩
   rcases mem_mSetL hm with h1 | h1
   ·exact e h1.symm
   ·exact h.1 h1
theorem mGet_mem {k : ByteArray} : ∀ {M : List (ByteArray × α)},k ∈ M.map (·.1) ↔ (mGet k M).isSome=true
 | []=>by simp[mGet]
 | p :: r=>by
  have ih:=mGet_mem (k:=k) (M:=r)
  unfold mGet
  by_cases h : k=p.1
  ·simp[h]
  ·simp only[List.map_cons,List.mem_cons,h,false_or,if_neg,not_false_iff,ih]
theorem mSetL_length_le {k : ByteArray} {a : α} : ∀ {M : List (ByteArray × α)},(mSetL k a M).length ≤ M.length+1
 | []=>by simp[mSetL]
 | p :: r=>by
  have:=mSetL_length_le (k:=k) (a:=a) (M:=r)
  unfold mSetL
  split <;> simp <;> omega
end
theorem nodup_le {α : Type} [DecidableEq α] : ∀ {l m : List α},l.Nodup→(∀ x ∈ l,x ∈ m)→l.length ≤ m.length
 | [],m,_,_=>Nat.zero_le _
 | x :: r,m,h,hs=>by
  have hx:=hs x (by simp)
  simp only[List.nodup_cons] at h
  have:=nodup_le (l:=r) (m:=m.erase x) h.2 (fun y hy=>(List.mem_erase_of_ne (by rintro rfl;exact h.1 hy)).2 (hs y (by simp[hy])))
  rw[List.length_erase_of_mem hx] at this
  have:=List.length_pos_of_mem hx
  simp only[List.length_cons]
  omega
end Go.Proofs.YtdjnccnecgblmaaGreatDoor
