import Derived.Test.YtdjnccnecgblmaaGreatDoorSA
namespace Go.Proofs.YtdjnccnecgblmaaGreatDoor
open Go.RowKit
set_option linter.unusedVariables false
set_option linter.unusedSimpArgs false
section
variable {α : Type}
def mI (q : IntKind) (f : α→AV) (M : List (Int × α)) : List AV:=M.map fun p=>.tup [.sc (.int q p.1),f p.2]
theorem mI_length (q : IntKind) (f : α→AV) (M : List (Int × α)) : (mI q f M).length=M.length:=by simp[mI]
theorem mI_ok (q : IntKind) (f : α→AV) (M : List (Int × α)) : entsOk (some q) (mI q f M):=fun x hx=>by
 obtain ⟨p,_,rfl⟩:=List.mem_map.1 hx
 simp[entOk,kOk]
theorem mI_okT (q : IntKind) (f : α→AV) (M : List (Int × α)) : entsOk (some q) (mI q f M)=True:=by simp[mI_ok]
def iIdx (k : Int) : List (Int × α)→Nat
 | []=>0
 | p :: r=>if k=p.1 then 0 else iIdx k r+1
def iGet (k : Int) : List (Int × α)→Option α
 | []=>none
 | p :: r=>if k=p.1 then some p.2 else iGet k r
def iSetL (k : Int) (a : α) : List (Int × α)→List (Int × α)
 | []=>[(k,a)]
 | p :: r=>if k=p.1 then (k,a) :: r else p :: iSetL k a r
theorem mIdx_mI {q : IntKind} {f : α→AV} {k : Int} : ∀ {M : List (Int × α)},mIdx (.int q k) (mI q f M)=iIdx k M
 | []=>rfl
 | p :: r=>by
  show (if entHit _ _=true then 0 else mIdx _ (mI q f r)+1)=_
  rw[mIdx_mI (M:=r)]
  simp[entHit,kSame,iIdx]
theorem iIdx_lt {k : Int} : ∀ {M : List (Int × α)},(decide (iIdx k M < M.length))=(iGet k M).isSome
 | []=>rfl
 | p :: r=>by
  have ih:=iIdx_lt (k:=k) (M:=r)
  unfold iIdx iGet
  by_cases h : k=p.1
  ·simp[h]
  ·simp only[if_neg h,List.length_cons,Nat.add_lt_add_iff_right,ih]
theorem mVal_mI {q : IntKind} {f : α→AV} {k : Int} {z : AV} : ∀ {M : List (Int × α)},mVal (.int q k) z (mI q f M)=((iGet k M).map f).getD z
 | []=>rfl
 | p :: r=>by
  have ih:=mVal_mI (q:=q) (f:=f) (k:=k) (z:=z) (M:=r)
  unfold mVal at ih ⊢
  rw[mIdx_mI,mI_length] at ih ⊢
  unfold iIdx iGet
  by_cases h : k=p.1
  ·simp[h,mI,entV]
  ·simp only[if_neg h,List.length_cons,Nat.add_lt_add_iff_right] at ih ⊢
   rw[← ih]
   rfl
theorem mPut_mI {q : IntKind} {f : α→AV} {k : Int} {a : α} : ∀ {M : List (Int × α)},mPut (.int q k) (f a) (mI q f M)=mI q f (iSetL k a M)
 | []=>rfl
 | p :: r=>by
  have ih:=mPut_mI (q:=q) (f:=f) (k:=k) (a:=a) (M:=r)
  unfold mPut at ih ⊢
  rw[mIdx_mI,mI_length] at ih ⊢
  unfold iIdx iSetL
  by_cases h : k=p.1
  ·simp[h,mI]
  ·simp only[if_neg h,List.length_cons,Nat.add_lt_add_iff_right]
   split
   ·rename_i hlt
    rw[if_pos hlt] at ih
    show _ :: (mI q f r).set _ _=_ :: mI q f _
    rw[← ih]
   ·rename_i hlt
    rw[if_neg hlt] at ih
    show _ :: (mI q f r ++ _)=_ :: mI q f _
    rw[← ih]
theorem iGet_mem {k : Int} : ∀ {M : List (Int × α)},k ∈ M.map (·.1) ↔ (iGet k M).isSome=true
 | []=>by simp[iGet]
 | p :: r=>by
  have ih:=iGet_mem (k:=k) (M:=r)
  unfold iGet
  by_cases h : k=p.1
  ·simp[h]
  ·simp only[List.map_cons,List.mem_cons,h,false_or,if_neg,not_false_iff,ih]
end
end Go.Proofs.YtdjnccnecgblmaaGreatDoor
