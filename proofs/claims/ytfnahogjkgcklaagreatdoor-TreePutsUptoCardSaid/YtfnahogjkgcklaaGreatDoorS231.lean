import Derived.Test.YtfnahogjkgcklaaGreatDoorS230
import Derived.Test.YtfnahogjkgcklaaGreatDoorSI
namespace Go.Proofs.YtfnahogjkgcklaaGreatDoor
open Go.RowKit
set_option linter.unusedVariables false
set_option linter.unusedSimpArgs false
def rowsL : List (Int × (List Int × Bool)):=[(1,[2],true),(2,[3,5],false),(3,[4],true),(4,[],false),(5,[201],true),(6,[200],false),(7,[202,200],false),(8,[200,5,5],false),(9,[200,5],false),(10,[200],false),(11,[200],false),(12,[25],false),(20,[],false),(21,[],false),(22,[],false),(23,[200],false),(24,[200,200],false),(25,[200],true),(26,[200,200],false),(27,[200,200],false),(28,[200],false),(29,[],false)]
def rowR (k : Int) : Option (List Int × Bool):=iGet k rowsL
def exprP (k : Int) : Bool:=decide (20 ≤ k) && decide (k ≤ 29)
def stmtP (k : Int) : Bool:=decide (6 ≤ k) && decide (k ≤ 12) || decide (k=5)
def isP (k f : Int) : Bool:=if f=200 then exprP k else if f=201 then stmtP k else if f=202 then decide (k=22) || decide (k=26) else decide (k=f)
def fitsP (p k at_ : Int) : Bool :=
 if at_ < 0 then false
 else if ((rowR p).getD ([],false)).2 then isP k (((rowR p).getD ([],false)).1.getD 0 0)
 else decide (at_ < ((rowR p).getD ([],false)).1.length) && isP k (((rowR p).getD ([],false)).1.getD at_.toNat 0)
def namedP (k : Int) : Bool:=decide (k=2) || decide (k=4) || decide (k=6) || decide (k=22) || decide (k=25)
def manyQ (k : Int) : Int :=
 if k=1 ∨ k=3 ∨ k=5 ∨ k=25 then -1
 else if k=2 ∨ k=7 ∨ k=9 ∨ k=24 ∨ k=26 ∨ k=27 then 2
 else if k=8 then 3
 else if k=6 ∨ k=10 ∨ k=11 ∨ k=23 ∨ k=28 ∨ k=12 then 1
 else 0
def fitsQ (p k at_ : Int) : Bool :=
 if at_ < 0 ∨ (manyQ p ≥ 0 ∧ at_ ≥ manyQ p) then false
 else if p=1 then decide (k=2)
 else if p=2 then decide (at_=0 ∧ k=3) || decide (at_=1 ∧ k=5)
 else if p=3 then decide (k=4)
 else if p=5 then stmtP k
 else if p=7 then decide (at_=0 ∧ (k=22 ∨ k=26)) || (decide (at_=1) && exprP k)
 else if p=8 ∨ p=9 then (decide (at_=0) && exprP k) || decide (at_ > 0 ∧ k=5)
 else if p=12 then decide (k=25)
 else exprP k
theorem rowR_cases (p : Int) : (rowR p=none ∧ ∀ x ∈ rowsL,p ≠ x.1) ∨ p ∈ rowsL.map (·.1):=by
 by_cases h : p ∈ rowsL.map (·.1)
 ·exact .inr h
 ·refine .inl ⟨?_,fun x hx e=>h (List.mem_map.2 ⟨x,hx,e.symm⟩)⟩
  cases hr : rowR p with
  | none=>rfl
  | some v=>exact absurd (iGet_mem.2 (by unfold rowR at hr;rw[hr];rfl)) h
theorem fits_same (p k at_ : Int) : fitsP p k at_=fitsQ p k at_:=by
 rcases rowR_cases p with ⟨h,hn⟩ | h
 ·have e : fitsP p k at_=false:=by
   unfold fitsP
   rw[h]
   split
   ·rfl
   ·simp
    intro h1;omega
  rw[e]
  have h0 : manyQ p=0:=by
   have g : ∀ n : Int,n ∈ rowsL.map (·.1)→p ≠ n:=fun n hm=>by
    obtain ⟨x,hx,rfl⟩:=List.mem_map.1 hm
    exact hn x hx
   have g1:=fun n=>g n
   unfold manyQ
   rw[if_neg,if_neg,if_neg (g 8 (by decide)),if_neg]
   ·rintro (h | h | h | h | h | h)
    ·exact g 6 (by decide) h
    ·exact g 10 (by decide) h
    ·exact g 11 (by decide) h
    ·exact g 23 (by decide) h
    ·exact g 28 (by decide) h
    ·exact g 12 (by decide) h
   ·rintro (h | h | h | h | h | h)
    ·exact g 2 (by decide) h
    ·exact g 7 (by decide) h
    ·exact g 9 (by decide) h
    ·exact g 24 (by decide) h
    ·exact g 26 (by decide) h
    ·exact g 27 (by decide) h
   ·rintro (h | h | h | h)
    ·exact g 1 (by decide) h
    ·exact g 3 (by decide) h
    ·exact g 5 (by decide) h
    ·exact g 25 (by decide) h
  unfold fitsQ
  rw[h0,if_pos (by omega)]
 ·by_cases c : at_ < 0
  ·unfold fitsP fitsQ
   rw[if_pos c,if_pos (.inl c)]
  obtain ⟨a,rfl⟩ : ∃ a : Nat,at_=a:=⟨at_.toNat,by omega⟩
  simp only[rowsL,List.map_cons,List.map_nil,List.mem_cons,List.not_mem_nil,or_false] at h
  have q0 : ∀ a : Nat,¬ ((a : Int)+1+1+1 < 0):=fun a=>by omega
  have q1 : ∀ a : Nat,¬ ((a : Int)+1+1+1 < 1):=fun a=>by omega
  have q2 : ∀ a : Nat,¬ ((a : Int)+1+1+1 < 2):=fun a=>by omega
  have q3 : ∀ a : Nat,¬ ((a : Int)+1+1+1 < 3):=fun a=>by omega
  have q4 : ∀ a : Nat,0 ≤ (a : Int)+1+1+1:=fun a=>by omega
  have r1 : ∀ a : Nat,1 ≤ (a : Int)+1+1+1:=fun a=>by omega
  have r2 : ∀ a : Nat,2 ≤ (a : Int)+1+1+1:=fun a=>by omega
  have r3 : ∀ a : Nat,3 ≤ (a : Int)+1+1+1:=fun a=>by omega
  have r4 : ∀ a : Nat,¬ (a : Int)+1+1+1=0:=fun a=>by omega
  have r5 : ∀ a : Nat,0 < (a : Int)+1+1+1:=fun a=>by omega
  rcases h with rfl | rfl | rfl | rfl | rfl | rfl | rfl | rfl | rfl | rfl | rfl | rfl | rfl | rfl | rfl | rfl | rfl | rfl | rfl | rfl | rfl | rfl <;>
   rcases a with _ | _ | _ | a <;> simp[fitsP,fitsQ,manyQ,rowR,rowsL,iGet,isP,exprP,stmtP] <;> simp only[q0,q1,q2,q3,q4,r1,r2,r3,r4,r5,decide_false,decide_true,Bool.not_false,Bool.not_true,Bool.false_and,Bool.true_and,Bool.and_false]
end Go.Proofs.YtfnahogjkgcklaaGreatDoor
