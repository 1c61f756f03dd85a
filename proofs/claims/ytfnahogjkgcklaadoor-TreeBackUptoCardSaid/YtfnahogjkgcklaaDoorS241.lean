/- What a node says: the document's function; the two agree. -/
import Derived.Test.YtfnahogjkgcklaaDoorS240
namespace Go.Proofs.YtfnahogjkgcklaaDoor
open Go.RowKit
set_option maxRecDepth 100000
set_option linter.unusedVariables false
set_option linter.unusedSimpArgs false
def textQ (t : Nd) : Bool :=
 if namedP t.kind then nameQ t.text
 else if t.kind = 23 then decide (t.text = ⟨#[45]⟩) || decide (t.text = ⟨#[33]⟩)
 else if ¬ t.kind = 24 then decide (t.text = ⟨#[]⟩)
 else memS binsL t.text
theorem ams (l : List ByteArray) (s : ByteArray) (h : memS l ⟨#[]⟩ = false) : amongQ l s = memS l s := by
 unfold amongQ
 by_cases e : s = ⟨#[]⟩
 ·rw [e,h]; simp
 ·simp [e]
/-- The node alone is right: the program's words, the document's. -/
def locP (t : Nd) : Bool := (rowR t.kind).isSome && saysP t && ((rowG t.kind).2 || decide (t.kids.length = (rowG t.kind).1.length))
def knownQ (k : Int) : Bool := (decide (k ≥ 1) && decide (k ≤ 12)) || exprP k
def numQ (k n : Int) : Bool := decide (n = 0) || (decide (k = 20) && decide (n > 0)) || (decide (k = 21) && decide (n = 1))
def locQ (t : Nd) : Bool := knownQ t.kind && numQ t.kind t.num && textQ t && (decide (manyQ t.kind < 0) || decide ((t.kids.length : Int) = manyQ t.kind))
theorem loc_same (t : Nd) : locP t = locQ t := by
 obtain ⟨k,s,n,l⟩ := t
 unfold locP locQ
 simp only [Nd.kind,Nd.kids,Nd.num]
 rcases rowR_cases k with ⟨h,hn⟩ | h
 ·have g : ∀ m : Int,m ∈ rowsL.map (·.1) → k ≠ m := fun m hm => by
   obtain ⟨x,hx,rfl⟩ := List.mem_map.1 hm
   exact hn x hx
  have e : knownQ k = false := by
   have g1 := fun m (hm : m ∈ rowsL.map (·.1)) => g m hm
   simp only [rowsL,List.map_cons,List.map_nil] at g1
   have := g1 1 (by decide); have := g1 2 (by decide); have := g1 3 (by decide); have := g1 4 (by decide); have := g1 5 (by decide); have := g1 6 (by decide); have := g1 7 (by decide); have := g1 8 (by decide); have := g1 9 (by decide); have := g1 10 (by decide); have := g1 11 (by decide); have := g1 12 (by decide); have := g1 20 (by decide); have := g1 21 (by decide); have := g1 22 (by decide); have := g1 23 (by decide); have := g1 24 (by decide); have := g1 25 (by decide); have := g1 26 (by decide); have := g1 27 (by decide); have := g1 28 (by decide); have := g1 29 (by decide)
   unfold knownQ exprP
   rw [← Bool.not_eq_true]
   simp
   omega
  rw [h,e]
  simp
 ·simp only [rowsL,List.map_cons,List.map_nil,List.mem_cons,List.not_mem_nil,or_false] at h
  have q1 : decide ((l.length : Int) = 1) = decide (l.length = 1) := by rw [Bool.eq_iff_iff]; simp; omega
  have q2 : decide ((l.length : Int) = 2) = decide (l.length = 2) := by rw [Bool.eq_iff_iff]; simp; omega
  have q3 : decide ((l.length : Int) = 3) = decide (l.length = 3) := by rw [Bool.eq_iff_iff]; simp; omega
  have q0 : (decide (n = 0) || decide (0 < n)) = decide (0 ≤ n) := by rw [Bool.eq_iff_iff]; simp; omega
  have e1 := ams unsL s (by decide +kernel)
  have e2 := ams binsL s (by decide +kernel)
  have e3 : memS unsL s = (decide (s = ⟨#[45]⟩) || decide (s = ⟨#[33]⟩)) := by
   simp [memS,unsL,eq_comm]
  rw [e3] at e1
  rcases h with rfl | rfl | rfl | rfl | rfl | rfl | rfl | rfl | rfl | rfl | rfl | rfl | rfl | rfl | rfl | rfl | rfl | rfl | rfl | rfl | rfl | rfl <;> simp [rowG,rowR,rowsL,iGet,knownQ,exprP,numQ,manyQ,saysP,textQ,Nd.kind,Nd.text,Nd.num,namedP,e1,e2]
  all_goals first
   | (simp only [q1,q2,q3]; done)
   | rfl
   | (simp only [q0]; ac_rfl)
   | (simp only [q1,q2,q3]; rfl)
   | ac_rfl
end Go.Proofs.YtfnahogjkgcklaaDoor
