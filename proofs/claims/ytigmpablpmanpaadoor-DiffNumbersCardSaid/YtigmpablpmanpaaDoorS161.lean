/- DiffMakes' plain law: how many pairs there are; what lines that were put in change; the hunks make the other row. -/
import Derived.Test.YtigmpablpmanpaaDoorS153
namespace Go.Proofs.YtigmpablpmanpaaDoor
open Go.RowKit
set_option maxRecDepth 100000
set_option linter.unusedVariables false
set_option linter.unusedSimpArgs false
theorem cmn_len (a b : List ByteArray) (i j : Nat) : (cmn a b i j).length = lcd a b i j := by
 by_cases h : i < a.length ∧ j < b.length
 ·rw [lcd_step h.1 h.2]
  by_cases e : nthS a i = nthS b j
  ·rw [cmn_eq h.1 h.2 e,if_pos e,List.length_cons,cmn_len a b (i + 1) (j + 1)]
  ·rw [if_neg e]
   by_cases g : lcd a b (i + 1) j ≥ lcd a b i (j + 1)
   ·rw [cmn_i h.1 h.2 e g,cmn_len a b (i + 1) j]
    omega
   ·rw [cmn_j h.1 h.2 e g,cmn_len a b i (j + 1)]
    omega
 ·rw [cmn_end h,lcd_end (by omega)]
  rfl
termination_by (a.length - i) + (b.length - j)
theorem cmn_lcs (a b : List ByteArray) : (cmn a b 0 0).length = lcs a b := by
 rw [cmn_len]
 rfl
theorem lcs_comm (a b : List ByteArray) : lcs a b = lcs b a := by
 match a,b with
 | [],b => rw [lcs_nil,lcs_nil']
 | x :: xs,[] => rw [lcs_nil,lcs_nil']
 | x :: xs,y :: ys =>
  rw [lcs_cons,lcs_cons,lcs_comm xs ys,lcs_comm xs (y :: ys),lcs_comm (x :: xs) ys]
  by_cases e : x = y
  ·rw [if_pos e,if_pos e.symm]
  ·rw [if_neg e,if_neg (fun h => e h.symm),Nat.max_comm]
termination_by a.length + b.length
theorem lcs_sub (a m : List ByteArray) (h : a.Sublist m) : lcs a m = a.length := by
 match a,m,h with
 | [],m,_ => rw [lcs_nil]; rfl
 | x :: xs,[],h => cases h
 | x :: xs,y :: ys,h =>
  rw [lcs_cons]
  by_cases e : x = y
  ·subst e
   rw [if_pos rfl,lcs_sub xs ys (List.cons_sublist_cons.1 h)]
   rfl
  ·have h2 : (x :: xs).Sublist ys := by
    cases h with
    | cons _ h => exact h
    | cons_cons _ h => exact (e rfl).elim
   have := lcs_sub (x :: xs) ys h2
   have hl := (lcs_le xs (y :: ys)).1
   rw [if_neg e,this]
   simp only [List.length_cons] at hl ⊢
   omega
termination_by a.length + m.length
/-- A part of a row. -/
def seg (l : List ByteArray) (i j : Nat) : List ByteArray := (l.take j).drop i
/-- Where the hunks lie in both rows. -/
structure Qd where
 i : Nat
 x : Nat
 j : Nat
 y : Nat
def Qd.hk (a b : List ByteArray) (q : Qd) : Hk := ⟨q.i,seg a q.i q.x,seg b q.j q.y⟩
/-- Hunks from two places on: what lies between is the same; none touches the one ahead of it. -/
def Chain (a b : List ByteArray) : Nat → Nat → List Qd → Prop
 | i0,j0,[] => i0 ≤ a.length ∧ j0 ≤ b.length ∧ a.drop i0 = b.drop j0
 | i0,j0,q :: r => ((i0 ≤ q.i ∧ j0 ≤ q.j ∧ q.i ≤ q.x ∧ q.j ≤ q.y ∧ q.x ≤ a.length ∧ q.y ≤ b.length) ∧ 0 < (q.x - q.i) + (q.y - q.j)) ∧ seg a i0 q.i = seg b j0 q.j ∧ (∀ q',r.head? = some q' → q.x < q'.i) ∧ Chain a b q.x q.y r
theorem Chain.drop {a b : List ByteArray} : ∀ {l : List Qd} {i0 j0 : Nat} (k : Nat),Chain a b i0 j0 l → k ≤ l.length → ∃ i1 j1,Chain a b i1 j1 (l.drop k) ∧ (∀ q,0 < k → l[k - 1]? = some q → i1 = q.x ∧ j1 = q.y) ∧ (k = 0 → i1 = i0 ∧ j1 = j0)
 | l,i0,j0,0,h,_ => ⟨i0,j0,h,fun q hq => absurd hq (by omega),fun _ => ⟨rfl,rfl⟩⟩
 | [],_,_,k + 1,_,hk => by simp at hk
 | q :: r,i0,j0,k + 1,h,hk => by
  obtain ⟨i1,j1,h1,h2,h3⟩ := Chain.drop (l := r) k h.2.2.2 (by simpa using hk)
  refine ⟨i1,j1,h1,fun q' _ hq => ?_,fun e => absurd e (by omega)⟩
  cases k with
  | zero =>
   simp at hq
   subst hq
   exact h3 rfl
  | succ k => exact h2 q' (by omega) (by simpa using hq)
end Go.Proofs.YtigmpablpmanpaaDoor
