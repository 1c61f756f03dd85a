/- DiffMakes' plain law: how many pairs there are; what lines that were put in change; the hunks make the other row. -/
import Derived.Test.YtigmpablpmanpaaDoorS153
namespace Go.Proofs.YtigmpablpmanpaaDoor
open Go.RowKit
set_option maxRecDepth 100000
set_option linter.unusedVariables false
set_option linter.unusedSimpArgs false
theorem cmn_len (a b : List ByteArray) (i j : Nat) : (cmn a b i j).length = lcd a b i j := by
 by_cases h : i < a.length ∧ j < b.length
 ·rw [lcd_step h.1 h.2]
  by_cases e : nthS a i = nthS b j
  ·rw [cmn_eq h.1 h.2 e,if_pos e,List.length_cons,cmn_len a b (i + 1) (j + 1)]
  ·rw [if_neg e]
   by_cases g : lcd a b (i + 1) j ≥ lcd a b i (j + 1)
   ·rw [cmn_i h.1 h.2 e g,cmn_len a b (i + 1) j]
    omega
   ·rw [cmn_j h.1 h.2 e g,cmn_len a b i (j + 1)]
    omega
 ·rw [cmn_end h,lcd_end (by omega)]
  rfl
termination_by (a.length - i) + (b.length - j)
theorem cmn_lcs (a b : List ByteArray) : (cmn a b 0 0).length = lcs a b := by
 rw [cmn_len]
 rfl
theorem lcs_comm (a b : List ByteArray) : lcs a b = lcs b a := by
 match a,b with
 | [],b => rw [lcs_nil,lcs_nil']
 | x :: xs,[] => rw [lcs_nil,lcs_nil']
 | x :: xs,y :: ys =>
  rw [lcs_cons,lcs_cons,lcs_comm xs ys,lcs_comm xs (y :: ys),lcs_comm (x :: xs) ys]
  by_cases e : x = y
  ·rw [if_pos e,if_pos e.symm]
  ·rw [if_neg e,if_neg (fun h => e h.symm),Nat.max_comm]
termination_by a.length + b.length
theorem lcs_sub (a m : List ByteArray) (h : a.Sublist m) : lcs a m = a.length := by
 match a,m,h with
 | [],m,_ => rw [lcs_nil]; rfl
 | x :: xs,[],h => cases h
 | x :: xs,y :: ys,h =>
  rw [lcs_cons]
  by_cases e : x = y
  ·subst e
   rw [if_pos rfl,lcs_sub xs ys (List.cons_sublist_cons.1 h)]
   rfl
  ·have h2 : (x :: xs).Sublist ys := by
    cases h with
    | cons _ h => exact h
    | cons_cons _ h => exact (e rfl).elim
   have := lcs_sub (x :: xs) ys h2
   have hl := (lcs_le xs (y :: ys)).1
   rw [if_neg e,this]
   simp only [List.length_cons] at hl ⊢
   omega
termination_by a.length + m.length
theorem put_sub {m : List ByteArray} {k : Nat} {s : ByteArray} : m.Sublist (m.take k ++ s :: m.drop k) := by
 have h1 : (m.drop k).Sublist (s :: m.drop k) := List.sublist_cons_self _ _
 have h2 := h1.append_left (m.take k)
 rwa [List.take_append_drop] at h2
/-- A row and itself. -/
theorem bet_self (a : List ByteArray) (i : Nat) (hi : i ≤ a.length) : bet a a i i (cmn a a i i ++ [(a.length,a.length)]) = [] := by
 by_cases h : i < a.length
 ·rw [cmn_eq h h rfl,List.cons_append]
  simp only [bet,Nat.sub_self,Nat.add_zero,if_true]
  exact bet_self a (i + 1) h
 ·have : i = a.length := by omega
  subst this
  rw [cmn_end (by omega)]
  simp [bet]
termination_by a.length - i
theorem difH_self (a : List ByteArray) : difH a a = [] := bet_self a 0 (Nat.zero_le _)
/-- A part of a row. -/
def seg (l : List ByteArray) (i j : Nat) : List ByteArray := (l.take j).drop i
theorem seg_len {l : List ByteArray} {i j : Nat} (h : j ≤ l.length) : (seg l i j).length = j - i := by
 simp only [seg,List.length_drop,List.length_take]
 omega
theorem seg_self (l : List ByteArray) (i : Nat) : seg l i i = [] := by
 apply List.eq_nil_of_length_eq_zero
 simp only [seg,List.length_drop,List.length_take]
 omega
theorem seg_succ {l : List ByteArray} {i j : Nat} (hi : i ≤ j) (hj : j < l.length) : seg l i (j + 1) = seg l i j ++ [nthS l j] := by
 unfold seg
 rw [List.take_add_one,List.getElem?_eq_getElem hj,List.drop_append_of_le_length (by rw [List.length_take]; omega),nthS_eq hj]
 rfl
theorem take_seg {l : List ByteArray} {i j : Nat} (h : i ≤ j) : l.take j = l.take i ++ seg l i j := by
 unfold seg
 have h1 := List.take_append_drop i (l.take j)
 rw [List.take_take,Nat.min_eq_left h] at h1
 exact h1.symm
theorem drop_seg {l : List ByteArray} {i j : Nat} (h : i ≤ j) : l.drop i = seg l i j ++ l.drop j := by
 unfold seg
 by_cases hj : j ≤ l.length
 ·have h1 : l.drop i = ((l.take j) ++ l.drop j).drop i := by rw [List.take_append_drop]
  rw [h1,List.drop_append_of_le_length (by rw [List.length_take]; omega)]
 ·rw [List.take_of_length_le (by omega),List.drop_of_length_le (by omega : l.length ≤ j),List.append_nil]
/-- Where the hunks lie in both rows. -/
structure Qd where
 i : Nat
 x : Nat
 j : Nat
 y : Nat
def bq : Nat → Nat → List (Nat × Nat) → List Qd
 | _,_,[] => []
 | i,j,(x,y) :: r => if (x - i) + (y - j) = 0 then bq (x + 1) (y + 1) r else ⟨i,x,j,y⟩ :: bq (x + 1) (y + 1) r
def Qd.hk (a b : List ByteArray) (q : Qd) : Hk := ⟨q.i,seg a q.i q.x,seg b q.j q.y⟩
theorem bet_bq (a b : List ByteArray) : ∀ (l : List (Nat × Nat)) (i j : Nat),bet a b i j l = (bq i j l).map (Qd.hk a b)
 | [],_,_ => rfl
 | (x,y) :: r,i,j => by
  simp only [bet,bq]
  split
  ·exact bet_bq a b r _ _
  ·rw [List.map_cons,bet_bq a b r]
   rfl
/-- Hunks from two places on: what lies between is the same; none touches the one ahead of it. -/
def Chain (a b : List ByteArray) : Nat → Nat → List Qd → Prop
 | i0,j0,[] => i0 ≤ a.length ∧ j0 ≤ b.length ∧ a.drop i0 = b.drop j0
 | i0,j0,q :: r => ((i0 ≤ q.i ∧ j0 ≤ q.j ∧ q.i ≤ q.x ∧ q.j ≤ q.y ∧ q.x ≤ a.length ∧ q.y ≤ b.length) ∧ 0 < (q.x - q.i) + (q.y - q.j)) ∧ seg a i0 q.i = seg b j0 q.j ∧ (∀ q',r.head? = some q' → q.x < q'.i) ∧ Chain a b q.x q.y r
theorem bq_head : ∀ {l : List (Nat × Nat)} {n m i j : Nat},Rise n m i j l → ∀ q,(bq i j l).head? = some q → i ≤ q.i
 | [],_,_,_,_,_,q,h => by simp [bq] at h
 | (x,y) :: r,n,m,i,j,hr,q,h => by
  simp only [bq] at h
  split at h
  ·have := bq_head hr.2 q h
   have := hr.1.1
   omega
  ·simp at h
   subst h
   exact Nat.le_refl _
theorem chain_of (a b : List ByteArray) : ∀ (l : List (Nat × Nat)) (i0 j0 i j : Nat),Rise a.length b.length i j l → (∀ p ∈ l,nthS a p.1 = nthS b p.2 ∧ p.1 < a.length ∧ p.2 < b.length) → i0 ≤ i → j0 ≤ j → seg a i0 i = seg b j0 j → i ≤ a.length → j ≤ b.length →
  Chain a b i0 j0 (bq i j (l ++ [(a.length,b.length)]))
 | [],i0,j0,i,j,hr,hp,h1,h2,hs,h3,h4 => by
  simp only [List.nil_append,bq]
  split
  ·rename_i hz
   have e1 : i = a.length := by omega
   have e2 : j = b.length := by omega
   subst e1; subst e2
   refine ⟨h1,h2,?_⟩
   rw [drop_seg h1,drop_seg h2,hs]
   simp
  ·rename_i hz
   exact ⟨⟨⟨h1,h2,h3,h4,Nat.le_refl _,Nat.le_refl _⟩,by simp only; omega⟩,hs,fun q' h => by simp at h,Nat.le_refl _,Nat.le_refl _,by simp⟩
 | (x,y) :: r,i0,j0,i,j,hr,hp,h1,h2,hs,h3,h4 => by
  obtain ⟨e,hx,hy⟩ := hp (x,y) (by simp)
  simp only at e hx hy
  obtain ⟨⟨r1,r2⟩,r3⟩ := hr
  have hp' : ∀ p ∈ r,nthS a p.1 = nthS b p.2 ∧ p.1 < a.length ∧ p.2 < b.length := fun p h => hp p (by simp [h])
  simp only [List.cons_append,bq]
  split
  ·rename_i hz
   have e1 : i = x := by omega
   have e2 : j = y := by omega
   subst e1; subst e2
   exact chain_of a b r i0 j0 (i + 1) (j + 1) r3 hp' (by omega) (by omega) (by rw [seg_succ h1 hx,seg_succ h2 hy,hs,e]) (by omega) (by omega)
  ·rename_i hz
   refine ⟨⟨⟨h1,h2,r1,r2,by simp only; omega,by simp only; omega⟩,by simp only; omega⟩,hs,fun q' h => ?_,?_⟩
   ·have hq := bq_head (n := a.length + 1) (m := b.length + 1) (l := r ++ [(a.length,b.length)]) r3.app q' h
    simp only
    omega
   ·refine chain_of a b r x y (x + 1) (y + 1) r3 hp' (by omega) (by omega) ?_ (by omega) (by omega)
    rw [seg_succ (Nat.le_refl _) hx,seg_succ (Nat.le_refl _) hy,seg_self,seg_self,e]
def difQ (a b : List ByteArray) : List Qd := bq 0 0 (cmn a b 0 0 ++ [(a.length,b.length)])
theorem difH_Q (a b : List ByteArray) : difH a b = (difQ a b).map (Qd.hk a b) := bet_bq a b _ 0 0
theorem difQ_chain (a b : List ByteArray) : Chain a b 0 0 (difQ a b) := chain_of a b _ 0 0 0 0 (cmn_rise a b 0 0 (Nat.zero_le _) (Nat.zero_le _)) (cmn_same a b 0 0) (Nat.le_refl _) (Nat.le_refl _) (by rw [seg_self,seg_self]) (Nat.zero_le _) (Nat.zero_le _)
theorem difQ_len (a b : List ByteArray) : (difQ a b).length ≤ a.length + 1 := by
 have h1 := cmn_le a b 0 0 (Nat.zero_le _)
 have h2 := bet_le a b (cmn a b 0 0 ++ [(a.length,b.length)]) 0 0
 rw [List.length_append,List.length_singleton,bet_bq,List.length_map] at h2
 unfold difQ
 omega
theorem Chain.drop {a b : List ByteArray} : ∀ {l : List Qd} {i0 j0 : Nat} (k : Nat),Chain a b i0 j0 l → k ≤ l.length → ∃ i1 j1,Chain a b i1 j1 (l.drop k) ∧ (∀ q,0 < k → l[k - 1]? = some q → i1 = q.x ∧ j1 = q.y) ∧ (k = 0 → i1 = i0 ∧ j1 = j0)
 | l,i0,j0,0,h,_ => ⟨i0,j0,h,fun q hq => absurd hq (by omega),fun _ => ⟨rfl,rfl⟩⟩
 | [],_,_,k + 1,_,hk => by simp at hk
 | q :: r,i0,j0,k + 1,h,hk => by
  obtain ⟨i1,j1,h1,h2,h3⟩ := Chain.drop (l := r) k h.2.2.2 (by simpa using hk)
  refine ⟨i1,j1,h1,fun q' _ hq => ?_,fun e => absurd e (by omega)⟩
  cases k with
  | zero =>
   simp at hq
   subst hq
   exact h3 rfl
  | succ k => exact h2 q' (by omega) (by simpa using hq)
end Go.Proofs.YtigmpablpmanpaaDoor
