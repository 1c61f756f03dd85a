/- What is read of texts and hunks, and how much that is. -/
import Derived.Test.YtigmpablpmanpaaDoorSA
import Derived.Test.YtigmpablpmanpaaDoorVC
import Derived.Test.YtigmpablpmanpaaDoorRows
namespace Go.Proofs.YtigmpablpmanpaaDoor
open Go.RowKit
set_option linter.unusedVariables false
set_option linter.unusedSimpArgs false
def szS : List ByteArray → Nat
 | [] => 0
 | s :: r => s.size + 1 + szS r
theorem szS_mem {l : List ByteArray} : l.length ≤ szS l ∧ ∀ s ∈ l,s.size ≤ szS l := by
 induction l with
 | nil => exact ⟨Nat.le_refl _,by simp⟩
 | cons x t ih =>
  simp only [szS,List.length_cons,List.mem_cons]
  refine ⟨by omega,fun s hs => ?_⟩
  rcases hs with rfl | hs
  ·omega
  ·have := ih.2 s hs; omega
theorem short_of_sz {l : List ByteArray} (h : szS l ≤ 2000000) : Short l :=
 ⟨by have := (szS_mem (l := l)).1; omega,fun s hs => by have := (szS_mem (l := l)).2 s hs; omega⟩
def Hk.sz (h : Hk) : Nat := szS h.old + szS h.new + 1
section
variable {Hh : Type} {enc : TypeId × Value → Hh} {w : World} {n : Nat}
theorem all2_bulk {α : Type} {p : α → DataW Hh → Prop} {sz : List α → Nat} {one : α → Nat} (h0 : sz [] = 0) (h1 : ∀ a r,sz (a :: r) = one a + sz r) (hp : ∀ a d,p a d → one a ≤ Rows.uptoBulk d) {l : List α} {ds : List (DataW Hh)} (h : All2 p l ds) : sz l ≤ Rows.uptoBulkAll ds := by
 induction h with
 | nil => rw [h0]; exact Nat.zero_le _
 | cons k _ ih =>
  have := hp _ _ k
  rw [h1]
  simp only [Rows.uptoBulkAll]
  omega
theorem rd_str : Rdr enc Tryd.prog w n 9 (fun s : ByteArray => .sc (.string s)) (fun s d => s.size + 1 ≤ Rows.uptoBulk d) :=
 (Rdr.str Tryd.underlying9).map id fun a d h => ⟨rfl,by
  subst h
  simp only [Rows.uptoBulk,Array.length_toList]
  exact Nat.le_refl _⟩
theorem rd_strs : Rdr enc Tryd.prog w n 22 (fun l : List ByteArray => .lst 1 (strs l) none) (fun l d => szS l ≤ Rows.uptoBulk d) := by
 cases n with
 | zero => exact Rdr.zero
 | succ n =>
  refine (Rdr.slice Tryd.underlying22 (k := 1) (by kernel_rfl) (by decide) (fun _ => rfl) rd_str).map id fun a d h => ⟨rfl,?_⟩
  rcases h with ⟨rfl,rfl⟩ | ⟨ds,r,rfl,h⟩
  ·exact Nat.zero_le _
  ·have := all2_bulk (sz := szS) (one := fun s => s.size + 1) rfl (fun _ _ => rfl) (fun _ _ h => h) h
   simp only [Rows.uptoBulk,id]
   omega
end
end Go.Proofs.YtigmpablpmanpaaDoor
