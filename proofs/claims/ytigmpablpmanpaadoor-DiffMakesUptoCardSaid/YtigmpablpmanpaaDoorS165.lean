/- What is read of rows of numbers, and how much that is. -/
import Derived.Test.YtigmpablpmanpaaDoorS14
import Derived.Test.YtigmpablpmanpaaDoorS163
namespace Go.Proofs.YtigmpablpmanpaaDoor
open Go.RowKit
set_option linter.unusedVariables false
set_option linter.unusedSimpArgs false
section
variable {Hh : Type} {enc : TypeId × Value → Hh} {w : World} {n : Nat}
theorem rd_int1 : Rdr enc Tryd.prog w n 3 (fun i : Int => .sc (.int .i64 i)) (fun i d => 1 ≤ Rows.uptoBulk d) :=
 (Rdr.int Tryd.underlying3).map id fun a d h => ⟨rfl,by
  rw [h.1]
  simp [Rows.uptoBulk]⟩
theorem rd_intsA : Rdr enc Tryd.prog w n 37 (fun l : List Int => .lst 1 (intsA l) none) (fun l d => l.length ≤ Rows.uptoBulk d) := by
 cases n with
 | zero => exact Rdr.zero
 | succ n =>
  refine (Rdr.slice Tryd.underlying37 (k := 1) (by kernel_rfl) (by decide) (fun _ => rfl) rd_int1).map id fun a d h => ⟨rfl,?_⟩
  rcases h with ⟨rfl,rfl⟩ | ⟨ds,r,rfl,h⟩
  ·exact Nat.zero_le _
  ·have := all2_bulk (sz := List.length) (one := fun _ => 1) rfl (fun _ r => by simp; omega) (fun _ _ h => h) h
   simp only [Rows.uptoBulk,id]
   omega
end
end Go.Proofs.YtigmpablpmanpaaDoor
