/- Values, as they come in: what is read of them, and how much that is. -/
import Derived.Test.YtpnnpooeheiedaaDoorS200
import Derived.Test.YtpnnpooeheiedaaDoorVC
import Derived.Test.YtpnnpooeheiedaaDoorRows
namespace Go.Proofs.YtpnnpooeheiedaaDoor
open Go.RowKit
set_option linter.unusedVariables false
set_option linter.unusedSimpArgs false
/-- A value whose numbers are numbers of 64 bits. -/
def Vl.good (v : Vl) : Prop := I64 v.num ∧ (0 ≤ v.kind ∧ v.kind ≤ 255) ∧ ∀ n ∈ v.row,I64 n
def szV : List Vl → Nat
 | [] => 0
 | v :: r => v.row.length + 1 + szV r
theorem szV_mem {l : List Vl} : l.length ≤ szV l ∧ ∀ s ∈ l,s.row.length ≤ szV l := by
 induction l with
 | nil => exact ⟨Nat.le_refl _,by simp⟩
 | cons x t ih =>
  simp only [szV,List.length_cons,List.mem_cons]
  refine ⟨by omega,fun s hs => ?_⟩
  rcases hs with rfl | hs
  ·omega
  ·have := ih.2 s hs; omega
section
variable {Hh : Type} {enc : TypeId × Value → Hh} {w : World} {n : Nat}
end
end Go.Proofs.YtpnnpooeheiedaaDoor
