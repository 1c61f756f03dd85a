/- What is read of rows of numbers. -/
import Derived.Test.YtijnpkpcoeeioaaS14
import Derived.Test.YtijnpkpcoeeioaaS70
namespace Go.Proofs.Ytijnpkpcoeeioaa
open Go.RowKit
set_option linter.unusedVariables false
set_option linter.unusedSimpArgs false
section
variable {Hh : Type} {enc : TypeId × Value → Hh} {w : World} {n : Nat}
theorem rd_nums : Rdr enc Try.prog w n 22 (fun l : List Int => .lst 1 (nums l) none) (fun l d => True) := by
  cases n with
  | zero => exact Rdr.zero
  | succ n => exact (Rdr.slice Try.underlying22 (k := 1) (by kernel_rfl) (by decide) (fun _ => rfl) rd_int).map id fun a d h => ⟨rfl, trivial⟩
end
end Go.Proofs.Ytijnpkpcoeeioaa
