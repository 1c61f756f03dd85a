/- law11.ValueRing: the walk (under way). -/
import Derived.Test.YtpnnpooeheiedaaDoorS201
namespace Go.Proofs.YtpnnpooeheiedaaDoor
open Go.RowKit
set_option maxRecDepth 100000
set_option linter.unusedVariables false
set_option linter.unusedSimpArgs false
theorem tmod_facts (x y : Int) (hy : ¬ y = 0) : (x < 0 → x.tmod y ≤ 0) ∧ (0 ≤ x → 0 ≤ x.tmod y) ∧ (x.tmod y).natAbs < y.natAbs ∧ x.tdiv y * y + x.tmod y = x := by
 refine ⟨fun h => ?_,fun h => Int.tmod_nonneg y h,?_,?_⟩
 ·have := Int.tmod_nonneg y (a := -x) (by omega)
  rw [Int.neg_tmod] at this
  omega
 ·rw [Int.natAbs_tmod]
  exact Nat.mod_lt _ (by omega)
 ·rw [Int.mul_comm]
  exact Int.mul_tdiv_add_tmod x y
end Go.Proofs.YtpnnpooeheiedaaDoor
