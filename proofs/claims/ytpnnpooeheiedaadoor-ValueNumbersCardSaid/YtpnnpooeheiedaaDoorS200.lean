/- Numbers of 64 bits: the ring's laws, plain. -/
import Derived.Test.YtpnnpooeheiedaaDoorS199
namespace Go.Proofs.YtpnnpooeheiedaaDoor
open Go.RowKit
set_option linter.unusedVariables false
theorem wrap_bmod (n : Int) : IntKind.i64.wrap n = n.bmod 18446744073709551616 := by
 simp only [IntKind.wrap,show IntKind.i64.bits = 64 from rfl,show IntKind.i64.signed = true from rfl,Bool.true_and,decide_eq_true_eq,Int.bmod]
 split <;> split <;> omega
theorem wrap_I64 (n : Int) : I64 (IntKind.i64.wrap n) := by
 rw [wrap_bmod]
 unfold I64 Int.bmod
 dsimp only
 split <;> omega
theorem wrap_in {n : Int} (h : I64 n) : IntKind.i64.wrap n = n := by
 rw [wrap_bmod]
 unfold I64 at h
 exact Int.bmod_eq_of_le (by omega) (by omega)
end Go.Proofs.YtpnnpooeheiedaaDoor
