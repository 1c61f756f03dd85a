/- Numbers of 64 bits: the ring's laws, plain. -/
import Derived.Test.YtpnnpooeheiedaaDoorS199
namespace Go.Proofs.YtpnnpooeheiedaaDoor
open Go.RowKit
set_option linter.unusedVariables false
theorem wrap_bmod (n : Int) : IntKind.i64.wrap n = n.bmod 18446744073709551616 := by
 simp only [IntKind.wrap,show IntKind.i64.bits = 64 from rfl,show IntKind.i64.signed = true from rfl,Bool.true_and,decide_eq_true_eq,Int.bmod]
 split <;> split <;> omega
theorem wrap_I64 (n : Int) : I64 (IntKind.i64.wrap n) := by
 rw [wrap_bmod]
 unfold I64 Int.bmod
 dsimp only
 split <;> omega
theorem wrap_addL (a b : Int) : IntKind.i64.wrap (IntKind.i64.wrap a + b) = IntKind.i64.wrap (a + b) := by
 rw [wrap_bmod,wrap_bmod,wrap_bmod,Int.bmod_add_bmod]
theorem wrap_addR (a b : Int) : IntKind.i64.wrap (a + IntKind.i64.wrap b) = IntKind.i64.wrap (a + b) := by
 rw [Int.add_comm,wrap_addL,Int.add_comm]
theorem wrap_subL (a b : Int) : IntKind.i64.wrap (IntKind.i64.wrap a - b) = IntKind.i64.wrap (a - b) := by
 rw [Int.sub_eq_add_neg,wrap_addL,← Int.sub_eq_add_neg]
theorem wrap_mulL (a b : Int) : IntKind.i64.wrap (IntKind.i64.wrap a * b) = IntKind.i64.wrap (a * b) := by
 rw [wrap_bmod,wrap_bmod,wrap_bmod,Int.bmod_mul_bmod]
theorem wrap_mulR (a b : Int) : IntKind.i64.wrap (a * IntKind.i64.wrap b) = IntKind.i64.wrap (a * b) := by
 rw [Int.mul_comm,wrap_mulL,Int.mul_comm]
theorem wrap_in {n : Int} (h : I64 n) : IntKind.i64.wrap n = n := by
 rw [wrap_bmod]
 unfold I64 at h
 exact Int.bmod_eq_of_le (by omega) (by omega)
end Go.Proofs.YtpnnpooeheiedaaDoor
