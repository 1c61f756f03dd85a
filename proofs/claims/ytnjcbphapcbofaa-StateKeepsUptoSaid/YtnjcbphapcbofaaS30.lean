/- Marks; lists of texts that are lent. -/
import Derived.Test.YtnjcbphapcbofaaSA
import Derived.Test.YtnjcbphapcbofaaIc4
import Derived.Test.YtnjcbphapcbofaaV30
namespace Go.Proofs.Ytnjcbphapcbofaa
open Go.RowKit
set_option maxRecDepth 100000
set_option linter.unusedVariables false
set_option linter.unusedSimpArgs false

/-- A text that marks a place. -/
def markT (k i : Int) : ByteArray := bytesV [.sc (.int .u8 35), .sc (.int .u8 (IntKind.u8.wrap k)), .sc (.int .u8 (IntKind.u8.wrap (k.fdiv (2 ^ min 8 IntKind.i64.bits)))), .sc (.int .u8 (IntKind.u8.wrap (k.fdiv (2 ^ min 16 IntKind.i64.bits)))),
  .sc (.int .u8 47), .sc (.int .u8 (IntKind.u8.wrap i)), .sc (.int .u8 (IntKind.u8.wrap (i.fdiv (2 ^ min 8 IntKind.i64.bits)))), .sc (.int .u8 (IntKind.u8.wrap (i.fdiv (2 ^ min 16 IntKind.i64.bits))))]
theorem markText_d (k i : Int) (H : AHeap) : D Try.prog 28 [.sc (.int .i64 k), .sc (.int .i64 i)] H (.ret (.sc (.string (markT k i)))) H := by
  refine D_of_DK (Nat.le_refl _) (dk28 (E_of_ES ?_))
  simp -implicitDefEqProofs (maxSteps := 99999999) (disch := omega) only [ic28, va, vg, vs, vh, Nat.reduceMul, ite_true, ite_false, eq_self, forall_const, implies_true, Nat.reduceAdd, Nat.reduceSub, Nat.reduceLT, Nat.reduceLeDiff, ↓reduceIte, reduceCtorEq, Int.reduceEq, Int.reduceLT, Int.reduceLE, Int.reduceGT, Int.reduceGE, Int.reduceAdd, Int.reduceSub, Int.reduceNeg, Int.reduceToNat, Nat.reduceBEq, Nat.reduceEqDiff]
  exact weak_sc .refl

/-- The marks behind a list's end. -/
def mks (j : Nat) : List ByteArray := (List.range j).map fun i : Nat => markT 1 (i : Int)
theorem mks_length {j : Nat} : (mks j).length = j := by simp [mks]
theorem mks_succ {j : Nat} : mks (j + 1) = mks j ++ [markT 1 j] := by simp [mks, List.range_succ]
/-- A lent list's cells, j marks behind it. -/
def lentE (l : List ByteArray) (j : Nat) : List AV := strs (l ++ mks j) ++ List.replicate (12 - j) (.sc (.string ⟨#[]⟩))
theorem lentE_length {l : List ByteArray} {j : Nat} (h : j ≤ 12) : (lentE l j).length = l.length + 12 := by
  simp [lentE, strs_length, mks_length]; omega
theorem lentE_start {l : List ByteArray} : strs l ++ List.drop l.length (List.replicate (l.length + 12) (.sc (.string ⟨#[]⟩))) = lentE l 0 := by
  simp [lentE, mks]
theorem lentE_app {l : List ByteArray} {j : Nat} (h : j < 12) : (lentE l j).take (l.length + j) ++ (.sc (.string (markT 1 j)) :: (lentE l j).drop (l.length + (j + 1))) = lentE l (j + 1) := by
  have h1 : (strs (l ++ mks j)).length = l.length + j := by simp [strs_length, mks_length]
  unfold lentE
  rw [List.take_append_of_le_length (by omega), List.take_of_length_le (by omega), List.drop_append, List.drop_of_length_le (by omega), h1, mks_succ, ← List.append_assoc, strs_append]
  rw [show l.length + (j + 1) - (l.length + j) = 1 from by omega, List.drop_replicate, show 12 - j - 1 = 12 - (j + 1) from by omega]
  simp [strs]

end Go.Proofs.Ytnjcbphapcbofaa
