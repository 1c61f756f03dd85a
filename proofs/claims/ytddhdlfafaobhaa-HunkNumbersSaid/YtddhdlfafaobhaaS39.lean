/- Copies of texts. -/
import Derived.Test.YtddhdlfafaobhaaS34
namespace Go.Proofs.Ytddhdlfafaobhaa
open Go.RowKit
set_option maxRecDepth 100000
set_option linter.unusedVariables false
set_option linter.unusedSimpArgs false

theorem copyTexts_o (l : List ByteArray) (ro : Option (List AV)) (H : AHeap) (hl : l.length ≤ 1000000) : D Try.prog 32 [.lst 1 (strs l) ro] H (.ret (OutV l H.length)) (OutB l :: H) := by
  refine D_of_DK (by simp) (dk32 (E_of_ES ?_))
  cases l with
  | nil =>
    simp -implicitDefEqProofs (maxSteps := 99999999) (disch := omega) only [ic32, va, vs, vh, Nat.reduceMul, ite_true, ite_false, eq_self, forall_const, implies_true, Nat.reduceAdd, Nat.reduceSub, Nat.reduceLT, Nat.reduceLeDiff, ↓reduceIte, reduceCtorEq, Int.reduceEq, Int.reduceLT, Int.reduceLE, Int.reduceGT, Int.reduceGE, Int.reduceAdd, Int.reduceSub, Int.reduceNeg, Int.reduceToNat, Nat.reduceBEq, Nat.reduceEqDiff]
    refine weak_gen [H.length] (by simp) (by simp) (by simp) (fun id k hid hk => .inl ?_) (fun i s k hs hk => ?_) (.same ⟨trivial, trivial⟩)
    · rw [find_past (by omega)] at hk
      exact ⟨hk, hk⟩
    · rcases i with _ | i
      · rw [Nat.add_zero, find_top rfl] at hk
        simp [OutB, OwnB, strs] at hk
      · simp at hs
  | cons s r =>
    simp -implicitDefEqProofs (maxSteps := 99999999) (disch := omega) only [ic32, strs_cons, va, vs, vh, Nat.reduceMul, ite_true, ite_false, eq_self, forall_const, implies_true, Nat.reduceAdd, Nat.reduceSub, Nat.reduceLT, Nat.reduceLeDiff, ↓reduceIte, reduceCtorEq, Int.reduceEq, Int.reduceLT, Int.reduceLE, Int.reduceGT, Int.reduceGE, Int.reduceAdd, Int.reduceSub, Int.reduceNeg, Int.reduceToNat, Nat.reduceBEq, Nat.reduceEqDiff]
    simp only [List.length_cons] at hl
    refine ⟨by omega, ?_⟩
    have e1 : OutV (s :: r) H.length = .vec 1 H.length 0 (r.length + 1) none := by simp [OutV, OwnV, strs]
    rw [e1]
    exact Weak.refl _ _ _
end Go.Proofs.Ytddhdlfafaobhaa
