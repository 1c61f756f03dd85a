/- A hunk that was lent: kept, written over. -/
import Derived.Test.YtijnpkpcoeeioaaGreatS35
namespace Go.Proofs.YtijnpkpcoeeioaaGreat
open Go.RowKit
set_option maxRecDepth 100000
set_option linter.unusedVariables false
set_option linter.unusedSimpArgs false

/-- What a lent list of texts is once it was written over. -/
abbrev ovrB (l : List ByteArray) : Option ABlk := some ⟨1, strs ((List.range (l.length + 12)).map fun i : Nat => markT 2 (i : Int)), true, 9⟩
theorem lent_view {H : AHeap} {l : List ByteArray} {id : Nat} (hf : AHeap.find H id = lentB l) : View H (lentV l id) (.lst 1 (strs l) none) := by
  refine .vec hf rfl (by simp [strs_length]) ?_
  have : List.take l.length (List.drop 0 (strs (l ++ mks 12))) = strs l := by
    rw [List.drop_zero, strs_append, List.take_append_of_le_length (by rw [strs_length]; exact Nat.le_refl _), List.take_of_length_le (by rw [strs_length]; exact Nat.le_refl _)]
  rw [this]
  exact ViewL.scs
theorem keptHunk_d (h : Hk) (ro rn : Option (List AV)) (H : AHeap) (i j : Nat) (hi : AHeap.find H i = lentB h.old) (hj : AHeap.find H j = lentB h.new) (ho : h.old.length ≤ 1000000) (hn : h.new.length ≤ 1000000) :
    D Tryz.prog 13 [.agg [.sc (.int .i64 h.at_), lentV h.old i, lentV h.new j], hkr h ro rn] H (.ret (.sc (.bool true))) H := by
  have li := AHeap.find_lt hi
  have lj := AHeap.find_lt hj
  have up : ∀ {i : Nat} {a b : Option ABlk}, i < H.length → AHeap.find (a :: b :: H) i = AHeap.find H i := fun h => by
    rw [AHeap.find_cons (by simp; omega), AHeap.find_cons h]
  have hsame : sameH h h = true := by simp [sameH]
  refine D_of_DK (by simp) (dk13 (E_of_ES ?_))
  simp -implicitDefEqProofs (maxSteps := 99999999) (disch := first | omega | (simp only [AHeap.set_length, killO_length, List.length_cons]; first | done | omega)) only [ic13, va, vs, vw, Nat.reduceMul, ite_true, ite_false, eq_self, forall_const, implies_true, Nat.reduceAdd, Nat.reduceSub, Nat.reduceLT, Nat.reduceLeDiff, ↓reduceIte, reduceCtorEq, Int.reduceEq, Int.reduceLT, Int.reduceLE, Int.reduceGT, Int.reduceGE, Int.reduceAdd, Int.reduceSub, Int.reduceNeg, Int.reduceToNat, Nat.reduceBEq, Nat.reduceEqDiff]
  refine callR_ret (D_view (v := .sc (.bool (sameH h h))) (args' := [hk h, hk h]) (.cons (.agg (.cons .sc (.cons (lent_view ((up li).trans hi)) (.cons (lent_view ((up lj).trans hj)) .nil)))) (.cons (.agg (.cons .sc (.cons (.lst ViewL.scs) (.cons (.lst ViewL.scs) .nil)))) .nil)) .sc (sameHunk_d h h none none none none [] ⟨by omega, by omega⟩)) ?_
  rw [hsame]
  simp -implicitDefEqProofs (maxSteps := 99999999) (disch := first | omega | (simp only [AHeap.set_length, killO_length, List.length_cons]; first | done | omega)) only [va, vs, vw, Nat.reduceMul, ite_true, ite_false, eq_self, forall_const, implies_true, Nat.reduceAdd, Nat.reduceSub, Nat.reduceLT, Nat.reduceLeDiff, ↓reduceIte, reduceCtorEq, Int.reduceEq, Int.reduceLT, Int.reduceLE, Int.reduceGT, Int.reduceGE, Int.reduceAdd, Int.reduceSub, Int.reduceNeg, Int.reduceToNat, Nat.reduceBEq, Nat.reduceEqDiff]
  refine callR_ret (keptTexts_d h.old _ _ i _ ((up li).trans hi) ho) ?_
  simp -implicitDefEqProofs (maxSteps := 99999999) (disch := first | omega | (simp only [AHeap.set_length, killO_length, List.length_cons]; first | done | omega)) only [va, vs, vw, Nat.reduceMul, ite_true, ite_false, eq_self, forall_const, implies_true, Nat.reduceAdd, Nat.reduceSub, Nat.reduceLT, Nat.reduceLeDiff, ↓reduceIte, reduceCtorEq, Int.reduceEq, Int.reduceLT, Int.reduceLE, Int.reduceGT, Int.reduceGE, Int.reduceAdd, Int.reduceSub, Int.reduceNeg, Int.reduceToNat, Nat.reduceBEq, Nat.reduceEqDiff]
  refine callR_ret (keptTexts_d h.new _ _ j _ ((up lj).trans hj) hn) ?_
  simp -implicitDefEqProofs (maxSteps := 99999999) (disch := first | omega | (simp only [AHeap.set_length, killO_length, List.length_cons]; first | done | omega)) only [va, vs, vw, Nat.reduceMul, ite_true, ite_false, eq_self, forall_const, implies_true, Nat.reduceAdd, Nat.reduceSub, Nat.reduceLT, Nat.reduceLeDiff, ↓reduceIte, reduceCtorEq, Int.reduceEq, Int.reduceLT, Int.reduceLE, Int.reduceGT, Int.reduceGE, Int.reduceAdd, Int.reduceSub, Int.reduceNeg, Int.reduceToNat, Nat.reduceBEq, Nat.reduceEqDiff]
  exact weak_sc (.cons (.cons .refl))
end Go.Proofs.YtijnpkpcoeeioaaGreat
