/- A hunk that was lent: kept, written over. -/
import Derived.Test.YtddhdlfafaobhaaS35
namespace Go.Proofs.Ytddhdlfafaobhaa
open Go.RowKit
set_option maxRecDepth 100000
set_option linter.unusedVariables false
set_option linter.unusedSimpArgs false

/-- What a lent list of texts is once it was written over. -/
abbrev ovrB (l : List ByteArray) : Option ABlk := some ⟨1, strs ((List.range (l.length + 12)).map fun i : Nat => markT 2 (i : Int)), true, 9⟩
theorem lent_view {H : AHeap} {l : List ByteArray} {id : Nat} (hf : AHeap.find H id = lentB l) : View H (lentV l id) (.lst 1 (strs l) none) := by
  refine .vec hf rfl (by simp [strs_length]) ?_
  have : List.take l.length (List.drop 0 (strs (l ++ mks 12))) = strs l := by
    rw [List.drop_zero, strs_append, List.take_append_of_le_length (by rw [strs_length]; exact Nat.le_refl _), List.take_of_length_le (by rw [strs_length]; exact Nat.le_refl _)]
  rw [this]
  exact ViewL.scs
theorem keptHunk_d (h : Hk) (ro rn : Option (List AV)) (H : AHeap) (i j : Nat) (hi : AHeap.find H i = lentB h.old) (hj : AHeap.find H j = lentB h.new) (ho : h.old.length ≤ 1000000) (hn : h.new.length ≤ 1000000) :
    D Try.prog 50 [.agg [.sc (.int .i64 h.at_), lentV h.old i, lentV h.new j], hkr h ro rn] H (.ret (.sc (.bool true))) H := by
  have li := AHeap.find_lt hi
  have lj := AHeap.find_lt hj
  have up : ∀ {i : Nat} {a b : Option ABlk}, i < H.length → AHeap.find (a :: b :: H) i = AHeap.find H i := fun h => by
    rw [AHeap.find_cons (by simp; omega), AHeap.find_cons h]
  have hsame : sameH h h = true := by simp [sameH]
  refine D_of_DK (by simp) (dk50 (E_of_ES ?_))
  simp -implicitDefEqProofs (maxSteps := 99999999) (disch := first | omega | (simp only [AHeap.set_length, killO_length, List.length_cons]; first | done | omega)) only [ic50, va, vs, vw, Nat.reduceMul, ite_true, ite_false, eq_self, forall_const, implies_true, Nat.reduceAdd, Nat.reduceSub, Nat.reduceLT, Nat.reduceLeDiff, ↓reduceIte, reduceCtorEq, Int.reduceEq, Int.reduceLT, Int.reduceLE, Int.reduceGT, Int.reduceGE, Int.reduceAdd, Int.reduceSub, Int.reduceNeg, Int.reduceToNat, Nat.reduceBEq, Nat.reduceEqDiff]
  refine callR_ret (D_view (v := .sc (.bool (sameH h h))) (args' := [hk h, hk h]) (.cons (.agg (.cons .sc (.cons (lent_view ((up li).trans hi)) (.cons (lent_view ((up lj).trans hj)) .nil)))) (.cons (.agg (.cons .sc (.cons (.lst ViewL.scs) (.cons (.lst ViewL.scs) .nil)))) .nil)) .sc (sameHunk_d h h none none none none [] ⟨by omega, by omega⟩)) ?_
  rw [hsame]
  simp -implicitDefEqProofs (maxSteps := 99999999) (disch := first | omega | (simp only [AHeap.set_length, killO_length, List.length_cons]; first | done | omega)) only [va, vs, vw, Nat.reduceMul, ite_true, ite_false, eq_self, forall_const, implies_true, Nat.reduceAdd, Nat.reduceSub, Nat.reduceLT, Nat.reduceLeDiff, ↓reduceIte, reduceCtorEq, Int.reduceEq, Int.reduceLT, Int.reduceLE, Int.reduceGT, Int.reduceGE, Int.reduceAdd, Int.reduceSub, Int.reduceNeg, Int.reduceToNat, Nat.reduceBEq, Nat.reduceEqDiff]
  refine callR_ret (keptTexts_d h.old _ _ i _ ((up li).trans hi) ho) ?_
  simp -implicitDefEqProofs (maxSteps := 99999999) (disch := first | omega | (simp only [AHeap.set_length, killO_length, List.length_cons]; first | done | omega)) only [va, vs, vw, Nat.reduceMul, ite_true, ite_false, eq_self, forall_const, implies_true, Nat.reduceAdd, Nat.reduceSub, Nat.reduceLT, Nat.reduceLeDiff, ↓reduceIte, reduceCtorEq, Int.reduceEq, Int.reduceLT, Int.reduceLE, Int.reduceGT, Int.reduceGE, Int.reduceAdd, Int.reduceSub, Int.reduceNeg, Int.reduceToNat, Nat.reduceBEq, Nat.reduceEqDiff]
  refine callR_ret (keptTexts_d h.new _ _ j _ ((up lj).trans hj) hn) ?_
  simp -implicitDefEqProofs (maxSteps := 99999999) (disch := first | omega | (simp only [AHeap.set_length, killO_length, List.length_cons]; first | done | omega)) only [va, vs, vw, Nat.reduceMul, ite_true, ite_false, eq_self, forall_const, implies_true, Nat.reduceAdd, Nat.reduceSub, Nat.reduceLT, Nat.reduceLeDiff, ↓reduceIte, reduceCtorEq, Int.reduceEq, Int.reduceLT, Int.reduceLE, Int.reduceGT, Int.reduceGE, Int.reduceAdd, Int.reduceSub, Int.reduceNeg, Int.reduceToNat, Nat.reduceBEq, Nat.reduceEqDiff]
  exact weak_sc (.cons (.cons .refl))
theorem overHunk_d (h : Hk) (H : AHeap) (i j : Nat) (hi : AHeap.find H i = lentB h.old) (hj : AHeap.find H j = lentB h.new) (hne : i ≠ j) (ho : h.old.length ≤ 1000000) (hn : h.new.length ≤ 1000000) :
    D Try.prog 51 [.agg [.sc (.int .i64 h.at_), lentV h.old i, lentV h.new j]] H (.ret (.tup [])) (AHeap.set (AHeap.set H i (ovrB h.old)) j (ovrB h.new)) := by
  have li := AHeap.find_lt hi
  have lj := AHeap.find_lt hj
  refine D_of_DK (by simp [AHeap.set_length]) (dk51 (E_of_ES ?_))
  simp -implicitDefEqProofs (maxSteps := 99999999) (disch := first | omega | (simp only [AHeap.set_length, killO_length, List.length_cons]; first | done | omega)) only [ic51, va, vs, vw, Nat.reduceMul, ite_true, ite_false, eq_self, forall_const, implies_true, Nat.reduceAdd, Nat.reduceSub, Nat.reduceLT, Nat.reduceLeDiff, ↓reduceIte, reduceCtorEq, Int.reduceEq, Int.reduceLT, Int.reduceLE, Int.reduceGT, Int.reduceGE, Int.reduceAdd, Int.reduceSub, Int.reduceNeg, Int.reduceToNat, Nat.reduceBEq, Nat.reduceEqDiff]
  refine callR_ret (overTexts_d h.old _ i _ ((AHeap.find_cons li).trans hi) ho) ?_
  simp -implicitDefEqProofs (maxSteps := 99999999) (disch := first | omega | (simp only [AHeap.set_length, killO_length, List.length_cons]; first | done | omega)) only [set_past li, va, vs, vw, Nat.reduceMul, ite_true, ite_false, eq_self, forall_const, implies_true, Nat.reduceAdd, Nat.reduceSub, Nat.reduceLT, Nat.reduceLeDiff, ↓reduceIte, reduceCtorEq, Int.reduceEq, Int.reduceLT, Int.reduceLE, Int.reduceGT, Int.reduceGE, Int.reduceAdd, Int.reduceSub, Int.reduceNeg, Int.reduceToNat, Nat.reduceBEq, Nat.reduceEqDiff]
  refine callR_ret (overTexts_d h.new _ j _ (((AHeap.find_cons (by rw [AHeap.set_length]; exact lj)).trans (AHeap.find_set_ne hne.symm)).trans hj) hn) ?_
  simp -implicitDefEqProofs (maxSteps := 99999999) (disch := first | omega | (simp only [AHeap.set_length, killO_length, List.length_cons]; first | done | omega)) only [va, vs, vw, Nat.reduceMul, ite_true, ite_false, eq_self, forall_const, implies_true, Nat.reduceAdd, Nat.reduceSub, Nat.reduceLT, Nat.reduceLeDiff, ↓reduceIte, reduceCtorEq, Int.reduceEq, Int.reduceLT, Int.reduceLE, Int.reduceGT, Int.reduceGE, Int.reduceAdd, Int.reduceSub, Int.reduceNeg, Int.reduceToNat, Nat.reduceBEq, Nat.reduceEqDiff]
  refine weak_gen [] (by simp [AHeap.set_length]) (by simp) (by simp) (fun id k hid hk => ?_) (fun i s k hs => by simp at hs) (.same trivial)
  have hi2 : id < (AHeap.set H i (ovrB h.old)).length := by rw [AHeap.set_length]; exact hid
  have hi3 : id < (AHeap.set (AHeap.set H i (ovrB h.old)) j (ovrB h.new)).length := by rw [AHeap.set_length]; exact hi2
  by_cases ej : id = j
  · subst ej
    rw [AHeap.find_set_same hi2] at hk
    cases hk
    exact .inr ⟨_, (AHeap.find_cons hi3).trans (AHeap.find_set_same hi2), rfl, rfl, fun h => h, strs_gz⟩
  · rw [AHeap.find_set_ne ej] at hk
    by_cases ei : id = i
    · subst ei
      rw [AHeap.find_set_same hid] at hk
      cases hk
      exact .inr ⟨_, (AHeap.find_cons hi3).trans ((AHeap.find_set_ne ej).trans (AHeap.find_set_same hid)), rfl, rfl, fun h => h, strs_gz⟩
    · rw [AHeap.find_set_ne ei] at hk
      exact .inl ⟨hk, (AHeap.find_cons hi3).trans ((AHeap.find_set_ne ej).trans ((AHeap.find_set_ne ei).trans hk))⟩
end Go.Proofs.Ytddhdlfafaobhaa
