/- The document's Sorted. -/
import Derived.Test.YtddhdlfafaobhaaS33
import Derived.Test.YtddhdlfafaobhaaSB
namespace Go.Proofs.Ytddhdlfafaobhaa
open Go.RowKit
set_option maxRecDepth 100000
set_option linter.unusedVariables false
set_option linter.unusedSimpArgs false

theorem sorted_r (l : List Hk) (ro : Option (List AV)) (H : AHeap) (hl : AllShort l) : D Try.prog 23 [.lst 3 (hks l) ro] H (.ret (.sc (.bool (sortedB 0 l)))) H := by
  have hlen := hl.1
  refine D_of_DK (Nat.le_refl _) (dk23 (E_of_ES ?_))
  simp only [ic23, ux]
  refine ES_seq_gen fun L hL => ?_
  simp -implicitDefEqProofs (maxSteps := 99999999) (disch := omega) only [va, vs, vh, Nat.reduceMul, ite_true, ite_false, eq_self, forall_const, implies_true, Nat.reduceAdd, Nat.reduceSub, Nat.reduceLT, Nat.reduceLeDiff, ↓reduceIte, reduceCtorEq, Int.reduceEq, Int.reduceLT, Int.reduceLE, Int.reduceGT, Int.reduceGE, Int.reduceAdd, Int.reduceSub, Int.reduceNeg, Int.reduceToNat, Nat.reduceBEq, Nat.reduceEqDiff]
  refine hL _ _ ?_
  clear hL
  refine ES_seq_gen fun L hL => ?_
  simp -implicitDefEqProofs (maxSteps := 99999999) (disch := omega) only [va, vs, vh, Nat.reduceMul, ite_true, ite_false, eq_self, forall_const, implies_true, Nat.reduceAdd, Nat.reduceSub, Nat.reduceLT, Nat.reduceLeDiff, ↓reduceIte, reduceCtorEq, Int.reduceEq, Int.reduceLT, Int.reduceLE, Int.reduceGT, Int.reduceGE, Int.reduceAdd, Int.reduceSub, Int.reduceNeg, Int.reduceToNat, Nat.reduceBEq, Nat.reduceEqDiff]
  refine ES_loopL (fun ts H' => H' = H ∧ ∃ k : Nat, ∃ least : Int, (k ≤ l.length ∧ sortedB 0 l = sortedB least (l.drop k) ∧ (k = 0 → least = 0) ∧ (k ≠ 0 → rightB (nthH l (k - 1)) = true ∧ least = (nthH l (k - 1)).at_ + (nthH l (k - 1)).old.length + 1)) ∧ Fr [some (.lst 3 (hks l) ro), none, some (.sc (.bool false)), some (.sc (.int .i64 k)), none, none, none, none, none, none, none, none, none, none, none, none, none, none, none, none, none, none, none, none, none, none, none, none, none, none, none, none, none, none, none, none, none, none, none, none, none, none] ts) (fun ts _ => l.length - (intV (ts.getD 3 .top)).toNat) ⟨rfl, 0, 0, ⟨Nat.zero_le _, rfl, fun _ => rfl, fun h => absurd rfl h⟩, by simp [Fr]⟩ ?_
  rintro ts _ ⟨rfl, k, least, ⟨hk, hs, k0, k1⟩, hfr⟩ L2 hL2
  obtain ⟨js, rfl⟩ := hfr.opened
  clear hfr
  simp -implicitDefEqProofs (maxSteps := 99999999) (disch := omega) only [mk, hks_length, va, vs, vh, Nat.reduceMul, ite_true, ite_false, eq_self, forall_const, implies_true, Nat.reduceAdd, Nat.reduceSub, Nat.reduceLT, Nat.reduceLeDiff, ↓reduceIte, reduceCtorEq, Int.reduceEq, Int.reduceLT, Int.reduceLE, Int.reduceGT, Int.reduceGE, Int.reduceAdd, Int.reduceSub, Int.reduceNeg, Int.reduceToNat, Nat.reduceBEq, Nat.reduceEqDiff]
  refine condR_if (fun h => ?_) (fun h => ?_)
  · have h1 : k < l.length := by omega
    have hsh := hl.nth h1
    have hd : l.drop k = nthH l k :: l.drop (k + 1) := by rw [List.drop_eq_getElem_cons h1, nthH_eq h1]
    rw [hd] at hs
    simp only [sortedB] at hs
    have hso : (nthH l k).old.length ≤ 100000000 := hsh.1.1
    simp -implicitDefEqProofs (maxSteps := 99999999) (disch := omega) only [hks_get h1, hks_length, h1, va, vs, vh, Nat.reduceMul, ite_true, ite_false, eq_self, forall_const, implies_true, Nat.reduceAdd, Nat.reduceSub, Nat.reduceLT, Nat.reduceLeDiff, ↓reduceIte, reduceCtorEq, Int.reduceEq, Int.reduceLT, Int.reduceLE, Int.reduceGT, Int.reduceGE, Int.reduceAdd, Int.reduceSub, Int.reduceNeg, Int.reduceToNat, Nat.reduceBEq, Nat.reduceEqDiff]
    refine ⟨by omega, callD_same (right_r _ _ _ _ hsh) ?_⟩
    cases hr : rightB (nthH l k) with
    | false =>
      rw [hr] at hs
      simp only [Bool.false_and] at hs
      rw [hs]
      simp -implicitDefEqProofs (maxSteps := 99999999) (disch := omega) only [va, vs, vh, Nat.reduceMul, ite_true, ite_false, eq_self, forall_const, implies_true, Nat.reduceAdd, Nat.reduceSub, Nat.reduceLT, Nat.reduceLeDiff, ↓reduceIte, reduceCtorEq, Int.reduceEq, Int.reduceLT, Int.reduceLE, Int.reduceGT, Int.reduceGE, Int.reduceAdd, Int.reduceSub, Int.reduceNeg, Int.reduceToNat, Nat.reduceBEq, Nat.reduceEqDiff]
      exact Weak.refl _ _ _
    | true =>
      obtain ⟨g1, g2⟩ := rightB_at hr
      rw [hr] at hs
      simp only [Bool.true_and] at hs
      by_cases e0 : k = 0
      · have hlt : ¬ (nthH l k).at_ < least := by rw [k0 e0]; omega
        have e1 : ¬ ((k : Int) > 0) := by omega
        simp only [hlt, decide_false, Bool.not_false, Bool.true_and] at hs
        simp -implicitDefEqProofs (maxSteps := 99999999) (disch := omega) only [e1, va, vs, vh, Nat.reduceMul, ite_true, ite_false, eq_self, forall_const, implies_true, Nat.reduceAdd, Nat.reduceSub, Nat.reduceLT, Nat.reduceLeDiff, ↓reduceIte, reduceCtorEq, Int.reduceEq, Int.reduceLT, Int.reduceLE, Int.reduceGT, Int.reduceGE, Int.reduceAdd, Int.reduceSub, Int.reduceNeg, Int.reduceToNat, Nat.reduceBEq, Nat.reduceEqDiff]
        exact hL2 _ _ ⟨rfl, k + 1, _, ⟨by omega, hs, fun h => by omega, fun _ => ⟨hr, rfl⟩⟩, by simp [Fr]⟩ (by simp [intV, mk]; omega)
      · obtain ⟨p1, p2⟩ := k1 e0
        obtain ⟨g3, g4⟩ := rightB_at p1
        have e1 : ((k : Int) > 0) := by omega
        have eK : ((k : Int) - 1).toNat = k - 1 := by omega
        have h2 : k - 1 < l.length := by omega
        have hsh2 := (hl.nth h2).1.1
        by_cases hlt : (nthH l k).at_ < least
        · have hle : (nthH l k).at_ - ((nthH l (k - 1)).old.length : Int) ≤ (nthH l (k - 1)).at_ := by omega
          simp only [hlt, decide_true, Bool.not_true, Bool.false_and] at hs
          rw [hs]
          simp -implicitDefEqProofs (maxSteps := 99999999) (disch := omega) only [e1, eK, hks_get h1, hks_get h2, hks_length, h1, h2, strs_length, hle, va, vs, vh, Nat.reduceMul, ite_true, ite_false, eq_self, forall_const, implies_true, Nat.reduceAdd, Nat.reduceSub, Nat.reduceLT, Nat.reduceLeDiff, ↓reduceIte, reduceCtorEq, Int.reduceEq, Int.reduceLT, Int.reduceLE, Int.reduceGT, Int.reduceGE, Int.reduceAdd, Int.reduceSub, Int.reduceNeg, Int.reduceToNat, Nat.reduceBEq, Nat.reduceEqDiff]
          exact ⟨⟨by omega, by omega⟩, ⟨by omega, by omega⟩, ⟨by omega, by omega⟩, Weak.refl _ _ _⟩
        · have hle : ¬ (nthH l k).at_ - ((nthH l (k - 1)).old.length : Int) ≤ (nthH l (k - 1)).at_ := by omega
          simp only [hlt, decide_false, Bool.not_false, Bool.true_and] at hs
          simp -implicitDefEqProofs (maxSteps := 99999999) (disch := omega) only [e1, eK, hks_get h1, hks_get h2, hks_length, h1, h2, strs_length, hle, va, vs, vh, Nat.reduceMul, ite_true, ite_false, eq_self, forall_const, implies_true, Nat.reduceAdd, Nat.reduceSub, Nat.reduceLT, Nat.reduceLeDiff, ↓reduceIte, reduceCtorEq, Int.reduceEq, Int.reduceLT, Int.reduceLE, Int.reduceGT, Int.reduceGE, Int.reduceAdd, Int.reduceSub, Int.reduceNeg, Int.reduceToNat, Nat.reduceBEq, Nat.reduceEqDiff]
          exact ⟨⟨by omega, by omega⟩, ⟨by omega, by omega⟩, ⟨by omega, by omega⟩, hL2 _ _ ⟨rfl, k + 1, _, ⟨by omega, hs, fun h => by omega, fun _ => ⟨hr, rfl⟩⟩, by simp [Fr]⟩ (by simp [intV, mk]; omega)⟩
  · have hk' : k = l.length := by omega
    subst hk'
    rw [List.drop_length] at hs
    simp only [sortedB] at hs
    refine hL _ _ ?_
    clear hL
    rw [hs]
    simp -implicitDefEqProofs (maxSteps := 99999999) (disch := omega) only [va, vs, vh, Nat.reduceMul, ite_true, ite_false, eq_self, forall_const, implies_true, Nat.reduceAdd, Nat.reduceSub, Nat.reduceLT, Nat.reduceLeDiff, ↓reduceIte, reduceCtorEq, Int.reduceEq, Int.reduceLT, Int.reduceLE, Int.reduceGT, Int.reduceGE, Int.reduceAdd, Int.reduceSub, Int.reduceNeg, Int.reduceToNat, Nat.reduceBEq, Nat.reduceEqDiff]
    exact Weak.refl _ _ _
end Go.Proofs.Ytddhdlfafaobhaa
