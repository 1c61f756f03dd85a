/- law01.LinesJoin tells true. -/
import Derived.Test.YtigmpablpmanpaaS134
import Derived.Test.YtigmpablpmanpaaS31
namespace Go.Proofs.Ytigmpablpmanpaa
open Go.RowKit
set_option maxRecDepth 100000
set_option linter.unusedVariables false
set_option linter.unusedSimpArgs false

def cntJ : List ByteArray → Nat
  | [] => 0
  | x :: r => 1 + min x.size 2000 + cntJ r
theorem cntJ_append : ∀ a b : List ByteArray, cntJ (a ++ b) = cntJ a + cntJ b
  | [], b => by simp [cntJ]
  | x :: r, b => by simp only [List.cons_append, cntJ, cntJ_append r b]; omega
theorem cntJ_snoc {L : List ByteArray} {k : Nat} (h : k < L.length) : cntJ (L.take (k + 1)) = cntJ (L.take k) + 1 + min (nthS L k).size 2000 := by
  rw [← take_nth h, cntJ_append]
  simp only [cntJ]
  omega
theorem cntJ_join : ∀ {L : List ByteArray}, cntJ L < 2000 → (joinB L).size + L.length = cntJ L
  | [], _ => rfl
  | x :: r, h => by
    simp only [cntJ] at h ⊢
    have ih := cntJ_join (L := r) (by omega)
    simp only [joinB, ByteArray.size_append, List.length_cons]
    omega

theorem linesJoin_d (L : List ByteArray) : D Try.prog 6 [.lst 1 (strs L) none] [] (.ret (.sc (.bool true))) [] := by
  refine D_of_DK (Nat.le_refl _) (dk6 (E_of_ES ?_))
  simp -implicitDefEqProofs (maxSteps := 99999999) (disch := first | omega | (simp only [AHeap.set_length, killO_length, List.length_cons, List.length_nil]; first | done | omega)) only [vu, ic6, va, vg, vs, vw, Nat.reduceMul, ite_true, ite_false, eq_self, forall_const, implies_true, Nat.reduceAdd, Nat.reduceSub, Nat.reduceLT, Nat.reduceLeDiff, ↓reduceIte, reduceCtorEq, Int.reduceEq, Int.reduceLT, Int.reduceLE, Int.reduceGT, Int.reduceGE, Int.reduceAdd, Int.reduceSub, Int.reduceNeg, Int.reduceToNat, Nat.reduceBEq, Nat.reduceEqDiff]
  refine callR_ret (awakeL_d _) ?_
  simp -implicitDefEqProofs (maxSteps := 99999999) (disch := first | omega | (simp only [AHeap.set_length, killO_length, List.length_cons, List.length_nil]; first | done | omega)) only [vu, va, vg, vs, vw, Nat.reduceMul, ite_true, ite_false, eq_self, forall_const, implies_true, Nat.reduceAdd, Nat.reduceSub, Nat.reduceLT, Nat.reduceLeDiff, ↓reduceIte, reduceCtorEq, Int.reduceEq, Int.reduceLT, Int.reduceLE, Int.reduceGT, Int.reduceGE, Int.reduceAdd, Int.reduceSub, Int.reduceNeg, Int.reduceToNat, Nat.reduceBEq, Nat.reduceEqDiff]
  refine ES_gen fun K hK => ?_
  refine ES_loopL (fun ts F => ∃ (k : Nat), F = [] ∧ (k ≤ L.length ∧ cntJ (L.take k) ≤ 6000 ∧ k ≤ cntJ (L.take k)) ∧
      Fr [some (.lst 1 (strs L) none), none, none, some (.sc (.int .i64 (cntJ (L.take k)))), some (.sc (.int .i64 k)), none, none, none, none, none, none, none, none, none, none, none, none, none, none, none, none, none, none, none, none, none, none, none, none, none, none, none, none, none, none, none, none, none, none, none, none] ts) (fun ts _ => L.length - (intV (ts.getD 4 .top)).toNat) ?_ ?_
  · exact ⟨0, rfl, ⟨Nat.zero_le _, by simp [cntJ], Nat.zero_le _⟩, by simp [Fr, cntJ]⟩
  · rintro ts _ ⟨k, rfl, ⟨hk, hc, hkc⟩, hfr⟩ L1 hL1
    obtain ⟨js, rfl⟩ := hfr.opened
    clear hfr
    by_cases h : k < L.length
    · have h1 : (k : Int) < L.length := by omega
      by_cases h2 : cntJ (L.take k) < 2000
      · have h2' : ((cntJ (L.take k) : Nat) : Int) < 2000 := by omega
        have hsn := cntJ_snoc h
        have hmm : (if (2000 : Int) < ((nthS L k).size : Int) then (2000 : Int) else ((nthS L k).size : Int)) = ((min (nthS L k).size 2000 : Nat) : Int) := by split <;> omega
        have hnn : ((cntJ (L.take k) : Nat) : Int) + 1 + ((min (nthS L k).size 2000 : Nat) : Int) = ((cntJ (L.take (k + 1)) : Nat) : Int) := by rw [hsn]; omega
        simp -implicitDefEqProofs (maxSteps := 99999999) (disch := first | omega | (simp only [AHeap.set_length, killO_length, List.length_cons, List.length_nil]; first | done | omega)) only [vu, mk, h1, h2', strs_length, strs_get h, hmm, hnn, va, vg, vs, vw, Nat.reduceMul, ite_true, ite_false, eq_self, forall_const, implies_true, Nat.reduceAdd, Nat.reduceSub, Nat.reduceLT, Nat.reduceLeDiff, ↓reduceIte, reduceCtorEq, Int.reduceEq, Int.reduceLT, Int.reduceLE, Int.reduceGT, Int.reduceGE, Int.reduceAdd, Int.reduceSub, Int.reduceNeg, Int.reduceToNat, Nat.reduceBEq, Nat.reduceEqDiff]
        exact ⟨by omega, hL1 _ _ ⟨k + 1, rfl, ⟨by omega, by omega, by omega⟩, by simp [Fr]⟩ (by simp [mk, intV]; omega)⟩
      · have h2' : ¬ ((cntJ (L.take k) : Nat) : Int) < 2000 := by omega
        have h3' : ((cntJ (L.take k) : Nat) : Int) ≥ 2000 := by omega
        simp -implicitDefEqProofs (maxSteps := 99999999) (disch := first | omega | (simp only [AHeap.set_length, killO_length, List.length_cons, List.length_nil]; first | done | omega)) only [vu, mk, h1, h2', strs_length, va, vg, vs, vw, Nat.reduceMul, ite_true, ite_false, eq_self, forall_const, implies_true, Nat.reduceAdd, Nat.reduceSub, Nat.reduceLT, Nat.reduceLeDiff, ↓reduceIte, reduceCtorEq, Int.reduceEq, Int.reduceLT, Int.reduceLE, Int.reduceGT, Int.reduceGE, Int.reduceAdd, Int.reduceSub, Int.reduceNeg, Int.reduceToNat, Nat.reduceBEq, Nat.reduceEqDiff]
        clear hL1
        refine hK _ _ _ ?_
        clear hK
        simp -implicitDefEqProofs (maxSteps := 99999999) (disch := first | omega | (simp only [AHeap.set_length, killO_length, List.length_cons, List.length_nil]; first | done | omega)) only [vu, h3', va, vg, vs, vw, Nat.reduceMul, ite_true, ite_false, eq_self, forall_const, implies_true, Nat.reduceAdd, Nat.reduceSub, Nat.reduceLT, Nat.reduceLeDiff, ↓reduceIte, reduceCtorEq, Int.reduceEq, Int.reduceLT, Int.reduceLE, Int.reduceGT, Int.reduceGE, Int.reduceAdd, Int.reduceSub, Int.reduceNeg, Int.reduceToNat, Nat.reduceBEq, Nat.reduceEqDiff]
        exact Weak.refl _ _ _
    · have : k = L.length := by omega
      subst this
      have h1 : ¬ (L.length : Int) < L.length := by omega
      rw [List.take_length] at hc hkc
      simp -implicitDefEqProofs (maxSteps := 99999999) (disch := first | omega | (simp only [AHeap.set_length, killO_length, List.length_cons, List.length_nil]; first | done | omega)) only [vu, mk, h1, strs_length, List.take_length, va, vg, vs, vw, Nat.reduceMul, ite_true, ite_false, eq_self, forall_const, implies_true, Nat.reduceAdd, Nat.reduceSub, Nat.reduceLT, Nat.reduceLeDiff, ↓reduceIte, reduceCtorEq, Int.reduceEq, Int.reduceLT, Int.reduceLE, Int.reduceGT, Int.reduceGE, Int.reduceAdd, Int.reduceSub, Int.reduceNeg, Int.reduceToNat, Nat.reduceBEq, Nat.reduceEqDiff]
      clear hL1
      refine hK _ _ _ ?_
      clear hK
      by_cases h2 : cntJ L < 2000
      · have h3' : ¬ ((cntJ L : Nat) : Int) ≥ 2000 := by omega
        have hj := cntJ_join h2
        simp -implicitDefEqProofs (maxSteps := 99999999) (disch := first | omega | (simp only [AHeap.set_length, killO_length, List.length_cons, List.length_nil]; first | done | omega)) only [vu, h3', va, vg, vs, vw, Nat.reduceMul, ite_true, ite_false, eq_self, forall_const, implies_true, Nat.reduceAdd, Nat.reduceSub, Nat.reduceLT, Nat.reduceLeDiff, ↓reduceIte, reduceCtorEq, Int.reduceEq, Int.reduceLT, Int.reduceLE, Int.reduceGT, Int.reduceGE, Int.reduceAdd, Int.reduceSub, Int.reduceNeg, Int.reduceToNat, Nat.reduceBEq, Nat.reduceEqDiff]
        refine callR_ret (lentTexts_d L none [] (by omega)) ?_
        simp -implicitDefEqProofs (maxSteps := 99999999) (disch := first | omega | (simp only [AHeap.set_length, killO_length, List.length_cons, List.length_nil]; first | done | omega)) only [vu, va, vg, vs, vw, Nat.reduceMul, ite_true, ite_false, eq_self, forall_const, implies_true, Nat.reduceAdd, Nat.reduceSub, Nat.reduceLT, Nat.reduceLeDiff, ↓reduceIte, reduceCtorEq, Int.reduceEq, Int.reduceLT, Int.reduceLE, Int.reduceGT, Int.reduceGE, Int.reduceAdd, Int.reduceSub, Int.reduceNeg, Int.reduceToNat, Nat.reduceBEq, Nat.reduceEqDiff]
        have hv : View (some ⟨1, strs (L ++ mks 12), true, 9⟩ :: []) (.vec 1 0 0 L.length (some (L.length + 12))) (.lst 1 (strs L) none) := by
          refine .vec (find_top rfl) rfl (by simp [strs_length]) ?_
          have : ((strs (L ++ mks 12)).drop 0).take L.length = strs L := by
            rw [List.drop_zero]
            unfold strs
            rw [List.map_append, List.take_append_of_le_length (by simp), List.take_of_length_le (by simp)]
          rw [this]
          exact ViewL.scs
        refine callR_ret (D_view (.cons hv .nil) .sc (join_d L (by omega) (by omega) [])) ?_
        simp -implicitDefEqProofs (maxSteps := 99999999) (disch := first | omega | (simp only [AHeap.set_length, killO_length, List.length_cons, List.length_nil]; first | done | omega)) only [vu, va, vg, vs, vw, Nat.reduceMul, ite_true, ite_false, eq_self, forall_const, implies_true, Nat.reduceAdd, Nat.reduceSub, Nat.reduceLT, Nat.reduceLeDiff, ↓reduceIte, reduceCtorEq, Int.reduceEq, Int.reduceLT, Int.reduceLE, Int.reduceGT, Int.reduceGE, Int.reduceAdd, Int.reduceSub, Int.reduceNeg, Int.reduceToNat, Nat.reduceBEq, Nat.reduceEqDiff]
        refine callR_ret (refJoin_d L (by omega) (by omega) _) ?_
        simp -implicitDefEqProofs (maxSteps := 99999999) (disch := first | omega | (simp only [AHeap.set_length, killO_length, List.length_cons, List.length_nil]; first | done | omega)) only [vu, va, vg, vs, vw, Nat.reduceMul, ite_true, ite_false, eq_self, forall_const, implies_true, Nat.reduceAdd, Nat.reduceSub, Nat.reduceLT, Nat.reduceLeDiff, ↓reduceIte, reduceCtorEq, Int.reduceEq, Int.reduceLT, Int.reduceLE, Int.reduceGT, Int.reduceGE, Int.reduceAdd, Int.reduceSub, Int.reduceNeg, Int.reduceToNat, Nat.reduceBEq, Nat.reduceEqDiff]
        refine callR_ret (keptTexts_d L none _ 0 9 (find_top rfl) (by omega)) ?_
        simp -implicitDefEqProofs (maxSteps := 99999999) (disch := first | omega | (simp only [AHeap.set_length, killO_length, List.length_cons, List.length_nil]; first | done | omega)) only [vu, va, vg, vs, vw, Nat.reduceMul, ite_true, ite_false, eq_self, forall_const, implies_true, Nat.reduceAdd, Nat.reduceSub, Nat.reduceLT, Nat.reduceLeDiff, ↓reduceIte, reduceCtorEq, Int.reduceEq, Int.reduceLT, Int.reduceLE, Int.reduceGT, Int.reduceGE, Int.reduceAdd, Int.reduceSub, Int.reduceNeg, Int.reduceToNat, Nat.reduceBEq, Nat.reduceEqDiff]
        exact weak_over (by repeat constructor) (.same trivial)
      · have h3' : ((cntJ L : Nat) : Int) ≥ 2000 := by omega
        simp -implicitDefEqProofs (maxSteps := 99999999) (disch := first | omega | (simp only [AHeap.set_length, killO_length, List.length_cons, List.length_nil]; first | done | omega)) only [vu, h3', va, vg, vs, vw, Nat.reduceMul, ite_true, ite_false, eq_self, forall_const, implies_true, Nat.reduceAdd, Nat.reduceSub, Nat.reduceLT, Nat.reduceLeDiff, ↓reduceIte, reduceCtorEq, Int.reduceEq, Int.reduceLT, Int.reduceLE, Int.reduceGT, Int.reduceGE, Int.reduceAdd, Int.reduceSub, Int.reduceNeg, Int.reduceToNat, Nat.reduceBEq, Nat.reduceEqDiff]
        exact Weak.refl _ _ _
end Go.Proofs.Ytigmpablpmanpaa
