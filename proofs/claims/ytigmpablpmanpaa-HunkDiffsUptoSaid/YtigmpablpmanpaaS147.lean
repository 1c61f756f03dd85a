/- diff.Hunks. -/
import Derived.Test.YtigmpablpmanpaaS146
namespace Go.Proofs.Ytigmpablpmanpaa
open Go.RowKit
set_option maxRecDepth 100000
set_option linter.unusedVariables false
set_option linter.unusedSimpArgs false

theorem between_d (a b : List ByteArray) (H : AHeap) : D Try.prog 37 [.lst 1 (strs a) none, .lst 1 (strs b) none] H (.ret (.fn (.func 49) [] [.ptr 1 H.length 0 0, .ptr 1 (H.length + 1) 0 0])) (some ⟨1, [.lst 1 (strs b) none], true, 22⟩ :: some ⟨1, [.lst 1 (strs a) none], true, 22⟩ :: H) := by
  refine D_of_DK (by simp; omega) (dk37 (E_of_ES ?_))
  simp -implicitDefEqProofs (maxSteps := 99999999) (disch := omega) only [vu, ic37, va, vg, vs, vh, Nat.reduceMul, ite_true, ite_false, eq_self, forall_const, implies_true, Nat.reduceAdd, Nat.reduceSub, Nat.reduceLT, Nat.reduceLeDiff, ↓reduceIte, reduceCtorEq, Int.reduceEq, Int.reduceLT, Int.reduceLE, Int.reduceGT, Int.reduceGE, Int.reduceAdd, Int.reduceSub, Int.reduceNeg, Int.reduceToNat, Nat.reduceBEq, Nat.reduceEqDiff]
  exact Weak.refl _ _ _
theorem hunks_d (a b : List ByteArray) (hla : a.length ≤ 4096) (hlb : b.length ≤ 4096) (H : AHeap) : D Try.prog 12 [.lst 1 (strs a) none, .lst 1 (strs b) none] H (.ret (.lst 3 (hks (difH a b)) none)) H := by
  refine D_of_DK (Nat.le_refl _) (dk12 (E_of_ES ?_))
  simp -implicitDefEqProofs (maxSteps := 99999999) (disch := omega) only [vu, ES_rng, ic12, va, vg, vs, vh, Nat.reduceMul, ite_true, ite_false, eq_self, forall_const, implies_true, Nat.reduceAdd, Nat.reduceSub, Nat.reduceLT, Nat.reduceLeDiff, ↓reduceIte, reduceCtorEq, Int.reduceEq, Int.reduceLT, Int.reduceLE, Int.reduceGT, Int.reduceGE, Int.reduceAdd, Int.reduceSub, Int.reduceNeg, Int.reduceToNat, Nat.reduceBEq, Nat.reduceEqDiff]
  refine callR_ret (between_d a b _) ?_
  simp -implicitDefEqProofs (maxSteps := 99999999) (disch := omega) only [vu, ES_rng, va, vg, vs, vh, Nat.reduceMul, ite_true, ite_false, eq_self, forall_const, implies_true, Nat.reduceAdd, Nat.reduceSub, Nat.reduceLT, Nat.reduceLeDiff, ↓reduceIte, reduceCtorEq, Int.reduceEq, Int.reduceLT, Int.reduceLE, Int.reduceGT, Int.reduceGE, Int.reduceAdd, Int.reduceSub, Int.reduceNeg, Int.reduceToNat, Nat.reduceBEq, Nat.reduceEqDiff]
  refine rngK_of (by kernel_rfl) fun fn db => ?_
  rw [show ∀ (x y z : Option ABlk), List.length (x :: y :: z :: H) = H.length + 3 from fun _ _ _ => rfl]
  obtain ⟨ts0, hts0⟩ : ∃ ts0, ts0 = [AV.lst 1 (strs a) none, AV.lst 1 (strs b) none, AV.tup [], AV.tup [], AV.lst 0 [] (some []), AV.ptr 1 H.length 0 0, AV.tup [], AV.lst 1 (strs a) none, AV.lst 1 (strs b) none,
      AV.fn (Fn.func 49) [] [AV.ptr 1 (H.length + 1) 0 0, AV.ptr 1 (H.length + 2) 0 0], AV.tup [], AV.tup [], AV.tup [], AV.tup [], AV.tup [], AV.tup []] := ⟨_, rfl⟩
  rw [← hts0]
  have hmk : ∃ js, ts0 = mk [none, none, none, none, none, some (.ptr 1 H.length 0 0), none, none, none, none, none, none, none, none, none, none] js := by
    rw [hts0]
    exact (show Fr [none, none, none, none, none, some (.ptr 1 H.length 0 0), none, none, none, none, none, none, none, none, none, none] _ from by simp [Fr]).opened
  obtain ⟨js, hjs⟩ := hmk
  obtain ⟨B0, hB0⟩ : ∃ B0 : AHeap, B0 = some (lpB (recB fn db #[10] (rcA Try.f12 0) (rcB Try.f12 0)) ts0) :: some ⟨1, [.lst 1 (strs b) none], true, 22⟩ :: some ⟨1, [.lst 1 (strs a) none], true, 22⟩ :: some ⟨1, [.lst 0 [] (some [])], true, 28⟩ :: H := ⟨_, rfl⟩
  rw [← hB0]
  have hBl : B0.length = H.length + 4 := by rw [hB0]; simp
  have hfr : AHeap.find B0 (H.length + 3) = some (lpB (recB fn db #[10] (rcA Try.f12 0) (rcB Try.f12 0)) ts0) := by rw [hB0]; exact find_top (by simp)
  have hfb : AHeap.find B0 (H.length + 2) = some ⟨1, [.lst 1 (strs b) none], true, 22⟩ := by rw [hB0, find_past (by simp)]; exact find_top (by simp)
  have hfa : AHeap.find B0 (H.length + 1) = some ⟨1, [.lst 1 (strs a) none], true, 22⟩ := by rw [hB0, find_past (by simp), find_past (by simp)]; exact find_top (by simp)
  have hfo : AHeap.find B0 H.length = some ⟨1, [.lst 0 [] (some [])], true, 28⟩ := by rw [hB0, find_past (by simp; omega), find_past (by simp; omega), find_past (by simp)]; exact find_top rfl
  have hfH : ∀ id, id < H.length → AHeap.find B0 id = AHeap.find H id := fun id hid => by rw [hB0, find_past (by simp; omega), find_past (by simp; omega), find_past (by simp; omega), find_past hid]
  refine ⟨.tup [], _, recB fn db #[10] (rcA Try.f12 0) (rcB Try.f12 0), ts0, betw_d a b hla hlb hjs hfr hfo (by omega) hfa hfb (by omega) (by omega), ?_, by simp [recB], ?_⟩
  · rw [find_past (by rw [AHeap.set_length]; omega), find_set_other (by omega)]
    exact hfr
  · simp only [recB, jmpK]
    have hf2 : AHeap.find (AHeap.set (OwnB 3 51 (hks (difH a b)) :: AHeap.set B0 H.length (some ⟨1, [OwnV 3 (hks (difH a b)) B0.length], true, 28⟩)) (H.length + 3) none) H.length = some ⟨1, [OwnV 3 (hks (difH a b)) B0.length], true, 28⟩ := by
      rw [find_set_other (by omega), find_past (by rw [AHeap.set_length]; omega), AHeap.find_set_same (by omega)]
    rw [hts0]
    simp -implicitDefEqProofs (maxSteps := 99999999) (disch := first | omega | (simp only [AHeap.set_length, killO_length, List.length_cons, List.length_nil]; first | done | omega)) only [vu, hf2, va, vg, vs, vw, Nat.reduceMul, ite_true, ite_false, eq_self, forall_const, implies_true, Nat.reduceAdd, Nat.reduceSub, Nat.reduceLT, Nat.reduceLeDiff, ↓reduceIte, reduceCtorEq, Int.reduceEq, Int.reduceLT, Int.reduceLE, Int.reduceGT, Int.reduceGE, Int.reduceAdd, Int.reduceSub, Int.reduceNeg, Int.reduceToNat, Nat.reduceBEq, Nat.reduceEqDiff]
    refine weak_frz (fun id hid => ?_) (OwnV_fz (ty := 51) (fun h => ?_) (fun h => ?_) hks_gz)
    · rw [find_past (by rw [AHeap.set_length, AHeap.set_length]; omega), find_set_other (by omega), find_set_other (by omega), hfH id hid]
    · unfold newId
      rw [if_neg (by omega)]
      rfl
    · exact find_top (by rw [AHeap.set_length, AHeap.set_length])
end Go.Proofs.Ytigmpablpmanpaa
