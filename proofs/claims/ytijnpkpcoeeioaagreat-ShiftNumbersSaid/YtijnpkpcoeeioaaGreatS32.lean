/- The document's line, and lines. -/
import Derived.Test.YtijnpkpcoeeioaaGreatSA
import Derived.Test.YtijnpkpcoeeioaaGreatIc3
namespace Go.Proofs.YtijnpkpcoeeioaaGreat
open Go.RowKit
set_option maxRecDepth 100000
set_option linter.unusedVariables false
set_option linter.unusedSimpArgs false

theorem ib_spec : ∀ (l : List UInt8), (Lib.indexByte l 10 = -1 ∧ ∀ i, i < l.length → l.getD i 0 ≠ 10) ∨ (∃ j : Nat, Lib.indexByte l 10 = j ∧ j < l.length ∧ l.getD j 0 = 10 ∧ ∀ i, i < j → l.getD i 0 ≠ 10)
  | [] => .inl ⟨rfl, fun i h => by simp at h⟩
  | b :: r => by
    unfold Lib.indexByte
    by_cases hb : b = 10
    · subst hb
      exact .inr ⟨0, by simp, by simp, rfl, fun i h => by omega⟩
    · have hb' : (b == 10) = false := by simpa using hb
      simp only [hb', Bool.false_eq_true, if_false]
      rcases ib_spec r with ⟨h1, h2⟩ | ⟨j, h1, h2, h3, h4⟩
      · rw [h1]
        refine .inl ⟨by simp, fun i hi => ?_⟩
        cases i with
        | zero => simpa using hb
        | succ i => simpa using h2 i (by simpa using hi)
      · rw [h1]
        refine .inr ⟨j + 1, ?_, by simpa using h2, by simpa using h3, fun i hi => ?_⟩
        · have : ((j : Int) == -1) = false := by rw [beq_eq_false_iff_ne]; omega
          simp [this]
        · cases i with
          | zero => simpa using hb
          | succ i => simpa using h4 i (by omega)
def byteAt (s : ByteArray) (i : Nat) : UInt8 := s.data.getD i 0
theorem byteAt_list {s : ByteArray} {i : Nat} : byteAt s i = s.data.toList.getD i 0 := by
  simp [byteAt, Array.getD_eq_getD_getElem?, List.getD]
theorem nl_spec (s : ByteArray) : (nl s = -1 ∧ ∀ i, i < s.size → byteAt s i ≠ 10) ∨ (∃ j : Nat, nl s = j ∧ j < s.size ∧ byteAt s j = 10 ∧ ∀ i, i < j → byteAt s i ≠ 10) := by
  have := ib_spec s.data.toList
  simpa only [byteAt_list, nl, Array.length_toList, ByteArray.size] using this
theorem byte_ten {b : UInt8} : ((b.toNat : Int) = 10) ↔ b = 10 := by
  constructor
  · intro h
    apply UInt8.toNat_inj.1
    have : (10 : UInt8).toNat = 10 := rfl
    omega
  · intro h
    subst h
    rfl
theorem size_zero {s : ByteArray} (h : s.size = 0) : s = ByteArray.empty := by
  cases s with
  | mk d => 
    have : d = #[] := Array.size_eq_zero_iff.1 h
    subst this
    rfl

theorem line_r (s : ByteArray) (H : AHeap) (hs : s.size ≤ 100000000) : ∃ o : Bool, (lineOk s = true → o = decide (nl s < 0)) ∧ D Tryz.prog 68 [.sc (.string s)] H (.ret (.tup [.sc (.bool (lineOk s)), .sc (.bool o)])) H := by
  rcases nl_spec s with ⟨n1, n2⟩ | ⟨j, n1, n2, n3, n4⟩
  · refine ⟨true, fun _ => by simp [n1], D_of_DK (Nat.le_refl _) (dk68 (E_of_ES ?_))⟩
    simp only [ic68, ux]
    refine ES_seq_gen fun L hL => ?_
    simp -implicitDefEqProofs (maxSteps := 99999999) (disch := omega) only [va, vs, vh, Nat.reduceMul, ite_true, ite_false, eq_self, forall_const, implies_true, Nat.reduceAdd, Nat.reduceSub, Nat.reduceLT, Nat.reduceLeDiff, ↓reduceIte, reduceCtorEq, Int.reduceEq, Int.reduceLT, Int.reduceLE, Int.reduceGT, Int.reduceGE, Int.reduceAdd, Int.reduceSub, Int.reduceNeg, Int.reduceToNat, Nat.reduceBEq, Nat.reduceEqDiff]
    refine hL _ _ ?_
    clear hL
    refine ES_seq_gen fun L hL => ?_
    simp -implicitDefEqProofs (maxSteps := 99999999) (disch := omega) only [va, vs, vh, Nat.reduceMul, ite_true, ite_false, eq_self, forall_const, implies_true, Nat.reduceAdd, Nat.reduceSub, Nat.reduceLT, Nat.reduceLeDiff, ↓reduceIte, reduceCtorEq, Int.reduceEq, Int.reduceLT, Int.reduceLE, Int.reduceGT, Int.reduceGE, Int.reduceAdd, Int.reduceSub, Int.reduceNeg, Int.reduceToNat, Nat.reduceBEq, Nat.reduceEqDiff]
    refine ES_loopL (fun ts H' => H' = H ∧ ∃ k : Nat, k ≤ s.size ∧ Fr [some (.sc (.string s)), none, some (.sc (.bool false)), some (.sc (.bool false)), some (.sc (.int .i64 k)), none, none, none, none, none, none, none, none, none, none, none, none, none, none, none, none, none, none, none, none, none, none, none] ts) (fun ts _ => s.size - (intV (ts.getD 4 .top)).toNat) ⟨rfl, 0, by omega, by simp [Fr]⟩ ?_
    rintro ts _ ⟨rfl, k, hk, hfr⟩ L2 hL2
    obtain ⟨js, rfl⟩ := hfr.opened
    clear hfr
    simp -implicitDefEqProofs (maxSteps := 99999999) (disch := omega) only [mk, va, vs, vh, Nat.reduceMul, ite_true, ite_false, eq_self, forall_const, implies_true, Nat.reduceAdd, Nat.reduceSub, Nat.reduceLT, Nat.reduceLeDiff, ↓reduceIte, reduceCtorEq, Int.reduceEq, Int.reduceLT, Int.reduceLE, Int.reduceGT, Int.reduceGE, Int.reduceAdd, Int.reduceSub, Int.reduceNeg, Int.reduceToNat, Nat.reduceBEq, Nat.reduceEqDiff]
    refine condR_if (fun h => ?_) (fun h => ?_)
    · have h1 : k < s.size := by omega
      have hb := n2 k h1
      have hb' : ¬ (((s.data.getD k 0).toNat : Int) = 10) := fun e => hb (byte_ten.1 e)
      simp -implicitDefEqProofs (maxSteps := 99999999) (disch := omega) only [hb', h1, va, vs, vh, Nat.reduceMul, ite_true, ite_false, eq_self, forall_const, implies_true, Nat.reduceAdd, Nat.reduceSub, Nat.reduceLT, Nat.reduceLeDiff, ↓reduceIte, reduceCtorEq, Int.reduceEq, Int.reduceLT, Int.reduceLE, Int.reduceGT, Int.reduceGE, Int.reduceAdd, Int.reduceSub, Int.reduceNeg, Int.reduceToNat, Nat.reduceBEq, Nat.reduceEqDiff]
      exact ⟨⟨by omega, by omega⟩, hL2 _ _ ⟨rfl, k + 1, by omega, by simp [Fr]⟩ (by simp [intV, mk]; omega)⟩
    · refine hL _ _ ?_
      clear hL
      by_cases e0 : s = ⟨#[]⟩
      · have hlo : lineOk s = false := by rw [e0]; rfl
        have e1 : (⟨#[]⟩ : ByteArray).size = 0 := rfl
        rw [hlo]
        simp -implicitDefEqProofs (maxSteps := 99999999) (disch := omega) only [e0, va, vs, vh, Nat.reduceMul, ite_true, ite_false, eq_self, forall_const, implies_true, Nat.reduceAdd, Nat.reduceSub, Nat.reduceLT, Nat.reduceLeDiff, ↓reduceIte, reduceCtorEq, Int.reduceEq, Int.reduceLT, Int.reduceLE, Int.reduceGT, Int.reduceGE, Int.reduceAdd, Int.reduceSub, Int.reduceNeg, Int.reduceToNat, Nat.reduceBEq, Nat.reduceEqDiff]
        exact Weak.refl _ _ _
      · have hz : s.size ≠ 0 := fun e => e0 (size_zero e)
        have hlo : lineOk s = true := by unfold lineOk; simp [n1]; exact e0
        have eN : ((s.size : Int) - 1).toNat = s.size - 1 := by omega
        have hb := n2 (s.size - 1) (by omega)
        have hb' : ¬ (((s.data.getD (s.size - 1) 0).toNat : Int) = 10) := fun e => hb (byte_ten.1 e)
        rw [hlo]
        simp -implicitDefEqProofs (maxSteps := 99999999) (disch := omega) only [e0, eN, hb', va, vs, vh, Nat.reduceMul, ite_true, ite_false, eq_self, forall_const, implies_true, Nat.reduceAdd, Nat.reduceSub, Nat.reduceLT, Nat.reduceLeDiff, ↓reduceIte, reduceCtorEq, Int.reduceEq, Int.reduceLT, Int.reduceLE, Int.reduceGT, Int.reduceGE, Int.reduceAdd, Int.reduceSub, Int.reduceNeg, Int.reduceToNat, Nat.reduceBEq, Nat.reduceEqDiff]
        exact ⟨⟨by omega, by omega⟩, Weak.refl _ _ _⟩
  · have e0 : ¬ s = ⟨#[]⟩ := fun e => by rw [e] at n2; exact absurd n2 (Nat.not_lt_zero _)
    have m1 : ¬ nl s < 0 := by omega
    refine ⟨false, fun _ => by simp [m1], D_of_DK (Nat.le_refl _) (dk68 (E_of_ES ?_))⟩
    simp only [ic68, ux]
    refine ES_seq_gen fun L hL => ?_
    simp -implicitDefEqProofs (maxSteps := 99999999) (disch := omega) only [va, vs, vh, Nat.reduceMul, ite_true, ite_false, eq_self, forall_const, implies_true, Nat.reduceAdd, Nat.reduceSub, Nat.reduceLT, Nat.reduceLeDiff, ↓reduceIte, reduceCtorEq, Int.reduceEq, Int.reduceLT, Int.reduceLE, Int.reduceGT, Int.reduceGE, Int.reduceAdd, Int.reduceSub, Int.reduceNeg, Int.reduceToNat, Nat.reduceBEq, Nat.reduceEqDiff]
    refine hL _ _ ?_
    clear hL
    refine ES_seq_gen fun L hL => ?_
    simp -implicitDefEqProofs (maxSteps := 99999999) (disch := omega) only [va, vs, vh, Nat.reduceMul, ite_true, ite_false, eq_self, forall_const, implies_true, Nat.reduceAdd, Nat.reduceSub, Nat.reduceLT, Nat.reduceLeDiff, ↓reduceIte, reduceCtorEq, Int.reduceEq, Int.reduceLT, Int.reduceLE, Int.reduceGT, Int.reduceGE, Int.reduceAdd, Int.reduceSub, Int.reduceNeg, Int.reduceToNat, Nat.reduceBEq, Nat.reduceEqDiff]
    refine ES_loopL (fun ts H' => H' = H ∧ ∃ k : Nat, k ≤ j ∧ Fr [some (.sc (.string s)), none, some (.sc (.bool false)), some (.sc (.bool false)), some (.sc (.int .i64 k)), none, none, none, none, none, none, none, none, none, none, none, none, none, none, none, none, none, none, none, none, none, none, none] ts) (fun ts _ => s.size - (intV (ts.getD 4 .top)).toNat) ⟨rfl, 0, by omega, by simp [Fr]⟩ ?_
    rintro ts _ ⟨rfl, k, hk, hfr⟩ L2 hL2
    obtain ⟨js, rfl⟩ := hfr.opened
    clear hfr
    simp -implicitDefEqProofs (maxSteps := 99999999) (disch := omega) only [mk, va, vs, vh, Nat.reduceMul, ite_true, ite_false, eq_self, forall_const, implies_true, Nat.reduceAdd, Nat.reduceSub, Nat.reduceLT, Nat.reduceLeDiff, ↓reduceIte, reduceCtorEq, Int.reduceEq, Int.reduceLT, Int.reduceLE, Int.reduceGT, Int.reduceGE, Int.reduceAdd, Int.reduceSub, Int.reduceNeg, Int.reduceToNat, Nat.reduceBEq, Nat.reduceEqDiff]
    refine condR_if (fun h => ?_) (fun h => ?_)
    · have h1 : k < s.size := by omega
      by_cases ek : k = j
      · subst ek
        have hb' : (((s.data.getD k 0).toNat : Int) = 10) := byte_ten.2 n3
        have hlo : lineOk s = false := by unfold lineOk; simp [m1]; intro _; omega
        rw [hlo]
        simp -implicitDefEqProofs (maxSteps := 99999999) (disch := omega) only [hb', h1, va, vs, vh, Nat.reduceMul, ite_true, ite_false, eq_self, forall_const, implies_true, Nat.reduceAdd, Nat.reduceSub, Nat.reduceLT, Nat.reduceLeDiff, ↓reduceIte, reduceCtorEq, Int.reduceEq, Int.reduceLT, Int.reduceLE, Int.reduceGT, Int.reduceGE, Int.reduceAdd, Int.reduceSub, Int.reduceNeg, Int.reduceToNat, Nat.reduceBEq, Nat.reduceEqDiff]
        exact ⟨⟨by omega, by omega⟩, Weak.refl _ _ _⟩
      · have hb := n4 k (by omega)
        have hb' : ¬ (((s.data.getD k 0).toNat : Int) = 10) := fun e => hb (byte_ten.1 e)
        simp -implicitDefEqProofs (maxSteps := 99999999) (disch := omega) only [hb', h1, va, vs, vh, Nat.reduceMul, ite_true, ite_false, eq_self, forall_const, implies_true, Nat.reduceAdd, Nat.reduceSub, Nat.reduceLT, Nat.reduceLeDiff, ↓reduceIte, reduceCtorEq, Int.reduceEq, Int.reduceLT, Int.reduceLE, Int.reduceGT, Int.reduceGE, Int.reduceAdd, Int.reduceSub, Int.reduceNeg, Int.reduceToNat, Nat.reduceBEq, Nat.reduceEqDiff]
        exact ⟨⟨by omega, by omega⟩, hL2 _ _ ⟨rfl, k + 1, by omega, by simp [Fr]⟩ (by simp [intV, mk]; omega)⟩
    · refine hL _ _ ?_
      clear hL
      have ej : j = s.size - 1 := by omega
      have eN : ((s.size : Int) - 1).toNat = s.size - 1 := by omega
      have hlo : lineOk s = true := by unfold lineOk; simp [m1]; exact ⟨e0, by omega⟩
      have hb' : (((s.data.getD (s.size - 1) 0).toNat : Int) = 10) := by rw [← ej]; exact byte_ten.2 n3
      rw [hlo]
      simp -implicitDefEqProofs (maxSteps := 99999999) (disch := omega) only [e0, eN, hb', va, vs, vh, Nat.reduceMul, ite_true, ite_false, eq_self, forall_const, implies_true, Nat.reduceAdd, Nat.reduceSub, Nat.reduceLT, Nat.reduceLeDiff, ↓reduceIte, reduceCtorEq, Int.reduceEq, Int.reduceLT, Int.reduceLE, Int.reduceGT, Int.reduceGE, Int.reduceAdd, Int.reduceSub, Int.reduceNeg, Int.reduceToNat, Nat.reduceBEq, Nat.reduceEqDiff]
      exact ⟨⟨by omega, by omega⟩, Weak.refl _ _ _⟩
end Go.Proofs.YtijnpkpcoeeioaaGreat
