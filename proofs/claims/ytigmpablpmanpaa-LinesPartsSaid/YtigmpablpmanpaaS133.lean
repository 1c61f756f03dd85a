/- strings.Builder on own memory. -/
import Derived.Test.YtigmpablpmanpaaS130
namespace Go.Proofs.Ytigmpablpmanpaa
open Go.RowKit
set_option maxRecDepth 100000
set_option linter.unusedVariables false
set_option linter.unusedSimpArgs false

/-- The bytes of a Builder, and the block that holds it. -/
def bufA (c : ByteArray) (v : Nat) : AV := if c.size = 0 then .sc (.slice none 0 0) else .vec 1 v 0 c.size none
theorem bufA_0 {c : ByteArray} {v : Nat} (h : c.size = 0) : bufA c v = .sc (.slice none 0 0) := if_pos h
theorem bufA_1 {c : ByteArray} {v : Nat} (h : ¬ c.size = 0) : bufA c v = .vec 1 v 0 c.size none := if_neg h
theorem bufA_n (c : ByteArray) (v : Nat) : (bufA c v).ncells = 1 := by unfold bufA; split <;> rfl
theorem bufA_top (c : ByteArray) (v : Nat) : (bufA c v).isTop = false := by unfold bufA; split <;> rfl
theorem bufA_cells (c : ByteArray) (v : Nat) : (bufA c v).cells = [bufA c v] := by unfold bufA; split <;> rfl
theorem bufA_agg (c : ByteArray) (v : Nat) : (bufA c v).isAgg = false := by unfold bufA; split <;> rfl
def wrB (p b : AV) : ABlk := ⟨2, [.agg [p, b]], true, 81⟩

theorem check_d {H : AHeap} {id v : Nat} {p : AV} {c : ByteArray} (hf : AHeap.find H id = some (wrB p (bufA c v))) (hp : p = .sc (.pointer none) ∨ p = .ptr 2 id 0 0) :
    D Try.prog 60 [.ptr 2 id 0 0] H (.ret (.tup [])) (AHeap.set H id (some (wrB (.ptr 2 id 0 0) (bufA c v)))) := by
  have hl := AHeap.find_lt hf
  refine D_of_DK (by rw [AHeap.set_length]; exact Nat.le_refl _) (dk60 (E_of_ES ?_))
  unfold wrB at hf ⊢
  rcases hp with rfl | rfl
  · simp -implicitDefEqProofs (maxSteps := 99999999) (disch := first | omega | (simp only [AHeap.set_length, killO_length, List.length_cons, List.length_nil]; first | done | omega)) only [vu, ic60, hf, va, vg, vs, vw, Nat.reduceMul, ite_true, ite_false, eq_self, forall_const, implies_true, Nat.reduceAdd, Nat.reduceSub, Nat.reduceLT, Nat.reduceLeDiff, ↓reduceIte, reduceCtorEq, Int.reduceEq, Int.reduceLT, Int.reduceLE, Int.reduceGT, Int.reduceGE, Int.reduceAdd, Int.reduceSub, Int.reduceNeg, Int.reduceToNat, Nat.reduceBEq, Nat.reduceEqDiff]
    exact Weak.refl _ _ _
  · simp -implicitDefEqProofs (maxSteps := 99999999) (disch := first | omega | (simp only [AHeap.set_length, killO_length, List.length_cons, List.length_nil]; first | done | omega)) only [vu, ic60, hf, va, vg, vs, vw, Nat.reduceMul, ite_true, ite_false, eq_self, forall_const, implies_true, Nat.reduceAdd, Nat.reduceSub, Nat.reduceLT, Nat.reduceLeDiff, ↓reduceIte, reduceCtorEq, Int.reduceEq, Int.reduceLT, Int.reduceLE, Int.reduceGT, Int.reduceGE, Int.reduceAdd, Int.reduceSub, Int.reduceNeg, Int.reduceToNat, Nat.reduceBEq, Nat.reduceEqDiff]
    rw [set_self hf hl]
    exact Weak.refl _ _ _

theorem size_add (a b : ByteArray) : (a ++ b).size = a.size + b.size := ByteArray.size_append
theorem byteL_append (a b : ByteArray) : byteL (a ++ b) = byteL a ++ byteL b := by
  unfold byteL
  rw [ByteArray.data_append, Array.toList_append, List.map_append]
theorem byteL_len (s : ByteArray) : (byteL s).length = s.size := by
  unfold byteL
  rw [List.length_map, Array.length_toList]
  rfl
/-- Own memory behind a write. -/
def wrH (H : AHeap) (id v : Nat) (c s : ByteArray) : AHeap :=
  if c.size = 0 then if s.size = 0 then AHeap.set H id (some (wrB (.ptr 2 id 0 0) (bufA (c ++ s) H.length)))
    else some ⟨1, byteL (c ++ s), false, 5⟩ :: AHeap.set H id (some (wrB (.ptr 2 id 0 0) (bufA (c ++ s) H.length)))
  else some ⟨1, byteL (c ++ s), false, 5⟩ :: AHeap.set (AHeap.set H v none) id (some (wrB (.ptr 2 id 0 0) (bufA (c ++ s) H.length)))
theorem byteL_0 {c : ByteArray} (h : c.size = 0) : byteL c = [] := List.length_eq_zero_iff.1 (by rw [byteL_len]; exact h)
theorem write_d {H : AHeap} {id v : Nat} {p : AV} {c s : ByteArray} (hf : AHeap.find H id = some (wrB p (bufA c v))) (hp : p = .sc (.pointer none) ∨ p = .ptr 2 id 0 0)
    (hv : c.size ≠ 0 → AHeap.find H v = some ⟨1, byteL c, false, 5⟩ ∧ v ≠ id) (hs : c.size + s.size ≤ 100000000) :
    D Try.prog 45 [.ptr 2 id 0 0, .sc (.string s)] H (.ret (.tup [.sc (.int .i64 s.size), .sc .nilIface])) (wrH H id v c s) := by
  have hl := AHeap.find_lt hf
  have hlen : H.length ≤ (wrH H id v c s).length := by
    unfold wrH
    split
    · split <;> simp [AHeap.set_length]
    · simp [AHeap.set_length]
  refine D_of_DK hlen (dk45 (E_of_ES ?_))
  simp -implicitDefEqProofs (maxSteps := 99999999) (disch := first | omega | (simp only [AHeap.set_length, killO_length, List.length_cons, List.length_nil]; first | done | omega)) only [vu, ic45, va, vg, vs, vw, Nat.reduceMul, ite_true, ite_false, eq_self, forall_const, implies_true, Nat.reduceAdd, Nat.reduceSub, Nat.reduceLT, Nat.reduceLeDiff, ↓reduceIte, reduceCtorEq, Int.reduceEq, Int.reduceLT, Int.reduceLE, Int.reduceGT, Int.reduceGE, Int.reduceAdd, Int.reduceSub, Int.reduceNeg, Int.reduceToNat, Nat.reduceBEq, Nat.reduceEqDiff]
  refine callR_ret (check_d hf hp) ?_
  have h1 : AHeap.find (AHeap.set H id (some (wrB (.ptr 2 id 0 0) (bufA c v)))) id = some (wrB (.ptr 2 id 0 0) (bufA c v)) := AHeap.find_set_same hl
  have hsz := size_add c s
  unfold wrB at h1
  by_cases h0 : c.size = 0
  · rw [bufA_0 h0] at h1
    by_cases h2 : s.size = 0
    · simp -implicitDefEqProofs (maxSteps := 99999999) (disch := first | omega | (simp only [AHeap.set_length, killO_length, List.length_cons, List.length_nil]; first | done | omega)) only [vu, wrB, bufA_0 h0, h1, h2, va, vg, vs, vw, Nat.reduceMul, ite_true, ite_false, eq_self, forall_const, implies_true, Nat.reduceAdd, Nat.reduceSub, Nat.reduceLT, Nat.reduceLeDiff, ↓reduceIte, reduceCtorEq, Int.reduceEq, Int.reduceLT, Int.reduceLE, Int.reduceGT, Int.reduceGE, Int.reduceAdd, Int.reduceSub, Int.reduceNeg, Int.reduceToNat, Nat.reduceBEq, Nat.reduceEqDiff]
      have hw : wrH H id v c s = AHeap.set H id (some ⟨2, [.agg [.ptr 2 id 0 0, .sc (.slice none 0 0)]], true, 81⟩) := by
        unfold wrH wrB
        rw [if_pos h0, if_pos h2, bufA_0 (by omega)]
      rw [hw, set_set]
      exact Weak.refl _ _ _
    · simp -implicitDefEqProofs (maxSteps := 99999999) (disch := first | omega | (simp only [AHeap.set_length, killO_length, List.length_cons, List.length_nil]; first | done | omega)) only [vu, wrB, bufA_0 h0, h1, h2, va, vg, vs, vw, Nat.reduceMul, ite_true, ite_false, eq_self, forall_const, implies_true, Nat.reduceAdd, Nat.reduceSub, Nat.reduceLT, Nat.reduceLeDiff, ↓reduceIte, reduceCtorEq, Int.reduceEq, Int.reduceLT, Int.reduceLE, Int.reduceGT, Int.reduceGE, Int.reduceAdd, Int.reduceSub, Int.reduceNeg, Int.reduceToNat, Nat.reduceBEq, Nat.reduceEqDiff]
      have hw : wrH H id v c s = some ⟨1, byteL s, false, 5⟩ :: AHeap.set H id (some ⟨2, [.agg [.ptr 2 id 0 0, .vec 1 H.length 0 s.size none]], true, 81⟩) := by
        unfold wrH wrB
        rw [if_pos h0, if_neg h2, bufA_1 (by omega), hsz, h0, Nat.zero_add, byteL_append, byteL_0 h0, List.nil_append]
      rw [hw, set_set]
      exact ⟨by omega, Weak.refl _ _ _⟩
  · rw [bufA_1 h0] at h1
    obtain ⟨v1, v2⟩ := hv h0
    have v3 : ¬ id = v := fun e => v2 e.symm
    simp -implicitDefEqProofs (maxSteps := 99999999) (disch := first | omega | (simp only [AHeap.set_length, killO_length, List.length_cons, List.length_nil]; first | done | omega)) only [vu, wrB, bufA_1 h0, h1, v1, v2, v3, byteL_len, va, vg, vs, vw, Nat.reduceMul, ite_true, ite_false, eq_self, forall_const, implies_true, Nat.reduceAdd, Nat.reduceSub, Nat.reduceLT, Nat.reduceLeDiff, ↓reduceIte, reduceCtorEq, Int.reduceEq, Int.reduceLT, Int.reduceLE, Int.reduceGT, Int.reduceGE, Int.reduceAdd, Int.reduceSub, Int.reduceNeg, Int.reduceToNat, Nat.reduceBEq, Nat.reduceEqDiff]
    have hw : wrH H id v c s = some ⟨1, byteL c ++ byteL s, false, 5⟩ :: AHeap.set (AHeap.set H v none) id (some ⟨2, [.agg [.ptr 2 id 0 0, .vec 1 H.length 0 (c.size + s.size) none]], true, 81⟩) := by
      unfold wrH wrB
      rw [if_neg h0, bufA_1 (by omega), hsz, byteL_append]
    rw [hw, set_comm (i := id) (j := v) v3, set_set]
    exact ⟨by omega, Weak.refl _ _ _⟩
/-- What stands there behind a write. -/
theorem wrH_ok {H : AHeap} {id v : Nat} {p : AV} {c s : ByteArray} (hf : AHeap.find H id = some (wrB p (bufA c v))) (hv : c.size ≠ 0 → AHeap.find H v = some ⟨1, byteL c, false, 5⟩ ∧ v ≠ id) :
    AHeap.find (wrH H id v c s) id = some (wrB (.ptr 2 id 0 0) (bufA (c ++ s) H.length)) ∧ ((c ++ s).size ≠ 0 → AHeap.find (wrH H id v c s) H.length = some ⟨1, byteL (c ++ s), false, 5⟩) ∧
    (∀ i, i < H.length → i ≠ id → (c.size ≠ 0 → i ≠ v) → AHeap.find (wrH H id v c s) i = AHeap.find H i) ∧ H.length ≤ (wrH H id v c s).length := by
  have hl := AHeap.find_lt hf
  have hsz := size_add c s
  unfold wrH
  by_cases h0 : c.size = 0
  · rw [if_pos h0]
    by_cases h2 : s.size = 0
    · rw [if_pos h2]
      exact ⟨AHeap.find_set_same hl, fun h => by omega, fun i hi h1 _ => find_set_other h1, by rw [AHeap.set_length]; exact Nat.le_refl _⟩
    · rw [if_neg h2]
      refine ⟨?_, fun h => find_top (by rw [AHeap.set_length]), fun i hi h1 _ => ?_, by rw [List.length_cons, AHeap.set_length]; omega⟩
      · rw [find_past (by rw [AHeap.set_length]; exact hl)]; exact AHeap.find_set_same hl
      · rw [find_past (by rw [AHeap.set_length]; exact hi), find_set_other h1]
  · rw [if_neg h0]
    refine ⟨?_, fun h => find_top (by rw [AHeap.set_length, AHeap.set_length]), fun i hi h1 h3 => ?_, by rw [List.length_cons, AHeap.set_length, AHeap.set_length]; omega⟩
    · rw [find_past (by rw [AHeap.set_length, AHeap.set_length]; exact hl)]; exact AHeap.find_set_same (by rw [AHeap.set_length]; exact hl)
    · rw [find_past (by rw [AHeap.set_length, AHeap.set_length]; exact hi), find_set_other h1, find_set_other (h3 h0)]

theorem wstring_d {H : AHeap} {id v : Nat} {p : AV} {c : ByteArray} (hf : AHeap.find H id = some (wrB p (bufA c v))) (hv : c.size ≠ 0 → AHeap.find H v = some ⟨1, byteL c, false, 5⟩) (hs : c.size ≤ 100000000) :
    D Try.prog 46 [.ptr 2 id 0 0] H (.ret (.sc (.string c))) (if c.size = 0 then H else AHeap.set H v none) := by
  refine D_of_DK (by split <;> simp [AHeap.set_length]) (dk46 (E_of_ES ?_))
  unfold wrB at hf
  by_cases h0 : c.size = 0
  · rw [bufA_0 h0] at hf
    rw [if_pos h0]
    have hc : c = ⟨#[]⟩ := by
      apply ByteArray.ext
      exact Array.eq_empty_of_size_eq_zero h0
    subst hc
    simp -implicitDefEqProofs (maxSteps := 99999999) (disch := first | omega | (simp only [AHeap.set_length, killO_length, List.length_cons, List.length_nil]; first | done | omega)) only [vu, ic46, hf, va, vg, vs, vw, Nat.reduceMul, ite_true, ite_false, eq_self, forall_const, implies_true, Nat.reduceAdd, Nat.reduceSub, Nat.reduceLT, Nat.reduceLeDiff, ↓reduceIte, reduceCtorEq, Int.reduceEq, Int.reduceLT, Int.reduceLE, Int.reduceGT, Int.reduceGE, Int.reduceAdd, Int.reduceSub, Int.reduceNeg, Int.reduceToNat, Nat.reduceBEq, Nat.reduceEqDiff]
    exact Weak.refl _ _ _
  · rw [bufA_1 h0] at hf
    rw [if_neg h0]
    have v1 := hv h0
    have e1 : (byteL c).take c.size = byteL c := List.take_of_length_le (by rw [byteL_len]; exact Nat.le_refl _)
    simp -implicitDefEqProofs (maxSteps := 99999999) (disch := first | omega | (simp only [AHeap.set_length, killO_length, List.length_cons, List.length_nil]; first | done | omega)) only [vu, ic46, hf, v1, e1, byteL_len, bytesV_byteL, va, vg, vs, vw, Nat.reduceMul, ite_true, ite_false, eq_self, forall_const, implies_true, Nat.reduceAdd, Nat.reduceSub, Nat.reduceLT, Nat.reduceLeDiff, ↓reduceIte, reduceCtorEq, Int.reduceEq, Int.reduceLT, Int.reduceLE, Int.reduceGT, Int.reduceGE, Int.reduceAdd, Int.reduceSub, Int.reduceNeg, Int.reduceToNat, Nat.reduceBEq, Nat.reduceEqDiff]
    exact ⟨by omega, ⟨⟨by omega, Nat.le_refl _⟩, c, rfl⟩, Weak.refl _ _ _⟩
end Go.Proofs.Ytigmpablpmanpaa
