/- law03.HunkDiffs tells true. -/
import Derived.Test.YtigmpablpmanpaaS147
import Derived.Test.YtigmpablpmanpaaS148
import Derived.Test.YtigmpablpmanpaaS24a
import Derived.Test.YtigmpablpmanpaaSB
namespace Go.Proofs.Ytigmpablpmanpaa
open Go.RowKit
set_option maxRecDepth 100000
set_option linter.unusedVariables false
set_option linter.unusedSimpArgs false

theorem bet_mem {a b : List ByteArray} : ∀ {l : List (Nat × Nat)} {i j : Nat} {h : Hk}, h ∈ bet a b i j l → ∃ i x j y, h.old = (a.take x).drop i ∧ h.new = (b.take y).drop j
  | [], _, _, _, hm => by simp [bet] at hm
  | (x, y) :: r, i, j, h, hm => by
    simp only [bet] at hm
    split at hm
    · exact bet_mem hm
    · rcases List.mem_cons.1 hm with rfl | hm
      · exact ⟨i, x, j, y, rfl, rfl⟩
      · exact bet_mem hm
theorem short_part {l : List ByteArray} (h : Short l) (i x : Nat) : Short ((l.take x).drop i) := ⟨by have := h.1; rw [List.length_drop, List.length_take]; omega, fun s hs => h.2 s (List.mem_of_mem_take (List.mem_of_mem_drop hs))⟩
theorem newLen_all {m : Nat} : ∀ {hs : List Hk}, (∀ h ∈ hs, h.new.length ≤ m) → newLen hs ≤ hs.length * m
  | [], _ => by simp [newLen]
  | h :: r, hm => by
    have h1 := hm h (by simp)
    have h2 := newLen_all (hs := r) fun x hx => hm x (by simp [hx])
    simp only [newLen, List.length_cons, Nat.succ_mul]
    omega
theorem difH_short {a b : List ByteArray} (ha : Short a) (hb : Short b) (hla : a.length ≤ 4096) (hlb : b.length ≤ 4096) : AllShort (difH a b) ∧ newLen (difH a b) ≤ 17000000 := by
  have hcl := cmn_le a b 0 0 (Nat.zero_le _)
  have hbl := bet_le a b (cmn a b 0 0 ++ [(a.length, b.length)]) 0 0
  rw [List.length_append] at hbl
  simp only [List.length_cons, List.length_nil] at hbl
  have hn : (difH a b).length ≤ 4097 := by unfold difH; omega
  refine ⟨⟨by omega, fun h hm => ?_⟩, ?_⟩
  · obtain ⟨i, x, j, y, e1, e2⟩ := bet_mem hm
    exact ⟨by rw [e1]; exact short_part ha i x, by rw [e2]; exact short_part hb j y⟩
  · have h1 := newLen_all (m := 4096) (hs := difH a b) fun h hm => by
      obtain ⟨i, x, j, y, e1, e2⟩ := bet_mem hm
      rw [e2, List.length_drop, List.length_take]
      omega
    have := Nat.mul_le_mul_right 4096 hn
    omega
theorem applyR_nil (l : List ByteArray) : applyR l [] = if linesB l = true then (l, 0) else ([], 4) := by
  unfold applyR
  by_cases h : linesB l = true
  · simp [h, sortedB, applyGo]
  · simp [h]
theorem hunkDiffs_d (a b : List ByteArray) (ha : Short a) (hb : Short b) : D Try.prog 3 [.lst 1 (strs a) none, .lst 1 (strs b) none] [] (.ret (.sc (.bool true))) [] := by
  refine D_of_DK (Nat.le_refl _) (dk3 (E_of_ES ?_))
  simp -implicitDefEqProofs (maxSteps := 99999999) (disch := first | omega | (simp only [AHeap.set_length, killO_length, List.length_cons, List.length_nil]; first | done | omega)) only [vu, ic3, va, vg, vs, vw, Nat.reduceMul, ite_true, ite_false, eq_self, forall_const, implies_true, Nat.reduceAdd, Nat.reduceSub, Nat.reduceLT, Nat.reduceLeDiff, ↓reduceIte, reduceCtorEq, Int.reduceEq, Int.reduceLT, Int.reduceLE, Int.reduceGT, Int.reduceGE, Int.reduceAdd, Int.reduceSub, Int.reduceNeg, Int.reduceToNat, Nat.reduceBEq, Nat.reduceEqDiff]
  refine callR_ret (awake3_d _) ?_
  by_cases c1 : (a.length : Int) > 300
  · simp -implicitDefEqProofs (maxSteps := 99999999) (disch := first | omega | (simp only [AHeap.set_length, killO_length, List.length_cons, List.length_nil]; first | done | omega)) only [vu, strs_length, c1, va, vg, vs, vw, Nat.reduceMul, ite_true, ite_false, eq_self, forall_const, implies_true, Nat.reduceAdd, Nat.reduceSub, Nat.reduceLT, Nat.reduceLeDiff, ↓reduceIte, reduceCtorEq, Int.reduceEq, Int.reduceLT, Int.reduceLE, Int.reduceGT, Int.reduceGE, Int.reduceAdd, Int.reduceSub, Int.reduceNeg, Int.reduceToNat, Nat.reduceBEq, Nat.reduceEqDiff]
    exact weak_end
  by_cases c2 : (b.length : Int) > 300
  · simp -implicitDefEqProofs (maxSteps := 99999999) (disch := first | omega | (simp only [AHeap.set_length, killO_length, List.length_cons, List.length_nil]; first | done | omega)) only [vu, strs_length, c1, c2, va, vg, vs, vw, Nat.reduceMul, ite_true, ite_false, eq_self, forall_const, implies_true, Nat.reduceAdd, Nat.reduceSub, Nat.reduceLT, Nat.reduceLeDiff, ↓reduceIte, reduceCtorEq, Int.reduceEq, Int.reduceLT, Int.reduceLE, Int.reduceGT, Int.reduceGE, Int.reduceAdd, Int.reduceSub, Int.reduceNeg, Int.reduceToNat, Nat.reduceBEq, Nat.reduceEqDiff]
    exact weak_end
  simp -implicitDefEqProofs (maxSteps := 99999999) (disch := first | omega | (simp only [AHeap.set_length, killO_length, List.length_cons, List.length_nil]; first | done | omega)) only [vu, strs_length, c1, c2, va, vg, vs, vw, Nat.reduceMul, ite_true, ite_false, eq_self, forall_const, implies_true, Nat.reduceAdd, Nat.reduceSub, Nat.reduceLT, Nat.reduceLeDiff, ↓reduceIte, reduceCtorEq, Int.reduceEq, Int.reduceLT, Int.reduceLE, Int.reduceGT, Int.reduceGE, Int.reduceAdd, Int.reduceSub, Int.reduceNeg, Int.reduceToNat, Nat.reduceBEq, Nat.reduceEqDiff]
  have hn0 : AllShort [] := ⟨by simp, by simp⟩
  refine callR_ret (D_le (.cons .refl (.cons .nil .nil)) (great3_d a [] none none _ ha hn0)) ?_
  generalize decide (load3 (([] : List Hk).length + textsOf a 2000) [] > 2000) = g1
  cases g1
  case true =>
    simp -implicitDefEqProofs (maxSteps := 99999999) (disch := first | omega | (simp only [AHeap.set_length, killO_length, List.length_cons, List.length_nil]; first | done | omega)) only [vu, va, vg, vs, vw, Nat.reduceMul, ite_true, ite_false, eq_self, forall_const, implies_true, Nat.reduceAdd, Nat.reduceSub, Nat.reduceLT, Nat.reduceLeDiff, ↓reduceIte, reduceCtorEq, Int.reduceEq, Int.reduceLT, Int.reduceLE, Int.reduceGT, Int.reduceGE, Int.reduceAdd, Int.reduceSub, Int.reduceNeg, Int.reduceToNat, Nat.reduceBEq, Nat.reduceEqDiff]
    exact weak_end
  simp -implicitDefEqProofs (maxSteps := 99999999) (disch := first | omega | (simp only [AHeap.set_length, killO_length, List.length_cons, List.length_nil]; first | done | omega)) only [vu, va, vg, vs, vw, Nat.reduceMul, ite_true, ite_false, eq_self, forall_const, implies_true, Nat.reduceAdd, Nat.reduceSub, Nat.reduceLT, Nat.reduceLeDiff, ↓reduceIte, reduceCtorEq, Int.reduceEq, Int.reduceLT, Int.reduceLE, Int.reduceGT, Int.reduceGE, Int.reduceAdd, Int.reduceSub, Int.reduceNeg, Int.reduceToNat, Nat.reduceBEq, Nat.reduceEqDiff]
  refine callR_ret (D_le (.cons .refl (.cons .nil .nil)) (great3_d b [] none none _ hb hn0)) ?_
  generalize decide (load3 (([] : List Hk).length + textsOf b 2000) [] > 2000) = g2
  cases g2
  case true =>
    simp -implicitDefEqProofs (maxSteps := 99999999) (disch := first | omega | (simp only [AHeap.set_length, killO_length, List.length_cons, List.length_nil]; first | done | omega)) only [vu, va, vg, vs, vw, Nat.reduceMul, ite_true, ite_false, eq_self, forall_const, implies_true, Nat.reduceAdd, Nat.reduceSub, Nat.reduceLT, Nat.reduceLeDiff, ↓reduceIte, reduceCtorEq, Int.reduceEq, Int.reduceLT, Int.reduceLE, Int.reduceGT, Int.reduceGE, Int.reduceAdd, Int.reduceSub, Int.reduceNeg, Int.reduceToNat, Nat.reduceBEq, Nat.reduceEqDiff]
    exact weak_end
  simp -implicitDefEqProofs (maxSteps := 99999999) (disch := first | omega | (simp only [AHeap.set_length, killO_length, List.length_cons, List.length_nil]; first | done | omega)) only [vu, va, vg, vs, vw, Nat.reduceMul, ite_true, ite_false, eq_self, forall_const, implies_true, Nat.reduceAdd, Nat.reduceSub, Nat.reduceLT, Nat.reduceLeDiff, ↓reduceIte, reduceCtorEq, Int.reduceEq, Int.reduceLT, Int.reduceLE, Int.reduceGT, Int.reduceGE, Int.reduceAdd, Int.reduceSub, Int.reduceNeg, Int.reduceToNat, Nat.reduceBEq, Nat.reduceEqDiff]
  refine callR_ret (apply_f a [] .refl .nil _ ha hn0 (by simp [newLen]; omega)) ?_
  rw [applyR_nil]
  simp -implicitDefEqProofs (maxSteps := 99999999) (disch := first | omega | (simp only [AHeap.set_length, killO_length, List.length_cons, List.length_nil]; first | done | omega)) only [vu, va, vg, vs, vw, Nat.reduceMul, ite_true, ite_false, eq_self, forall_const, implies_true, Nat.reduceAdd, Nat.reduceSub, Nat.reduceLT, Nat.reduceLeDiff, ↓reduceIte, reduceCtorEq, Int.reduceEq, Int.reduceLT, Int.reduceLE, Int.reduceGT, Int.reduceGE, Int.reduceAdd, Int.reduceSub, Int.reduceNeg, Int.reduceToNat, Nat.reduceBEq, Nat.reduceEqDiff]
  refine callR_ret (apply_f b [] .refl .nil _ hb hn0 (by simp [newLen]; omega)) ?_
  rw [applyR_nil]
  by_cases la : linesB a = true
  case neg =>
    simp only [la, if_false, Bool.false_eq_true]
    simp -implicitDefEqProofs (maxSteps := 99999999) (disch := first | omega | (simp only [AHeap.set_length, killO_length, List.length_cons, List.length_nil]; first | done | omega)) only [vu, va, vg, vs, vw, Nat.reduceMul, ite_true, ite_false, eq_self, forall_const, implies_true, Nat.reduceAdd, Nat.reduceSub, Nat.reduceLT, Nat.reduceLeDiff, ↓reduceIte, reduceCtorEq, Int.reduceEq, Int.reduceLT, Int.reduceLE, Int.reduceGT, Int.reduceGE, Int.reduceAdd, Int.reduceSub, Int.reduceNeg, Int.reduceToNat, Nat.reduceBEq, Nat.reduceEqDiff]
    exact weak_end
  by_cases lb : linesB b = true
  case neg =>
    simp only [la, lb, if_true, if_false, Bool.false_eq_true]
    simp -implicitDefEqProofs (maxSteps := 99999999) (disch := first | omega | (simp only [AHeap.set_length, killO_length, List.length_cons, List.length_nil]; first | done | omega)) only [vu, va, vg, vs, vw, Nat.reduceMul, ite_true, ite_false, eq_self, forall_const, implies_true, Nat.reduceAdd, Nat.reduceSub, Nat.reduceLT, Nat.reduceLeDiff, ↓reduceIte, reduceCtorEq, Int.reduceEq, Int.reduceLT, Int.reduceLE, Int.reduceGT, Int.reduceGE, Int.reduceAdd, Int.reduceSub, Int.reduceNeg, Int.reduceToNat, Nat.reduceBEq, Nat.reduceEqDiff]
    exact weak_end
  simp only [la, lb, if_true]
  simp -implicitDefEqProofs (maxSteps := 99999999) (disch := first | omega | (simp only [AHeap.set_length, killO_length, List.length_cons, List.length_nil]; first | done | omega)) only [vu, va, vg, vs, vw, Nat.reduceMul, ite_true, ite_false, eq_self, forall_const, implies_true, Nat.reduceAdd, Nat.reduceSub, Nat.reduceLT, Nat.reduceLeDiff, ↓reduceIte, reduceCtorEq, Int.reduceEq, Int.reduceLT, Int.reduceLE, Int.reduceGT, Int.reduceGE, Int.reduceAdd, Int.reduceSub, Int.reduceNeg, Int.reduceToNat, Nat.reduceBEq, Nat.reduceEqDiff]
  refine callR_ret (hunks_d a b (by omega) (by omega) _) ?_
  simp -implicitDefEqProofs (maxSteps := 99999999) (disch := first | omega | (simp only [AHeap.set_length, killO_length, List.length_cons, List.length_nil]; first | done | omega)) only [vu, va, vg, vs, vw, Nat.reduceMul, ite_true, ite_false, eq_self, forall_const, implies_true, Nat.reduceAdd, Nat.reduceSub, Nat.reduceLT, Nat.reduceLeDiff, ↓reduceIte, reduceCtorEq, Int.reduceEq, Int.reduceLT, Int.reduceLE, Int.reduceGT, Int.reduceGE, Int.reduceAdd, Int.reduceSub, Int.reduceNeg, Int.reduceToNat, Nat.reduceBEq, Nat.reduceEqDiff]
  obtain ⟨hso, hap⟩ := difH_ok la lb (by omega) (by omega)
  obtain ⟨hsh, hnl⟩ := difH_short ha hb (by omega) (by omega)
  refine callR_ret (apply_e hap .refl .refl _ ha hsh (by omega)) ?_
  simp -implicitDefEqProofs (maxSteps := 99999999) (disch := first | omega | (simp only [AHeap.set_length, killO_length, List.length_cons, List.length_nil]; first | done | omega)) only [vu, va, vg, vs, vw, Nat.reduceMul, ite_true, ite_false, eq_self, forall_const, implies_true, Nat.reduceAdd, Nat.reduceSub, Nat.reduceLT, Nat.reduceLeDiff, ↓reduceIte, reduceCtorEq, Int.reduceEq, Int.reduceLT, Int.reduceLE, Int.reduceGT, Int.reduceGE, Int.reduceAdd, Int.reduceSub, Int.reduceNeg, Int.reduceToNat, Nat.reduceBEq, Nat.reduceEqDiff]
  refine callR_ret (sorted_d (difH a b) none _ hsh) ?_
  rw [hso]
  simp -implicitDefEqProofs (maxSteps := 99999999) (disch := first | omega | (simp only [AHeap.set_length, killO_length, List.length_cons, List.length_nil]; first | done | omega)) only [vu, va, vg, vs, vw, Nat.reduceMul, ite_true, ite_false, eq_self, forall_const, implies_true, Nat.reduceAdd, Nat.reduceSub, Nat.reduceLT, Nat.reduceLeDiff, ↓reduceIte, reduceCtorEq, Int.reduceEq, Int.reduceLT, Int.reduceLE, Int.reduceGT, Int.reduceGE, Int.reduceAdd, Int.reduceSub, Int.reduceNeg, Int.reduceToNat, Nat.reduceBEq, Nat.reduceEqDiff]
  refine callR_ret (sameTexts_t b .refl .refl _ hb.1) ?_
  simp -implicitDefEqProofs (maxSteps := 99999999) (disch := first | omega | (simp only [AHeap.set_length, killO_length, List.length_cons, List.length_nil]; first | done | omega)) only [vu, va, vg, vs, vw, Nat.reduceMul, ite_true, ite_false, eq_self, forall_const, implies_true, Nat.reduceAdd, Nat.reduceSub, Nat.reduceLT, Nat.reduceLeDiff, ↓reduceIte, reduceCtorEq, Int.reduceEq, Int.reduceLT, Int.reduceLE, Int.reduceGT, Int.reduceGE, Int.reduceAdd, Int.reduceSub, Int.reduceNeg, Int.reduceToNat, Nat.reduceBEq, Nat.reduceEqDiff]
  exact weak_end
end Go.Proofs.Ytigmpablpmanpaa
