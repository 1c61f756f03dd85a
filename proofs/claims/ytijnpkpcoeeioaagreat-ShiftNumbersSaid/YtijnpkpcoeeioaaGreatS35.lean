/- A hunk that is lent. -/
import Derived.Test.YtijnpkpcoeeioaaGreatS31
import Derived.Test.YtijnpkpcoeeioaaGreatSB
namespace Go.Proofs.YtijnpkpcoeeioaaGreat
open Go.RowKit
set_option maxRecDepth 100000
set_option linter.unusedVariables false
set_option linter.unusedSimpArgs false

/-- A lent list of texts: its value, its block. -/
abbrev lentV (l : List ByteArray) (id : Nat) : AV := .vec 1 id 0 l.length (some (l.length + 12))
abbrev lentB (l : List ByteArray) : Option ABlk := some ⟨1, strs (l ++ mks 12), true, 9⟩
theorem lentHunk_d (h : Hk) (ro rn : Option (List AV)) (H : AHeap) (ho : h.old.length ≤ 1000000) (hn : h.new.length ≤ 1000000) : D Tryz.prog 7 [hkr h ro rn] H (.ret (.agg [.sc (.int .i64 h.at_), lentV h.old H.length, lentV h.new (H.length + 1)])) (lentB h.new :: lentB h.old :: H) := by
  refine D_of_DK (by simp; omega) (dk7 (E_of_ES ?_))
  simp -implicitDefEqProofs (maxSteps := 99999999) (disch := omega) only [ic7, va, vs, vh, Nat.reduceMul, ite_true, ite_false, eq_self, forall_const, implies_true, Nat.reduceAdd, Nat.reduceSub, Nat.reduceLT, Nat.reduceLeDiff, ↓reduceIte, reduceCtorEq, Int.reduceEq, Int.reduceLT, Int.reduceLE, Int.reduceGT, Int.reduceGE, Int.reduceAdd, Int.reduceSub, Int.reduceNeg, Int.reduceToNat, Nat.reduceBEq, Nat.reduceEqDiff]
  refine callR_ret (lentTexts_d _ _ _ ho) ?_
  simp -implicitDefEqProofs (maxSteps := 99999999) (disch := omega) only [va, vs, vh, Nat.reduceMul, ite_true, ite_false, eq_self, forall_const, implies_true, Nat.reduceAdd, Nat.reduceSub, Nat.reduceLT, Nat.reduceLeDiff, ↓reduceIte, reduceCtorEq, Int.reduceEq, Int.reduceLT, Int.reduceLE, Int.reduceGT, Int.reduceGE, Int.reduceAdd, Int.reduceSub, Int.reduceNeg, Int.reduceToNat, Nat.reduceBEq, Nat.reduceEqDiff]
  refine callR_ret (lentTexts_d _ _ _ hn) ?_
  simp -implicitDefEqProofs (maxSteps := 99999999) (disch := omega) only [va, vs, vh, Nat.reduceMul, ite_true, ite_false, eq_self, forall_const, implies_true, Nat.reduceAdd, Nat.reduceSub, Nat.reduceLT, Nat.reduceLeDiff, ↓reduceIte, reduceCtorEq, Int.reduceEq, Int.reduceLT, Int.reduceLE, Int.reduceGT, Int.reduceGE, Int.reduceAdd, Int.reduceSub, Int.reduceNeg, Int.reduceToNat, Nat.reduceBEq, Nat.reduceEqDiff]
  have f2 : AHeap.find (lentB h.new :: lentB h.old :: H) H.length = lentB h.old := by simp [AHeap.find]
  have f3 : AHeap.find (lentB h.new :: lentB h.old :: H) (H.length + 1) = lentB h.new := by simp [AHeap.find]
  refine weak_gen [H.length + 2, H.length + 3] (by simp) (by simp) (by simp) (fun id k hid hk => .inl ?_) (fun i s k hs hk => ?_) (.agg (.cons (.same trivial) (.cons (.vecR ?_ (.inl rfl)) (.cons (.vecR ?_ (.inl rfl)) .nil))))
  · rw [find_past (by simp; omega), find_past (by omega)] at hk
    refine ⟨hk, ?_⟩
    rw [find_past (by simp; omega), find_past (by simp; omega), find_past (by simp; omega), find_past (by omega)]
    exact hk
  · rcases i with _ | _ | i
    · simp only [List.getElem?_cons_zero, Option.some.injEq] at hs
      subst hs
      rw [Nat.add_zero, f2] at hk
      cases hk
      exact ⟨⟨1, strs (h.old ++ mks 12), true, 9⟩, by simp [AHeap.find], rfl, rfl, fun h => h, strs_gz⟩
    · simp only [List.getElem?_cons_succ, List.getElem?_cons_zero, Option.some.injEq] at hs
      subst hs
      rw [show H.length + (0 + 1) = H.length + 1 from rfl, f3] at hk
      cases hk
      exact ⟨⟨1, strs (h.new ++ mks 12), true, 9⟩, by simp [AHeap.find], rfl, rfl, fun h => h, strs_gz⟩
    · simp at hs
  · unfold newId
    rw [if_neg (by omega)]
    simp [List.idxOf?, List.findIdx?_cons]
  · unfold newId
    rw [if_neg (by omega)]
    simp [List.idxOf?, List.findIdx?_cons]
end Go.Proofs.YtijnpkpcoeeioaaGreat
