/- Several texts in one: what each is for stands ahead of it. -/
import Derived.Test.YtijnpkpcoeeioaaGreatSA
import Derived.Test.YtijnpkpcoeeioaaGreatIc9
import Derived.Test.YtijnpkpcoeeioaaGreatIc2
import Derived.KernelRfl
/- law04.great, tells. Counts of texts, great, tells. -/
namespace Go.Proofs.YtijnpkpcoeeioaaGreat
open Go.RowKit
set_option maxRecDepth 100000
set_option linter.unusedVariables false
set_option linter.unusedSimpArgs false

def loadH (p q : Hk) : Int := textsOf p.old 2000 + textsOf p.new 2000 + textsOf q.old 2000 + textsOf q.new 2000
theorem great_d (p q : Hk) (po pn qo qn : Option (List AV)) (H : AHeap) (hp : p.short) (hq : q.short) : D Tryz.prog 5 [hkr p po pn, hkr q qo qn] H (.ret (.sc (.bool (decide (loadH p q > 2000))))) H := by
  have b1 := textsOf_rng hp.1 (most := 2000) (by omega)
  have b2 := textsOf_rng hp.2 (most := 2000) (by omega)
  have b3 := textsOf_rng hq.1 (most := 2000) (by omega)
  have b4 := textsOf_rng hq.2 (most := 2000) (by omega)
  refine D_of_DK (Nat.le_refl _) (dk5 (E_of_ES ?_))
  simp -implicitDefEqProofs (maxSteps := 99999999) (disch := omega) only [ic5, va, vs, vh, Nat.reduceMul, ite_true, ite_false, eq_self, forall_const, implies_true, Nat.reduceAdd, Nat.reduceSub, Nat.reduceLT, Nat.reduceLeDiff, ↓reduceIte, reduceCtorEq, Int.reduceEq, Int.reduceLT, Int.reduceLE, Int.reduceGT, Int.reduceGE, Int.reduceAdd, Int.reduceSub, Int.reduceNeg, Int.reduceToNat, Nat.reduceBEq, Nat.reduceEqDiff]
  refine callD_same (textsOf_d _ _ 2000 _ hp.1 (by omega)) ?_
  simp -implicitDefEqProofs (maxSteps := 99999999) (disch := omega) only [va, vs, vh, Nat.reduceMul, ite_true, ite_false, eq_self, forall_const, implies_true, Nat.reduceAdd, Nat.reduceSub, Nat.reduceLT, Nat.reduceLeDiff, ↓reduceIte, reduceCtorEq, Int.reduceEq, Int.reduceLT, Int.reduceLE, Int.reduceGT, Int.reduceGE, Int.reduceAdd, Int.reduceSub, Int.reduceNeg, Int.reduceToNat, Nat.reduceBEq, Nat.reduceEqDiff]
  refine callD_same (textsOf_d _ _ 2000 _ hp.2 (by omega)) ?_
  simp -implicitDefEqProofs (maxSteps := 99999999) (disch := omega) only [va, vs, vh, Nat.reduceMul, ite_true, ite_false, eq_self, forall_const, implies_true, Nat.reduceAdd, Nat.reduceSub, Nat.reduceLT, Nat.reduceLeDiff, ↓reduceIte, reduceCtorEq, Int.reduceEq, Int.reduceLT, Int.reduceLE, Int.reduceGT, Int.reduceGE, Int.reduceAdd, Int.reduceSub, Int.reduceNeg, Int.reduceToNat, Nat.reduceBEq, Nat.reduceEqDiff]
  refine callD_same (textsOf_d _ _ 2000 _ hq.1 (by omega)) ?_
  simp -implicitDefEqProofs (maxSteps := 99999999) (disch := omega) only [va, vs, vh, Nat.reduceMul, ite_true, ite_false, eq_self, forall_const, implies_true, Nat.reduceAdd, Nat.reduceSub, Nat.reduceLT, Nat.reduceLeDiff, ↓reduceIte, reduceCtorEq, Int.reduceEq, Int.reduceLT, Int.reduceLE, Int.reduceGT, Int.reduceGE, Int.reduceAdd, Int.reduceSub, Int.reduceNeg, Int.reduceToNat, Nat.reduceBEq, Nat.reduceEqDiff]
  refine callD_same (textsOf_d _ _ 2000 _ hq.2 (by omega)) ?_
  simp -implicitDefEqProofs (maxSteps := 99999999) (disch := omega) only [va, vs, vh, Nat.reduceMul, ite_true, ite_false, eq_self, forall_const, implies_true, Nat.reduceAdd, Nat.reduceSub, Nat.reduceLT, Nat.reduceLeDiff, ↓reduceIte, reduceCtorEq, Int.reduceEq, Int.reduceLT, Int.reduceLE, Int.reduceGT, Int.reduceGE, Int.reduceAdd, Int.reduceSub, Int.reduceNeg, Int.reduceToNat, Nat.reduceBEq, Nat.reduceEqDiff]
  simp only [loadH]
  exact weak_sc (.cons (.cons .refl))

def tellsB (a b : Hk) (e : Int) (x y : Hk) : Bool := decide (e = 0) && (sameH a x && sameH b y)
theorem tells_d (a b x y : Hk) (e : Int) (ao an bo bn xo xn yo yn : Option (List AV)) (H : AHeap) (ha : a.short) (hb : b.short) : D Tryz.prog 17 [hkr a ao an, hkr b bo bn, .sc (.int .i64 e), hkr x xo xn, hkr y yo yn] H (.ret (.sc (.bool (tellsB a b e x y)))) H := by
  refine D_of_DK (Nat.le_refl _) (dk17 (E_of_ES ?_))
  by_cases c0 : e = 0
  · simp -implicitDefEqProofs (maxSteps := 99999999) (disch := omega) only [ic17, c0, va, vs, vh, Nat.reduceMul, ite_true, ite_false, eq_self, forall_const, implies_true, Nat.reduceAdd, Nat.reduceSub, Nat.reduceLT, Nat.reduceLeDiff, ↓reduceIte, reduceCtorEq, Int.reduceEq, Int.reduceLT, Int.reduceLE, Int.reduceGT, Int.reduceGE, Int.reduceAdd, Int.reduceSub, Int.reduceNeg, Int.reduceToNat, Nat.reduceBEq, Nat.reduceEqDiff]
    refine callR_ret (sameHunk_d _ _ _ _ _ _ _ ⟨ha.1.1, ha.2.1⟩) ?_
    cases c1 : sameH a x with
    | true =>
      simp -implicitDefEqProofs (maxSteps := 99999999) (disch := omega) only [va, vs, vh, Nat.reduceMul, ite_true, ite_false, eq_self, forall_const, implies_true, Nat.reduceAdd, Nat.reduceSub, Nat.reduceLT, Nat.reduceLeDiff, ↓reduceIte, reduceCtorEq, Int.reduceEq, Int.reduceLT, Int.reduceLE, Int.reduceGT, Int.reduceGE, Int.reduceAdd, Int.reduceSub, Int.reduceNeg, Int.reduceToNat, Nat.reduceBEq, Nat.reduceEqDiff]
      refine callR_ret (sameHunk_d _ _ _ _ _ _ _ ⟨hb.1.1, hb.2.1⟩) ?_
      simp -implicitDefEqProofs (maxSteps := 99999999) (disch := omega) only [va, vs, vh, Nat.reduceMul, ite_true, ite_false, eq_self, forall_const, implies_true, Nat.reduceAdd, Nat.reduceSub, Nat.reduceLT, Nat.reduceLeDiff, ↓reduceIte, reduceCtorEq, Int.reduceEq, Int.reduceLT, Int.reduceLE, Int.reduceGT, Int.reduceGE, Int.reduceAdd, Int.reduceSub, Int.reduceNeg, Int.reduceToNat, Nat.reduceBEq, Nat.reduceEqDiff]
      exact weak_over (by repeat constructor) (by simp only [tellsB, c0, c1, decide_true, Bool.true_and]; exact .same trivial)
    | false =>
      simp -implicitDefEqProofs (maxSteps := 99999999) (disch := omega) only [va, vs, vh, Nat.reduceMul, ite_true, ite_false, eq_self, forall_const, implies_true, Nat.reduceAdd, Nat.reduceSub, Nat.reduceLT, Nat.reduceLeDiff, ↓reduceIte, reduceCtorEq, Int.reduceEq, Int.reduceLT, Int.reduceLE, Int.reduceGT, Int.reduceGE, Int.reduceAdd, Int.reduceSub, Int.reduceNeg, Int.reduceToNat, Nat.reduceBEq, Nat.reduceEqDiff]
      exact weak_over (by repeat constructor) (by simp only [tellsB, c0, c1, decide_true, Bool.true_and, Bool.false_and]; exact .same trivial)
  · simp -implicitDefEqProofs (maxSteps := 99999999) (disch := omega) only [ic17, c0, va, vs, vh, Nat.reduceMul, ite_true, ite_false, eq_self, forall_const, implies_true, Nat.reduceAdd, Nat.reduceSub, Nat.reduceLT, Nat.reduceLeDiff, ↓reduceIte, reduceCtorEq, Int.reduceEq, Int.reduceLT, Int.reduceLE, Int.reduceGT, Int.reduceGE, Int.reduceAdd, Int.reduceSub, Int.reduceNeg, Int.reduceToNat, Nat.reduceBEq, Nat.reduceEqDiff]
    exact weak_over (by repeat constructor) (by simp only [tellsB, c0, decide_false, Bool.true_and, Bool.false_and]; exact .same trivial)
end Go.Proofs.YtijnpkpcoeeioaaGreat

/- Parts: more, moved, ahead, right. -/
namespace Go.Proofs.YtijnpkpcoeeioaaGreat
open Go.RowKit
set_option maxRecDepth 100000
set_option linter.unusedVariables false
set_option linter.unusedSimpArgs false

def Hk.few (h : Hk) : Prop := h.old.length ≤ 100000000 ∧ h.new.length ≤ 100000000
theorem Hk.short.few {h : Hk} (hs : h.short) : h.few := ⟨hs.1.1, hs.2.1⟩
def Hk.more (h : Hk) : Int := (h.new.length : Int) - h.old.length
def Hk.mv (h : Hk) (d : Int) : Hk := ⟨IntKind.i64.wrap (h.at_ + d), h.old, h.new⟩
theorem hk_fz {H : AHeap} {n : Nat} {h : Hk} {ro rn : Option (List AV)} : Fz H n (hkr h ro rn) (hk h) :=
  .agg (.cons (.same trivial) (.cons (.lst strs_fz) (.cons (.lst strs_fz) .nil)))

theorem more_d (h : Hk) (ro rn : Option (List AV)) (H : AHeap) (hf : h.few) : D Tryz.prog 23 [hkr h ro rn] H (.ret (.sc (.int .i64 h.more))) H := by
  obtain ⟨h1, h2⟩ := hf
  refine D_of_DK (Nat.le_refl _) (dk23 (E_of_ES ?_))
  simp -implicitDefEqProofs (maxSteps := 99999999) (disch := omega) only [ic23, va, vs, vh, Nat.reduceMul, ite_true, ite_false, eq_self, forall_const, implies_true, Nat.reduceAdd, Nat.reduceSub, Nat.reduceLT, Nat.reduceLeDiff, ↓reduceIte, reduceCtorEq, Int.reduceEq, Int.reduceLT, Int.reduceLE, Int.reduceGT, Int.reduceGE, Int.reduceAdd, Int.reduceSub, Int.reduceNeg, Int.reduceToNat, Nat.reduceBEq, Nat.reduceEqDiff]
  exact weak_sc (.cons .refl)
theorem moved_d (h : Hk) (d : Int) (ro rn : Option (List AV)) (H : AHeap) (hf : h.few) : D Tryz.prog 22 [hkr h ro rn, .sc (.int .i64 d)] H (.ret (hk (h.mv d))) H := by
  obtain ⟨h1, h2⟩ := hf
  refine D_of_DK (Nat.le_refl _) (dk22 (E_of_ES ?_))
  simp -implicitDefEqProofs (maxSteps := 99999999) (disch := omega) only [ic22, va, vs, vh, Nat.reduceMul, ite_true, ite_false, eq_self, forall_const, implies_true, Nat.reduceAdd, Nat.reduceSub, Nat.reduceLT, Nat.reduceLeDiff, ↓reduceIte, reduceCtorEq, Int.reduceEq, Int.reduceLT, Int.reduceLE, Int.reduceGT, Int.reduceGE, Int.reduceAdd, Int.reduceSub, Int.reduceNeg, Int.reduceToNat, Nat.reduceBEq, Nat.reduceEqDiff]
  refine callD_same (clone_d _ _ _ h1) ?_
  simp -implicitDefEqProofs (maxSteps := 99999999) (disch := omega) only [va, vs, vh, Nat.reduceMul, ite_true, ite_false, eq_self, forall_const, implies_true, Nat.reduceAdd, Nat.reduceSub, Nat.reduceLT, Nat.reduceLeDiff, ↓reduceIte, reduceCtorEq, Int.reduceEq, Int.reduceLT, Int.reduceLE, Int.reduceGT, Int.reduceGE, Int.reduceAdd, Int.reduceSub, Int.reduceNeg, Int.reduceToNat, Nat.reduceBEq, Nat.reduceEqDiff]
  refine callD_same (clone_d _ _ _ h2) ?_
  simp -implicitDefEqProofs (maxSteps := 99999999) (disch := omega) only [va, vs, vh, Nat.reduceMul, ite_true, ite_false, eq_self, forall_const, implies_true, Nat.reduceAdd, Nat.reduceSub, Nat.reduceLT, Nat.reduceLeDiff, ↓reduceIte, reduceCtorEq, Int.reduceEq, Int.reduceLT, Int.reduceLE, Int.reduceGT, Int.reduceGE, Int.reduceAdd, Int.reduceSub, Int.reduceNeg, Int.reduceToNat, Nat.reduceBEq, Nat.reduceEqDiff]
  exact weak_over (.cons (.cons .refl)) (hk_fz (h := h.mv d))
theorem ahead_d (p q : Hk) (l : List ByteArray) (po pn qo qn rl : Option (List AV)) (H : AHeap) : D Tryz.prog 20 [hkr p po pn, .lst 1 (strs l) rl, hkr q qo qn] H (.ret (.sc (.bool (decide (p.at_ < IntKind.i64.wrap (q.at_ - l.length)))))) H := by
  refine D_of_DK (Nat.le_refl _) (dk20 (E_of_ES ?_))
  simp -implicitDefEqProofs (maxSteps := 99999999) (disch := omega) only [ic20, va, vs, vh, Nat.reduceMul, ite_true, ite_false, eq_self, forall_const, implies_true, Nat.reduceAdd, Nat.reduceSub, Nat.reduceLT, Nat.reduceLeDiff, ↓reduceIte, reduceCtorEq, Int.reduceEq, Int.reduceLT, Int.reduceLE, Int.reduceGT, Int.reduceGE, Int.reduceAdd, Int.reduceSub, Int.reduceNeg, Int.reduceToNat, Nat.reduceBEq, Nat.reduceEqDiff]
  exact weak_sc (.cons (.cons .refl))
theorem right1_d (h : Hk) (ro rn : Option (List AV)) (H : AHeap) (hs : h.short) : D Tryz.prog 66 [hkr h ro rn] H (.ret (.sc (.bool (!rightB h)))) H := by
  refine D_of_DK (Nat.le_refl _) (dk66 (E_of_ES ?_))
  simp -implicitDefEqProofs (maxSteps := 99999999) (disch := omega) only [ic66, va, vs, vh, Nat.reduceMul, ite_true, ite_false, eq_self, forall_const, implies_true, Nat.reduceAdd, Nat.reduceSub, Nat.reduceLT, Nat.reduceLeDiff, ↓reduceIte, reduceCtorEq, Int.reduceEq, Int.reduceLT, Int.reduceLE, Int.reduceGT, Int.reduceGE, Int.reduceAdd, Int.reduceSub, Int.reduceNeg, Int.reduceToNat, Nat.reduceBEq, Nat.reduceEqDiff]
  refine callR_ret (right_d _ _ _ _ hs) ?_
  simp -implicitDefEqProofs (maxSteps := 99999999) (disch := omega) only [va, vs, vh, Nat.reduceMul, ite_true, ite_false, eq_self, forall_const, implies_true, Nat.reduceAdd, Nat.reduceSub, Nat.reduceLT, Nat.reduceLeDiff, ↓reduceIte, reduceCtorEq, Int.reduceEq, Int.reduceLT, Int.reduceLE, Int.reduceGT, Int.reduceGE, Int.reduceAdd, Int.reduceSub, Int.reduceNeg, Int.reduceToNat, Nat.reduceBEq, Nat.reduceEqDiff]
  exact weak_sc (.cons .refl)
theorem callable_121 : callable Tryz.prog 66 = true := by kernel_rfl
theorem index2_d (p q : Hk) (po pn qo qn : Option (List AV)) (room : Option (List AV)) (H : AHeap) (hp : p.short) (hq : q.short) : D Tryz.prog 95 [.lst 3 [hkr p po pn, hkr q qo qn] room, .fn (.func 66) [] []] H (.ret (.sc (.int .i64 (if rightB p then (if rightB q then -1 else 1) else 0)))) H := by
  refine D_of_DK (Nat.le_refl _) (dk95 (E_of_ES ?_))
  simp -implicitDefEqProofs (maxSteps := 99999999) (disch := omega) only [ic95, va, vs, vh, Nat.reduceMul, ite_true, ite_false, eq_self, forall_const, implies_true, Nat.reduceAdd, Nat.reduceSub, Nat.reduceLT, Nat.reduceLeDiff, ↓reduceIte, reduceCtorEq, Int.reduceEq, Int.reduceLT, Int.reduceLE, Int.reduceGT, Int.reduceGE, Int.reduceAdd, Int.reduceSub, Int.reduceNeg, Int.reduceToNat, Nat.reduceBEq, Nat.reduceEqDiff]
  refine ES_unroll (.s (.s (.s .o))) (Lp_next fun L hL => ?_)
  simp -implicitDefEqProofs (maxSteps := 99999999) (disch := omega) only [callable_121, va, vs, vh, Nat.reduceMul, ite_true, ite_false, eq_self, forall_const, implies_true, Nat.reduceAdd, Nat.reduceSub, Nat.reduceLT, Nat.reduceLeDiff, ↓reduceIte, reduceCtorEq, Int.reduceEq, Int.reduceLT, Int.reduceLE, Int.reduceGT, Int.reduceGE, Int.reduceAdd, Int.reduceSub, Int.reduceNeg, Int.reduceToNat, Nat.reduceBEq, Nat.reduceEqDiff]
  refine callR_ret (right1_d _ _ _ _ hp) ?_
  cases h1 : rightB p with
  | false =>
    simp -implicitDefEqProofs (maxSteps := 99999999) (disch := omega) only [h1, va, vs, vh, Nat.reduceMul, ite_true, ite_false, eq_self, forall_const, implies_true, Nat.reduceAdd, Nat.reduceSub, Nat.reduceLT, Nat.reduceLeDiff, ↓reduceIte, reduceCtorEq, Int.reduceEq, Int.reduceLT, Int.reduceLE, Int.reduceGT, Int.reduceGE, Int.reduceAdd, Int.reduceSub, Int.reduceNeg, Int.reduceToNat, Nat.reduceBEq, Nat.reduceEqDiff]
    exact weak_sc .refl
  | true =>
    simp -implicitDefEqProofs (maxSteps := 99999999) (disch := omega) only [h1, va, vs, vh, Nat.reduceMul, ite_true, ite_false, eq_self, forall_const, implies_true, Nat.reduceAdd, Nat.reduceSub, Nat.reduceLT, Nat.reduceLeDiff, ↓reduceIte, reduceCtorEq, Int.reduceEq, Int.reduceLT, Int.reduceLE, Int.reduceGT, Int.reduceGE, Int.reduceAdd, Int.reduceSub, Int.reduceNeg, Int.reduceToNat, Nat.reduceBEq, Nat.reduceEqDiff]
    refine hL _ _ (Lp_next fun L hL => ?_)
    simp -implicitDefEqProofs (maxSteps := 99999999) (disch := omega) only [callable_121, va, vs, vh, Nat.reduceMul, ite_true, ite_false, eq_self, forall_const, implies_true, Nat.reduceAdd, Nat.reduceSub, Nat.reduceLT, Nat.reduceLeDiff, ↓reduceIte, reduceCtorEq, Int.reduceEq, Int.reduceLT, Int.reduceLE, Int.reduceGT, Int.reduceGE, Int.reduceAdd, Int.reduceSub, Int.reduceNeg, Int.reduceToNat, Nat.reduceBEq, Nat.reduceEqDiff]
    refine callR_ret (right1_d _ _ _ _ hq) ?_
    cases h2 : rightB q with
    | false =>
      simp -implicitDefEqProofs (maxSteps := 99999999) (disch := omega) only [h1, h2, va, vs, vh, Nat.reduceMul, ite_true, ite_false, eq_self, forall_const, implies_true, Nat.reduceAdd, Nat.reduceSub, Nat.reduceLT, Nat.reduceLeDiff, ↓reduceIte, reduceCtorEq, Int.reduceEq, Int.reduceLT, Int.reduceLE, Int.reduceGT, Int.reduceGE, Int.reduceAdd, Int.reduceSub, Int.reduceNeg, Int.reduceToNat, Nat.reduceBEq, Nat.reduceEqDiff]
      exact weak_sc .refl
    | true =>
      simp -implicitDefEqProofs (maxSteps := 99999999) (disch := omega) only [h1, h2, va, vs, vh, Nat.reduceMul, ite_true, ite_false, eq_self, forall_const, implies_true, Nat.reduceAdd, Nat.reduceSub, Nat.reduceLT, Nat.reduceLeDiff, ↓reduceIte, reduceCtorEq, Int.reduceEq, Int.reduceLT, Int.reduceLE, Int.reduceGT, Int.reduceGE, Int.reduceAdd, Int.reduceSub, Int.reduceNeg, Int.reduceToNat, Nat.reduceBEq, Nat.reduceEqDiff]
      refine hL _ _ (Lp_next fun L hL => ?_)
      simp -implicitDefEqProofs (maxSteps := 99999999) (disch := omega) only [h1, h2, va, vs, vh, Nat.reduceMul, ite_true, ite_false, eq_self, forall_const, implies_true, Nat.reduceAdd, Nat.reduceSub, Nat.reduceLT, Nat.reduceLeDiff, ↓reduceIte, reduceCtorEq, Int.reduceEq, Int.reduceLT, Int.reduceLE, Int.reduceGT, Int.reduceGE, Int.reduceAdd, Int.reduceSub, Int.reduceNeg, Int.reduceToNat, Nat.reduceBEq, Nat.reduceEqDiff]
      exact weak_sc .refl
theorem right2_d (p q : Hk) (po pn qo qn : Option (List AV)) (room : Option (List AV)) (H : AHeap) (hp : p.short) (hq : q.short) : D Tryz.prog 38 [.lst 3 [hkr p po pn, hkr q qo qn] room] H (.ret (.sc (.bool (rightB p && rightB q)))) H := by
  refine D_of_DK (Nat.le_refl _) (dk38 (E_of_ES ?_))
  simp -implicitDefEqProofs (maxSteps := 99999999) (disch := omega) only [ic38, va, vs, vh, Nat.reduceMul, ite_true, ite_false, eq_self, forall_const, implies_true, Nat.reduceAdd, Nat.reduceSub, Nat.reduceLT, Nat.reduceLeDiff, ↓reduceIte, reduceCtorEq, Int.reduceEq, Int.reduceLT, Int.reduceLE, Int.reduceGT, Int.reduceGE, Int.reduceAdd, Int.reduceSub, Int.reduceNeg, Int.reduceToNat, Nat.reduceBEq, Nat.reduceEqDiff]
  refine callR_ret (v := .sc (.bool (!(rightB p && rightB q)))) (D_of_DK (Nat.le_refl _) (dk65 (E_of_ES ?_))) ?_
  · simp -implicitDefEqProofs (maxSteps := 99999999) (disch := omega) only [ic65, va, vs, vh, Nat.reduceMul, ite_true, ite_false, eq_self, forall_const, implies_true, Nat.reduceAdd, Nat.reduceSub, Nat.reduceLT, Nat.reduceLeDiff, ↓reduceIte, reduceCtorEq, Int.reduceEq, Int.reduceLT, Int.reduceLE, Int.reduceGT, Int.reduceGE, Int.reduceAdd, Int.reduceSub, Int.reduceNeg, Int.reduceToNat, Nat.reduceBEq, Nat.reduceEqDiff]
    refine callR_ret (index2_d _ _ _ _ _ _ _ _ hp hq) ?_
    cases h1 : rightB p <;> cases h2 : rightB q <;> simp -implicitDefEqProofs (maxSteps := 99999999) (disch := omega) only [va, vs, vh, Nat.reduceMul, ite_true, ite_false, eq_self, forall_const, implies_true, Nat.reduceAdd, Nat.reduceSub, Nat.reduceLT, Nat.reduceLeDiff, ↓reduceIte, reduceCtorEq, Int.reduceEq, Int.reduceLT, Int.reduceLE, Int.reduceGT, Int.reduceGE, Int.reduceAdd, Int.reduceSub, Int.reduceNeg, Int.reduceToNat, Nat.reduceBEq, Nat.reduceEqDiff] <;> exact weak_sc .refl
  · simp -implicitDefEqProofs (maxSteps := 99999999) (disch := omega) only [Bool.not_not, va, vs, vh, Nat.reduceMul, ite_true, ite_false, eq_self, forall_const, implies_true, Nat.reduceAdd, Nat.reduceSub, Nat.reduceLT, Nat.reduceLeDiff, ↓reduceIte, reduceCtorEq, Int.reduceEq, Int.reduceLT, Int.reduceLE, Int.reduceGT, Int.reduceGE, Int.reduceAdd, Int.reduceSub, Int.reduceNeg, Int.reduceToNat, Nat.reduceBEq, Nat.reduceEqDiff]
    exact weak_sc .refl
end Go.Proofs.YtijnpkpcoeeioaaGreat

/- shift.first, its closures, Commute. -/
namespace Go.Proofs.YtijnpkpcoeeioaaGreat
open Go.RowKit
set_option maxRecDepth 100000
set_option linter.unusedVariables false
set_option linter.unusedSimpArgs false

theorem zero_fz {H : AHeap} {n : Nat} : Fz H n (.agg [.sc (.int .i64 0), .lst 0 [] (some []), .lst 0 [] (some [])]) (hk ⟨0, [], []⟩) :=
  .agg (.cons (.same trivial) (.cons .nil (.cons .nil .nil)))
theorem mv_few {h : Hk} {d : Int} (hf : h.few) : (h.mv d).few := hf

def firstR (p q : Hk) (w1 : Bool) (x1 y1 : Hk) (w2 : Bool) (x2 y2 : Hk) : Hk × Hk × Int :=
  if (rightB p && rightB q) = true then
    if w1 = true then (if (rightB x1 && rightB y1) = true then (x1, y1, 0) else (⟨0, [], []⟩, ⟨0, [], []⟩, 130))
    else if w2 = true then (if (rightB x2 && rightB y2) = true then (x2, y2, 0) else (⟨0, [], []⟩, ⟨0, [], []⟩, 130))
    else (⟨0, [], []⟩, ⟨0, [], []⟩, 130)
  else (⟨0, [], []⟩, ⟨0, [], []⟩, 4)
def tupR (r : Hk × Hk × Int) : AV := .tup [hk r.1, hk r.2.1, .sc (.int .i64 r.2.2)]

set_option maxHeartbeats 4000000 in

theorem first_d (p q x1 y1 x2 y2 : Hk) (po pn qo qn : Option (List AV)) (w1 w2 : Bool) (g1 g2 : FuncId) (c1 c2 : List AV) (H : AHeap) (hp : p.short) (hq : q.short)
    (k1 : callable Tryz.prog g1 = true) (k2 : callable Tryz.prog g2 = true)
    (h1 : w1 = true → ∀ G, Over H G → D Tryz.prog g1 c1 G (.ret (.tup [hk x1, hk y1])) G) (s1 : x1.short ∧ y1.short)
    (h2 : w2 = true → ∀ G, Over H G → D Tryz.prog g2 c2 G (.ret (.tup [hk x2, hk y2])) G) (s2 : x2.short ∧ y2.short) :
    D Tryz.prog 19 [hkr p po pn, hkr q qo qn, .agg [.sc (.bool w1), .fn (.func g1) [] c1, .sc (.bool w2), .fn (.func g2) [] c2]] H (.ret (tupR (firstR p q w1 x1 y1 w2 x2 y2))) H := by
  refine D_of_DK (Nat.le_refl _) (dk19 (E_of_ES ?_))
  simp -implicitDefEqProofs (maxSteps := 99999999) (disch := omega) only [ic19, va, vs, vh, Nat.reduceMul, ite_true, ite_false, eq_self, forall_const, implies_true, Nat.reduceAdd, Nat.reduceSub, Nat.reduceLT, Nat.reduceLeDiff, ↓reduceIte, reduceCtorEq, Int.reduceEq, Int.reduceLT, Int.reduceLE, Int.reduceGT, Int.reduceGE, Int.reduceAdd, Int.reduceSub, Int.reduceNeg, Int.reduceToNat, Nat.reduceBEq, Nat.reduceEqDiff]
  refine callR_ret (right2_d _ _ _ _ _ _ _ _ hp hq) ?_
  unfold firstR
  cases r0 : (rightB p && rightB q) with
  | false =>
    simp -implicitDefEqProofs (maxSteps := 99999999) (disch := omega) only [va, vs, vh, Nat.reduceMul, ite_true, ite_false, eq_self, forall_const, implies_true, Nat.reduceAdd, Nat.reduceSub, Nat.reduceLT, Nat.reduceLeDiff, ↓reduceIte, reduceCtorEq, Int.reduceEq, Int.reduceLT, Int.reduceLE, Int.reduceGT, Int.reduceGE, Int.reduceAdd, Int.reduceSub, Int.reduceNeg, Int.reduceToNat, Nat.reduceBEq, Nat.reduceEqDiff]
    exact weak_over (by repeat constructor) (.tup (.cons zero_fz (.cons zero_fz (.cons (.same trivial) .nil))))
  | true =>
    simp -implicitDefEqProofs (maxSteps := 99999999) (disch := omega) only [va, vs, vh, Nat.reduceMul, ite_true, ite_false, eq_self, forall_const, implies_true, Nat.reduceAdd, Nat.reduceSub, Nat.reduceLT, Nat.reduceLeDiff, ↓reduceIte, reduceCtorEq, Int.reduceEq, Int.reduceLT, Int.reduceLE, Int.reduceGT, Int.reduceGE, Int.reduceAdd, Int.reduceSub, Int.reduceNeg, Int.reduceToNat, Nat.reduceBEq, Nat.reduceEqDiff]
    refine ES_unroll (.s (.s (.s .o))) (Lp_next fun L hL => ?_)
    cases w1 with
    | true =>
      clear hL
      simp -implicitDefEqProofs (maxSteps := 99999999) (disch := omega) only [k1, va, vs, vh, Nat.reduceMul, ite_true, ite_false, eq_self, forall_const, implies_true, Nat.reduceAdd, Nat.reduceSub, Nat.reduceLT, Nat.reduceLeDiff, ↓reduceIte, reduceCtorEq, Int.reduceEq, Int.reduceLT, Int.reduceLE, Int.reduceGT, Int.reduceGE, Int.reduceAdd, Int.reduceSub, Int.reduceNeg, Int.reduceToNat, Nat.reduceBEq, Nat.reduceEqDiff]
      refine callR_ret (h1 rfl _ (by repeat constructor)) ?_
      simp -implicitDefEqProofs (maxSteps := 99999999) (disch := omega) only [va, vs, vh, Nat.reduceMul, ite_true, ite_false, eq_self, forall_const, implies_true, Nat.reduceAdd, Nat.reduceSub, Nat.reduceLT, Nat.reduceLeDiff, ↓reduceIte, reduceCtorEq, Int.reduceEq, Int.reduceLT, Int.reduceLE, Int.reduceGT, Int.reduceGE, Int.reduceAdd, Int.reduceSub, Int.reduceNeg, Int.reduceToNat, Nat.reduceBEq, Nat.reduceEqDiff]
      refine callR_ret (right2_d _ _ _ _ _ _ _ _ s1.1 s1.2) ?_
      cases r1 : (rightB x1 && rightB y1) with
      | true =>
        simp -implicitDefEqProofs (maxSteps := 99999999) (disch := omega) only [va, vs, vh, Nat.reduceMul, ite_true, ite_false, eq_self, forall_const, implies_true, Nat.reduceAdd, Nat.reduceSub, Nat.reduceLT, Nat.reduceLeDiff, ↓reduceIte, reduceCtorEq, Int.reduceEq, Int.reduceLT, Int.reduceLE, Int.reduceGT, Int.reduceGE, Int.reduceAdd, Int.reduceSub, Int.reduceNeg, Int.reduceToNat, Nat.reduceBEq, Nat.reduceEqDiff]
        exact weak_over (by repeat constructor) (.tup (.cons hk_fz (.cons hk_fz (.cons (.same trivial) .nil))))
      | false =>
        simp -implicitDefEqProofs (maxSteps := 99999999) (disch := omega) only [va, vs, vh, Nat.reduceMul, ite_true, ite_false, eq_self, forall_const, implies_true, Nat.reduceAdd, Nat.reduceSub, Nat.reduceLT, Nat.reduceLeDiff, ↓reduceIte, reduceCtorEq, Int.reduceEq, Int.reduceLT, Int.reduceLE, Int.reduceGT, Int.reduceGE, Int.reduceAdd, Int.reduceSub, Int.reduceNeg, Int.reduceToNat, Nat.reduceBEq, Nat.reduceEqDiff]
        exact weak_over (by repeat constructor) (.tup (.cons zero_fz (.cons zero_fz (.cons (.same trivial) .nil))))
    | false =>
      simp -implicitDefEqProofs (maxSteps := 99999999) (disch := omega) only [va, vs, vh, Nat.reduceMul, ite_true, ite_false, eq_self, forall_const, implies_true, Nat.reduceAdd, Nat.reduceSub, Nat.reduceLT, Nat.reduceLeDiff, ↓reduceIte, reduceCtorEq, Int.reduceEq, Int.reduceLT, Int.reduceLE, Int.reduceGT, Int.reduceGE, Int.reduceAdd, Int.reduceSub, Int.reduceNeg, Int.reduceToNat, Nat.reduceBEq, Nat.reduceEqDiff]
      refine hL _ _ (Lp_next fun L hL => ?_)
      cases w2 with
      | true =>
        simp -implicitDefEqProofs (maxSteps := 99999999) (disch := omega) only [k2, va, vs, vh, Nat.reduceMul, ite_true, ite_false, eq_self, forall_const, implies_true, Nat.reduceAdd, Nat.reduceSub, Nat.reduceLT, Nat.reduceLeDiff, ↓reduceIte, reduceCtorEq, Int.reduceEq, Int.reduceLT, Int.reduceLE, Int.reduceGT, Int.reduceGE, Int.reduceAdd, Int.reduceSub, Int.reduceNeg, Int.reduceToNat, Nat.reduceBEq, Nat.reduceEqDiff]
        refine callR_ret (h2 rfl _ (by repeat constructor)) ?_
        simp -implicitDefEqProofs (maxSteps := 99999999) (disch := omega) only [va, vs, vh, Nat.reduceMul, ite_true, ite_false, eq_self, forall_const, implies_true, Nat.reduceAdd, Nat.reduceSub, Nat.reduceLT, Nat.reduceLeDiff, ↓reduceIte, reduceCtorEq, Int.reduceEq, Int.reduceLT, Int.reduceLE, Int.reduceGT, Int.reduceGE, Int.reduceAdd, Int.reduceSub, Int.reduceNeg, Int.reduceToNat, Nat.reduceBEq, Nat.reduceEqDiff]
        refine callR_ret (right2_d _ _ _ _ _ _ _ _ s2.1 s2.2) ?_
        cases r1 : (rightB x2 && rightB y2) with
        | true =>
          simp -implicitDefEqProofs (maxSteps := 99999999) (disch := omega) only [va, vs, vh, Nat.reduceMul, ite_true, ite_false, eq_self, forall_const, implies_true, Nat.reduceAdd, Nat.reduceSub, Nat.reduceLT, Nat.reduceLeDiff, ↓reduceIte, reduceCtorEq, Int.reduceEq, Int.reduceLT, Int.reduceLE, Int.reduceGT, Int.reduceGE, Int.reduceAdd, Int.reduceSub, Int.reduceNeg, Int.reduceToNat, Nat.reduceBEq, Nat.reduceEqDiff]
          exact weak_over (by repeat constructor) (.tup (.cons hk_fz (.cons hk_fz (.cons (.same trivial) .nil))))
        | false =>
          simp -implicitDefEqProofs (maxSteps := 99999999) (disch := omega) only [va, vs, vh, Nat.reduceMul, ite_true, ite_false, eq_self, forall_const, implies_true, Nat.reduceAdd, Nat.reduceSub, Nat.reduceLT, Nat.reduceLeDiff, ↓reduceIte, reduceCtorEq, Int.reduceEq, Int.reduceLT, Int.reduceLE, Int.reduceGT, Int.reduceGE, Int.reduceAdd, Int.reduceSub, Int.reduceNeg, Int.reduceToNat, Nat.reduceBEq, Nat.reduceEqDiff]
          exact weak_over (by repeat constructor) (.tup (.cons zero_fz (.cons zero_fz (.cons (.same trivial) .nil))))
      | false =>
        simp -implicitDefEqProofs (maxSteps := 99999999) (disch := omega) only [va, vs, vh, Nat.reduceMul, ite_true, ite_false, eq_self, forall_const, implies_true, Nat.reduceAdd, Nat.reduceSub, Nat.reduceLT, Nat.reduceLeDiff, ↓reduceIte, reduceCtorEq, Int.reduceEq, Int.reduceLT, Int.reduceLE, Int.reduceGT, Int.reduceGE, Int.reduceAdd, Int.reduceSub, Int.reduceNeg, Int.reduceToNat, Nat.reduceBEq, Nat.reduceEqDiff]
        refine hL _ _ (Lp_next fun L hL => ?_)
        simp -implicitDefEqProofs (maxSteps := 99999999) (disch := omega) only [va, vs, vh, Nat.reduceMul, ite_true, ite_false, eq_self, forall_const, implies_true, Nat.reduceAdd, Nat.reduceSub, Nat.reduceLT, Nat.reduceLeDiff, ↓reduceIte, reduceCtorEq, Int.reduceEq, Int.reduceLT, Int.reduceLE, Int.reduceGT, Int.reduceGE, Int.reduceAdd, Int.reduceSub, Int.reduceNeg, Int.reduceToNat, Nat.reduceBEq, Nat.reduceEqDiff]
        exact weak_over (by repeat constructor) (.tup (.cons zero_fz (.cons zero_fz (.cons (.same trivial) .nil))))

/-- A hunk that lies in own memory. -/
def HasH (H : AHeap) (i : Nat) (h : Hk) : Prop := ∃ ro rn ex ty, AHeap.find H i = some ⟨3, [hkr h ro rn], ex, ty⟩
theorem HasH.over {H G : AHeap} {i : Nat} {h : Hk} (hh : HasH H i h) (ho : Over H G) : HasH G i h := by
  obtain ⟨ro, rn, ex, ty, e⟩ := hh
  obtain ⟨A, rfl⟩ := ho.split
  exact ⟨ro, rn, ex, ty, by rw [AHeap.find_append (AHeap.find_lt e)]; exact e⟩

theorem comm1_d (a b : Hk) (i j : Nat) (H : AHeap) (ha : a.few) (hb : b.few) (hi : HasH H i b) (hj : HasH H j a) :
    D Tryz.prog 21 [.ptr 3 i 0 0, .ptr 3 j 0 0] H (.ret (.tup [hk (b.mv 0), hk (a.mv b.more)])) H := by
  obtain ⟨bo, bn, be, bt, ei⟩ := hi
  obtain ⟨ao, an, ae, at_, ej⟩ := hj
  have li := AHeap.find_lt ei
  have lj := AHeap.find_lt ej
  have n1 : i ≠ H.length := by omega
  have n2 : i ≠ H.length + 1 := by omega
  have n3 : j ≠ H.length := by omega
  have n4 : j ≠ H.length + 1 := by omega
  refine D_of_DK (Nat.le_refl _) (dk21 (E_of_ES ?_))
  simp -implicitDefEqProofs (maxSteps := 99999999) (disch := omega) only [ic21, n1, n2, n3, n4, ei, ej, va, vs, vh, Nat.reduceMul, ite_true, ite_false, eq_self, forall_const, implies_true, Nat.reduceAdd, Nat.reduceSub, Nat.reduceLT, Nat.reduceLeDiff, ↓reduceIte, reduceCtorEq, Int.reduceEq, Int.reduceLT, Int.reduceLE, Int.reduceGT, Int.reduceGE, Int.reduceAdd, Int.reduceSub, Int.reduceNeg, Int.reduceToNat, Nat.reduceBEq, Nat.reduceEqDiff]
  refine callD_same (moved_d _ _ _ _ _ hb) ?_
  simp -implicitDefEqProofs (maxSteps := 99999999) (disch := omega) only [n1, n2, n3, n4, ei, ej, va, vs, vh, Nat.reduceMul, ite_true, ite_false, eq_self, forall_const, implies_true, Nat.reduceAdd, Nat.reduceSub, Nat.reduceLT, Nat.reduceLeDiff, ↓reduceIte, reduceCtorEq, Int.reduceEq, Int.reduceLT, Int.reduceLE, Int.reduceGT, Int.reduceGE, Int.reduceAdd, Int.reduceSub, Int.reduceNeg, Int.reduceToNat, Nat.reduceBEq, Nat.reduceEqDiff]
  refine callD_same (more_d _ _ _ _ hb) ?_
  simp -implicitDefEqProofs (maxSteps := 99999999) (disch := omega) only [n1, n2, n3, n4, ei, ej, va, vs, vh, Nat.reduceMul, ite_true, ite_false, eq_self, forall_const, implies_true, Nat.reduceAdd, Nat.reduceSub, Nat.reduceLT, Nat.reduceLeDiff, ↓reduceIte, reduceCtorEq, Int.reduceEq, Int.reduceLT, Int.reduceLE, Int.reduceGT, Int.reduceGE, Int.reduceAdd, Int.reduceSub, Int.reduceNeg, Int.reduceToNat, Nat.reduceBEq, Nat.reduceEqDiff]
  refine callD_same (moved_d _ _ _ _ _ ha) ?_
  simp -implicitDefEqProofs (maxSteps := 99999999) (disch := omega) only [n1, n2, n3, n4, ei, ej, va, vs, vh, Nat.reduceMul, ite_true, ite_false, eq_self, forall_const, implies_true, Nat.reduceAdd, Nat.reduceSub, Nat.reduceLT, Nat.reduceLeDiff, ↓reduceIte, reduceCtorEq, Int.reduceEq, Int.reduceLT, Int.reduceLE, Int.reduceGT, Int.reduceGE, Int.reduceAdd, Int.reduceSub, Int.reduceNeg, Int.reduceToNat, Nat.reduceBEq, Nat.reduceEqDiff]
  exact weak_over (by repeat constructor) (.tup (.cons hk_fz (.cons hk_fz .nil)))
end Go.Proofs.YtijnpkpcoeeioaaGreat

/- shift.Commute. -/
namespace Go.Proofs.YtijnpkpcoeeioaaGreat
open Go.RowKit
set_option maxRecDepth 100000
set_option linter.unusedVariables false
set_option linter.unusedSimpArgs false

theorem more_rng {h : Hk} (hf : h.few) : -100000000 ≤ h.more ∧ h.more ≤ 100000000 := by
  obtain ⟨h1, h2⟩ := hf
  unfold Hk.more
  omega

theorem comm2_d (a b : Hk) (i j : Nat) (H : AHeap) (ha : a.few) (hb : b.few) (hi : HasH H i b) (hj : HasH H j a) :
    D Tryz.prog 24 [.ptr 3 i 0 0, .ptr 3 j 0 0] H (.ret (.tup [hk (b.mv (0 - a.more)), hk (a.mv 0)])) H := by
  obtain ⟨bo, bn, be, bt, ei⟩ := hi
  obtain ⟨ao, an, ae, at_, ej⟩ := hj
  have li := AHeap.find_lt ei
  have lj := AHeap.find_lt ej
  have n1 : i ≠ H.length := by omega
  have n2 : i ≠ H.length + 1 := by omega
  have n3 : j ≠ H.length := by omega
  have n4 : j ≠ H.length + 1 := by omega
  have hr := more_rng ha
  refine D_of_DK (Nat.le_refl _) (dk24 (E_of_ES ?_))
  simp -implicitDefEqProofs (maxSteps := 99999999) (disch := omega) only [ic24, n1, n2, n3, n4, ei, ej, va, vs, vh, Nat.reduceMul, ite_true, ite_false, eq_self, forall_const, implies_true, Nat.reduceAdd, Nat.reduceSub, Nat.reduceLT, Nat.reduceLeDiff, ↓reduceIte, reduceCtorEq, Int.reduceEq, Int.reduceLT, Int.reduceLE, Int.reduceGT, Int.reduceGE, Int.reduceAdd, Int.reduceSub, Int.reduceNeg, Int.reduceToNat, Nat.reduceBEq, Nat.reduceEqDiff]
  refine callD_same (more_d _ _ _ _ ha) ?_
  simp -implicitDefEqProofs (maxSteps := 99999999) (disch := omega) only [n1, n2, n3, n4, ei, ej, va, vs, vh, Nat.reduceMul, ite_true, ite_false, eq_self, forall_const, implies_true, Nat.reduceAdd, Nat.reduceSub, Nat.reduceLT, Nat.reduceLeDiff, ↓reduceIte, reduceCtorEq, Int.reduceEq, Int.reduceLT, Int.reduceLE, Int.reduceGT, Int.reduceGE, Int.reduceAdd, Int.reduceSub, Int.reduceNeg, Int.reduceToNat, Nat.reduceBEq, Nat.reduceEqDiff]
  refine callD_same (moved_d _ _ _ _ _ hb) ?_
  simp -implicitDefEqProofs (maxSteps := 99999999) (disch := omega) only [n1, n2, n3, n4, ei, ej, va, vs, vh, Nat.reduceMul, ite_true, ite_false, eq_self, forall_const, implies_true, Nat.reduceAdd, Nat.reduceSub, Nat.reduceLT, Nat.reduceLeDiff, ↓reduceIte, reduceCtorEq, Int.reduceEq, Int.reduceLT, Int.reduceLE, Int.reduceGT, Int.reduceGE, Int.reduceAdd, Int.reduceSub, Int.reduceNeg, Int.reduceToNat, Nat.reduceBEq, Nat.reduceEqDiff]
  refine callD_same (moved_d _ _ _ _ _ ha) ?_
  simp -implicitDefEqProofs (maxSteps := 99999999) (disch := omega) only [n1, n2, n3, n4, ei, ej, va, vs, vh, Nat.reduceMul, ite_true, ite_false, eq_self, forall_const, implies_true, Nat.reduceAdd, Nat.reduceSub, Nat.reduceLT, Nat.reduceLeDiff, ↓reduceIte, reduceCtorEq, Int.reduceEq, Int.reduceLT, Int.reduceLE, Int.reduceGT, Int.reduceGE, Int.reduceAdd, Int.reduceSub, Int.reduceNeg, Int.reduceToNat, Nat.reduceBEq, Nat.reduceEqDiff]
  exact weak_over (by repeat constructor) (.tup (.cons hk_fz (.cons hk_fz .nil)))

def commR (p q : Hk) : Hk × Hk × Int :=
  firstR p q (decide (q.at_ < IntKind.i64.wrap (p.at_ - q.old.length))) (q.mv 0) (p.mv q.more) (decide (p.at_ < IntKind.i64.wrap (q.at_ - p.new.length))) (q.mv (0 - p.more)) (p.mv 0)
theorem callable_c1 : callable Tryz.prog 21 = true := by kernel_rfl
theorem callable_c2 : callable Tryz.prog 24 = true := by kernel_rfl
theorem firstR_short {p q x1 y1 x2 y2 : Hk} {w1 w2 : Bool} (s1 : x1.short ∧ y1.short) (s2 : x2.short ∧ y2.short) : (firstR p q w1 x1 y1 w2 x2 y2).1.short ∧ (firstR p q w1 x1 y1 w2 x2 y2).2.1.short := by
  have z : (⟨0, [], []⟩ : Hk).short := ⟨⟨by simp, by simp⟩, ⟨by simp, by simp⟩⟩
  unfold firstR
  split
  · split
    · split
      · exact s1
      · exact ⟨z, z⟩
    · split
      · split
        · exact s2
        · exact ⟨z, z⟩
      · exact ⟨z, z⟩
  · exact ⟨z, z⟩
theorem tup_fz {H : AHeap} {n : Nat} {r : Hk × Hk × Int} {ao an bo bn : Option (List AV)} : Fz H n (.tup [hkr r.1 ao an, hkr r.2.1 bo bn, .sc (.int .i64 r.2.2)]) (tupR r) :=
  .tup (.cons hk_fz (.cons hk_fz (.cons (.same trivial) .nil)))

set_option maxHeartbeats 4000000 in

theorem commute_d (p q : Hk) (po pn qo qn : Option (List AV)) (H : AHeap) (hp : p.short) (hq : q.short) :
    D Tryz.prog 8 [hkr p po pn, hkr q qo qn] H (.ret (tupR (commR p q))) H := by
  refine D_of_DK (Nat.le_refl _) (dk8 (E_of_ES ?_))
  simp -implicitDefEqProofs (maxSteps := 99999999) (disch := omega) only [ic8, va, vs, vh, Nat.reduceMul, ite_true, ite_false, eq_self, forall_const, implies_true, Nat.reduceAdd, Nat.reduceSub, Nat.reduceLT, Nat.reduceLeDiff, ↓reduceIte, reduceCtorEq, Int.reduceEq, Int.reduceLT, Int.reduceLE, Int.reduceGT, Int.reduceGE, Int.reduceAdd, Int.reduceSub, Int.reduceNeg, Int.reduceToNat, Nat.reduceBEq, Nat.reduceEqDiff]
  refine callD_same (ahead_d _ _ _ _ _ _ _ _ _) ?_
  simp -implicitDefEqProofs (maxSteps := 99999999) (disch := omega) only [va, vs, vh, Nat.reduceMul, ite_true, ite_false, eq_self, forall_const, implies_true, Nat.reduceAdd, Nat.reduceSub, Nat.reduceLT, Nat.reduceLeDiff, ↓reduceIte, reduceCtorEq, Int.reduceEq, Int.reduceLT, Int.reduceLE, Int.reduceGT, Int.reduceGE, Int.reduceAdd, Int.reduceSub, Int.reduceNeg, Int.reduceToNat, Nat.reduceBEq, Nat.reduceEqDiff]
  refine callD_same (ahead_d _ _ _ _ _ _ _ _ _) ?_
  simp -implicitDefEqProofs (maxSteps := 99999999) (disch := omega) only [va, vs, vh, Nat.reduceMul, ite_true, ite_false, eq_self, forall_const, implies_true, Nat.reduceAdd, Nat.reduceSub, Nat.reduceLT, Nat.reduceLeDiff, ↓reduceIte, reduceCtorEq, Int.reduceEq, Int.reduceLT, Int.reduceLE, Int.reduceGT, Int.reduceGE, Int.reduceAdd, Int.reduceSub, Int.reduceNeg, Int.reduceToNat, Nat.reduceBEq, Nat.reduceEqDiff]
  refine callD_same (first_d p q (q.mv 0) (p.mv q.more) (q.mv (0 - p.more)) (p.mv 0) _ _ _ _ _ _ _ _ _ _ _ hp hq callable_c1 callable_c2 (fun _ G ho => comm1_d p q _ _ G hp.few hq.few (HasH.over ?_ ho) (HasH.over ?_ ho)) ⟨hq, hp⟩ (fun _ G ho => comm2_d p q _ _ G hp.few hq.few (HasH.over ?_ ho) (HasH.over ?_ ho)) ⟨hq, hp⟩) ?_
  · exact ⟨qo, qn, true, 39, by simp -implicitDefEqProofs (maxSteps := 99999999) (disch := omega) only [va, vs, vh, Nat.reduceMul, ite_true, ite_false, eq_self, forall_const, implies_true, Nat.reduceAdd, Nat.reduceSub, Nat.reduceLT, Nat.reduceLeDiff, ↓reduceIte, reduceCtorEq, Int.reduceEq, Int.reduceLT, Int.reduceLE, Int.reduceGT, Int.reduceGE, Int.reduceAdd, Int.reduceSub, Int.reduceNeg, Int.reduceToNat, Nat.reduceBEq, Nat.reduceEqDiff]⟩
  · exact ⟨po, pn, true, 39, by simp -implicitDefEqProofs (maxSteps := 99999999) (disch := omega) only [va, vs, vh, Nat.reduceMul, ite_true, ite_false, eq_self, forall_const, implies_true, Nat.reduceAdd, Nat.reduceSub, Nat.reduceLT, Nat.reduceLeDiff, ↓reduceIte, reduceCtorEq, Int.reduceEq, Int.reduceLT, Int.reduceLE, Int.reduceGT, Int.reduceGE, Int.reduceAdd, Int.reduceSub, Int.reduceNeg, Int.reduceToNat, Nat.reduceBEq, Nat.reduceEqDiff]⟩
  · exact ⟨qo, qn, true, 39, by simp -implicitDefEqProofs (maxSteps := 99999999) (disch := omega) only [va, vs, vh, Nat.reduceMul, ite_true, ite_false, eq_self, forall_const, implies_true, Nat.reduceAdd, Nat.reduceSub, Nat.reduceLT, Nat.reduceLeDiff, ↓reduceIte, reduceCtorEq, Int.reduceEq, Int.reduceLT, Int.reduceLE, Int.reduceGT, Int.reduceGE, Int.reduceAdd, Int.reduceSub, Int.reduceNeg, Int.reduceToNat, Nat.reduceBEq, Nat.reduceEqDiff]⟩
  · exact ⟨po, pn, true, 39, by simp -implicitDefEqProofs (maxSteps := 99999999) (disch := omega) only [va, vs, vh, Nat.reduceMul, ite_true, ite_false, eq_self, forall_const, implies_true, Nat.reduceAdd, Nat.reduceSub, Nat.reduceLT, Nat.reduceLeDiff, ↓reduceIte, reduceCtorEq, Int.reduceEq, Int.reduceLT, Int.reduceLE, Int.reduceGT, Int.reduceGE, Int.reduceAdd, Int.reduceSub, Int.reduceNeg, Int.reduceToNat, Nat.reduceBEq, Nat.reduceEqDiff]⟩
  simp -implicitDefEqProofs (maxSteps := 99999999) (disch := omega) only [tupR, va, vs, vh, Nat.reduceMul, ite_true, ite_false, eq_self, forall_const, implies_true, Nat.reduceAdd, Nat.reduceSub, Nat.reduceLT, Nat.reduceLeDiff, ↓reduceIte, reduceCtorEq, Int.reduceEq, Int.reduceLT, Int.reduceLE, Int.reduceGT, Int.reduceGE, Int.reduceAdd, Int.reduceSub, Int.reduceNeg, Int.reduceToNat, Nat.reduceBEq, Nat.reduceEqDiff]
  exact weak_over (by repeat constructor) (tup_fz (r := commR p q))
end Go.Proofs.YtijnpkpcoeeioaaGreat

/- shift.Merge. -/
namespace Go.Proofs.YtijnpkpcoeeioaaGreat
open Go.RowKit
set_option maxRecDepth 100000
set_option linter.unusedVariables false
set_option linter.unusedSimpArgs false

theorem merg1_d (a b : Hk) (i j : Nat) (H : AHeap) (ha : a.few) (hb : b.few) (hi : HasH H i a) (hj : HasH H j b) :
    D Tryz.prog 25 [.ptr 3 i 0 0, .ptr 3 j 0 0] H (.ret (.tup [hk (a.mv 0), hk (b.mv a.more)])) H := by
  obtain ⟨bo, bn, be, bt, ei⟩ := hi
  obtain ⟨ao, an, ae, at_, ej⟩ := hj
  have li := AHeap.find_lt ei
  have lj := AHeap.find_lt ej
  have n1 : i ≠ H.length := by omega
  have n2 : i ≠ H.length + 1 := by omega
  have n3 : j ≠ H.length := by omega
  have n4 : j ≠ H.length + 1 := by omega
  refine D_of_DK (Nat.le_refl _) (dk25 (E_of_ES ?_))
  simp -implicitDefEqProofs (maxSteps := 99999999) (disch := omega) only [ic25, n1, n2, n3, n4, ei, ej, va, vs, vh, Nat.reduceMul, ite_true, ite_false, eq_self, forall_const, implies_true, Nat.reduceAdd, Nat.reduceSub, Nat.reduceLT, Nat.reduceLeDiff, ↓reduceIte, reduceCtorEq, Int.reduceEq, Int.reduceLT, Int.reduceLE, Int.reduceGT, Int.reduceGE, Int.reduceAdd, Int.reduceSub, Int.reduceNeg, Int.reduceToNat, Nat.reduceBEq, Nat.reduceEqDiff]
  refine callD_same (moved_d _ _ _ _ _ ha) ?_
  simp -implicitDefEqProofs (maxSteps := 99999999) (disch := omega) only [n1, n2, n3, n4, ei, ej, va, vs, vh, Nat.reduceMul, ite_true, ite_false, eq_self, forall_const, implies_true, Nat.reduceAdd, Nat.reduceSub, Nat.reduceLT, Nat.reduceLeDiff, ↓reduceIte, reduceCtorEq, Int.reduceEq, Int.reduceLT, Int.reduceLE, Int.reduceGT, Int.reduceGE, Int.reduceAdd, Int.reduceSub, Int.reduceNeg, Int.reduceToNat, Nat.reduceBEq, Nat.reduceEqDiff]
  refine callD_same (more_d _ _ _ _ ha) ?_
  simp -implicitDefEqProofs (maxSteps := 99999999) (disch := omega) only [n1, n2, n3, n4, ei, ej, va, vs, vh, Nat.reduceMul, ite_true, ite_false, eq_self, forall_const, implies_true, Nat.reduceAdd, Nat.reduceSub, Nat.reduceLT, Nat.reduceLeDiff, ↓reduceIte, reduceCtorEq, Int.reduceEq, Int.reduceLT, Int.reduceLE, Int.reduceGT, Int.reduceGE, Int.reduceAdd, Int.reduceSub, Int.reduceNeg, Int.reduceToNat, Nat.reduceBEq, Nat.reduceEqDiff]
  refine callD_same (moved_d _ _ _ _ _ hb) ?_
  simp -implicitDefEqProofs (maxSteps := 99999999) (disch := omega) only [n1, n2, n3, n4, ei, ej, va, vs, vh, Nat.reduceMul, ite_true, ite_false, eq_self, forall_const, implies_true, Nat.reduceAdd, Nat.reduceSub, Nat.reduceLT, Nat.reduceLeDiff, ↓reduceIte, reduceCtorEq, Int.reduceEq, Int.reduceLT, Int.reduceLE, Int.reduceGT, Int.reduceGE, Int.reduceAdd, Int.reduceSub, Int.reduceNeg, Int.reduceToNat, Nat.reduceBEq, Nat.reduceEqDiff]
  exact weak_over (by repeat constructor) (.tup (.cons hk_fz (.cons hk_fz .nil)))

theorem merg2_d (a b : Hk) (i j : Nat) (H : AHeap) (ha : a.few) (hb : b.few) (hi : HasH H i a) (hj : HasH H j b) :
    D Tryz.prog 26 [.ptr 3 i 0 0, .ptr 3 j 0 0] H (.ret (.tup [hk (a.mv b.more), hk (b.mv 0)])) H := by
  obtain ⟨bo, bn, be, bt, ei⟩ := hi
  obtain ⟨ao, an, ae, at_, ej⟩ := hj
  have li := AHeap.find_lt ei
  have lj := AHeap.find_lt ej
  have n1 : i ≠ H.length := by omega
  have n2 : i ≠ H.length + 1 := by omega
  have n3 : j ≠ H.length := by omega
  have n4 : j ≠ H.length + 1 := by omega
  refine D_of_DK (Nat.le_refl _) (dk26 (E_of_ES ?_))
  simp -implicitDefEqProofs (maxSteps := 99999999) (disch := omega) only [ic26, n1, n2, n3, n4, ei, ej, va, vs, vh, Nat.reduceMul, ite_true, ite_false, eq_self, forall_const, implies_true, Nat.reduceAdd, Nat.reduceSub, Nat.reduceLT, Nat.reduceLeDiff, ↓reduceIte, reduceCtorEq, Int.reduceEq, Int.reduceLT, Int.reduceLE, Int.reduceGT, Int.reduceGE, Int.reduceAdd, Int.reduceSub, Int.reduceNeg, Int.reduceToNat, Nat.reduceBEq, Nat.reduceEqDiff]
  refine callD_same (more_d _ _ _ _ hb) ?_
  simp -implicitDefEqProofs (maxSteps := 99999999) (disch := omega) only [n1, n2, n3, n4, ei, ej, va, vs, vh, Nat.reduceMul, ite_true, ite_false, eq_self, forall_const, implies_true, Nat.reduceAdd, Nat.reduceSub, Nat.reduceLT, Nat.reduceLeDiff, ↓reduceIte, reduceCtorEq, Int.reduceEq, Int.reduceLT, Int.reduceLE, Int.reduceGT, Int.reduceGE, Int.reduceAdd, Int.reduceSub, Int.reduceNeg, Int.reduceToNat, Nat.reduceBEq, Nat.reduceEqDiff]
  refine callD_same (moved_d _ _ _ _ _ ha) ?_
  simp -implicitDefEqProofs (maxSteps := 99999999) (disch := omega) only [n1, n2, n3, n4, ei, ej, va, vs, vh, Nat.reduceMul, ite_true, ite_false, eq_self, forall_const, implies_true, Nat.reduceAdd, Nat.reduceSub, Nat.reduceLT, Nat.reduceLeDiff, ↓reduceIte, reduceCtorEq, Int.reduceEq, Int.reduceLT, Int.reduceLE, Int.reduceGT, Int.reduceGE, Int.reduceAdd, Int.reduceSub, Int.reduceNeg, Int.reduceToNat, Nat.reduceBEq, Nat.reduceEqDiff]
  refine callD_same (moved_d _ _ _ _ _ hb) ?_
  simp -implicitDefEqProofs (maxSteps := 99999999) (disch := omega) only [n1, n2, n3, n4, ei, ej, va, vs, vh, Nat.reduceMul, ite_true, ite_false, eq_self, forall_const, implies_true, Nat.reduceAdd, Nat.reduceSub, Nat.reduceLT, Nat.reduceLeDiff, ↓reduceIte, reduceCtorEq, Int.reduceEq, Int.reduceLT, Int.reduceLE, Int.reduceGT, Int.reduceGE, Int.reduceAdd, Int.reduceSub, Int.reduceNeg, Int.reduceToNat, Nat.reduceBEq, Nat.reduceEqDiff]
  exact weak_over (by repeat constructor) (.tup (.cons hk_fz (.cons hk_fz .nil)))

def mergR (p q : Hk) : Hk × Hk × Int :=
  firstR p q (decide (p.at_ < IntKind.i64.wrap (q.at_ - p.old.length))) (p.mv 0) (q.mv p.more) (decide (q.at_ < IntKind.i64.wrap (p.at_ - q.old.length))) (p.mv q.more) (q.mv 0)
theorem callable_m1 : callable Tryz.prog 25 = true := by kernel_rfl
theorem callable_m2 : callable Tryz.prog 26 = true := by kernel_rfl

set_option maxHeartbeats 4000000 in
theorem merge_d (p q : Hk) (po pn qo qn : Option (List AV)) (H : AHeap) (hp : p.short) (hq : q.short) :
    D Tryz.prog 9 [hkr p po pn, hkr q qo qn] H (.ret (tupR (mergR p q))) H := by
  refine D_of_DK (Nat.le_refl _) (dk9 (E_of_ES ?_))
  simp -implicitDefEqProofs (maxSteps := 99999999) (disch := omega) only [ic9, va, vs, vh, Nat.reduceMul, ite_true, ite_false, eq_self, forall_const, implies_true, Nat.reduceAdd, Nat.reduceSub, Nat.reduceLT, Nat.reduceLeDiff, ↓reduceIte, reduceCtorEq, Int.reduceEq, Int.reduceLT, Int.reduceLE, Int.reduceGT, Int.reduceGE, Int.reduceAdd, Int.reduceSub, Int.reduceNeg, Int.reduceToNat, Nat.reduceBEq, Nat.reduceEqDiff]
  refine callD_same (ahead_d _ _ _ _ _ _ _ _ _) ?_
  simp -implicitDefEqProofs (maxSteps := 99999999) (disch := omega) only [va, vs, vh, Nat.reduceMul, ite_true, ite_false, eq_self, forall_const, implies_true, Nat.reduceAdd, Nat.reduceSub, Nat.reduceLT, Nat.reduceLeDiff, ↓reduceIte, reduceCtorEq, Int.reduceEq, Int.reduceLT, Int.reduceLE, Int.reduceGT, Int.reduceGE, Int.reduceAdd, Int.reduceSub, Int.reduceNeg, Int.reduceToNat, Nat.reduceBEq, Nat.reduceEqDiff]
  refine callD_same (ahead_d _ _ _ _ _ _ _ _ _) ?_
  simp -implicitDefEqProofs (maxSteps := 99999999) (disch := omega) only [va, vs, vh, Nat.reduceMul, ite_true, ite_false, eq_self, forall_const, implies_true, Nat.reduceAdd, Nat.reduceSub, Nat.reduceLT, Nat.reduceLeDiff, ↓reduceIte, reduceCtorEq, Int.reduceEq, Int.reduceLT, Int.reduceLE, Int.reduceGT, Int.reduceGE, Int.reduceAdd, Int.reduceSub, Int.reduceNeg, Int.reduceToNat, Nat.reduceBEq, Nat.reduceEqDiff]
  refine callD_same (first_d p q (p.mv 0) (q.mv p.more) (p.mv q.more) (q.mv 0) _ _ _ _ _ _ _ _ _ _ _ hp hq callable_m1 callable_m2 (fun _ G ho => merg1_d p q _ _ G hp.few hq.few (HasH.over ?_ ho) (HasH.over ?_ ho)) ⟨hp, hq⟩ (fun _ G ho => merg2_d p q _ _ G hp.few hq.few (HasH.over ?_ ho) (HasH.over ?_ ho)) ⟨hp, hq⟩) ?_
  · exact ⟨po, pn, true, 39, by simp -implicitDefEqProofs (maxSteps := 99999999) (disch := omega) only [va, vs, vh, Nat.reduceMul, ite_true, ite_false, eq_self, forall_const, implies_true, Nat.reduceAdd, Nat.reduceSub, Nat.reduceLT, Nat.reduceLeDiff, ↓reduceIte, reduceCtorEq, Int.reduceEq, Int.reduceLT, Int.reduceLE, Int.reduceGT, Int.reduceGE, Int.reduceAdd, Int.reduceSub, Int.reduceNeg, Int.reduceToNat, Nat.reduceBEq, Nat.reduceEqDiff]⟩
  · exact ⟨qo, qn, true, 39, by simp -implicitDefEqProofs (maxSteps := 99999999) (disch := omega) only [va, vs, vh, Nat.reduceMul, ite_true, ite_false, eq_self, forall_const, implies_true, Nat.reduceAdd, Nat.reduceSub, Nat.reduceLT, Nat.reduceLeDiff, ↓reduceIte, reduceCtorEq, Int.reduceEq, Int.reduceLT, Int.reduceLE, Int.reduceGT, Int.reduceGE, Int.reduceAdd, Int.reduceSub, Int.reduceNeg, Int.reduceToNat, Nat.reduceBEq, Nat.reduceEqDiff]⟩
  · exact ⟨po, pn, true, 39, by simp -implicitDefEqProofs (maxSteps := 99999999) (disch := omega) only [va, vs, vh, Nat.reduceMul, ite_true, ite_false, eq_self, forall_const, implies_true, Nat.reduceAdd, Nat.reduceSub, Nat.reduceLT, Nat.reduceLeDiff, ↓reduceIte, reduceCtorEq, Int.reduceEq, Int.reduceLT, Int.reduceLE, Int.reduceGT, Int.reduceGE, Int.reduceAdd, Int.reduceSub, Int.reduceNeg, Int.reduceToNat, Nat.reduceBEq, Nat.reduceEqDiff]⟩
  · exact ⟨qo, qn, true, 39, by simp -implicitDefEqProofs (maxSteps := 99999999) (disch := omega) only [va, vs, vh, Nat.reduceMul, ite_true, ite_false, eq_self, forall_const, implies_true, Nat.reduceAdd, Nat.reduceSub, Nat.reduceLT, Nat.reduceLeDiff, ↓reduceIte, reduceCtorEq, Int.reduceEq, Int.reduceLT, Int.reduceLE, Int.reduceGT, Int.reduceGE, Int.reduceAdd, Int.reduceSub, Int.reduceNeg, Int.reduceToNat, Nat.reduceBEq, Nat.reduceEqDiff]⟩
  simp -implicitDefEqProofs (maxSteps := 99999999) (disch := omega) only [tupR, va, vs, vh, Nat.reduceMul, ite_true, ite_false, eq_self, forall_const, implies_true, Nat.reduceAdd, Nat.reduceSub, Nat.reduceLT, Nat.reduceLeDiff, ↓reduceIte, reduceCtorEq, Int.reduceEq, Int.reduceLT, Int.reduceLE, Int.reduceGT, Int.reduceGE, Int.reduceAdd, Int.reduceSub, Int.reduceNeg, Int.reduceToNat, Nat.reduceBEq, Nat.reduceEqDiff]
  exact weak_over (by repeat constructor) (tup_fz (r := mergR p q))
end Go.Proofs.YtijnpkpcoeeioaaGreat

/- law04.of on short texts; awake. -/
namespace Go.Proofs.YtijnpkpcoeeioaaGreat
open Go.RowKit
set_option maxRecDepth 100000
set_option linter.unusedVariables false
set_option linter.unusedSimpArgs false

theorem vec_fz {H : AHeap} {n id m : Nat} {k : Nat} {l : List ByteArray} {b : ABlk} {c : Option Nat} (hf : AHeap.find H id = some b) (hb : b.es = strs l) (hk : b.k = k) (hm : m = l.length) (h : n ≤ id) : Fz H n (.vec k id 0 m c) (.lst k (strs l) none) := fz_fresh (ty := 0) hf hb hk hm h
theorem ext_ok (s : ByteArray) (i j : Nat) (h : s.size ≤ 1000000) : fits ((s.extract i j).size + (⟨#[10]⟩ : ByteArray).size) = true := by
  have h1 : (s.extract i j).size ≤ 1000000 := by rw [ByteArray.size_extract]; omega
  have h2 : (⟨#[10]⟩ : ByteArray).size = 1 := rfl
  exact fits_le (by rw [h2]; omega)
theorem of_12 (n : Int) (s t : ByteArray) (H : AHeap) (hs : s.size = 1) (ht : t.size = 2) : D Tryz.prog 15 [.sc (.int .i64 n), .sc (.string s), .sc (.string t)] H (.ret (hk ⟨n, [s.extract 0 1 ++ ⟨#[10]⟩], [t.extract 0 1 ++ ⟨#[10]⟩, t.extract 1 2 ++ ⟨#[10]⟩]⟩)) H := by
  have xs0 : fits ((s.extract 0 1).size + (⟨#[10]⟩ : ByteArray).size) = true := ext_ok _ _ _ (by omega)
  have xt0 : fits ((t.extract 0 1).size + (⟨#[10]⟩ : ByteArray).size) = true := ext_ok _ _ _ (by omega)
  have xt1 : fits ((t.extract 1 2).size + (⟨#[10]⟩ : ByteArray).size) = true := ext_ok _ _ _ (by omega)
  refine D_of_DK (Nat.le_refl _) (dk15 (E_of_ES ?_))
  simp -implicitDefEqProofs (maxSteps := 99999999) (disch := omega) only [ic15, va, vs, vh, Nat.reduceMul, ite_true, ite_false, eq_self, forall_const, implies_true, Nat.reduceAdd, Nat.reduceSub, Nat.reduceLT, Nat.reduceLeDiff, ↓reduceIte, reduceCtorEq, Int.reduceEq, Int.reduceLT, Int.reduceLE, Int.reduceGT, Int.reduceGE, Int.reduceAdd, Int.reduceSub, Int.reduceNeg, Int.reduceToNat, Nat.reduceBEq, Nat.reduceEqDiff]
  refine ES_unroll (.s (.s .o)) (Lp_next fun L hL => ?_)
  simp -implicitDefEqProofs (maxSteps := 99999999) (disch := omega) only [hs, xs0, va, vs, vh, Nat.reduceMul, ite_true, ite_false, eq_self, forall_const, implies_true, Nat.reduceAdd, Nat.reduceSub, Nat.reduceLT, Nat.reduceLeDiff, ↓reduceIte, reduceCtorEq, Int.reduceEq, Int.reduceLT, Int.reduceLE, Int.reduceGT, Int.reduceGE, Int.reduceAdd, Int.reduceSub, Int.reduceNeg, Int.reduceToNat, Nat.reduceBEq, Nat.reduceEqDiff]
  refine hL _ _ (Lp_next fun L hL => ?_)
  simp -implicitDefEqProofs (maxSteps := 99999999) (disch := omega) only [hs, xs0, va, vs, vh, Nat.reduceMul, ite_true, ite_false, eq_self, forall_const, implies_true, Nat.reduceAdd, Nat.reduceSub, Nat.reduceLT, Nat.reduceLeDiff, ↓reduceIte, reduceCtorEq, Int.reduceEq, Int.reduceLT, Int.reduceLE, Int.reduceGT, Int.reduceGE, Int.reduceAdd, Int.reduceSub, Int.reduceNeg, Int.reduceToNat, Nat.reduceBEq, Nat.reduceEqDiff]
  refine ES_unroll (.s (.s (.s .o))) (Lp_next fun L hL => ?_)
  simp -implicitDefEqProofs (maxSteps := 99999999) (disch := omega) only [ht, xt0, xt1, va, vs, vh, Nat.reduceMul, ite_true, ite_false, eq_self, forall_const, implies_true, Nat.reduceAdd, Nat.reduceSub, Nat.reduceLT, Nat.reduceLeDiff, ↓reduceIte, reduceCtorEq, Int.reduceEq, Int.reduceLT, Int.reduceLE, Int.reduceGT, Int.reduceGE, Int.reduceAdd, Int.reduceSub, Int.reduceNeg, Int.reduceToNat, Nat.reduceBEq, Nat.reduceEqDiff]
  refine hL _ _ (Lp_next fun L hL => ?_)
  simp -implicitDefEqProofs (maxSteps := 99999999) (disch := omega) only [ht, xt0, xt1, va, vs, vh, Nat.reduceMul, ite_true, ite_false, eq_self, forall_const, implies_true, Nat.reduceAdd, Nat.reduceSub, Nat.reduceLT, Nat.reduceLeDiff, ↓reduceIte, reduceCtorEq, Int.reduceEq, Int.reduceLT, Int.reduceLE, Int.reduceGT, Int.reduceGE, Int.reduceAdd, Int.reduceSub, Int.reduceNeg, Int.reduceToNat, Nat.reduceBEq, Nat.reduceEqDiff]
  refine hL _ _ (Lp_next fun L hL => ?_)
  simp -implicitDefEqProofs (maxSteps := 99999999) (disch := omega) only [ht, xt0, xt1, va, vs, vh, Nat.reduceMul, ite_true, ite_false, eq_self, forall_const, implies_true, Nat.reduceAdd, Nat.reduceSub, Nat.reduceLT, Nat.reduceLeDiff, ↓reduceIte, reduceCtorEq, Int.reduceEq, Int.reduceLT, Int.reduceLE, Int.reduceGT, Int.reduceGE, Int.reduceAdd, Int.reduceSub, Int.reduceNeg, Int.reduceToNat, Nat.reduceBEq, Nat.reduceEqDiff]
  exact weak_over (by repeat constructor) (.agg (.cons (.same trivial) (.cons (vec_fz (l := [s.extract 0 1 ++ ⟨#[10]⟩]) (b := ⟨1, strs [s.extract 0 1 ++ ⟨#[10]⟩], false, 9⟩) (by simp -implicitDefEqProofs (maxSteps := 99999999) (disch := omega) only [strs_cons, va, vs, vh, Nat.reduceMul, ite_true, ite_false, eq_self, forall_const, implies_true, Nat.reduceAdd, Nat.reduceSub, Nat.reduceLT, Nat.reduceLeDiff, ↓reduceIte, reduceCtorEq, Int.reduceEq, Int.reduceLT, Int.reduceLE, Int.reduceGT, Int.reduceGE, Int.reduceAdd, Int.reduceSub, Int.reduceNeg, Int.reduceToNat, Nat.reduceBEq, Nat.reduceEqDiff]) rfl rfl rfl (by omega)) (.cons (vec_fz (l := [t.extract 0 1 ++ ⟨#[10]⟩, t.extract 1 2 ++ ⟨#[10]⟩]) (b := ⟨1, strs [t.extract 0 1 ++ ⟨#[10]⟩, t.extract 1 2 ++ ⟨#[10]⟩], false, 9⟩) (by simp -implicitDefEqProofs (maxSteps := 99999999) (disch := omega) only [strs_cons, va, vs, vh, Nat.reduceMul, ite_true, ite_false, eq_self, forall_const, implies_true, Nat.reduceAdd, Nat.reduceSub, Nat.reduceLT, Nat.reduceLeDiff, ↓reduceIte, reduceCtorEq, Int.reduceEq, Int.reduceLT, Int.reduceLE, Int.reduceGT, Int.reduceGE, Int.reduceAdd, Int.reduceSub, Int.reduceNeg, Int.reduceToNat, Nat.reduceBEq, Nat.reduceEqDiff]) rfl rfl rfl (by omega)) .nil))))
theorem of_11 (n : Int) (s t : ByteArray) (H : AHeap) (hs : s.size = 1) (ht : t.size = 1) : D Tryz.prog 15 [.sc (.int .i64 n), .sc (.string s), .sc (.string t)] H (.ret (hk ⟨n, [s.extract 0 1 ++ ⟨#[10]⟩], [t.extract 0 1 ++ ⟨#[10]⟩]⟩)) H := by
  have xs0 : fits ((s.extract 0 1).size + (⟨#[10]⟩ : ByteArray).size) = true := ext_ok _ _ _ (by omega)
  have xt0 : fits ((t.extract 0 1).size + (⟨#[10]⟩ : ByteArray).size) = true := ext_ok _ _ _ (by omega)
  refine D_of_DK (Nat.le_refl _) (dk15 (E_of_ES ?_))
  simp -implicitDefEqProofs (maxSteps := 99999999) (disch := omega) only [ic15, va, vs, vh, Nat.reduceMul, ite_true, ite_false, eq_self, forall_const, implies_true, Nat.reduceAdd, Nat.reduceSub, Nat.reduceLT, Nat.reduceLeDiff, ↓reduceIte, reduceCtorEq, Int.reduceEq, Int.reduceLT, Int.reduceLE, Int.reduceGT, Int.reduceGE, Int.reduceAdd, Int.reduceSub, Int.reduceNeg, Int.reduceToNat, Nat.reduceBEq, Nat.reduceEqDiff]
  refine ES_unroll (.s (.s .o)) (Lp_next fun L hL => ?_)
  simp -implicitDefEqProofs (maxSteps := 99999999) (disch := omega) only [hs, xs0, va, vs, vh, Nat.reduceMul, ite_true, ite_false, eq_self, forall_const, implies_true, Nat.reduceAdd, Nat.reduceSub, Nat.reduceLT, Nat.reduceLeDiff, ↓reduceIte, reduceCtorEq, Int.reduceEq, Int.reduceLT, Int.reduceLE, Int.reduceGT, Int.reduceGE, Int.reduceAdd, Int.reduceSub, Int.reduceNeg, Int.reduceToNat, Nat.reduceBEq, Nat.reduceEqDiff]
  refine hL _ _ (Lp_next fun L hL => ?_)
  simp -implicitDefEqProofs (maxSteps := 99999999) (disch := omega) only [hs, xs0, va, vs, vh, Nat.reduceMul, ite_true, ite_false, eq_self, forall_const, implies_true, Nat.reduceAdd, Nat.reduceSub, Nat.reduceLT, Nat.reduceLeDiff, ↓reduceIte, reduceCtorEq, Int.reduceEq, Int.reduceLT, Int.reduceLE, Int.reduceGT, Int.reduceGE, Int.reduceAdd, Int.reduceSub, Int.reduceNeg, Int.reduceToNat, Nat.reduceBEq, Nat.reduceEqDiff]
  refine ES_unroll (.s (.s .o)) (Lp_next fun L hL => ?_)
  simp -implicitDefEqProofs (maxSteps := 99999999) (disch := omega) only [ht, xt0, va, vs, vh, Nat.reduceMul, ite_true, ite_false, eq_self, forall_const, implies_true, Nat.reduceAdd, Nat.reduceSub, Nat.reduceLT, Nat.reduceLeDiff, ↓reduceIte, reduceCtorEq, Int.reduceEq, Int.reduceLT, Int.reduceLE, Int.reduceGT, Int.reduceGE, Int.reduceAdd, Int.reduceSub, Int.reduceNeg, Int.reduceToNat, Nat.reduceBEq, Nat.reduceEqDiff]
  refine hL _ _ (Lp_next fun L hL => ?_)
  simp -implicitDefEqProofs (maxSteps := 99999999) (disch := omega) only [ht, xt0, va, vs, vh, Nat.reduceMul, ite_true, ite_false, eq_self, forall_const, implies_true, Nat.reduceAdd, Nat.reduceSub, Nat.reduceLT, Nat.reduceLeDiff, ↓reduceIte, reduceCtorEq, Int.reduceEq, Int.reduceLT, Int.reduceLE, Int.reduceGT, Int.reduceGE, Int.reduceAdd, Int.reduceSub, Int.reduceNeg, Int.reduceToNat, Nat.reduceBEq, Nat.reduceEqDiff]
  exact weak_over (by repeat constructor) (.agg (.cons (.same trivial) (.cons (vec_fz (l := [s.extract 0 1 ++ ⟨#[10]⟩]) (b := ⟨1, strs [s.extract 0 1 ++ ⟨#[10]⟩], false, 9⟩) (by simp -implicitDefEqProofs (maxSteps := 99999999) (disch := omega) only [strs_cons, va, vs, vh, Nat.reduceMul, ite_true, ite_false, eq_self, forall_const, implies_true, Nat.reduceAdd, Nat.reduceSub, Nat.reduceLT, Nat.reduceLeDiff, ↓reduceIte, reduceCtorEq, Int.reduceEq, Int.reduceLT, Int.reduceLE, Int.reduceGT, Int.reduceGE, Int.reduceAdd, Int.reduceSub, Int.reduceNeg, Int.reduceToNat, Nat.reduceBEq, Nat.reduceEqDiff]) rfl rfl rfl (by omega)) (.cons (vec_fz (l := [t.extract 0 1 ++ ⟨#[10]⟩]) (b := ⟨1, strs [t.extract 0 1 ++ ⟨#[10]⟩], false, 9⟩) (by simp -implicitDefEqProofs (maxSteps := 99999999) (disch := omega) only [strs_cons, va, vs, vh, Nat.reduceMul, ite_true, ite_false, eq_self, forall_const, implies_true, Nat.reduceAdd, Nat.reduceSub, Nat.reduceLT, Nat.reduceLeDiff, ↓reduceIte, reduceCtorEq, Int.reduceEq, Int.reduceLT, Int.reduceLE, Int.reduceGT, Int.reduceGE, Int.reduceAdd, Int.reduceSub, Int.reduceNeg, Int.reduceToNat, Nat.reduceBEq, Nat.reduceEqDiff]) rfl rfl rfl (by omega)) .nil))))
theorem of_10 (n : Int) (s t : ByteArray) (H : AHeap) (hs : s.size = 1) (ht : t.size = 0) : D Tryz.prog 15 [.sc (.int .i64 n), .sc (.string s), .sc (.string t)] H (.ret (hk ⟨n, [s.extract 0 1 ++ ⟨#[10]⟩], []⟩)) H := by
  have xs0 : fits ((s.extract 0 1).size + (⟨#[10]⟩ : ByteArray).size) = true := ext_ok _ _ _ (by omega)
  refine D_of_DK (Nat.le_refl _) (dk15 (E_of_ES ?_))
  simp -implicitDefEqProofs (maxSteps := 99999999) (disch := omega) only [ic15, va, vs, vh, Nat.reduceMul, ite_true, ite_false, eq_self, forall_const, implies_true, Nat.reduceAdd, Nat.reduceSub, Nat.reduceLT, Nat.reduceLeDiff, ↓reduceIte, reduceCtorEq, Int.reduceEq, Int.reduceLT, Int.reduceLE, Int.reduceGT, Int.reduceGE, Int.reduceAdd, Int.reduceSub, Int.reduceNeg, Int.reduceToNat, Nat.reduceBEq, Nat.reduceEqDiff]
  refine ES_unroll (.s (.s .o)) (Lp_next fun L hL => ?_)
  simp -implicitDefEqProofs (maxSteps := 99999999) (disch := omega) only [hs, xs0, va, vs, vh, Nat.reduceMul, ite_true, ite_false, eq_self, forall_const, implies_true, Nat.reduceAdd, Nat.reduceSub, Nat.reduceLT, Nat.reduceLeDiff, ↓reduceIte, reduceCtorEq, Int.reduceEq, Int.reduceLT, Int.reduceLE, Int.reduceGT, Int.reduceGE, Int.reduceAdd, Int.reduceSub, Int.reduceNeg, Int.reduceToNat, Nat.reduceBEq, Nat.reduceEqDiff]
  refine hL _ _ (Lp_next fun L hL => ?_)
  simp -implicitDefEqProofs (maxSteps := 99999999) (disch := omega) only [hs, xs0, va, vs, vh, Nat.reduceMul, ite_true, ite_false, eq_self, forall_const, implies_true, Nat.reduceAdd, Nat.reduceSub, Nat.reduceLT, Nat.reduceLeDiff, ↓reduceIte, reduceCtorEq, Int.reduceEq, Int.reduceLT, Int.reduceLE, Int.reduceGT, Int.reduceGE, Int.reduceAdd, Int.reduceSub, Int.reduceNeg, Int.reduceToNat, Nat.reduceBEq, Nat.reduceEqDiff]
  refine ES_unroll (.s .o) (Lp_next fun L hL => ?_)
  simp -implicitDefEqProofs (maxSteps := 99999999) (disch := omega) only [ht, va, vs, vh, Nat.reduceMul, ite_true, ite_false, eq_self, forall_const, implies_true, Nat.reduceAdd, Nat.reduceSub, Nat.reduceLT, Nat.reduceLeDiff, ↓reduceIte, reduceCtorEq, Int.reduceEq, Int.reduceLT, Int.reduceLE, Int.reduceGT, Int.reduceGE, Int.reduceAdd, Int.reduceSub, Int.reduceNeg, Int.reduceToNat, Nat.reduceBEq, Nat.reduceEqDiff]
  exact weak_over (by repeat constructor) (.agg (.cons (.same trivial) (.cons (vec_fz (l := [s.extract 0 1 ++ ⟨#[10]⟩]) (b := ⟨1, strs [s.extract 0 1 ++ ⟨#[10]⟩], false, 9⟩) (by simp -implicitDefEqProofs (maxSteps := 99999999) (disch := omega) only [strs_cons, va, vs, vh, Nat.reduceMul, ite_true, ite_false, eq_self, forall_const, implies_true, Nat.reduceAdd, Nat.reduceSub, Nat.reduceLT, Nat.reduceLeDiff, ↓reduceIte, reduceCtorEq, Int.reduceEq, Int.reduceLT, Int.reduceLE, Int.reduceGT, Int.reduceGE, Int.reduceAdd, Int.reduceSub, Int.reduceNeg, Int.reduceToNat, Nat.reduceBEq, Nat.reduceEqDiff]) rfl rfl rfl (by omega)) (.cons .nil .nil))))
end Go.Proofs.YtijnpkpcoeeioaaGreat

/- law04.awake is true. -/
namespace Go.Proofs.YtijnpkpcoeeioaaGreat
open Go.RowKit
set_option maxRecDepth 100000
set_option linter.unusedVariables false
set_option linter.unusedSimpArgs false

def hB1 : Hk := ⟨1, [⟨#[98, 10]⟩], [⟨#[120, 10]⟩, ⟨#[121, 10]⟩]⟩
def hD (n : Int) : Hk := ⟨n, [⟨#[100, 10]⟩], [⟨#[122, 10]⟩]⟩
def hC3 : Hk := ⟨3, [⟨#[99, 10]⟩], [⟨#[122, 10]⟩]⟩
def hX (n : Int) : Hk := ⟨n, [⟨#[100, 10]⟩], [⟨#[120, 10]⟩]⟩
def hA0 : Hk := ⟨0, [⟨#[97, 10]⟩], []⟩
theorem mk_ofB1 (H : AHeap) : D Tryz.prog 15 [.sc (.int .i64 1), .sc (.string ⟨#[98]⟩), .sc (.string ⟨#[120, 121]⟩)] H (.ret (hk hB1)) H := of_12 1 ⟨#[98]⟩ ⟨#[120, 121]⟩ H rfl rfl
theorem mk_ofD (n : Int) (H : AHeap) : D Tryz.prog 15 [.sc (.int .i64 n), .sc (.string ⟨#[100]⟩), .sc (.string ⟨#[122]⟩)] H (.ret (hk (hD n))) H := of_11 n ⟨#[100]⟩ ⟨#[122]⟩ H rfl rfl
theorem mk_ofC3 (H : AHeap) : D Tryz.prog 15 [.sc (.int .i64 3), .sc (.string ⟨#[99]⟩), .sc (.string ⟨#[122]⟩)] H (.ret (hk hC3)) H := of_11 3 ⟨#[99]⟩ ⟨#[122]⟩ H rfl rfl
theorem mk_ofX (n : Int) (H : AHeap) : D Tryz.prog 15 [.sc (.int .i64 n), .sc (.string ⟨#[100]⟩), .sc (.string ⟨#[120]⟩)] H (.ret (hk (hX n))) H := of_11 n ⟨#[100]⟩ ⟨#[120]⟩ H rfl rfl
theorem mk_ofA0 (H : AHeap) : D Tryz.prog 15 [.sc (.int .i64 0), .sc (.string ⟨#[97]⟩), .sc (.string ⟨#[]⟩)] H (.ret (hk hA0)) H := of_10 0 ⟨#[97]⟩ ⟨#[]⟩ H rfl rfl
theorem sB1 : hB1.short := ⟨short_lit rfl, short_lit rfl⟩
theorem sD (n : Int) : (hD n).short := ⟨short_lit rfl, short_lit rfl⟩
theorem sC3 : hC3.short := ⟨short_lit rfl, short_lit rfl⟩
theorem sX (n : Int) : (hX n).short := ⟨short_lit rfl, short_lit rfl⟩
theorem sA0 : hA0.short := ⟨short_lit rfl, short_lit rfl⟩
theorem ev1 : commR hB1 (hD 4) = (hD 3, hB1, 0) := by kernel_rfl
theorem ev2 : commR hB1 hC3 = (⟨0, [], []⟩, ⟨0, [], []⟩, 130) := by kernel_rfl
theorem ev3 : commR (hX 3) hA0 = (hA0, hX 2, 0) := by kernel_rfl
theorem ev4 : mergR hB1 (hD 3) = (hB1, hD 4, 0) := by kernel_rfl
theorem comm_e {p q : Hk} {r : Hk × Hk × Int} (e : commR p q = r) (H : AHeap) (hp : p.short) (hq : q.short) : D Tryz.prog 8 [hk p, hk q] H (.ret (tupR r)) H := e ▸ commute_d p q none none none none H hp hq
theorem merg_e {p q : Hk} {r : Hk × Hk × Int} (e : mergR p q = r) (H : AHeap) (hp : p.short) (hq : q.short) : D Tryz.prog 9 [hk p, hk q] H (.ret (tupR r)) H := e ▸ merge_d p q none none none none H hp hq
theorem tells_e {a b x y : Hk} {e : Int} (h : tellsB a b e x y = true) (H : AHeap) (ha : a.short) (hb : b.short) : D Tryz.prog 17 [hk a, hk b, .sc (.int .i64 e), hk x, hk y] H (.ret (.sc (.bool true))) H := h ▸ tells_d a b x y e none none none none none none none none H ha hb

set_option maxHeartbeats 4000000 in
theorem awake_d (H : AHeap) : D Tryz.prog 6 [] H (.ret (.sc (.bool true))) H := by
  refine D_of_DK (Nat.le_refl _) (dk6 (E_of_ES ?_))
  simp -implicitDefEqProofs (maxSteps := 99999999) (disch := omega) only [ic6, va, vs, vh, Nat.reduceMul, ite_true, ite_false, eq_self, forall_const, implies_true, Nat.reduceAdd, Nat.reduceSub, Nat.reduceLT, Nat.reduceLeDiff, ↓reduceIte, reduceCtorEq, Int.reduceEq, Int.reduceLT, Int.reduceLE, Int.reduceGT, Int.reduceGE, Int.reduceAdd, Int.reduceSub, Int.reduceNeg, Int.reduceToNat, Nat.reduceBEq, Nat.reduceEqDiff]
  refine callR_ret (mk_ofB1 _) ?_
  simp -implicitDefEqProofs (maxSteps := 99999999) (disch := omega) only [tupR, va, vs, vh, Nat.reduceMul, ite_true, ite_false, eq_self, forall_const, implies_true, Nat.reduceAdd, Nat.reduceSub, Nat.reduceLT, Nat.reduceLeDiff, ↓reduceIte, reduceCtorEq, Int.reduceEq, Int.reduceLT, Int.reduceLE, Int.reduceGT, Int.reduceGE, Int.reduceAdd, Int.reduceSub, Int.reduceNeg, Int.reduceToNat, Nat.reduceBEq, Nat.reduceEqDiff]
  refine callR_ret (mk_ofD _ _) ?_
  simp -implicitDefEqProofs (maxSteps := 99999999) (disch := omega) only [tupR, va, vs, vh, Nat.reduceMul, ite_true, ite_false, eq_self, forall_const, implies_true, Nat.reduceAdd, Nat.reduceSub, Nat.reduceLT, Nat.reduceLeDiff, ↓reduceIte, reduceCtorEq, Int.reduceEq, Int.reduceLT, Int.reduceLE, Int.reduceGT, Int.reduceGE, Int.reduceAdd, Int.reduceSub, Int.reduceNeg, Int.reduceToNat, Nat.reduceBEq, Nat.reduceEqDiff]
  refine callR_ret (comm_e (p := hB1) (q := hD 4) ev1 _ sB1 (sD _)) ?_
  simp -implicitDefEqProofs (maxSteps := 99999999) (disch := omega) only [tupR, va, vs, vh, Nat.reduceMul, ite_true, ite_false, eq_self, forall_const, implies_true, Nat.reduceAdd, Nat.reduceSub, Nat.reduceLT, Nat.reduceLeDiff, ↓reduceIte, reduceCtorEq, Int.reduceEq, Int.reduceLT, Int.reduceLE, Int.reduceGT, Int.reduceGE, Int.reduceAdd, Int.reduceSub, Int.reduceNeg, Int.reduceToNat, Nat.reduceBEq, Nat.reduceEqDiff]
  refine callR_ret (mk_ofB1 _) ?_
  simp -implicitDefEqProofs (maxSteps := 99999999) (disch := omega) only [tupR, va, vs, vh, Nat.reduceMul, ite_true, ite_false, eq_self, forall_const, implies_true, Nat.reduceAdd, Nat.reduceSub, Nat.reduceLT, Nat.reduceLeDiff, ↓reduceIte, reduceCtorEq, Int.reduceEq, Int.reduceLT, Int.reduceLE, Int.reduceGT, Int.reduceGE, Int.reduceAdd, Int.reduceSub, Int.reduceNeg, Int.reduceToNat, Nat.reduceBEq, Nat.reduceEqDiff]
  refine callR_ret (mk_ofC3 _) ?_
  simp -implicitDefEqProofs (maxSteps := 99999999) (disch := omega) only [tupR, va, vs, vh, Nat.reduceMul, ite_true, ite_false, eq_self, forall_const, implies_true, Nat.reduceAdd, Nat.reduceSub, Nat.reduceLT, Nat.reduceLeDiff, ↓reduceIte, reduceCtorEq, Int.reduceEq, Int.reduceLT, Int.reduceLE, Int.reduceGT, Int.reduceGE, Int.reduceAdd, Int.reduceSub, Int.reduceNeg, Int.reduceToNat, Nat.reduceBEq, Nat.reduceEqDiff]
  refine callR_ret (comm_e (p := hB1) (q := hC3) ev2 _ sB1 sC3) ?_
  simp -implicitDefEqProofs (maxSteps := 99999999) (disch := omega) only [tupR, va, vs, vh, Nat.reduceMul, ite_true, ite_false, eq_self, forall_const, implies_true, Nat.reduceAdd, Nat.reduceSub, Nat.reduceLT, Nat.reduceLeDiff, ↓reduceIte, reduceCtorEq, Int.reduceEq, Int.reduceLT, Int.reduceLE, Int.reduceGT, Int.reduceGE, Int.reduceAdd, Int.reduceSub, Int.reduceNeg, Int.reduceToNat, Nat.reduceBEq, Nat.reduceEqDiff]
  refine callR_ret (mk_ofX _ _) ?_
  simp -implicitDefEqProofs (maxSteps := 99999999) (disch := omega) only [tupR, va, vs, vh, Nat.reduceMul, ite_true, ite_false, eq_self, forall_const, implies_true, Nat.reduceAdd, Nat.reduceSub, Nat.reduceLT, Nat.reduceLeDiff, ↓reduceIte, reduceCtorEq, Int.reduceEq, Int.reduceLT, Int.reduceLE, Int.reduceGT, Int.reduceGE, Int.reduceAdd, Int.reduceSub, Int.reduceNeg, Int.reduceToNat, Nat.reduceBEq, Nat.reduceEqDiff]
  refine callR_ret (mk_ofA0 _) ?_
  simp -implicitDefEqProofs (maxSteps := 99999999) (disch := omega) only [tupR, va, vs, vh, Nat.reduceMul, ite_true, ite_false, eq_self, forall_const, implies_true, Nat.reduceAdd, Nat.reduceSub, Nat.reduceLT, Nat.reduceLeDiff, ↓reduceIte, reduceCtorEq, Int.reduceEq, Int.reduceLT, Int.reduceLE, Int.reduceGT, Int.reduceGE, Int.reduceAdd, Int.reduceSub, Int.reduceNeg, Int.reduceToNat, Nat.reduceBEq, Nat.reduceEqDiff]
  refine callR_ret (comm_e (p := hX 3) (q := hA0) ev3 _ (sX _) sA0) ?_
  simp -implicitDefEqProofs (maxSteps := 99999999) (disch := omega) only [tupR, va, vs, vh, Nat.reduceMul, ite_true, ite_false, eq_self, forall_const, implies_true, Nat.reduceAdd, Nat.reduceSub, Nat.reduceLT, Nat.reduceLeDiff, ↓reduceIte, reduceCtorEq, Int.reduceEq, Int.reduceLT, Int.reduceLE, Int.reduceGT, Int.reduceGE, Int.reduceAdd, Int.reduceSub, Int.reduceNeg, Int.reduceToNat, Nat.reduceBEq, Nat.reduceEqDiff]
  refine callR_ret (mk_ofB1 _) ?_
  simp -implicitDefEqProofs (maxSteps := 99999999) (disch := omega) only [tupR, va, vs, vh, Nat.reduceMul, ite_true, ite_false, eq_self, forall_const, implies_true, Nat.reduceAdd, Nat.reduceSub, Nat.reduceLT, Nat.reduceLeDiff, ↓reduceIte, reduceCtorEq, Int.reduceEq, Int.reduceLT, Int.reduceLE, Int.reduceGT, Int.reduceGE, Int.reduceAdd, Int.reduceSub, Int.reduceNeg, Int.reduceToNat, Nat.reduceBEq, Nat.reduceEqDiff]
  refine callR_ret (mk_ofD _ _) ?_
  simp -implicitDefEqProofs (maxSteps := 99999999) (disch := omega) only [tupR, va, vs, vh, Nat.reduceMul, ite_true, ite_false, eq_self, forall_const, implies_true, Nat.reduceAdd, Nat.reduceSub, Nat.reduceLT, Nat.reduceLeDiff, ↓reduceIte, reduceCtorEq, Int.reduceEq, Int.reduceLT, Int.reduceLE, Int.reduceGT, Int.reduceGE, Int.reduceAdd, Int.reduceSub, Int.reduceNeg, Int.reduceToNat, Nat.reduceBEq, Nat.reduceEqDiff]
  refine callR_ret (merg_e (p := hB1) (q := hD 3) ev4 _ sB1 (sD _)) ?_
  simp -implicitDefEqProofs (maxSteps := 99999999) (disch := omega) only [tupR, va, vs, vh, Nat.reduceMul, ite_true, ite_false, eq_self, forall_const, implies_true, Nat.reduceAdd, Nat.reduceSub, Nat.reduceLT, Nat.reduceLeDiff, ↓reduceIte, reduceCtorEq, Int.reduceEq, Int.reduceLT, Int.reduceLE, Int.reduceGT, Int.reduceGE, Int.reduceAdd, Int.reduceSub, Int.reduceNeg, Int.reduceToNat, Nat.reduceBEq, Nat.reduceEqDiff]
  refine callD_same (mk_ofD _ _) ?_
  simp -implicitDefEqProofs (maxSteps := 99999999) (disch := omega) only [tupR, va, vs, vh, Nat.reduceMul, ite_true, ite_false, eq_self, forall_const, implies_true, Nat.reduceAdd, Nat.reduceSub, Nat.reduceLT, Nat.reduceLeDiff, ↓reduceIte, reduceCtorEq, Int.reduceEq, Int.reduceLT, Int.reduceLE, Int.reduceGT, Int.reduceGE, Int.reduceAdd, Int.reduceSub, Int.reduceNeg, Int.reduceToNat, Nat.reduceBEq, Nat.reduceEqDiff]
  refine callD_same (mk_ofB1 _) ?_
  simp -implicitDefEqProofs (maxSteps := 99999999) (disch := omega) only [tupR, va, vs, vh, Nat.reduceMul, ite_true, ite_false, eq_self, forall_const, implies_true, Nat.reduceAdd, Nat.reduceSub, Nat.reduceLT, Nat.reduceLeDiff, ↓reduceIte, reduceCtorEq, Int.reduceEq, Int.reduceLT, Int.reduceLE, Int.reduceGT, Int.reduceGE, Int.reduceAdd, Int.reduceSub, Int.reduceNeg, Int.reduceToNat, Nat.reduceBEq, Nat.reduceEqDiff]
  refine callD_same (tells_e (a := hD 3) (b := hB1) (x := hD 3) (y := hB1) (by kernel_rfl) _ (sD _) sB1) ?_
  simp -implicitDefEqProofs (maxSteps := 99999999) (disch := omega) only [tupR, va, vs, vh, Nat.reduceMul, ite_true, ite_false, eq_self, forall_const, implies_true, Nat.reduceAdd, Nat.reduceSub, Nat.reduceLT, Nat.reduceLeDiff, ↓reduceIte, reduceCtorEq, Int.reduceEq, Int.reduceLT, Int.reduceLE, Int.reduceGT, Int.reduceGE, Int.reduceAdd, Int.reduceSub, Int.reduceNeg, Int.reduceToNat, Nat.reduceBEq, Nat.reduceEqDiff]
  refine callD_same (mk_ofA0 _) ?_
  simp -implicitDefEqProofs (maxSteps := 99999999) (disch := omega) only [tupR, va, vs, vh, Nat.reduceMul, ite_true, ite_false, eq_self, forall_const, implies_true, Nat.reduceAdd, Nat.reduceSub, Nat.reduceLT, Nat.reduceLeDiff, ↓reduceIte, reduceCtorEq, Int.reduceEq, Int.reduceLT, Int.reduceLE, Int.reduceGT, Int.reduceGE, Int.reduceAdd, Int.reduceSub, Int.reduceNeg, Int.reduceToNat, Nat.reduceBEq, Nat.reduceEqDiff]
  refine callD_same (mk_ofX _ _) ?_
  simp -implicitDefEqProofs (maxSteps := 99999999) (disch := omega) only [tupR, va, vs, vh, Nat.reduceMul, ite_true, ite_false, eq_self, forall_const, implies_true, Nat.reduceAdd, Nat.reduceSub, Nat.reduceLT, Nat.reduceLeDiff, ↓reduceIte, reduceCtorEq, Int.reduceEq, Int.reduceLT, Int.reduceLE, Int.reduceGT, Int.reduceGE, Int.reduceAdd, Int.reduceSub, Int.reduceNeg, Int.reduceToNat, Nat.reduceBEq, Nat.reduceEqDiff]
  refine callD_same (tells_e (a := hA0) (b := hX 2) (x := hA0) (y := hX 2) (by kernel_rfl) _ sA0 (sX _)) ?_
  simp -implicitDefEqProofs (maxSteps := 99999999) (disch := omega) only [tupR, va, vs, vh, Nat.reduceMul, ite_true, ite_false, eq_self, forall_const, implies_true, Nat.reduceAdd, Nat.reduceSub, Nat.reduceLT, Nat.reduceLeDiff, ↓reduceIte, reduceCtorEq, Int.reduceEq, Int.reduceLT, Int.reduceLE, Int.reduceGT, Int.reduceGE, Int.reduceAdd, Int.reduceSub, Int.reduceNeg, Int.reduceToNat, Nat.reduceBEq, Nat.reduceEqDiff]
  refine callD_same (mk_ofB1 _) ?_
  simp -implicitDefEqProofs (maxSteps := 99999999) (disch := omega) only [tupR, va, vs, vh, Nat.reduceMul, ite_true, ite_false, eq_self, forall_const, implies_true, Nat.reduceAdd, Nat.reduceSub, Nat.reduceLT, Nat.reduceLeDiff, ↓reduceIte, reduceCtorEq, Int.reduceEq, Int.reduceLT, Int.reduceLE, Int.reduceGT, Int.reduceGE, Int.reduceAdd, Int.reduceSub, Int.reduceNeg, Int.reduceToNat, Nat.reduceBEq, Nat.reduceEqDiff]
  refine callD_same (mk_ofD _ _) ?_
  simp -implicitDefEqProofs (maxSteps := 99999999) (disch := omega) only [tupR, va, vs, vh, Nat.reduceMul, ite_true, ite_false, eq_self, forall_const, implies_true, Nat.reduceAdd, Nat.reduceSub, Nat.reduceLT, Nat.reduceLeDiff, ↓reduceIte, reduceCtorEq, Int.reduceEq, Int.reduceLT, Int.reduceLE, Int.reduceGT, Int.reduceGE, Int.reduceAdd, Int.reduceSub, Int.reduceNeg, Int.reduceToNat, Nat.reduceBEq, Nat.reduceEqDiff]
  refine callD_same (tells_e (a := hB1) (b := hD 4) (x := hB1) (y := hD 4) (by kernel_rfl) _ sB1 (sD _)) ?_
  simp -implicitDefEqProofs (maxSteps := 99999999) (disch := omega) only [tupR, va, vs, vh, Nat.reduceMul, ite_true, ite_false, eq_self, forall_const, implies_true, Nat.reduceAdd, Nat.reduceSub, Nat.reduceLT, Nat.reduceLeDiff, ↓reduceIte, reduceCtorEq, Int.reduceEq, Int.reduceLT, Int.reduceLE, Int.reduceGT, Int.reduceGE, Int.reduceAdd, Int.reduceSub, Int.reduceNeg, Int.reduceToNat, Nat.reduceBEq, Nat.reduceEqDiff]
  exact weak_sc (by repeat constructor)
end Go.Proofs.YtijnpkpcoeeioaaGreat
