/- law04.two; law04.ShiftPast tells true. -/
import Derived.Test.YtddhdlfafaobhaaS27
import Derived.Test.YtddhdlfafaobhaaS24
namespace Go.Proofs.Ytddhdlfafaobhaa
open Go.RowKit
set_option maxRecDepth 100000
set_option linter.unusedVariables false
set_option linter.unusedSimpArgs false

theorem two_d (l : List ByteArray) (p q : Hk) (r a b c d : Option (List AV)) (H : AHeap) (hf : Fit l p q) : D Try.prog 38 [.lst 1 (strs l) r, hkr p a b, hkr q c d] H (.ret (.tup [.lst 1 (strs (twoR l p q).1) none, .sc (.bool (twoR l p q).2)])) H := by
  obtain ⟨hl, hp, hq, hlen⟩ := hf
  refine D_of_DK (Nat.le_refl _) (dk38 (E_of_ES ?_))
  unfold ic38
  refine ES_seq_gen fun L hL => ?_
  simp -implicitDefEqProofs (maxSteps := 99999999) (disch := first | omega | (simp only [AHeap.set_length, killO_length, List.length_cons]; done) | (simp only [AHeap.set_length, killO_length, List.length_cons]; omega)) only [va, vw, Nat.reduceAdd, Nat.reduceSub, Nat.reduceLT, Nat.reduceLeDiff, ite_true, ite_false, ↓reduceIte, eq_self, reduceCtorEq, Int.reduceEq, Int.reduceNe, Int.reduceLT, Int.reduceLE, Int.reduceGT, Int.reduceGE, Int.reduceAdd, Int.reduceSub, Int.reduceMul, Int.reduceNeg, Int.reduceToNat, Int.reduceTDiv, Int.reduceTMod, Nat.reduceMul, Nat.reduceDiv, Nat.reduceMod, Nat.reduceBEq, forall_const, implies_true, Nat.reduceEqDiff]
  refine hL _ _ ?_
  clear hL
  refine ES_seq_gen fun L hL => ?_
  simp -implicitDefEqProofs (maxSteps := 99999999) (disch := first | omega | (simp only [AHeap.set_length, killO_length, List.length_cons]; done) | (simp only [AHeap.set_length, killO_length, List.length_cons]; omega)) only [va, vw, Nat.reduceAdd, Nat.reduceSub, Nat.reduceLT, Nat.reduceLeDiff, ite_true, ite_false, ↓reduceIte, eq_self, reduceCtorEq, Int.reduceEq, Int.reduceNe, Int.reduceLT, Int.reduceLE, Int.reduceGT, Int.reduceGE, Int.reduceAdd, Int.reduceSub, Int.reduceMul, Int.reduceNeg, Int.reduceToNat, Int.reduceTDiv, Int.reduceTMod, Nat.reduceMul, Nat.reduceDiv, Nat.reduceMod, Nat.reduceBEq, forall_const, implies_true, Nat.reduceEqDiff]
  refine callR_ret (apply_f l [p] (le_txt l _) (le_one p _ _ _) _ hl (short1 hp) (by simp only [newLen]; omega)) ?_
  simp -implicitDefEqProofs (maxSteps := 99999999) (disch := first | omega | (simp only [AHeap.set_length, killO_length, List.length_cons]; done) | (simp only [AHeap.set_length, killO_length, List.length_cons]; omega)) only [va, vw, Nat.reduceAdd, Nat.reduceSub, Nat.reduceLT, Nat.reduceLeDiff, ite_true, ite_false, ↓reduceIte, eq_self, reduceCtorEq, Int.reduceEq, Int.reduceNe, Int.reduceLT, Int.reduceLE, Int.reduceGT, Int.reduceGE, Int.reduceAdd, Int.reduceSub, Int.reduceMul, Int.reduceNeg, Int.reduceToNat, Int.reduceTDiv, Int.reduceTMod, Nat.reduceMul, Nat.reduceDiv, Nat.reduceMod, Nat.reduceBEq, forall_const, implies_true, Nat.reduceEqDiff]
  refine hL _ _ ?_
  clear hL
  refine ES_seq_gen fun L hL => ?_
  have s1 := applyR_short hl (short1 hp) (by simp only [newLen]; omega)
  simp only [newLen] at s1
  by_cases e : (applyR l [p]).2 = 0
  · have e2 : twoR l p q = ((applyR (applyR l [p]).1 [q]).1, decide ((applyR (applyR l [p]).1 [q]).2 = 0)) := by unfold twoR; rw [if_pos e]
    rw [e2] at hL
    simp -implicitDefEqProofs (maxSteps := 99999999) (disch := first | omega | (simp only [AHeap.set_length, killO_length, List.length_cons]; done) | (simp only [AHeap.set_length, killO_length, List.length_cons]; omega)) only [e, va, vw, Nat.reduceAdd, Nat.reduceSub, Nat.reduceLT, Nat.reduceLeDiff, ite_true, ite_false, ↓reduceIte, eq_self, reduceCtorEq, Int.reduceEq, Int.reduceNe, Int.reduceLT, Int.reduceLE, Int.reduceGT, Int.reduceGE, Int.reduceAdd, Int.reduceSub, Int.reduceMul, Int.reduceNeg, Int.reduceToNat, Int.reduceTDiv, Int.reduceTMod, Nat.reduceMul, Nat.reduceDiv, Nat.reduceMod, Nat.reduceBEq, forall_const, implies_true, Nat.reduceEqDiff]
    refine hL _ _ ?_
    clear hL
    refine ES_seq_gen fun L hL => ?_
    simp -implicitDefEqProofs (maxSteps := 99999999) (disch := first | omega | (simp only [AHeap.set_length, killO_length, List.length_cons]; done) | (simp only [AHeap.set_length, killO_length, List.length_cons]; omega)) only [va, vw, Nat.reduceAdd, Nat.reduceSub, Nat.reduceLT, Nat.reduceLeDiff, ite_true, ite_false, ↓reduceIte, eq_self, reduceCtorEq, Int.reduceEq, Int.reduceNe, Int.reduceLT, Int.reduceLE, Int.reduceGT, Int.reduceGE, Int.reduceAdd, Int.reduceSub, Int.reduceMul, Int.reduceNeg, Int.reduceToNat, Int.reduceTDiv, Int.reduceTMod, Nat.reduceMul, Nat.reduceDiv, Nat.reduceMod, Nat.reduceBEq, forall_const, implies_true, Nat.reduceEqDiff]
    refine callR_ret (apply_f _ [q] .refl (le_one q _ _ _) _ s1.1 (short1 hq) (by simp only [newLen]; omega)) ?_
    simp -implicitDefEqProofs (maxSteps := 99999999) (disch := first | omega | (simp only [AHeap.set_length, killO_length, List.length_cons]; done) | (simp only [AHeap.set_length, killO_length, List.length_cons]; omega)) only [va, vw, Nat.reduceAdd, Nat.reduceSub, Nat.reduceLT, Nat.reduceLeDiff, ite_true, ite_false, ↓reduceIte, eq_self, reduceCtorEq, Int.reduceEq, Int.reduceNe, Int.reduceLT, Int.reduceLE, Int.reduceGT, Int.reduceGE, Int.reduceAdd, Int.reduceSub, Int.reduceMul, Int.reduceNeg, Int.reduceToNat, Int.reduceTDiv, Int.reduceTMod, Nat.reduceMul, Nat.reduceDiv, Nat.reduceMod, Nat.reduceBEq, forall_const, implies_true, Nat.reduceEqDiff]
    refine hL _ _ ?_
    clear hL
    simp -implicitDefEqProofs (maxSteps := 99999999) (disch := first | omega | (simp only [AHeap.set_length, killO_length, List.length_cons]; done) | (simp only [AHeap.set_length, killO_length, List.length_cons]; omega)) only [va, vw, Nat.reduceAdd, Nat.reduceSub, Nat.reduceLT, Nat.reduceLeDiff, ite_true, ite_false, ↓reduceIte, eq_self, reduceCtorEq, Int.reduceEq, Int.reduceNe, Int.reduceLT, Int.reduceLE, Int.reduceGT, Int.reduceGE, Int.reduceAdd, Int.reduceSub, Int.reduceMul, Int.reduceNeg, Int.reduceToNat, Int.reduceTDiv, Int.reduceTMod, Nat.reduceMul, Nat.reduceDiv, Nat.reduceMod, Nat.reduceBEq, forall_const, implies_true, Nat.reduceEqDiff]
    exact weak_over (by repeat constructor) (.tup (.cons (.lst strs_fz) (.cons (.same trivial) .nil)))
  · have e2 : twoR l p q = ([], false) := by unfold twoR; rw [if_neg e]
    rw [e2] at hL
    clear hL
    rw [e2]
    simp -implicitDefEqProofs (maxSteps := 99999999) (disch := first | omega | (simp only [AHeap.set_length, killO_length, List.length_cons]; done) | (simp only [AHeap.set_length, killO_length, List.length_cons]; omega)) only [e, va, vw, Nat.reduceAdd, Nat.reduceSub, Nat.reduceLT, Nat.reduceLeDiff, ite_true, ite_false, ↓reduceIte, eq_self, reduceCtorEq, Int.reduceEq, Int.reduceNe, Int.reduceLT, Int.reduceLE, Int.reduceGT, Int.reduceGE, Int.reduceAdd, Int.reduceSub, Int.reduceMul, Int.reduceNeg, Int.reduceToNat, Int.reduceTDiv, Int.reduceTMod, Nat.reduceMul, Nat.reduceDiv, Nat.reduceMod, Nat.reduceBEq, forall_const, implies_true, Nat.reduceEqDiff]
    exact weak_over (by repeat constructor) (.tup (.cons .nil (.cons (.same trivial) .nil)))

theorem tells_t {p q : Hk} (hp : p.short) (hq : q.short) (H : AHeap) : D Try.prog 37 [hk p, hk q, .sc (.int .i64 0), hk p, hk q] H (.ret (.sc (.bool true))) H := by
  have := tells_d p q p q 0 none none none none none none none none H hp hq
  have e : tellsB p q 0 p q = true := by simp [tellsB, sameH]
  rwa [e] at this

set_option maxHeartbeats 0 in
theorem past_d (l : List ByteArray) (p q : Hk) (hf : Fit l p q) (hsm : l.length + p.old.length + p.new.length + q.old.length + q.new.length ≤ 3000000) :
    D Try.prog 8 [.lst 1 (strs l) none, hk p, hk q] [] (.ret (.sc (.bool true))) [] := by
  have hf' := hf
  obtain ⟨hl, hp, hq, hlen⟩ := hf
  have b0 := textsOf_rng hl (most := 2000) (by omega)
  refine D_of_DK (Nat.le_refl _) (dk8 (E_of_ES ?_))
  unfold ic8
  refine ES_seq_gen fun L hL => ?_
  simp -implicitDefEqProofs (maxSteps := 99999999) (disch := omega) only [va, vh, Nat.reduceAdd, Nat.reduceSub, Nat.reduceLT, Nat.reduceLeDiff, ite_true, ite_false, ↓reduceIte, eq_self, reduceCtorEq, Int.reduceEq, Int.reduceNe, Int.reduceLT, Int.reduceLE, Int.reduceGT, Int.reduceGE, Int.reduceAdd, Int.reduceSub, Int.reduceMul, Int.reduceNeg, Int.reduceToNat, Int.reduceTDiv, Int.reduceTMod, Nat.reduceMul, Nat.reduceDiv, Nat.reduceMod, Nat.reduceBEq, forall_const, implies_true, Nat.reduceEqDiff]
  refine hL _ _ ?_
  clear hL
  refine ES_seq_gen fun L hL => ?_
  simp -implicitDefEqProofs (maxSteps := 99999999) (disch := omega) only [va, vh, Nat.reduceAdd, Nat.reduceSub, Nat.reduceLT, Nat.reduceLeDiff, ite_true, ite_false, ↓reduceIte, eq_self, reduceCtorEq, Int.reduceEq, Int.reduceNe, Int.reduceLT, Int.reduceLE, Int.reduceGT, Int.reduceGE, Int.reduceAdd, Int.reduceSub, Int.reduceMul, Int.reduceNeg, Int.reduceToNat, Int.reduceTDiv, Int.reduceTMod, Nat.reduceMul, Nat.reduceDiv, Nat.reduceMod, Nat.reduceBEq, forall_const, implies_true, Nat.reduceEqDiff]
  refine callR_ret (awake_d _) ?_
  simp -implicitDefEqProofs (maxSteps := 99999999) (disch := omega) only [va, vh, Nat.reduceAdd, Nat.reduceSub, Nat.reduceLT, Nat.reduceLeDiff, ite_true, ite_false, ↓reduceIte, eq_self, reduceCtorEq, Int.reduceEq, Int.reduceNe, Int.reduceLT, Int.reduceLE, Int.reduceGT, Int.reduceGE, Int.reduceAdd, Int.reduceSub, Int.reduceMul, Int.reduceNeg, Int.reduceToNat, Int.reduceTDiv, Int.reduceTMod, Nat.reduceMul, Nat.reduceDiv, Nat.reduceMod, Nat.reduceBEq, forall_const, implies_true, Nat.reduceEqDiff]
  refine hL _ _ ?_
  clear hL
  refine ES_seq_gen fun L hL => ?_
  simp -implicitDefEqProofs (maxSteps := 99999999) (disch := omega) only [va, vh, Nat.reduceAdd, Nat.reduceSub, Nat.reduceLT, Nat.reduceLeDiff, ite_true, ite_false, ↓reduceIte, eq_self, reduceCtorEq, Int.reduceEq, Int.reduceNe, Int.reduceLT, Int.reduceLE, Int.reduceGT, Int.reduceGE, Int.reduceAdd, Int.reduceSub, Int.reduceMul, Int.reduceNeg, Int.reduceToNat, Int.reduceTDiv, Int.reduceTMod, Nat.reduceMul, Nat.reduceDiv, Nat.reduceMod, Nat.reduceBEq, forall_const, implies_true, Nat.reduceEqDiff]
  refine callR_ret (great_d p q none none none none _ hp hq) ?_
  by_cases g1 : loadH p q > 2000
  · simp -implicitDefEqProofs (maxSteps := 99999999) (disch := omega) only [g1, va, vh, Nat.reduceAdd, Nat.reduceSub, Nat.reduceLT, Nat.reduceLeDiff, ite_true, ite_false, ↓reduceIte, eq_self, reduceCtorEq, Int.reduceEq, Int.reduceNe, Int.reduceLT, Int.reduceLE, Int.reduceGT, Int.reduceGE, Int.reduceAdd, Int.reduceSub, Int.reduceMul, Int.reduceNeg, Int.reduceToNat, Int.reduceTDiv, Int.reduceTMod, Nat.reduceMul, Nat.reduceDiv, Nat.reduceMod, Nat.reduceBEq, forall_const, implies_true, Nat.reduceEqDiff]
    exact weak_end
  simp -implicitDefEqProofs (maxSteps := 99999999) (disch := omega) only [g1, va, vh, Nat.reduceAdd, Nat.reduceSub, Nat.reduceLT, Nat.reduceLeDiff, ite_true, ite_false, ↓reduceIte, eq_self, reduceCtorEq, Int.reduceEq, Int.reduceNe, Int.reduceLT, Int.reduceLE, Int.reduceGT, Int.reduceGE, Int.reduceAdd, Int.reduceSub, Int.reduceMul, Int.reduceNeg, Int.reduceToNat, Int.reduceTDiv, Int.reduceTMod, Nat.reduceMul, Nat.reduceDiv, Nat.reduceMod, Nat.reduceBEq, forall_const, implies_true, Nat.reduceEqDiff]
  refine callR_ret (textsOf_d l none 2000 _ hl (by omega)) ?_
  by_cases g2 : textsOf l 2000 > 2000
  · simp -implicitDefEqProofs (maxSteps := 99999999) (disch := omega) only [g2, va, vh, Nat.reduceAdd, Nat.reduceSub, Nat.reduceLT, Nat.reduceLeDiff, ite_true, ite_false, ↓reduceIte, eq_self, reduceCtorEq, Int.reduceEq, Int.reduceNe, Int.reduceLT, Int.reduceLE, Int.reduceGT, Int.reduceGE, Int.reduceAdd, Int.reduceSub, Int.reduceMul, Int.reduceNeg, Int.reduceToNat, Int.reduceTDiv, Int.reduceTMod, Nat.reduceMul, Nat.reduceDiv, Nat.reduceMod, Nat.reduceBEq, forall_const, implies_true, Nat.reduceEqDiff]
    exact weak_end
  simp -implicitDefEqProofs (maxSteps := 99999999) (disch := omega) only [g2, va, vh, Nat.reduceAdd, Nat.reduceSub, Nat.reduceLT, Nat.reduceLeDiff, ite_true, ite_false, ↓reduceIte, eq_self, reduceCtorEq, Int.reduceEq, Int.reduceNe, Int.reduceLT, Int.reduceLE, Int.reduceGT, Int.reduceGE, Int.reduceAdd, Int.reduceSub, Int.reduceMul, Int.reduceNeg, Int.reduceToNat, Int.reduceTDiv, Int.reduceTMod, Nat.reduceMul, Nat.reduceDiv, Nat.reduceMod, Nat.reduceBEq, forall_const, implies_true, Nat.reduceEqDiff]
  refine hL _ _ ?_
  clear hL
  refine ES_seq_gen fun L hL => ?_
  simp -implicitDefEqProofs (maxSteps := 99999999) (disch := omega) only [va, vh, Nat.reduceAdd, Nat.reduceSub, Nat.reduceLT, Nat.reduceLeDiff, ite_true, ite_false, ↓reduceIte, eq_self, reduceCtorEq, Int.reduceEq, Int.reduceNe, Int.reduceLT, Int.reduceLE, Int.reduceGT, Int.reduceGE, Int.reduceAdd, Int.reduceSub, Int.reduceMul, Int.reduceNeg, Int.reduceToNat, Int.reduceTDiv, Int.reduceTMod, Nat.reduceMul, Nat.reduceDiv, Nat.reduceMod, Nat.reduceBEq, forall_const, implies_true, Nat.reduceEqDiff]
  refine callR_ret (commute_d p q none none none none _ hp hq) ?_
  obtain ⟨⟨a, b, e⟩, hab⟩ : ∃ r, commR p q = r := ⟨_, rfl⟩
  rw [hab]
  simp -implicitDefEqProofs (maxSteps := 99999999) (disch := omega) only [tupR, va, vh, Nat.reduceAdd, Nat.reduceSub, Nat.reduceLT, Nat.reduceLeDiff, ite_true, ite_false, ↓reduceIte, eq_self, reduceCtorEq, Int.reduceEq, Int.reduceNe, Int.reduceLT, Int.reduceLE, Int.reduceGT, Int.reduceGE, Int.reduceAdd, Int.reduceSub, Int.reduceMul, Int.reduceNeg, Int.reduceToNat, Int.reduceTDiv, Int.reduceTMod, Nat.reduceMul, Nat.reduceDiv, Nat.reduceMod, Nat.reduceBEq, forall_const, implies_true, Nat.reduceEqDiff]
  refine hL _ _ ?_
  clear hL
  refine ES_seq_gen fun L hL => ?_
  have rest : ∀ (ts : List AV) (F : AHeap), AHeap.find F 0 = some ⟨3, [hk p], true, 41⟩ → AHeap.find F 1 = some ⟨3, [hk q], true, 41⟩ →
      Fr [some (.lst 1 (strs l) none), none, none, none, some (.ptr 3 0 0 0), some (.ptr 3 1 0 0), none, none, none, none, none, none, none, none, none, none, none, none, none, none, none, none, none, none, none, none, none, none, none, none, none, none, none, none, none, none, none, none, none, none, none, none, none, none, none, none, none, none, none, none, none, none, none, none, none, none, none, none, none, none, none, none, none, none, none, none, none, none, none, none, none, none, none, none, none, none, none, none, none, none, none, none, none, none, none, none, none, none, none, none, none, none, none, none, none, none, none, none, none, none, none, none, none, none, none, none, none, none, none, none, none, none, none, none, none, none, none, none, none, none, none, none, none, none, none, none, none, none, none, none, none, none, none, none, none, none, none, none, none, none, none, none, none, none, none, none, none, none, none, none, none, none, none, none, none, none, none, none, none, none, none, none, none, none, none, none, none, none, none, none, none, none, none, none, none, none, none, none, none, none, none, none, none, none, none, none, none, none, none, none, none, none, none, none, none, none, none, none, none, none, none, none, none] ts → L ts F := by
    intro ts F f0 f1 hfr
    have n0 := AHeap.find_lt f0
    have n1 := AHeap.find_lt f1
    refine hL _ _ ?_
    clear hL
    obtain ⟨js, rfl⟩ := hfr.opened
    clear hfr
    obtain ⟨⟨s, t, g⟩, hst⟩ : ∃ r, mergR p q = r := ⟨_, rfl⟩
    have hts : mergR q p = (t, s, g) := by rw [merge_sym hp hq, hst]
    have ms := firstR_short (p := p) (q := q) (w1 := (decide (p.at_ < IntKind.i64.wrap (q.at_ - p.old.length)))) (w2 := (decide (q.at_ < IntKind.i64.wrap (p.at_ - q.old.length)))) (x1 := p.mv 0) (y1 := q.mv p.more) (x2 := p.mv q.more) (y2 := q.mv 0) ⟨hp, hq⟩ ⟨hp, hq⟩
    have ms' : (mergR p q).1.short ∧ (mergR p q).2.1.short := ms
    rw [hst] at ms'
    obtain ⟨ss, st⟩ := ms'
    refine ES_seq_gen fun L hL => ?_
    simp -implicitDefEqProofs (maxSteps := 99999999) (disch := first | omega | (simp only [AHeap.set_length, killO_length, List.length_cons]; done) | (simp only [AHeap.set_length, killO_length, List.length_cons]; omega)) only [mk, f0, f1, va, vw, Nat.reduceAdd, Nat.reduceSub, Nat.reduceLT, Nat.reduceLeDiff, ite_true, ite_false, ↓reduceIte, eq_self, reduceCtorEq, Int.reduceEq, Int.reduceNe, Int.reduceLT, Int.reduceLE, Int.reduceGT, Int.reduceGE, Int.reduceAdd, Int.reduceSub, Int.reduceMul, Int.reduceNeg, Int.reduceToNat, Int.reduceTDiv, Int.reduceTMod, Nat.reduceMul, Nat.reduceDiv, Nat.reduceMod, Nat.reduceBEq, forall_const, implies_true, Nat.reduceEqDiff]
    refine callR_ret (merge_d p q none none none none _ hp hq) ?_
    rw [hst]
    simp -implicitDefEqProofs (maxSteps := 99999999) (disch := first | omega | (simp only [AHeap.set_length, killO_length, List.length_cons]; done) | (simp only [AHeap.set_length, killO_length, List.length_cons]; omega)) only [tupR, va, vw, Nat.reduceAdd, Nat.reduceSub, Nat.reduceLT, Nat.reduceLeDiff, ite_true, ite_false, ↓reduceIte, eq_self, reduceCtorEq, Int.reduceEq, Int.reduceNe, Int.reduceLT, Int.reduceLE, Int.reduceGT, Int.reduceGE, Int.reduceAdd, Int.reduceSub, Int.reduceMul, Int.reduceNeg, Int.reduceToNat, Int.reduceTDiv, Int.reduceTMod, Nat.reduceMul, Nat.reduceDiv, Nat.reduceMod, Nat.reduceBEq, forall_const, implies_true, Nat.reduceEqDiff]
    refine hL _ _ ?_
    clear hL
    refine ES_seq_gen fun L hL => ?_
    simp -implicitDefEqProofs (maxSteps := 99999999) (disch := first | omega | (simp only [AHeap.set_length, killO_length, List.length_cons]; done) | (simp only [AHeap.set_length, killO_length, List.length_cons]; omega)) only [f0, f1, va, vw, Nat.reduceAdd, Nat.reduceSub, Nat.reduceLT, Nat.reduceLeDiff, ite_true, ite_false, ↓reduceIte, eq_self, reduceCtorEq, Int.reduceEq, Int.reduceNe, Int.reduceLT, Int.reduceLE, Int.reduceGT, Int.reduceGE, Int.reduceAdd, Int.reduceSub, Int.reduceMul, Int.reduceNeg, Int.reduceToNat, Int.reduceTDiv, Int.reduceTMod, Nat.reduceMul, Nat.reduceDiv, Nat.reduceMod, Nat.reduceBEq, forall_const, implies_true, Nat.reduceEqDiff]
    refine callR_ret (merge_d q p none none none none _ hq hp) ?_
    rw [hts]
    simp -implicitDefEqProofs (maxSteps := 99999999) (disch := first | omega | (simp only [AHeap.set_length, killO_length, List.length_cons]; done) | (simp only [AHeap.set_length, killO_length, List.length_cons]; omega)) only [tupR, va, vw, Nat.reduceAdd, Nat.reduceSub, Nat.reduceLT, Nat.reduceLeDiff, ite_true, ite_false, ↓reduceIte, eq_self, reduceCtorEq, Int.reduceEq, Int.reduceNe, Int.reduceLT, Int.reduceLE, Int.reduceGT, Int.reduceGE, Int.reduceAdd, Int.reduceSub, Int.reduceMul, Int.reduceNeg, Int.reduceToNat, Int.reduceTDiv, Int.reduceTMod, Nat.reduceMul, Nat.reduceDiv, Nat.reduceMod, Nat.reduceBEq, forall_const, implies_true, Nat.reduceEqDiff]
    refine hL _ _ ?_
    clear hL
    refine ES_seq_gen fun L hL => ?_
    have rest2 : ∀ (ts : List AV) (G : AHeap) (i19 i20 : Nat), AHeap.find G 0 = some ⟨3, [hk p], true, 41⟩ → AHeap.find G 1 = some ⟨3, [hk q], true, 41⟩ → AHeap.find G i19 = some ⟨3, [hk s], true, 41⟩ → AHeap.find G i20 = some ⟨3, [hk t], true, 41⟩ →
        Fr [some (.lst 1 (strs l) none), none, none, none, some (.ptr 3 0 0 0), some (.ptr 3 1 0 0), none, none, none, none, none, none, none, none, none, none, none, none, none, some (.ptr 3 i19 0 0), some (.ptr 3 i20 0 0), some (.sc (.int .i64 g)), none, none, none, none, none, none, none, none, none, none, none, none, none, none, none, none, none, none, none, none, none, none, none, none, none, none, none, none, none, none, none, none, none, none, none, none, none, none, none, none, none, none, none, none, none, none, none, none, none, none, none, none, none, none, none, none, none, none, none, none, none, none, none, none, none, none, none, none, none, none, none, none, none, none, none, none, none, none, none, none, none, none, none, none, none, none, none, none, none, none, none, none, none, none, none, none, none, none, none, none, none, none, none, none, none, none, none, none, none, none, none, none, none, none, none, none, none, none, none, none, none, none, none, none, none, none, none, none, none, none, none, none, none, none, none, none, none, none, none, none, none, none, none, none, none, none, none, none, none, none, none, none, none, none, none, none, none, none, none, none, none, none, none, none, none, none, none, none, none, none, none, none, none, none, none, none, none, none, none, none, none] ts → L ts G := by
      intro ts G i19 i20 f0 f1 f2 f3 hfr
      have n0 := AHeap.find_lt f0
      have n1 := AHeap.find_lt f1
      have n2 := AHeap.find_lt f2
      have n3 := AHeap.find_lt f3
      refine hL _ _ ?_
      clear hL
      obtain ⟨js, rfl⟩ := hfr.opened
      clear hfr
      refine ES_seq_gen fun L hL => ?_
      simp -implicitDefEqProofs (maxSteps := 99999999) (disch := first | omega | (simp only [AHeap.set_length, killO_length, List.length_cons]; done) | (simp only [AHeap.set_length, killO_length, List.length_cons]; omega)) only [mk, f0, f1, f2, f3, va, vw, Nat.reduceAdd, Nat.reduceSub, Nat.reduceLT, Nat.reduceLeDiff, ite_true, ite_false, ↓reduceIte, eq_self, reduceCtorEq, Int.reduceEq, Int.reduceNe, Int.reduceLT, Int.reduceLE, Int.reduceGT, Int.reduceGE, Int.reduceAdd, Int.reduceSub, Int.reduceMul, Int.reduceNeg, Int.reduceToNat, Int.reduceTDiv, Int.reduceTMod, Nat.reduceMul, Nat.reduceDiv, Nat.reduceMod, Nat.reduceBEq, forall_const, implies_true, Nat.reduceEqDiff]
      refine callR_ret (apply_f l [p] .refl (le_one p none none _) _ hl (short1 hp) (by simp only [newLen]; omega)) ?_
      simp -implicitDefEqProofs (maxSteps := 99999999) (disch := first | omega | (simp only [AHeap.set_length, killO_length, List.length_cons]; done) | (simp only [AHeap.set_length, killO_length, List.length_cons]; omega)) only [va, vw, Nat.reduceAdd, Nat.reduceSub, Nat.reduceLT, Nat.reduceLeDiff, ite_true, ite_false, ↓reduceIte, eq_self, reduceCtorEq, Int.reduceEq, Int.reduceNe, Int.reduceLT, Int.reduceLE, Int.reduceGT, Int.reduceGE, Int.reduceAdd, Int.reduceSub, Int.reduceMul, Int.reduceNeg, Int.reduceToNat, Int.reduceTDiv, Int.reduceTMod, Nat.reduceMul, Nat.reduceDiv, Nat.reduceMod, Nat.reduceBEq, forall_const, implies_true, Nat.reduceEqDiff]
      refine hL _ _ ?_
      clear hL
      refine ES_seq_gen fun L hL => ?_
      simp -implicitDefEqProofs (maxSteps := 99999999) (disch := first | omega | (simp only [AHeap.set_length, killO_length, List.length_cons]; done) | (simp only [AHeap.set_length, killO_length, List.length_cons]; omega)) only [mk, f0, f1, f2, f3, va, vw, Nat.reduceAdd, Nat.reduceSub, Nat.reduceLT, Nat.reduceLeDiff, ite_true, ite_false, ↓reduceIte, eq_self, reduceCtorEq, Int.reduceEq, Int.reduceNe, Int.reduceLT, Int.reduceLE, Int.reduceGT, Int.reduceGE, Int.reduceAdd, Int.reduceSub, Int.reduceMul, Int.reduceNeg, Int.reduceToNat, Int.reduceTDiv, Int.reduceTMod, Nat.reduceMul, Nat.reduceDiv, Nat.reduceMod, Nat.reduceBEq, forall_const, implies_true, Nat.reduceEqDiff]
      refine callR_ret (apply_f l [q] .refl (le_one q none none _) _ hl (short1 hq) (by simp only [newLen]; omega)) ?_
      simp -implicitDefEqProofs (maxSteps := 99999999) (disch := first | omega | (simp only [AHeap.set_length, killO_length, List.length_cons]; done) | (simp only [AHeap.set_length, killO_length, List.length_cons]; omega)) only [va, vw, Nat.reduceAdd, Nat.reduceSub, Nat.reduceLT, Nat.reduceLeDiff, ite_true, ite_false, ↓reduceIte, eq_self, reduceCtorEq, Int.reduceEq, Int.reduceNe, Int.reduceLT, Int.reduceLE, Int.reduceGT, Int.reduceGE, Int.reduceAdd, Int.reduceSub, Int.reduceMul, Int.reduceNeg, Int.reduceToNat, Int.reduceTDiv, Int.reduceTMod, Nat.reduceMul, Nat.reduceDiv, Nat.reduceMod, Nat.reduceBEq, forall_const, implies_true, Nat.reduceEqDiff]
      refine hL _ _ ?_
      clear hL
      refine ES_seq_gen fun L hL => ?_
      by_cases e0 : g = 0
      case neg =>
        simp -implicitDefEqProofs (maxSteps := 99999999) (disch := first | omega | (simp only [AHeap.set_length, killO_length, List.length_cons]; done) | (simp only [AHeap.set_length, killO_length, List.length_cons]; omega)) only [e0, va, vw, Nat.reduceAdd, Nat.reduceSub, Nat.reduceLT, Nat.reduceLeDiff, ite_true, ite_false, ↓reduceIte, eq_self, reduceCtorEq, Int.reduceEq, Int.reduceNe, Int.reduceLT, Int.reduceLE, Int.reduceGT, Int.reduceGE, Int.reduceAdd, Int.reduceSub, Int.reduceMul, Int.reduceNeg, Int.reduceToNat, Int.reduceTDiv, Int.reduceTMod, Nat.reduceMul, Nat.reduceDiv, Nat.reduceMod, Nat.reduceBEq, forall_const, implies_true, Nat.reduceEqDiff]
        exact weak_end
      by_cases e1 : (applyR l [p]).2 = 0
      case neg =>
        simp -implicitDefEqProofs (maxSteps := 99999999) (disch := first | omega | (simp only [AHeap.set_length, killO_length, List.length_cons]; done) | (simp only [AHeap.set_length, killO_length, List.length_cons]; omega)) only [e0, e1, va, vw, Nat.reduceAdd, Nat.reduceSub, Nat.reduceLT, Nat.reduceLeDiff, ite_true, ite_false, ↓reduceIte, eq_self, reduceCtorEq, Int.reduceEq, Int.reduceNe, Int.reduceLT, Int.reduceLE, Int.reduceGT, Int.reduceGE, Int.reduceAdd, Int.reduceSub, Int.reduceMul, Int.reduceNeg, Int.reduceToNat, Int.reduceTDiv, Int.reduceTMod, Nat.reduceMul, Nat.reduceDiv, Nat.reduceMod, Nat.reduceBEq, forall_const, implies_true, Nat.reduceEqDiff]
        exact weak_end
      by_cases e2 : (applyR l [q]).2 = 0
      case neg =>
        simp -implicitDefEqProofs (maxSteps := 99999999) (disch := first | omega | (simp only [AHeap.set_length, killO_length, List.length_cons]; done) | (simp only [AHeap.set_length, killO_length, List.length_cons]; omega)) only [e0, e1, e2, va, vw, Nat.reduceAdd, Nat.reduceSub, Nat.reduceLT, Nat.reduceLeDiff, ite_true, ite_false, ↓reduceIte, eq_self, reduceCtorEq, Int.reduceEq, Int.reduceNe, Int.reduceLT, Int.reduceLE, Int.reduceGT, Int.reduceGE, Int.reduceAdd, Int.reduceSub, Int.reduceMul, Int.reduceNeg, Int.reduceToNat, Int.reduceTDiv, Int.reduceTMod, Nat.reduceMul, Nat.reduceDiv, Nat.reduceMod, Nat.reduceBEq, forall_const, implies_true, Nat.reduceEqDiff]
        exact weak_end
      subst e0
      obtain ⟨r, m1, m2, m3⟩ := merge_two hf' hst e1 e2
      obtain ⟨_, hc⟩ := merge_ok hp hq hst
      have ls : s.old = p.old ∧ s.new = p.new ∧ t.old = q.old ∧ t.new = q.new := by
        rcases hc with ⟨_, ea, eb, _⟩ | ⟨_, ea, eb, _⟩ <;> rw [ea, eb] <;> exact ⟨rfl, rfl, rfl, rfl⟩
      obtain ⟨l1, l2, l3, l4⟩ := ls
      have fpt : Fit l p t := ⟨hl, hp, st, by rw [l3, l4]; omega⟩
      have fqs : Fit l q s := ⟨hl, hq, ss, by rw [l1, l2]; omega⟩
      simp -implicitDefEqProofs (maxSteps := 99999999) (disch := first | omega | (simp only [AHeap.set_length, killO_length, List.length_cons]; done) | (simp only [AHeap.set_length, killO_length, List.length_cons]; omega)) only [e1, e2, va, vw, Nat.reduceAdd, Nat.reduceSub, Nat.reduceLT, Nat.reduceLeDiff, ite_true, ite_false, ↓reduceIte, eq_self, reduceCtorEq, Int.reduceEq, Int.reduceNe, Int.reduceLT, Int.reduceLE, Int.reduceGT, Int.reduceGE, Int.reduceAdd, Int.reduceSub, Int.reduceMul, Int.reduceNeg, Int.reduceToNat, Int.reduceTDiv, Int.reduceTMod, Nat.reduceMul, Nat.reduceDiv, Nat.reduceMod, Nat.reduceBEq, forall_const, implies_true, Nat.reduceEqDiff]
      refine hL _ _ ?_
      clear hL
      refine ES_seq_gen fun L hL => ?_
      simp -implicitDefEqProofs (maxSteps := 99999999) (disch := first | omega | (simp only [AHeap.set_length, killO_length, List.length_cons]; done) | (simp only [AHeap.set_length, killO_length, List.length_cons]; omega)) only [f0, f1, f2, f3, va, vw, Nat.reduceAdd, Nat.reduceSub, Nat.reduceLT, Nat.reduceLeDiff, ite_true, ite_false, ↓reduceIte, eq_self, reduceCtorEq, Int.reduceEq, Int.reduceNe, Int.reduceLT, Int.reduceLE, Int.reduceGT, Int.reduceGE, Int.reduceAdd, Int.reduceSub, Int.reduceMul, Int.reduceNeg, Int.reduceToNat, Int.reduceTDiv, Int.reduceTMod, Nat.reduceMul, Nat.reduceDiv, Nat.reduceMod, Nat.reduceBEq, forall_const, implies_true, Nat.reduceEqDiff]
      refine callR_ret (two_d l p t none none none none none _ fpt) ?_
      rw [m1]
      simp -implicitDefEqProofs (maxSteps := 99999999) (disch := first | omega | (simp only [AHeap.set_length, killO_length, List.length_cons]; done) | (simp only [AHeap.set_length, killO_length, List.length_cons]; omega)) only [va, vw, Nat.reduceAdd, Nat.reduceSub, Nat.reduceLT, Nat.reduceLeDiff, ite_true, ite_false, ↓reduceIte, eq_self, reduceCtorEq, Int.reduceEq, Int.reduceNe, Int.reduceLT, Int.reduceLE, Int.reduceGT, Int.reduceGE, Int.reduceAdd, Int.reduceSub, Int.reduceMul, Int.reduceNeg, Int.reduceToNat, Int.reduceTDiv, Int.reduceTMod, Nat.reduceMul, Nat.reduceDiv, Nat.reduceMod, Nat.reduceBEq, forall_const, implies_true, Nat.reduceEqDiff]
      refine hL _ _ ?_
      clear hL
      refine ES_seq_gen fun L hL => ?_
      simp -implicitDefEqProofs (maxSteps := 99999999) (disch := first | omega | (simp only [AHeap.set_length, killO_length, List.length_cons]; done) | (simp only [AHeap.set_length, killO_length, List.length_cons]; omega)) only [f0, f1, f2, f3, va, vw, Nat.reduceAdd, Nat.reduceSub, Nat.reduceLT, Nat.reduceLeDiff, ite_true, ite_false, ↓reduceIte, eq_self, reduceCtorEq, Int.reduceEq, Int.reduceNe, Int.reduceLT, Int.reduceLE, Int.reduceGT, Int.reduceGE, Int.reduceAdd, Int.reduceSub, Int.reduceMul, Int.reduceNeg, Int.reduceToNat, Int.reduceTDiv, Int.reduceTMod, Nat.reduceMul, Nat.reduceDiv, Nat.reduceMod, Nat.reduceBEq, forall_const, implies_true, Nat.reduceEqDiff]
      refine callR_ret (two_d l q s none none none none none _ fqs) ?_
      rw [m2]
      simp -implicitDefEqProofs (maxSteps := 99999999) (disch := first | omega | (simp only [AHeap.set_length, killO_length, List.length_cons]; done) | (simp only [AHeap.set_length, killO_length, List.length_cons]; omega)) only [va, vw, Nat.reduceAdd, Nat.reduceSub, Nat.reduceLT, Nat.reduceLeDiff, ite_true, ite_false, ↓reduceIte, eq_self, reduceCtorEq, Int.reduceEq, Int.reduceNe, Int.reduceLT, Int.reduceLE, Int.reduceGT, Int.reduceGE, Int.reduceAdd, Int.reduceSub, Int.reduceMul, Int.reduceNeg, Int.reduceToNat, Int.reduceTDiv, Int.reduceTMod, Nat.reduceMul, Nat.reduceDiv, Nat.reduceMod, Nat.reduceBEq, forall_const, implies_true, Nat.reduceEqDiff]
      refine hL _ _ ?_
      clear hL
      refine ES_seq_gen fun L hL => ?_
      simp -implicitDefEqProofs (maxSteps := 99999999) (disch := first | omega | (simp only [AHeap.set_length, killO_length, List.length_cons]; done) | (simp only [AHeap.set_length, killO_length, List.length_cons]; omega)) only [f0, f1, f2, f3, va, vw, Nat.reduceAdd, Nat.reduceSub, Nat.reduceLT, Nat.reduceLeDiff, ite_true, ite_false, ↓reduceIte, eq_self, reduceCtorEq, Int.reduceEq, Int.reduceNe, Int.reduceLT, Int.reduceLE, Int.reduceGT, Int.reduceGE, Int.reduceAdd, Int.reduceSub, Int.reduceMul, Int.reduceNeg, Int.reduceToNat, Int.reduceTDiv, Int.reduceTMod, Nat.reduceMul, Nat.reduceDiv, Nat.reduceMod, Nat.reduceBEq, forall_const, implies_true, Nat.reduceEqDiff]
      refine callR_ret (commute_d p t none none none none _ hp st) ?_
      rw [m3]
      simp -implicitDefEqProofs (maxSteps := 99999999) (disch := first | omega | (simp only [AHeap.set_length, killO_length, List.length_cons]; done) | (simp only [AHeap.set_length, killO_length, List.length_cons]; omega)) only [tupR, va, vw, Nat.reduceAdd, Nat.reduceSub, Nat.reduceLT, Nat.reduceLeDiff, ite_true, ite_false, ↓reduceIte, eq_self, reduceCtorEq, Int.reduceEq, Int.reduceNe, Int.reduceLT, Int.reduceLE, Int.reduceGT, Int.reduceGE, Int.reduceAdd, Int.reduceSub, Int.reduceMul, Int.reduceNeg, Int.reduceToNat, Int.reduceTDiv, Int.reduceTMod, Nat.reduceMul, Nat.reduceDiv, Nat.reduceMod, Nat.reduceBEq, forall_const, implies_true, Nat.reduceEqDiff]
      refine hL _ _ ?_
      clear hL
      have sr : r.length ≤ 100000000 := by
        obtain ⟨x1, h1, h2⟩ := two_ok (by rw [m1])
        rw [m1] at h2
        have s1 := applyR_short hl (short1 hp) (by simp only [newLen]; omega)
        rw [h1] at s1
        simp only [newLen] at s1
        have s2 := applyR_short s1.1 (short1 st) (by have := s1.2; simp only [newLen]; rw [l4]; omega)
        rw [h2] at s2
        exact s2.1.1
      simp -implicitDefEqProofs (maxSteps := 99999999) (disch := first | omega | (simp only [AHeap.set_length, killO_length, List.length_cons]; done) | (simp only [AHeap.set_length, killO_length, List.length_cons]; omega)) only [f1, f2, va, vw, Nat.reduceAdd, Nat.reduceSub, Nat.reduceLT, Nat.reduceLeDiff, ite_true, ite_false, ↓reduceIte, eq_self, reduceCtorEq, Int.reduceEq, Int.reduceNe, Int.reduceLT, Int.reduceLE, Int.reduceGT, Int.reduceGE, Int.reduceAdd, Int.reduceSub, Int.reduceMul, Int.reduceNeg, Int.reduceToNat, Int.reduceTDiv, Int.reduceTMod, Nat.reduceMul, Nat.reduceDiv, Nat.reduceMod, Nat.reduceBEq, forall_const, implies_true, Nat.reduceEqDiff]
      refine callR_ret (sameTexts_t r .refl .refl _ sr) ?_
      simp -implicitDefEqProofs (maxSteps := 99999999) (disch := first | omega | (simp only [AHeap.set_length, killO_length, List.length_cons]; done) | (simp only [AHeap.set_length, killO_length, List.length_cons]; omega)) only [f1, f2, va, vw, Nat.reduceAdd, Nat.reduceSub, Nat.reduceLT, Nat.reduceLeDiff, ite_true, ite_false, ↓reduceIte, eq_self, reduceCtorEq, Int.reduceEq, Int.reduceNe, Int.reduceLT, Int.reduceLE, Int.reduceGT, Int.reduceGE, Int.reduceAdd, Int.reduceSub, Int.reduceMul, Int.reduceNeg, Int.reduceToNat, Int.reduceTDiv, Int.reduceTMod, Nat.reduceMul, Nat.reduceDiv, Nat.reduceMod, Nat.reduceBEq, forall_const, implies_true, Nat.reduceEqDiff]
      refine callR_ret (tells_t hq ss _) ?_
      simp -implicitDefEqProofs (maxSteps := 99999999) (disch := first | omega | (simp only [AHeap.set_length, killO_length, List.length_cons]; done) | (simp only [AHeap.set_length, killO_length, List.length_cons]; omega)) only [va, vw, Nat.reduceAdd, Nat.reduceSub, Nat.reduceLT, Nat.reduceLeDiff, ite_true, ite_false, ↓reduceIte, eq_self, reduceCtorEq, Int.reduceEq, Int.reduceNe, Int.reduceLT, Int.reduceLE, Int.reduceGT, Int.reduceGE, Int.reduceAdd, Int.reduceSub, Int.reduceMul, Int.reduceNeg, Int.reduceToNat, Int.reduceTDiv, Int.reduceTMod, Nat.reduceMul, Nat.reduceDiv, Nat.reduceMod, Nat.reduceBEq, forall_const, implies_true, Nat.reduceEqDiff]
      exact weak_end
    clear hL
    by_cases e0 : g = 0
    case neg =>
      simp -implicitDefEqProofs (maxSteps := 99999999) (disch := first | omega | (simp only [AHeap.set_length, killO_length, List.length_cons]; done) | (simp only [AHeap.set_length, killO_length, List.length_cons]; omega)) only [e0, f0, f1, va, vw, Nat.reduceAdd, Nat.reduceSub, Nat.reduceLT, Nat.reduceLeDiff, ite_true, ite_false, ↓reduceIte, eq_self, reduceCtorEq, Int.reduceEq, Int.reduceNe, Int.reduceLT, Int.reduceLE, Int.reduceGT, Int.reduceGE, Int.reduceAdd, Int.reduceSub, Int.reduceMul, Int.reduceNeg, Int.reduceToNat, Int.reduceTDiv, Int.reduceTMod, Nat.reduceMul, Nat.reduceDiv, Nat.reduceMod, Nat.reduceBEq, forall_const, implies_true, Nat.reduceEqDiff]
      refine rest2 _ _ F.length (F.length + 1) ?_ ?_ ?_ ?_ (by simp [Fr])
      · simp -implicitDefEqProofs (maxSteps := 99999999) (disch := first | omega | (simp only [AHeap.set_length, killO_length, List.length_cons]; done) | (simp only [AHeap.set_length, killO_length, List.length_cons]; omega)) only [f0, va, vw, Nat.reduceAdd, Nat.reduceSub, Nat.reduceLT, Nat.reduceLeDiff, ite_true, ite_false, ↓reduceIte, eq_self, reduceCtorEq, Int.reduceEq, Int.reduceNe, Int.reduceLT, Int.reduceLE, Int.reduceGT, Int.reduceGE, Int.reduceAdd, Int.reduceSub, Int.reduceMul, Int.reduceNeg, Int.reduceToNat, Int.reduceTDiv, Int.reduceTMod, Nat.reduceMul, Nat.reduceDiv, Nat.reduceMod, Nat.reduceBEq, forall_const, implies_true, Nat.reduceEqDiff]
      · simp -implicitDefEqProofs (maxSteps := 99999999) (disch := first | omega | (simp only [AHeap.set_length, killO_length, List.length_cons]; done) | (simp only [AHeap.set_length, killO_length, List.length_cons]; omega)) only [f1, va, vw, Nat.reduceAdd, Nat.reduceSub, Nat.reduceLT, Nat.reduceLeDiff, ite_true, ite_false, ↓reduceIte, eq_self, reduceCtorEq, Int.reduceEq, Int.reduceNe, Int.reduceLT, Int.reduceLE, Int.reduceGT, Int.reduceGE, Int.reduceAdd, Int.reduceSub, Int.reduceMul, Int.reduceNeg, Int.reduceToNat, Int.reduceTDiv, Int.reduceTMod, Nat.reduceMul, Nat.reduceDiv, Nat.reduceMod, Nat.reduceBEq, forall_const, implies_true, Nat.reduceEqDiff]
      · simp -implicitDefEqProofs (maxSteps := 99999999) (disch := first | omega | (simp only [AHeap.set_length, killO_length, List.length_cons]; done) | (simp only [AHeap.set_length, killO_length, List.length_cons]; omega)) only [va, vw, Nat.reduceAdd, Nat.reduceSub, Nat.reduceLT, Nat.reduceLeDiff, ite_true, ite_false, ↓reduceIte, eq_self, reduceCtorEq, Int.reduceEq, Int.reduceNe, Int.reduceLT, Int.reduceLE, Int.reduceGT, Int.reduceGE, Int.reduceAdd, Int.reduceSub, Int.reduceMul, Int.reduceNeg, Int.reduceToNat, Int.reduceTDiv, Int.reduceTMod, Nat.reduceMul, Nat.reduceDiv, Nat.reduceMod, Nat.reduceBEq, forall_const, implies_true, Nat.reduceEqDiff]
      · simp -implicitDefEqProofs (maxSteps := 99999999) (disch := first | omega | (simp only [AHeap.set_length, killO_length, List.length_cons]; done) | (simp only [AHeap.set_length, killO_length, List.length_cons]; omega)) only [va, vw, Nat.reduceAdd, Nat.reduceSub, Nat.reduceLT, Nat.reduceLeDiff, ite_true, ite_false, ↓reduceIte, eq_self, reduceCtorEq, Int.reduceEq, Int.reduceNe, Int.reduceLT, Int.reduceLE, Int.reduceGT, Int.reduceGE, Int.reduceAdd, Int.reduceSub, Int.reduceMul, Int.reduceNeg, Int.reduceToNat, Int.reduceTDiv, Int.reduceTMod, Nat.reduceMul, Nat.reduceDiv, Nat.reduceMod, Nat.reduceBEq, forall_const, implies_true, Nat.reduceEqDiff]
    subst e0
    simp -implicitDefEqProofs (maxSteps := 99999999) (disch := first | omega | (simp only [AHeap.set_length, killO_length, List.length_cons]; done) | (simp only [AHeap.set_length, killO_length, List.length_cons]; omega)) only [f0, f1, va, vw, Nat.reduceAdd, Nat.reduceSub, Nat.reduceLT, Nat.reduceLeDiff, ite_true, ite_false, ↓reduceIte, eq_self, reduceCtorEq, Int.reduceEq, Int.reduceNe, Int.reduceLT, Int.reduceLE, Int.reduceGT, Int.reduceGE, Int.reduceAdd, Int.reduceSub, Int.reduceMul, Int.reduceNeg, Int.reduceToNat, Int.reduceTDiv, Int.reduceTMod, Nat.reduceMul, Nat.reduceDiv, Nat.reduceMod, Nat.reduceBEq, forall_const, implies_true, Nat.reduceEqDiff]
    refine callR_ret (tells_t st ss _) ?_
    simp -implicitDefEqProofs (maxSteps := 99999999) (disch := first | omega | (simp only [AHeap.set_length, killO_length, List.length_cons]; done) | (simp only [AHeap.set_length, killO_length, List.length_cons]; omega)) only [va, vw, Nat.reduceAdd, Nat.reduceSub, Nat.reduceLT, Nat.reduceLeDiff, ite_true, ite_false, ↓reduceIte, eq_self, reduceCtorEq, Int.reduceEq, Int.reduceNe, Int.reduceLT, Int.reduceLE, Int.reduceGT, Int.reduceGE, Int.reduceAdd, Int.reduceSub, Int.reduceMul, Int.reduceNeg, Int.reduceToNat, Int.reduceTDiv, Int.reduceTMod, Nat.reduceMul, Nat.reduceDiv, Nat.reduceMod, Nat.reduceBEq, forall_const, implies_true, Nat.reduceEqDiff]
    refine rest2 _ _ F.length (F.length + 1) ?_ ?_ ?_ ?_ (by simp [Fr])
    · simp -implicitDefEqProofs (maxSteps := 99999999) (disch := first | omega | (simp only [AHeap.set_length, killO_length, List.length_cons]; done) | (simp only [AHeap.set_length, killO_length, List.length_cons]; omega)) only [f0, va, vw, Nat.reduceAdd, Nat.reduceSub, Nat.reduceLT, Nat.reduceLeDiff, ite_true, ite_false, ↓reduceIte, eq_self, reduceCtorEq, Int.reduceEq, Int.reduceNe, Int.reduceLT, Int.reduceLE, Int.reduceGT, Int.reduceGE, Int.reduceAdd, Int.reduceSub, Int.reduceMul, Int.reduceNeg, Int.reduceToNat, Int.reduceTDiv, Int.reduceTMod, Nat.reduceMul, Nat.reduceDiv, Nat.reduceMod, Nat.reduceBEq, forall_const, implies_true, Nat.reduceEqDiff]
    · simp -implicitDefEqProofs (maxSteps := 99999999) (disch := first | omega | (simp only [AHeap.set_length, killO_length, List.length_cons]; done) | (simp only [AHeap.set_length, killO_length, List.length_cons]; omega)) only [f1, va, vw, Nat.reduceAdd, Nat.reduceSub, Nat.reduceLT, Nat.reduceLeDiff, ite_true, ite_false, ↓reduceIte, eq_self, reduceCtorEq, Int.reduceEq, Int.reduceNe, Int.reduceLT, Int.reduceLE, Int.reduceGT, Int.reduceGE, Int.reduceAdd, Int.reduceSub, Int.reduceMul, Int.reduceNeg, Int.reduceToNat, Int.reduceTDiv, Int.reduceTMod, Nat.reduceMul, Nat.reduceDiv, Nat.reduceMod, Nat.reduceBEq, forall_const, implies_true, Nat.reduceEqDiff]
    · simp -implicitDefEqProofs (maxSteps := 99999999) (disch := first | omega | (simp only [AHeap.set_length, killO_length, List.length_cons]; done) | (simp only [AHeap.set_length, killO_length, List.length_cons]; omega)) only [va, vw, Nat.reduceAdd, Nat.reduceSub, Nat.reduceLT, Nat.reduceLeDiff, ite_true, ite_false, ↓reduceIte, eq_self, reduceCtorEq, Int.reduceEq, Int.reduceNe, Int.reduceLT, Int.reduceLE, Int.reduceGT, Int.reduceGE, Int.reduceAdd, Int.reduceSub, Int.reduceMul, Int.reduceNeg, Int.reduceToNat, Int.reduceTDiv, Int.reduceTMod, Nat.reduceMul, Nat.reduceDiv, Nat.reduceMod, Nat.reduceBEq, forall_const, implies_true, Nat.reduceEqDiff]
    · simp -implicitDefEqProofs (maxSteps := 99999999) (disch := first | omega | (simp only [AHeap.set_length, killO_length, List.length_cons]; done) | (simp only [AHeap.set_length, killO_length, List.length_cons]; omega)) only [va, vw, Nat.reduceAdd, Nat.reduceSub, Nat.reduceLT, Nat.reduceLeDiff, ite_true, ite_false, ↓reduceIte, eq_self, reduceCtorEq, Int.reduceEq, Int.reduceNe, Int.reduceLT, Int.reduceLE, Int.reduceGT, Int.reduceGE, Int.reduceAdd, Int.reduceSub, Int.reduceMul, Int.reduceNeg, Int.reduceToNat, Int.reduceTDiv, Int.reduceTMod, Nat.reduceMul, Nat.reduceDiv, Nat.reduceMod, Nat.reduceBEq, forall_const, implies_true, Nat.reduceEqDiff]
  clear hL
  by_cases e0 : e = 0
  case neg =>
    simp -implicitDefEqProofs (maxSteps := 99999999) (disch := omega) only [e0, va, vh, Nat.reduceAdd, Nat.reduceSub, Nat.reduceLT, Nat.reduceLeDiff, ite_true, ite_false, ↓reduceIte, eq_self, reduceCtorEq, Int.reduceEq, Int.reduceNe, Int.reduceLT, Int.reduceLE, Int.reduceGT, Int.reduceGE, Int.reduceAdd, Int.reduceSub, Int.reduceMul, Int.reduceNeg, Int.reduceToNat, Int.reduceTDiv, Int.reduceTMod, Nat.reduceMul, Nat.reduceDiv, Nat.reduceMod, Nat.reduceBEq, forall_const, implies_true, Nat.reduceEqDiff]
    refine rest _ _ (by rfl) (by rfl) (by simp [Fr])
  subst e0
  obtain ⟨k1, sa, sb, k2⟩ := comm_back hp hq hab
  simp -implicitDefEqProofs (maxSteps := 99999999) (disch := omega) only [va, vh, Nat.reduceAdd, Nat.reduceSub, Nat.reduceLT, Nat.reduceLeDiff, ite_true, ite_false, ↓reduceIte, eq_self, reduceCtorEq, Int.reduceEq, Int.reduceNe, Int.reduceLT, Int.reduceLE, Int.reduceGT, Int.reduceGE, Int.reduceAdd, Int.reduceSub, Int.reduceMul, Int.reduceNeg, Int.reduceToNat, Int.reduceTDiv, Int.reduceTMod, Nat.reduceMul, Nat.reduceDiv, Nat.reduceMod, Nat.reduceBEq, forall_const, implies_true, Nat.reduceEqDiff]
  refine callR_ret (commute_d a b none none none none _ sa sb) ?_
  rw [k1]
  simp -implicitDefEqProofs (maxSteps := 99999999) (disch := omega) only [tupR, va, vh, Nat.reduceAdd, Nat.reduceSub, Nat.reduceLT, Nat.reduceLeDiff, ite_true, ite_false, ↓reduceIte, eq_self, reduceCtorEq, Int.reduceEq, Int.reduceNe, Int.reduceLT, Int.reduceLE, Int.reduceGT, Int.reduceGE, Int.reduceAdd, Int.reduceSub, Int.reduceMul, Int.reduceNeg, Int.reduceToNat, Int.reduceTDiv, Int.reduceTMod, Nat.reduceMul, Nat.reduceDiv, Nat.reduceMod, Nat.reduceBEq, forall_const, implies_true, Nat.reduceEqDiff]
  refine callR_ret (tells_t hp hq _) ?_
  simp -implicitDefEqProofs (maxSteps := 99999999) (disch := omega) only [va, vh, Nat.reduceAdd, Nat.reduceSub, Nat.reduceLT, Nat.reduceLeDiff, ite_true, ite_false, ↓reduceIte, eq_self, reduceCtorEq, Int.reduceEq, Int.reduceNe, Int.reduceLT, Int.reduceLE, Int.reduceGT, Int.reduceGE, Int.reduceAdd, Int.reduceSub, Int.reduceMul, Int.reduceNeg, Int.reduceToNat, Int.reduceTDiv, Int.reduceTMod, Nat.reduceMul, Nat.reduceDiv, Nat.reduceMod, Nat.reduceBEq, forall_const, implies_true, Nat.reduceEqDiff]
  refine callR_ret (two_d l p q none none none none none _ hf') ?_
  cases c : (twoR l p q).2 with
  | false =>
    simp -implicitDefEqProofs (maxSteps := 99999999) (disch := omega) only [va, vh, Nat.reduceAdd, Nat.reduceSub, Nat.reduceLT, Nat.reduceLeDiff, ite_true, ite_false, ↓reduceIte, eq_self, reduceCtorEq, Int.reduceEq, Int.reduceNe, Int.reduceLT, Int.reduceLE, Int.reduceGT, Int.reduceGE, Int.reduceAdd, Int.reduceSub, Int.reduceMul, Int.reduceNeg, Int.reduceToNat, Int.reduceTDiv, Int.reduceTMod, Nat.reduceMul, Nat.reduceDiv, Nat.reduceMod, Nat.reduceBEq, forall_const, implies_true, Nat.reduceEqDiff]
    exact rest _ _ (by rfl) (by rfl) (by simp [Fr])
  | true =>
    obtain ⟨t1, t2⟩ := comm_two hf' hab (x := (twoR l p q).1) (Prod.ext rfl c)
    have ls : a.old = q.old ∧ a.new = q.new ∧ b.old = p.old ∧ b.new = p.new := by
      rcases k2.2 with ⟨_, ea, eb⟩ | ⟨_, ea, eb⟩ <;> rw [ea, eb] <;> exact ⟨rfl, rfl, rfl, rfl⟩
    obtain ⟨l1, l2, l3, l4⟩ := ls
    have fab : Fit l a b := ⟨hl, sa, sb, by rw [l1, l2, l3, l4]; omega⟩
    simp -implicitDefEqProofs (maxSteps := 99999999) (disch := omega) only [va, vh, Nat.reduceAdd, Nat.reduceSub, Nat.reduceLT, Nat.reduceLeDiff, ite_true, ite_false, ↓reduceIte, eq_self, reduceCtorEq, Int.reduceEq, Int.reduceNe, Int.reduceLT, Int.reduceLE, Int.reduceGT, Int.reduceGE, Int.reduceAdd, Int.reduceSub, Int.reduceMul, Int.reduceNeg, Int.reduceToNat, Int.reduceTDiv, Int.reduceTMod, Nat.reduceMul, Nat.reduceDiv, Nat.reduceMod, Nat.reduceBEq, forall_const, implies_true, Nat.reduceEqDiff]
    refine callR_ret (two_d l a b none none none none none _ fab) ?_
    rw [t1]
    generalize hx : (twoR l p q).1 = x at *
    have sx : Short x ∧ x.length ≤ l.length + p.new.length + q.new.length := by
      obtain ⟨x1, h1, h2⟩ := two_ok c
      have s1 := applyR_short hl (short1 hp) (by simp only [newLen]; omega)
      rw [h1] at s1
      simp only [newLen] at s1
      have s2 := applyR_short s1.1 (short1 hq) (by have := s1.2; simp only [newLen]; omega)
      rw [h2] at s2
      simp only [newLen] at s2
      have m1 := s1.2
      have m2 := s2.2
      rw [hx] at s2 m2
      exact ⟨s2.1, by omega⟩
    have fx : Fit x b.inv a.inv := ⟨sx.1, ⟨sb.2, sb.1⟩, ⟨sa.2, sa.1⟩, by have := sx.2; simp only [Hk.inv]; rw [l1, l2, l3, l4]; omega⟩
    simp -implicitDefEqProofs (maxSteps := 99999999) (disch := omega) only [va, vh, Nat.reduceAdd, Nat.reduceSub, Nat.reduceLT, Nat.reduceLeDiff, ite_true, ite_false, ↓reduceIte, eq_self, reduceCtorEq, Int.reduceEq, Int.reduceNe, Int.reduceLT, Int.reduceLE, Int.reduceGT, Int.reduceGE, Int.reduceAdd, Int.reduceSub, Int.reduceMul, Int.reduceNeg, Int.reduceToNat, Int.reduceTDiv, Int.reduceTMod, Nat.reduceMul, Nat.reduceDiv, Nat.reduceMod, Nat.reduceBEq, forall_const, implies_true, Nat.reduceEqDiff]
    refine callD_same (invert_d b none none _ sb) ?_
    simp -implicitDefEqProofs (maxSteps := 99999999) (disch := omega) only [va, vh, Nat.reduceAdd, Nat.reduceSub, Nat.reduceLT, Nat.reduceLeDiff, ite_true, ite_false, ↓reduceIte, eq_self, reduceCtorEq, Int.reduceEq, Int.reduceNe, Int.reduceLT, Int.reduceLE, Int.reduceGT, Int.reduceGE, Int.reduceAdd, Int.reduceSub, Int.reduceMul, Int.reduceNeg, Int.reduceToNat, Int.reduceTDiv, Int.reduceTMod, Nat.reduceMul, Nat.reduceDiv, Nat.reduceMod, Nat.reduceBEq, forall_const, implies_true, Nat.reduceEqDiff]
    refine callD_same (invert_d a none none _ sa) ?_
    simp -implicitDefEqProofs (maxSteps := 99999999) (disch := omega) only [va, vh, Nat.reduceAdd, Nat.reduceSub, Nat.reduceLT, Nat.reduceLeDiff, ite_true, ite_false, ↓reduceIte, eq_self, reduceCtorEq, Int.reduceEq, Int.reduceNe, Int.reduceLT, Int.reduceLE, Int.reduceGT, Int.reduceGE, Int.reduceAdd, Int.reduceSub, Int.reduceMul, Int.reduceNeg, Int.reduceToNat, Int.reduceTDiv, Int.reduceTMod, Nat.reduceMul, Nat.reduceDiv, Nat.reduceMod, Nat.reduceBEq, forall_const, implies_true, Nat.reduceEqDiff]
    refine callD_same (two_d x b.inv a.inv none none none none none _ fx) ?_
    rw [t2]
    simp -implicitDefEqProofs (maxSteps := 99999999) (disch := omega) only [va, vh, Nat.reduceAdd, Nat.reduceSub, Nat.reduceLT, Nat.reduceLeDiff, ite_true, ite_false, ↓reduceIte, eq_self, reduceCtorEq, Int.reduceEq, Int.reduceNe, Int.reduceLT, Int.reduceLE, Int.reduceGT, Int.reduceGE, Int.reduceAdd, Int.reduceSub, Int.reduceMul, Int.reduceNeg, Int.reduceToNat, Int.reduceTDiv, Int.reduceTMod, Nat.reduceMul, Nat.reduceDiv, Nat.reduceMod, Nat.reduceBEq, forall_const, implies_true, Nat.reduceEqDiff]
    refine callR_ret (sameTexts_t x .refl .refl _ sx.1.1) ?_
    simp -implicitDefEqProofs (maxSteps := 99999999) (disch := omega) only [va, vh, Nat.reduceAdd, Nat.reduceSub, Nat.reduceLT, Nat.reduceLeDiff, ite_true, ite_false, ↓reduceIte, eq_self, reduceCtorEq, Int.reduceEq, Int.reduceNe, Int.reduceLT, Int.reduceLE, Int.reduceGT, Int.reduceGE, Int.reduceAdd, Int.reduceSub, Int.reduceMul, Int.reduceNeg, Int.reduceToNat, Int.reduceTDiv, Int.reduceTMod, Nat.reduceMul, Nat.reduceDiv, Nat.reduceMod, Nat.reduceBEq, forall_const, implies_true, Nat.reduceEqDiff]
    refine callR_ret (sameTexts_t l .refl .refl _ hl.1) ?_
    simp -implicitDefEqProofs (maxSteps := 99999999) (disch := omega) only [va, vh, Nat.reduceAdd, Nat.reduceSub, Nat.reduceLT, Nat.reduceLeDiff, ite_true, ite_false, ↓reduceIte, eq_self, reduceCtorEq, Int.reduceEq, Int.reduceNe, Int.reduceLT, Int.reduceLE, Int.reduceGT, Int.reduceGE, Int.reduceAdd, Int.reduceSub, Int.reduceMul, Int.reduceNeg, Int.reduceToNat, Int.reduceTDiv, Int.reduceTMod, Nat.reduceMul, Nat.reduceDiv, Nat.reduceMod, Nat.reduceBEq, forall_const, implies_true, Nat.reduceEqDiff]
    exact rest _ _ (by rfl) (by rfl) (by simp [Fr])
end Go.Proofs.Ytddhdlfafaobhaa
