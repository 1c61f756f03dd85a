/- law01.LinesBack and LinesParts tell true. -/
import Derived.Test.YtigmpablpmanpaaS134
namespace Go.Proofs.Ytigmpablpmanpaa
open Go.RowKit
set_option maxRecDepth 100000
set_option linter.unusedVariables false
set_option linter.unusedSimpArgs false

theorem line_bytes (s : ByteArray) {k : Nat} (h : k < (lns s).length) : (∀ j, j + 1 < (nthS (lns s) k).size → (nthS (lns s) k).data.getD j 0 ≠ 10) ∧ ((nthS (lns s) k).data.getD ((nthS (lns s) k).size - 1) 0 = 10 ∨ k + 1 = (lns s).length) := by
  have hst := atS_step s h
  generalize hx : nthS (lns s) k = x at *
  have hsh := line_shape s h
  rw [hx] at hsh
  rcases hsh with ⟨b, h1, h2⟩ | ⟨h1, h2⟩
  · have hl := congrArg List.length h1
    rw [bytes_len] at hl
    simp at hl
    refine ⟨fun j hj => ?_, .inl ?_⟩
    · have hb := nthL x (k := j) (by omega)
      rw [h1, List.getElem?_append_left (by omega)] at hb
      exact h2 _ (List.mem_of_getElem? hb)
    · have hb := nthL x (k := x.size - 1) (by omega)
      rw [h1, List.getElem?_append_right (by omega), show x.size - 1 - b.length = 0 from by omega] at hb
      simpa using hb.symm
  · refine ⟨fun j hj => ?_, .inr h2⟩
    have hb := nthL x (k := j) (by omega)
    exact h1 _ (List.mem_of_getElem? hb)
theorem atS_mono (s : ByteArray) {a : Nat} : ∀ {b : Nat}, a ≤ b → b ≤ (lns s).length → atS s a ≤ atS s b
  | 0, h, _ => by rw [show a = 0 from by omega]; exact Nat.le_refl _
  | b + 1, h, hb => by
    rcases Nat.lt_or_ge a (b + 1) with h1 | h1
    · have := atS_mono s (a := a) (b := b) (by omega) (by omega)
      have := atS_step s (k := b) (by omega)
      omega
    · rw [show a = b + 1 from by omega]; exact Nat.le_refl _
theorem joinB_part (s : ByteArray) {a : Nat} : ∀ {b : Nat}, a ≤ b → b ≤ (lns s).length → joinB (((lns s).take b).drop a) = s.extract (atS s a) (atS s b)
  | 0, h, _ => by rw [show a = 0 from by omega, ext_nil]; rfl
  | b + 1, h, hb => by
    rcases Nat.lt_or_ge a (b + 1) with h1 | h1
    · have hst := atS_step s (k := b) (by omega)
      have hm := atS_mono s (a := a) (b := b) (by omega) (by omega)
      rw [← take_nth (show b < (lns s).length by omega), List.drop_append_of_le_length (by rw [List.length_take]; omega), joinB_append, joinB_part s (by omega) (by omega)]
      simp only [joinB, ba_nil]
      rw [nth_ext s (by omega), ext_app s hm (by omega)]
    · rw [show a = b + 1 from by omega, ext_nil, List.drop_of_length_le (by rw [List.length_take]; omega)]
      rfl

theorem linesParts_d (s : ByteArray) (from_ to : Int) (H : AHeap) : D Try.prog 8 [.sc (.string s), .sc (.int .i64 from_), .sc (.int .i64 to)] H (.ret (.sc (.bool true))) H := by
  refine D_of_DK (Nat.le_refl _) (dk8 (E_of_ES ?_))
  simp -implicitDefEqProofs (maxSteps := 99999999) (disch := omega) only [vu, ic8, va, vg, vs, vh, Nat.reduceMul, ite_true, ite_false, eq_self, forall_const, implies_true, Nat.reduceAdd, Nat.reduceSub, Nat.reduceLT, Nat.reduceLeDiff, ↓reduceIte, reduceCtorEq, Int.reduceEq, Int.reduceLT, Int.reduceLE, Int.reduceGT, Int.reduceGE, Int.reduceAdd, Int.reduceSub, Int.reduceNeg, Int.reduceToNat, Nat.reduceBEq, Nat.reduceEqDiff]
  refine callR_ret (awakeL_d _) ?_
  simp -implicitDefEqProofs (maxSteps := 99999999) (disch := omega) only [vu, va, vg, vs, vh, Nat.reduceMul, ite_true, ite_false, eq_self, forall_const, implies_true, Nat.reduceAdd, Nat.reduceSub, Nat.reduceLT, Nat.reduceLeDiff, ↓reduceIte, reduceCtorEq, Int.reduceEq, Int.reduceLT, Int.reduceLE, Int.reduceGT, Int.reduceGE, Int.reduceAdd, Int.reduceSub, Int.reduceNeg, Int.reduceToNat, Nat.reduceBEq, Nat.reduceEqDiff]
  refine condR_if (fun h => ?_) (fun h => ?_)
  · simp -implicitDefEqProofs (maxSteps := 99999999) (disch := omega) only [vu, va, vg, vs, vh, Nat.reduceMul, ite_true, ite_false, eq_self, forall_const, implies_true, Nat.reduceAdd, Nat.reduceSub, Nat.reduceLT, Nat.reduceLeDiff, ↓reduceIte, reduceCtorEq, Int.reduceEq, Int.reduceLT, Int.reduceLE, Int.reduceGT, Int.reduceGE, Int.reduceAdd, Int.reduceSub, Int.reduceNeg, Int.reduceToNat, Nat.reduceBEq, Nat.reduceEqDiff]
    exact weak_over .refl (.same trivial)
  have hs : s.size ≤ 5000 := by omega
  have hll := lns_le s
  simp -implicitDefEqProofs (maxSteps := 99999999) (disch := omega) only [vu, va, vg, vs, vh, Nat.reduceMul, ite_true, ite_false, eq_self, forall_const, implies_true, Nat.reduceAdd, Nat.reduceSub, Nat.reduceLT, Nat.reduceLeDiff, ↓reduceIte, reduceCtorEq, Int.reduceEq, Int.reduceLT, Int.reduceLE, Int.reduceGT, Int.reduceGE, Int.reduceAdd, Int.reduceSub, Int.reduceNeg, Int.reduceToNat, Nat.reduceBEq, Nat.reduceEqDiff]
  refine callR_ret (split_d s (by omega) _) ?_
  simp -implicitDefEqProofs (maxSteps := 99999999) (disch := omega) only [vu, va, vg, vs, vh, Nat.reduceMul, ite_true, ite_false, eq_self, forall_const, implies_true, Nat.reduceAdd, Nat.reduceSub, Nat.reduceLT, Nat.reduceLeDiff, ↓reduceIte, reduceCtorEq, Int.reduceEq, Int.reduceLT, Int.reduceLE, Int.reduceGT, Int.reduceGE, Int.reduceAdd, Int.reduceSub, Int.reduceNeg, Int.reduceToNat, Nat.reduceBEq, Nat.reduceEqDiff]
  refine callR_ret (span_d s (by omega) from_ to _) ?_
  simp -implicitDefEqProofs (maxSteps := 99999999) (disch := omega) only [vu, va, vg, vs, vh, Nat.reduceMul, ite_true, ite_false, eq_self, forall_const, implies_true, Nat.reduceAdd, Nat.reduceSub, Nat.reduceLT, Nat.reduceLeDiff, ↓reduceIte, reduceCtorEq, Int.reduceEq, Int.reduceLT, Int.reduceLE, Int.reduceGT, Int.reduceGE, Int.reduceAdd, Int.reduceSub, Int.reduceNeg, Int.reduceToNat, Nat.reduceBEq, Nat.reduceEqDiff]
  by_cases c1 : from_ < 0
  · have hS : spanS s from_ to = (0, 0, 2) := by unfold spanS; rw [if_pos (.inl c1)]
    rw [hS]
    simp -implicitDefEqProofs (maxSteps := 99999999) (disch := omega) only [vu, c1, geqI, veqI, va, vg, vs, vh, Nat.reduceMul, ite_true, ite_false, eq_self, forall_const, implies_true, Nat.reduceAdd, Nat.reduceSub, Nat.reduceLT, Nat.reduceLeDiff, ↓reduceIte, reduceCtorEq, Int.reduceEq, Int.reduceLT, Int.reduceLE, Int.reduceGT, Int.reduceGE, Int.reduceAdd, Int.reduceSub, Int.reduceNeg, Int.reduceToNat, Nat.reduceBEq, Nat.reduceEqDiff]
    exact weak_over (by repeat constructor) (.same trivial)
  by_cases c2 : from_ > to
  · have hS : spanS s from_ to = (0, 0, 2) := by unfold spanS; rw [if_pos (.inr (.inl c2))]
    rw [hS]
    simp -implicitDefEqProofs (maxSteps := 99999999) (disch := omega) only [vu, c1, c2, geqI, veqI, va, vg, vs, vh, Nat.reduceMul, ite_true, ite_false, eq_self, forall_const, implies_true, Nat.reduceAdd, Nat.reduceSub, Nat.reduceLT, Nat.reduceLeDiff, ↓reduceIte, reduceCtorEq, Int.reduceEq, Int.reduceLT, Int.reduceLE, Int.reduceGT, Int.reduceGE, Int.reduceAdd, Int.reduceSub, Int.reduceNeg, Int.reduceToNat, Nat.reduceBEq, Nat.reduceEqDiff]
    exact weak_over (by repeat constructor) (.same trivial)
  by_cases c3 : to > (lns s).length
  · have hS : spanS s from_ to = (0, 0, 2) := by unfold spanS; rw [if_pos (.inr (.inr c3))]
    rw [hS]
    simp -implicitDefEqProofs (maxSteps := 99999999) (disch := omega) only [vu, c1, c2, c3, strs_length, geqI, veqI, va, vg, vs, vh, Nat.reduceMul, ite_true, ite_false, eq_self, forall_const, implies_true, Nat.reduceAdd, Nat.reduceSub, Nat.reduceLT, Nat.reduceLeDiff, ↓reduceIte, reduceCtorEq, Int.reduceEq, Int.reduceLT, Int.reduceLE, Int.reduceGT, Int.reduceGE, Int.reduceAdd, Int.reduceSub, Int.reduceNeg, Int.reduceToNat, Nat.reduceBEq, Nat.reduceEqDiff]
    exact weak_over (by repeat constructor) (.same trivial)
  · have hS : spanS s from_ to = (((atS s from_.toNat : Nat) : Int), ((atS s to.toNat : Nat) : Int), 0) := by unfold spanS; rw [if_neg (by omega)]
    rw [hS]
    have a1 := atS_mono s (a := from_.toNat) (b := to.toNat) (by omega) (by omega)
    have a2 := atS_le s (k := to.toNat) (by omega)
    have hp := joinB_part s (a := from_.toNat) (b := to.toNat) (by omega) (by omega)
    have b0 : ((atS s from_.toNat : Nat) : Int) ≥ 0 := by omega
    have b1 : ((atS s from_.toNat : Nat) : Int) ≤ ((atS s to.toNat : Nat) : Int) := by omega
    have b2 : ((atS s to.toNat : Nat) : Int) ≤ (s.size : Int) := by omega
    have hz : (s.extract (atS s from_.toNat) (atS s to.toNat)).size ≤ 5000 := by rw [ByteArray.size_extract]; omega
    simp -implicitDefEqProofs (maxSteps := 99999999) (disch := omega) only [vu, c1, c2, c3, strs_length, b0, b1, b2, strs_take, strs_drop, va, vg, vs, vh, Nat.reduceMul, ite_true, ite_false, eq_self, forall_const, implies_true, Nat.reduceAdd, Nat.reduceSub, Nat.reduceLT, Nat.reduceLeDiff, ↓reduceIte, reduceCtorEq, Int.reduceEq, Int.reduceLT, Int.reduceLE, Int.reduceGT, Int.reduceGE, Int.reduceAdd, Int.reduceSub, Int.reduceNeg, Int.reduceToNat, Nat.reduceBEq, Nat.reduceEqDiff]
    refine ⟨⟨by omega, by omega, by omega⟩, ⟨by omega, by omega, by omega, by omega⟩, callD_same (join_d _ (by rw [List.length_drop, List.length_take]; omega) (by rw [hp]; omega) _) ?_⟩
    rw [hp]
    simp -implicitDefEqProofs (maxSteps := 99999999) (disch := omega) only [vu, va, vg, vs, vh, Nat.reduceMul, ite_true, ite_false, eq_self, forall_const, implies_true, Nat.reduceAdd, Nat.reduceSub, Nat.reduceLT, Nat.reduceLeDiff, ↓reduceIte, reduceCtorEq, Int.reduceEq, Int.reduceLT, Int.reduceLE, Int.reduceGT, Int.reduceGE, Int.reduceAdd, Int.reduceSub, Int.reduceNeg, Int.reduceToNat, Nat.reduceBEq, Nat.reduceEqDiff]
    exact weak_over (by repeat constructor) (.same trivial)

theorem linesBack_d (s : ByteArray) (H : AHeap) : D Try.prog 7 [.sc (.string s)] H (.ret (.sc (.bool true))) H := by
  refine D_of_DK (Nat.le_refl _) (dk7 (E_of_ES ?_))
  simp -implicitDefEqProofs (maxSteps := 99999999) (disch := omega) only [vu, ic7, va, vg, vs, vh, Nat.reduceMul, ite_true, ite_false, eq_self, forall_const, implies_true, Nat.reduceAdd, Nat.reduceSub, Nat.reduceLT, Nat.reduceLeDiff, ↓reduceIte, reduceCtorEq, Int.reduceEq, Int.reduceLT, Int.reduceLE, Int.reduceGT, Int.reduceGE, Int.reduceAdd, Int.reduceSub, Int.reduceNeg, Int.reduceToNat, Nat.reduceBEq, Nat.reduceEqDiff]
  refine callR_ret (awakeL_d _) ?_
  simp -implicitDefEqProofs (maxSteps := 99999999) (disch := omega) only [vu, va, vg, vs, vh, Nat.reduceMul, ite_true, ite_false, eq_self, forall_const, implies_true, Nat.reduceAdd, Nat.reduceSub, Nat.reduceLT, Nat.reduceLeDiff, ↓reduceIte, reduceCtorEq, Int.reduceEq, Int.reduceLT, Int.reduceLE, Int.reduceGT, Int.reduceGE, Int.reduceAdd, Int.reduceSub, Int.reduceNeg, Int.reduceToNat, Nat.reduceBEq, Nat.reduceEqDiff]
  refine condR_if (fun h => ?_) (fun h => ?_)
  · simp -implicitDefEqProofs (maxSteps := 99999999) (disch := omega) only [vu, va, vg, vs, vh, Nat.reduceMul, ite_true, ite_false, eq_self, forall_const, implies_true, Nat.reduceAdd, Nat.reduceSub, Nat.reduceLT, Nat.reduceLeDiff, ↓reduceIte, reduceCtorEq, Int.reduceEq, Int.reduceLT, Int.reduceLE, Int.reduceGT, Int.reduceGE, Int.reduceAdd, Int.reduceSub, Int.reduceNeg, Int.reduceToNat, Nat.reduceBEq, Nat.reduceEqDiff]
    exact weak_over .refl (.same trivial)
  have hs : s.size ≤ 5000 := by omega
  have hll := lns_le s
  simp -implicitDefEqProofs (maxSteps := 99999999) (disch := omega) only [vu, va, vg, vs, vh, Nat.reduceMul, ite_true, ite_false, eq_self, forall_const, implies_true, Nat.reduceAdd, Nat.reduceSub, Nat.reduceLT, Nat.reduceLeDiff, ↓reduceIte, reduceCtorEq, Int.reduceEq, Int.reduceLT, Int.reduceLE, Int.reduceGT, Int.reduceGE, Int.reduceAdd, Int.reduceSub, Int.reduceNeg, Int.reduceToNat, Nat.reduceBEq, Nat.reduceEqDiff]
  refine callR_ret (split_d s (by omega) _) ?_
  simp -implicitDefEqProofs (maxSteps := 99999999) (disch := omega) only [vu, va, vg, vs, vh, Nat.reduceMul, ite_true, ite_false, eq_self, forall_const, implies_true, Nat.reduceAdd, Nat.reduceSub, Nat.reduceLT, Nat.reduceLeDiff, ↓reduceIte, reduceCtorEq, Int.reduceEq, Int.reduceLT, Int.reduceLE, Int.reduceGT, Int.reduceGE, Int.reduceAdd, Int.reduceSub, Int.reduceNeg, Int.reduceToNat, Nat.reduceBEq, Nat.reduceEqDiff]
  refine ES_gen fun K hK => ?_
  refine ES_loopL (fun ts F => ∃ (k : Nat), F = H ∧ k ≤ (lns s).length ∧
      Fr [some (.sc (.string s)), none, none, some (.lst 1 (strs (lns s)) none), some (.sc (.int .i64 k)), none, none, none, none, none, none, none, none, none, none, none, none, none, none, none, none, none, none, none, none, none, none, none, none, none, none, none, none, none, none, none, none, none, none, none, none, none, none, none, none, none, none, none, none, none, none, none, none, none, none, none, none, none, none, none, none, none, none, none, none, none, none, none] ts) (fun ts _ => (lns s).length - (intV (ts.getD 4 .top)).toNat) ?_ ?_
  · exact ⟨0, rfl, Nat.zero_le _, by simp [Fr]⟩
  · rintro ts F ⟨k, eF, hk, hfr⟩ L1 hL1
    subst F
    obtain ⟨js, rfl⟩ := hfr.opened
    clear hfr
    by_cases h : k < (lns s).length
    · have h1 : (k : Int) < (lns s).length := by omega
      obtain ⟨x, hx⟩ : ∃ x, nthS (lns s) k = x := ⟨_, rfl⟩
      have hlb := line_bytes s h
      have hst := atS_step s h
      have hle := atS_le s (k := k + 1) (by omega)
      rw [hx] at hlb hst
      obtain ⟨lb1, lb2⟩ := hlb
      have c0 : ¬ (x.size : Int) = 0 := by omega
      have et : ((x.size : Int) - 1).toNat = x.size - 1 := by omega
      by_cases hb : x.data.getD (x.size - 1) 0 = 10
      · have hb' : (((x.data.getD (x.size - 1) 0).toNat : Nat) : Int) = 10 := (byte10 _).2 hb
        simp -implicitDefEqProofs (maxSteps := 99999999) (disch := omega) only [vu, mk, h1, strs_length, strs_get h, hx, c0, et, hb', va, vg, vs, vh, Nat.reduceMul, ite_true, ite_false, eq_self, forall_const, implies_true, Nat.reduceAdd, Nat.reduceSub, Nat.reduceLT, Nat.reduceLeDiff, ↓reduceIte, reduceCtorEq, Int.reduceEq, Int.reduceLT, Int.reduceLE, Int.reduceGT, Int.reduceGE, Int.reduceAdd, Int.reduceSub, Int.reduceNeg, Int.reduceToNat, Nat.reduceBEq, Nat.reduceEqDiff]
        refine ⟨by omega, by omega, ⟨by omega, by omega⟩, ?_⟩
        refine ES_gen fun K2 hK2 => ?_
        refine ES_loopL (fun ts F => ∃ (j : Nat), F = H ∧ j + 1 ≤ x.size ∧
          Fr [some (.sc (.string s)), none, none, some (.lst 1 (strs (lns s)) none), some (.sc (.int .i64 k)), some (.sc (.int .i64 x.size)), some (.sc (.int .i64 j)), none, none, none, none, none, none, none, none, none, none, none, none, none, none, none, none, none, none, none, none, none, none, none, none, none, none, none, none, none, none, none, none, none, none, none, none, none, none, none, none, none, none, none, none, none, none, none, none, none, none, none, none, none, none, none, none, none, none, none, none, none] ts) (fun ts _ => x.size - (intV (ts.getD 6 .top)).toNat) ⟨0, rfl, by omega, by simp [Fr]⟩ ?_
        rintro ts F ⟨j, eF, hj, hfr⟩ L2 hL2
        subst F
        obtain ⟨js2, rfl⟩ := hfr.opened
        clear hfr
        by_cases hj1 : j + 1 < x.size
        · have g1 : (j : Int) < x.size - 1 := by omega
          have hn : ¬ (((x.data.getD j 0).toNat : Nat) : Int) = 10 := fun h => lb1 j hj1 ((byte10 _).1 h)
          simp -implicitDefEqProofs (maxSteps := 99999999) (disch := omega) only [vu, mk, g1, strs_length, strs_get h, hx, hn, va, vg, vs, vh, Nat.reduceMul, ite_true, ite_false, eq_self, forall_const, implies_true, Nat.reduceAdd, Nat.reduceSub, Nat.reduceLT, Nat.reduceLeDiff, ↓reduceIte, reduceCtorEq, Int.reduceEq, Int.reduceLT, Int.reduceLE, Int.reduceGT, Int.reduceGE, Int.reduceAdd, Int.reduceSub, Int.reduceNeg, Int.reduceToNat, Nat.reduceBEq, Nat.reduceEqDiff]
          exact ⟨by omega, ⟨by omega, by omega⟩, hL2 _ _ ⟨j + 1, rfl, by omega, by simp [Fr]⟩ (by simp [mk, intV]; omega)⟩
        · have g1 : ¬ (j : Int) < x.size - 1 := by omega
          simp -implicitDefEqProofs (maxSteps := 99999999) (disch := omega) only [vu, mk, g1, va, vg, vs, vh, Nat.reduceMul, ite_true, ite_false, eq_self, forall_const, implies_true, Nat.reduceAdd, Nat.reduceSub, Nat.reduceLT, Nat.reduceLeDiff, ↓reduceIte, reduceCtorEq, Int.reduceEq, Int.reduceLT, Int.reduceLE, Int.reduceGT, Int.reduceGE, Int.reduceAdd, Int.reduceSub, Int.reduceNeg, Int.reduceToNat, Nat.reduceBEq, Nat.reduceEqDiff]
          clear hL2
          refine hK2 _ _ _ ?_
          clear hK2
          simp -implicitDefEqProofs (maxSteps := 99999999) (disch := omega) only [vu, va, vg, vs, vh, Nat.reduceMul, ite_true, ite_false, eq_self, forall_const, implies_true, Nat.reduceAdd, Nat.reduceSub, Nat.reduceLT, Nat.reduceLeDiff, ↓reduceIte, reduceCtorEq, Int.reduceEq, Int.reduceLT, Int.reduceLE, Int.reduceGT, Int.reduceGE, Int.reduceAdd, Int.reduceSub, Int.reduceNeg, Int.reduceToNat, Nat.reduceBEq, Nat.reduceEqDiff]
          exact hL1 _ _ ⟨k + 1, rfl, by omega, by simp [Fr]⟩ (by simp [mk, intV]; omega)
      · have hb' : ¬ (((x.data.getD (x.size - 1) 0).toNat : Nat) : Int) = 10 := fun h => hb ((byte10 _).1 h)
        have hk2 : ¬ (k : Int) < (lns s).length - 1 := by
          rcases lb2 with h | h
          · exact absurd h hb
          · omega
        simp -implicitDefEqProofs (maxSteps := 99999999) (disch := omega) only [vu, mk, h1, strs_length, strs_get h, hx, c0, et, hb', hk2, va, vg, vs, vh, Nat.reduceMul, ite_true, ite_false, eq_self, forall_const, implies_true, Nat.reduceAdd, Nat.reduceSub, Nat.reduceLT, Nat.reduceLeDiff, ↓reduceIte, reduceCtorEq, Int.reduceEq, Int.reduceLT, Int.reduceLE, Int.reduceGT, Int.reduceGE, Int.reduceAdd, Int.reduceSub, Int.reduceNeg, Int.reduceToNat, Nat.reduceBEq, Nat.reduceEqDiff]
        refine ⟨by omega, by omega, ⟨by omega, by omega⟩, ?_⟩
        refine ES_gen fun K2 hK2 => ?_
        refine ES_loopL (fun ts F => ∃ (j : Nat), F = H ∧ j + 1 ≤ x.size ∧
          Fr [some (.sc (.string s)), none, none, some (.lst 1 (strs (lns s)) none), some (.sc (.int .i64 k)), some (.sc (.int .i64 x.size)), some (.sc (.int .i64 j)), none, none, none, none, none, none, none, none, none, none, none, none, none, none, none, none, none, none, none, none, none, none, none, none, none, none, none, none, none, none, none, none, none, none, none, none, none, none, none, none, none, none, none, none, none, none, none, none, none, none, none, none, none, none, none, none, none, none, none, none, none] ts) (fun ts _ => x.size - (intV (ts.getD 6 .top)).toNat) ⟨0, rfl, by omega, by simp [Fr]⟩ ?_
        rintro ts F ⟨j, eF, hj, hfr⟩ L2 hL2
        subst F
        obtain ⟨js2, rfl⟩ := hfr.opened
        clear hfr
        by_cases hj1 : j + 1 < x.size
        · have g1 : (j : Int) < x.size - 1 := by omega
          have hn : ¬ (((x.data.getD j 0).toNat : Nat) : Int) = 10 := fun h => lb1 j hj1 ((byte10 _).1 h)
          simp -implicitDefEqProofs (maxSteps := 99999999) (disch := omega) only [vu, mk, g1, strs_length, strs_get h, hx, hn, va, vg, vs, vh, Nat.reduceMul, ite_true, ite_false, eq_self, forall_const, implies_true, Nat.reduceAdd, Nat.reduceSub, Nat.reduceLT, Nat.reduceLeDiff, ↓reduceIte, reduceCtorEq, Int.reduceEq, Int.reduceLT, Int.reduceLE, Int.reduceGT, Int.reduceGE, Int.reduceAdd, Int.reduceSub, Int.reduceNeg, Int.reduceToNat, Nat.reduceBEq, Nat.reduceEqDiff]
          exact ⟨by omega, ⟨by omega, by omega⟩, hL2 _ _ ⟨j + 1, rfl, by omega, by simp [Fr]⟩ (by simp [mk, intV]; omega)⟩
        · have g1 : ¬ (j : Int) < x.size - 1 := by omega
          simp -implicitDefEqProofs (maxSteps := 99999999) (disch := omega) only [vu, mk, g1, va, vg, vs, vh, Nat.reduceMul, ite_true, ite_false, eq_self, forall_const, implies_true, Nat.reduceAdd, Nat.reduceSub, Nat.reduceLT, Nat.reduceLeDiff, ↓reduceIte, reduceCtorEq, Int.reduceEq, Int.reduceLT, Int.reduceLE, Int.reduceGT, Int.reduceGE, Int.reduceAdd, Int.reduceSub, Int.reduceNeg, Int.reduceToNat, Nat.reduceBEq, Nat.reduceEqDiff]
          clear hL2
          refine hK2 _ _ _ ?_
          clear hK2
          simp -implicitDefEqProofs (maxSteps := 99999999) (disch := omega) only [vu, va, vg, vs, vh, Nat.reduceMul, ite_true, ite_false, eq_self, forall_const, implies_true, Nat.reduceAdd, Nat.reduceSub, Nat.reduceLT, Nat.reduceLeDiff, ↓reduceIte, reduceCtorEq, Int.reduceEq, Int.reduceLT, Int.reduceLE, Int.reduceGT, Int.reduceGE, Int.reduceAdd, Int.reduceSub, Int.reduceNeg, Int.reduceToNat, Nat.reduceBEq, Nat.reduceEqDiff]
          exact hL1 _ _ ⟨k + 1, rfl, by omega, by simp [Fr]⟩ (by simp [mk, intV]; omega)
    · have : k = (lns s).length := by omega
      subst this
      have h1 : ¬ ((lns s).length : Int) < (lns s).length := by omega
      simp -implicitDefEqProofs (maxSteps := 99999999) (disch := omega) only [vu, mk, h1, strs_length, va, vg, vs, vh, Nat.reduceMul, ite_true, ite_false, eq_self, forall_const, implies_true, Nat.reduceAdd, Nat.reduceSub, Nat.reduceLT, Nat.reduceLeDiff, ↓reduceIte, reduceCtorEq, Int.reduceEq, Int.reduceLT, Int.reduceLE, Int.reduceGT, Int.reduceGE, Int.reduceAdd, Int.reduceSub, Int.reduceNeg, Int.reduceToNat, Nat.reduceBEq, Nat.reduceEqDiff]
      clear hL1
      refine hK _ _ _ ?_
      clear hK
      simp -implicitDefEqProofs (maxSteps := 99999999) (disch := omega) only [vu, va, vg, vs, vh, Nat.reduceMul, ite_true, ite_false, eq_self, forall_const, implies_true, Nat.reduceAdd, Nat.reduceSub, Nat.reduceLT, Nat.reduceLeDiff, ↓reduceIte, reduceCtorEq, Int.reduceEq, Int.reduceLT, Int.reduceLE, Int.reduceGT, Int.reduceGE, Int.reduceAdd, Int.reduceSub, Int.reduceNeg, Int.reduceToNat, Nat.reduceBEq, Nat.reduceEqDiff]
      refine callR_ret (join_d (lns s) (by omega) (by rw [joinB_all]; omega) _) ?_
      rw [joinB_all]
      simp -implicitDefEqProofs (maxSteps := 99999999) (disch := omega) only [vu, va, vg, vs, vh, Nat.reduceMul, ite_true, ite_false, eq_self, forall_const, implies_true, Nat.reduceAdd, Nat.reduceSub, Nat.reduceLT, Nat.reduceLeDiff, ↓reduceIte, reduceCtorEq, Int.reduceEq, Int.reduceLT, Int.reduceLE, Int.reduceGT, Int.reduceGE, Int.reduceAdd, Int.reduceSub, Int.reduceNeg, Int.reduceToNat, Nat.reduceBEq, Nat.reduceEqDiff]
      refine callR_ret (join_d (lns s) (by omega) (by rw [joinB_all]; omega) _) ?_
      rw [joinB_all]
      simp -implicitDefEqProofs (maxSteps := 99999999) (disch := omega) only [vu, va, vg, vs, vh, Nat.reduceMul, ite_true, ite_false, eq_self, forall_const, implies_true, Nat.reduceAdd, Nat.reduceSub, Nat.reduceLT, Nat.reduceLeDiff, ↓reduceIte, reduceCtorEq, Int.reduceEq, Int.reduceLT, Int.reduceLE, Int.reduceGT, Int.reduceGE, Int.reduceAdd, Int.reduceSub, Int.reduceNeg, Int.reduceToNat, Nat.reduceBEq, Nat.reduceEqDiff]
      refine callR_ret (split_d s (by omega) _) ?_
      simp -implicitDefEqProofs (maxSteps := 99999999) (disch := omega) only [vu, va, vg, vs, vh, Nat.reduceMul, ite_true, ite_false, eq_self, forall_const, implies_true, Nat.reduceAdd, Nat.reduceSub, Nat.reduceLT, Nat.reduceLeDiff, ↓reduceIte, reduceCtorEq, Int.reduceEq, Int.reduceLT, Int.reduceLE, Int.reduceGT, Int.reduceGE, Int.reduceAdd, Int.reduceSub, Int.reduceNeg, Int.reduceToNat, Nat.reduceBEq, Nat.reduceEqDiff]
      refine callR_ret (sameTexts_d (lns s) (lns s) none none _ (by omega)) ?_
      simp -implicitDefEqProofs (maxSteps := 99999999) (disch := omega) only [vu, va, vg, vs, vh, Nat.reduceMul, ite_true, ite_false, eq_self, forall_const, implies_true, Nat.reduceAdd, Nat.reduceSub, Nat.reduceLT, Nat.reduceLeDiff, ↓reduceIte, reduceCtorEq, Int.reduceEq, Int.reduceLT, Int.reduceLE, Int.reduceGT, Int.reduceGE, Int.reduceAdd, Int.reduceSub, Int.reduceNeg, Int.reduceToNat, Nat.reduceBEq, Nat.reduceEqDiff]
      exact weak_over .refl (.same trivial)
end Go.Proofs.Ytigmpablpmanpaa
