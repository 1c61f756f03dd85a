/- law01.LinesTell and LinesPlaces tell true. -/
import Derived.Test.YtigmpablpmanpaaS129
namespace Go.Proofs.Ytigmpablpmanpaa
open Go.RowKit
set_option maxRecDepth 100000
set_option linter.unusedVariables false
set_option linter.unusedSimpArgs false

theorem linesTell_d (s : ByteArray) (at_ line col from_ to : Int) (H : AHeap) : D Try.prog 4 [.sc (.string s), .sc (.int .i64 at_), .sc (.int .i64 line), .sc (.int .i64 col), .sc (.int .i64 from_), .sc (.int .i64 to)] H (.ret (.sc (.bool true))) H := by
  refine D_of_DK (Nat.le_refl _) (dk4 (E_of_ES ?_))
  simp -implicitDefEqProofs (maxSteps := 99999999) (disch := omega) only [vu, ic4, va, vg, vs, vh, Nat.reduceMul, ite_true, ite_false, eq_self, forall_const, implies_true, Nat.reduceAdd, Nat.reduceSub, Nat.reduceLT, Nat.reduceLeDiff, ↓reduceIte, reduceCtorEq, Int.reduceEq, Int.reduceLT, Int.reduceLE, Int.reduceGT, Int.reduceGE, Int.reduceAdd, Int.reduceSub, Int.reduceNeg, Int.reduceToNat, Nat.reduceBEq, Nat.reduceEqDiff]
  refine callR_ret (awakeL_d _) ?_
  simp -implicitDefEqProofs (maxSteps := 99999999) (disch := omega) only [vu, va, vg, vs, vh, Nat.reduceMul, ite_true, ite_false, eq_self, forall_const, implies_true, Nat.reduceAdd, Nat.reduceSub, Nat.reduceLT, Nat.reduceLeDiff, ↓reduceIte, reduceCtorEq, Int.reduceEq, Int.reduceLT, Int.reduceLE, Int.reduceGT, Int.reduceGE, Int.reduceAdd, Int.reduceSub, Int.reduceNeg, Int.reduceToNat, Nat.reduceBEq, Nat.reduceEqDiff]
  refine condR_if (fun h => ?_) (fun h => ?_)
  · simp -implicitDefEqProofs (maxSteps := 99999999) (disch := omega) only [vu, va, vg, vs, vh, Nat.reduceMul, ite_true, ite_false, eq_self, forall_const, implies_true, Nat.reduceAdd, Nat.reduceSub, Nat.reduceLT, Nat.reduceLeDiff, ↓reduceIte, reduceCtorEq, Int.reduceEq, Int.reduceLT, Int.reduceLE, Int.reduceGT, Int.reduceGE, Int.reduceAdd, Int.reduceSub, Int.reduceNeg, Int.reduceToNat, Nat.reduceBEq, Nat.reduceEqDiff]
    exact weak_over .refl (.same trivial)
  have hs : s.size ≤ 300 := by omega
  have hll := lns_le s
  simp -implicitDefEqProofs (maxSteps := 99999999) (disch := omega) only [vu, va, vg, vs, vh, Nat.reduceMul, ite_true, ite_false, eq_self, forall_const, implies_true, Nat.reduceAdd, Nat.reduceSub, Nat.reduceLT, Nat.reduceLeDiff, ↓reduceIte, reduceCtorEq, Int.reduceEq, Int.reduceLT, Int.reduceLE, Int.reduceGT, Int.reduceGE, Int.reduceAdd, Int.reduceSub, Int.reduceNeg, Int.reduceToNat, Nat.reduceBEq, Nat.reduceEqDiff]
  refine callR_ret (place_d s (by omega) at_ _) ?_
  simp -implicitDefEqProofs (maxSteps := 99999999) (disch := omega) only [vu, va, vg, vs, vh, Nat.reduceMul, ite_true, ite_false, eq_self, forall_const, implies_true, Nat.reduceAdd, Nat.reduceSub, Nat.reduceLT, Nat.reduceLeDiff, ↓reduceIte, reduceCtorEq, Int.reduceEq, Int.reduceLT, Int.reduceLE, Int.reduceGT, Int.reduceGE, Int.reduceAdd, Int.reduceSub, Int.reduceNeg, Int.reduceToNat, Nat.reduceBEq, Nat.reduceEqDiff]
  refine callR_ret (refPlace_d s (by omega) at_ _) ?_
  simp -implicitDefEqProofs (maxSteps := 99999999) (disch := omega) only [vu, va, vg, vs, vh, Nat.reduceMul, ite_true, ite_false, eq_self, forall_const, implies_true, Nat.reduceAdd, Nat.reduceSub, Nat.reduceLT, Nat.reduceLeDiff, ↓reduceIte, reduceCtorEq, Int.reduceEq, Int.reduceLT, Int.reduceLE, Int.reduceGT, Int.reduceGE, Int.reduceAdd, Int.reduceSub, Int.reduceNeg, Int.reduceToNat, Nat.reduceBEq, Nat.reduceEqDiff]
  refine callR_ret (at_d s (by omega) line col _) ?_
  simp -implicitDefEqProofs (maxSteps := 99999999) (disch := omega) only [vu, va, vg, vs, vh, Nat.reduceMul, ite_true, ite_false, eq_self, forall_const, implies_true, Nat.reduceAdd, Nat.reduceSub, Nat.reduceLT, Nat.reduceLeDiff, ↓reduceIte, reduceCtorEq, Int.reduceEq, Int.reduceLT, Int.reduceLE, Int.reduceGT, Int.reduceGE, Int.reduceAdd, Int.reduceSub, Int.reduceNeg, Int.reduceToNat, Nat.reduceBEq, Nat.reduceEqDiff]
  refine callR_ret (refAt_d s (by omega) line col _) ?_
  simp -implicitDefEqProofs (maxSteps := 99999999) (disch := omega) only [vu, va, vg, vs, vh, Nat.reduceMul, ite_true, ite_false, eq_self, forall_const, implies_true, Nat.reduceAdd, Nat.reduceSub, Nat.reduceLT, Nat.reduceLeDiff, ↓reduceIte, reduceCtorEq, Int.reduceEq, Int.reduceLT, Int.reduceLE, Int.reduceGT, Int.reduceGE, Int.reduceAdd, Int.reduceSub, Int.reduceNeg, Int.reduceToNat, Nat.reduceBEq, Nat.reduceEqDiff]
  refine callR_ret (span_d s (by omega) from_ to _) ?_
  simp -implicitDefEqProofs (maxSteps := 99999999) (disch := omega) only [vu, va, vg, vs, vh, Nat.reduceMul, ite_true, ite_false, eq_self, forall_const, implies_true, Nat.reduceAdd, Nat.reduceSub, Nat.reduceLT, Nat.reduceLeDiff, ↓reduceIte, reduceCtorEq, Int.reduceEq, Int.reduceLT, Int.reduceLE, Int.reduceGT, Int.reduceGE, Int.reduceAdd, Int.reduceSub, Int.reduceNeg, Int.reduceToNat, Nat.reduceBEq, Nat.reduceEqDiff]
  refine callR_ret (refSpan_d s (by omega) from_ to _) ?_
  simp -implicitDefEqProofs (maxSteps := 99999999) (disch := omega) only [vu, va, vg, vs, vh, Nat.reduceMul, ite_true, ite_false, eq_self, forall_const, implies_true, Nat.reduceAdd, Nat.reduceSub, Nat.reduceLT, Nat.reduceLeDiff, ↓reduceIte, reduceCtorEq, Int.reduceEq, Int.reduceLT, Int.reduceLE, Int.reduceGT, Int.reduceGE, Int.reduceAdd, Int.reduceSub, Int.reduceNeg, Int.reduceToNat, Nat.reduceBEq, Nat.reduceEqDiff]
  refine callR_ret (split_d s (by omega) _) ?_
  simp -implicitDefEqProofs (maxSteps := 99999999) (disch := omega) only [vu, va, vg, vs, vh, Nat.reduceMul, ite_true, ite_false, eq_self, forall_const, implies_true, Nat.reduceAdd, Nat.reduceSub, Nat.reduceLT, Nat.reduceLeDiff, ↓reduceIte, reduceCtorEq, Int.reduceEq, Int.reduceLT, Int.reduceLE, Int.reduceGT, Int.reduceGE, Int.reduceAdd, Int.reduceSub, Int.reduceNeg, Int.reduceToNat, Nat.reduceBEq, Nat.reduceEqDiff]
  refine callR_ret (refSplit_d s (by omega) _) ?_
  simp -implicitDefEqProofs (maxSteps := 99999999) (disch := omega) only [vu, va, vg, vs, vh, Nat.reduceMul, ite_true, ite_false, eq_self, forall_const, implies_true, Nat.reduceAdd, Nat.reduceSub, Nat.reduceLT, Nat.reduceLeDiff, ↓reduceIte, reduceCtorEq, Int.reduceEq, Int.reduceLT, Int.reduceLE, Int.reduceGT, Int.reduceGE, Int.reduceAdd, Int.reduceSub, Int.reduceNeg, Int.reduceToNat, Nat.reduceBEq, Nat.reduceEqDiff]
  refine callR_ret (sameTexts_d (lns s) (lns s) none none _ (by omega)) ?_
  simp -implicitDefEqProofs (maxSteps := 99999999) (disch := omega) only [vu, geqI, veqI, va, vg, vs, vh, Nat.reduceMul, ite_true, ite_false, eq_self, forall_const, implies_true, Nat.reduceAdd, Nat.reduceSub, Nat.reduceLT, Nat.reduceLeDiff, ↓reduceIte, reduceCtorEq, Int.reduceEq, Int.reduceLT, Int.reduceLE, Int.reduceGT, Int.reduceGE, Int.reduceAdd, Int.reduceSub, Int.reduceNeg, Int.reduceToNat, Nat.reduceBEq, Nat.reduceEqDiff]
  exact weak_over (by repeat constructor) (.same trivial)

theorem take_snoc (s : ByteArray) {p : Nat} (h : p < s.size) : s.data.toList.take (p + 1) = s.data.toList.take p ++ [s.data.getD p 0] := by
  rw [List.take_add_one, nthL s h]
  rfl
theorem linesPlaces_d (s : ByteArray) (x : Int) (H : AHeap) : D Try.prog 5 [.sc (.string s), .sc (.int .i64 x)] H (.ret (.sc (.bool true))) H := by
  refine D_of_DK (Nat.le_refl _) (dk5 (E_of_ES ?_))
  simp -implicitDefEqProofs (maxSteps := 99999999) (disch := omega) only [vu, ic5, va, vg, vs, vh, Nat.reduceMul, ite_true, ite_false, eq_self, forall_const, implies_true, Nat.reduceAdd, Nat.reduceSub, Nat.reduceLT, Nat.reduceLeDiff, ↓reduceIte, reduceCtorEq, Int.reduceEq, Int.reduceLT, Int.reduceLE, Int.reduceGT, Int.reduceGE, Int.reduceAdd, Int.reduceSub, Int.reduceNeg, Int.reduceToNat, Nat.reduceBEq, Nat.reduceEqDiff]
  refine callR_ret (awakeL_d _) ?_
  simp -implicitDefEqProofs (maxSteps := 99999999) (disch := omega) only [vu, va, vg, vs, vh, Nat.reduceMul, ite_true, ite_false, eq_self, forall_const, implies_true, Nat.reduceAdd, Nat.reduceSub, Nat.reduceLT, Nat.reduceLeDiff, ↓reduceIte, reduceCtorEq, Int.reduceEq, Int.reduceLT, Int.reduceLE, Int.reduceGT, Int.reduceGE, Int.reduceAdd, Int.reduceSub, Int.reduceNeg, Int.reduceToNat, Nat.reduceBEq, Nat.reduceEqDiff]
  refine condR_if (fun h => ?_) (fun h => ?_)
  · simp -implicitDefEqProofs (maxSteps := 99999999) (disch := omega) only [vu, va, vg, vs, vh, Nat.reduceMul, ite_true, ite_false, eq_self, forall_const, implies_true, Nat.reduceAdd, Nat.reduceSub, Nat.reduceLT, Nat.reduceLeDiff, ↓reduceIte, reduceCtorEq, Int.reduceEq, Int.reduceLT, Int.reduceLE, Int.reduceGT, Int.reduceGE, Int.reduceAdd, Int.reduceSub, Int.reduceNeg, Int.reduceToNat, Nat.reduceBEq, Nat.reduceEqDiff]
    exact weak_over .refl (.same trivial)
  have hs : s.size ≤ 5000 := by omega
  simp -implicitDefEqProofs (maxSteps := 99999999) (disch := omega) only [vu, va, vg, vs, vh, Nat.reduceMul, ite_true, ite_false, eq_self, forall_const, implies_true, Nat.reduceAdd, Nat.reduceSub, Nat.reduceLT, Nat.reduceLeDiff, ↓reduceIte, reduceCtorEq, Int.reduceEq, Int.reduceLT, Int.reduceLE, Int.reduceGT, Int.reduceGE, Int.reduceAdd, Int.reduceSub, Int.reduceNeg, Int.reduceToNat, Nat.reduceBEq, Nat.reduceEqDiff]
  refine callR_ret (pick_d x ((s.size : Int) + 1) (by omega) _) ?_
  obtain ⟨hp0, hp1⟩ := pickN_rng (x := x) (n := (s.size : Int) + 1) (by omega)
  obtain ⟨p, hp⟩ : ∃ p : Nat, pickN x ((s.size : Int) + 1) = p := ⟨(pickN x ((s.size : Int) + 1)).toNat, by omega⟩
  rw [hp] at hp0 hp1 ⊢
  have hps : p ≤ s.size := by omega
  obtain ⟨l, c, hlc⟩ : ∃ l c, plc (s.data.toList.take p) = (l, c) := ⟨_, _, rfl⟩
  have hP : plcS s p = (l, c) := by unfold plcS; rw [clamp_at hps, hlc]
  have hle := plc_le (s.data.toList.take p)
  rw [hlc] at hle
  have htl : (s.data.toList.take p).length ≤ s.size := by rw [List.length_take]; omega
  have hl : l ≤ 5000 := by omega
  have hc : c ≤ 5000 := by omega
  simp -implicitDefEqProofs (maxSteps := 99999999) (disch := omega) only [vu, va, vg, vs, vh, Nat.reduceMul, ite_true, ite_false, eq_self, forall_const, implies_true, Nat.reduceAdd, Nat.reduceSub, Nat.reduceLT, Nat.reduceLeDiff, ↓reduceIte, reduceCtorEq, Int.reduceEq, Int.reduceLT, Int.reduceLE, Int.reduceGT, Int.reduceGE, Int.reduceAdd, Int.reduceSub, Int.reduceNeg, Int.reduceToNat, Nat.reduceBEq, Nat.reduceEqDiff]
  refine callR_ret (place_d s (by omega) p _) ?_
  rw [hP]
  simp -implicitDefEqProofs (maxSteps := 99999999) (disch := omega) only [vu, va, vg, vs, vh, Nat.reduceMul, ite_true, ite_false, eq_self, forall_const, implies_true, Nat.reduceAdd, Nat.reduceSub, Nat.reduceLT, Nat.reduceLeDiff, ↓reduceIte, reduceCtorEq, Int.reduceEq, Int.reduceLT, Int.reduceLE, Int.reduceGT, Int.reduceGE, Int.reduceAdd, Int.reduceSub, Int.reduceNeg, Int.reduceToNat, Nat.reduceBEq, Nat.reduceEqDiff]
  refine callR_ret (at_d s (by omega) l c _) ?_
  have hA : atR s l c = ((p : Int), 0) := atR_hit hps (by rw [hlc]) (by rw [hlc])
  rw [hA]
  simp -implicitDefEqProofs (maxSteps := 99999999) (disch := omega) only [vu, va, vg, vs, vh, Nat.reduceMul, ite_true, ite_false, eq_self, forall_const, implies_true, Nat.reduceAdd, Nat.reduceSub, Nat.reduceLT, Nat.reduceLeDiff, ↓reduceIte, reduceCtorEq, Int.reduceEq, Int.reduceLT, Int.reduceLE, Int.reduceGT, Int.reduceGE, Int.reduceAdd, Int.reduceSub, Int.reduceNeg, Int.reduceToNat, Nat.reduceBEq, Nat.reduceEqDiff]
  by_cases e : p = s.size
  · subst e
    have hful : plc s.data.toList = (l, c) := by rw [← hlc, List.take_of_length_le (by rw [bytes_len]; exact Nat.le_refl _)]
    have hne := plc_end s hful
    have hB : atR s l ((c : Int) + 1) = (0, 6) := by
      unfold atR
      rw [if_neg (by omega), if_neg (by rintro ⟨h1, h2⟩; exact hne ⟨by simpa using h1, by rw [show ((l : Int)).toNat = l from by omega] at h2; omega⟩), if_neg (by rw [hful]; rintro ⟨_, h2⟩; exact absurd h2 (by show ¬ ((c : Int) + 1 = c); omega))]
    simp -implicitDefEqProofs (maxSteps := 99999999) (disch := omega) only [vu, va, vg, vs, vh, Nat.reduceMul, ite_true, ite_false, eq_self, forall_const, implies_true, Nat.reduceAdd, Nat.reduceSub, Nat.reduceLT, Nat.reduceLeDiff, ↓reduceIte, reduceCtorEq, Int.reduceEq, Int.reduceLT, Int.reduceLE, Int.reduceGT, Int.reduceGE, Int.reduceAdd, Int.reduceSub, Int.reduceNeg, Int.reduceToNat, Nat.reduceBEq, Nat.reduceEqDiff]
    refine callR_ret (at_d s (by omega) l (c + 1) _) ?_
    rw [hB]
    simp -implicitDefEqProofs (maxSteps := 99999999) (disch := omega) only [vu, va, vg, vs, vh, Nat.reduceMul, ite_true, ite_false, eq_self, forall_const, implies_true, Nat.reduceAdd, Nat.reduceSub, Nat.reduceLT, Nat.reduceLeDiff, ↓reduceIte, reduceCtorEq, Int.reduceEq, Int.reduceLT, Int.reduceLE, Int.reduceGT, Int.reduceGE, Int.reduceAdd, Int.reduceSub, Int.reduceNeg, Int.reduceToNat, Nat.reduceBEq, Nat.reduceEqDiff]
    exact weak_over .refl (.same trivial)
  · have hlt : p < s.size := by omega
    have e1 : ¬ (p : Int) = s.size := by omega
    have hN : plcS s ((p : Int) + 1) = plc (s.data.toList.take p ++ [s.data.getD p 0]) := by
      unfold plcS
      rw [show (p : Int) + 1 = ((p + 1 : Nat) : Int) from by omega, clamp_at (by omega), take_snoc s hlt]
    rw [plc_snoc, hlc] at hN
    simp -implicitDefEqProofs (maxSteps := 99999999) (disch := omega) only [vu, e1, va, vg, vs, vh, Nat.reduceMul, ite_true, ite_false, eq_self, forall_const, implies_true, Nat.reduceAdd, Nat.reduceSub, Nat.reduceLT, Nat.reduceLeDiff, ↓reduceIte, reduceCtorEq, Int.reduceEq, Int.reduceLT, Int.reduceLE, Int.reduceGT, Int.reduceGE, Int.reduceAdd, Int.reduceSub, Int.reduceNeg, Int.reduceToNat, Nat.reduceBEq, Nat.reduceEqDiff]
    refine callR_ret (place_d s (by omega) _ _) ?_
    rw [hN]
    by_cases hb : s.data.getD p 0 = 10
    · have hb' : (((s.data.getD p 0).toNat : Nat) : Int) = 10 := (byte10 _).2 hb
      rw [if_pos hb]
      have hq : ((l + 1 : Nat) : Int) = l + 1 := by omega
      simp -implicitDefEqProofs (maxSteps := 99999999) (disch := omega) only [vu, hb', hq, va, vg, vs, vh, Nat.reduceMul, ite_true, ite_false, eq_self, forall_const, implies_true, Nat.reduceAdd, Nat.reduceSub, Nat.reduceLT, Nat.reduceLeDiff, ↓reduceIte, reduceCtorEq, Int.reduceEq, Int.reduceLT, Int.reduceLE, Int.reduceGT, Int.reduceGE, Int.reduceAdd, Int.reduceSub, Int.reduceNeg, Int.reduceToNat, Nat.reduceBEq, Nat.reduceEqDiff]
      exact ⟨⟨by omega, by omega⟩, weak_over .refl (.same trivial)⟩
    · have hb' : ¬ (((s.data.getD p 0).toNat : Nat) : Int) = 10 := fun h => hb ((byte10 _).1 h)
      rw [if_neg hb]
      have hq : ((c + 1 : Nat) : Int) = c + 1 := by omega
      simp -implicitDefEqProofs (maxSteps := 99999999) (disch := omega) only [vu, hb', hq, va, vg, vs, vh, Nat.reduceMul, ite_true, ite_false, eq_self, forall_const, implies_true, Nat.reduceAdd, Nat.reduceSub, Nat.reduceLT, Nat.reduceLeDiff, ↓reduceIte, reduceCtorEq, Int.reduceEq, Int.reduceLT, Int.reduceLE, Int.reduceGT, Int.reduceGE, Int.reduceAdd, Int.reduceSub, Int.reduceNeg, Int.reduceToNat, Nat.reduceBEq, Nat.reduceEqDiff]
      exact ⟨⟨by omega, by omega⟩, weak_over .refl (.same trivial)⟩
end Go.Proofs.Ytigmpablpmanpaa
