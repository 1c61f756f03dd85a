/- Pick; law01.awake. -/
import Derived.Test.YtigmpablpmanpaaS128
namespace Go.Proofs.Ytigmpablpmanpaa
open Go.RowKit
set_option maxRecDepth 100000
set_option linter.unusedVariables false
set_option linter.unusedSimpArgs false

def pickN (x n : Int) : Int := if n < 1 then 0 else if x.tmod n < 0 then x.tmod n + n else x.tmod n
theorem pickN_rng {x n : Int} (h : 1 ≤ n) : 0 ≤ pickN x n ∧ pickN x n < n := by
  unfold pickN
  rw [if_neg (by omega)]
  have h1 := Int.tmod_lt_of_pos x (show 0 < n by omega)
  have h2 : -n < x.tmod n := by
    have := Int.tmod_lt_of_pos (-x) (show 0 < n by omega)
    rw [Int.neg_tmod] at this
    omega
  split <;> omega
theorem pick_d (x n : Int) (hn : 1 ≤ n ∧ n ≤ 1000000000) (H : AHeap) : D Try.prog 24 [.sc (.int .i64 x), .sc (.int .i64 n)] H (.ret (.sc (.int .i64 (pickN x n)))) H := by
  refine D_of_DK (Nat.le_refl _) (dk24 (E_of_ES ?_))
  have c1 : ¬ n < 1 := by omega
  have c2 : ¬ n = 0 := by omega
  have h1 := Int.tmod_lt_of_pos x (show 0 < n by omega)
  have h2 : -n < x.tmod n := by
    have := Int.tmod_lt_of_pos (-x) (show 0 < n by omega)
    rw [Int.neg_tmod] at this
    omega
  have hw : IntKind.i64.wrap (x.tmod n) = x.tmod n := wrap_i64 (by omega) (by omega)
  simp -implicitDefEqProofs (maxSteps := 99999999) (disch := omega) only [vu, ic24, c1, c2, hw, va, vg, vs, vh, Nat.reduceMul, ite_true, ite_false, eq_self, forall_const, implies_true, Nat.reduceAdd, Nat.reduceSub, Nat.reduceLT, Nat.reduceLeDiff, ↓reduceIte, reduceCtorEq, Int.reduceEq, Int.reduceLT, Int.reduceLE, Int.reduceGT, Int.reduceGE, Int.reduceAdd, Int.reduceSub, Int.reduceNeg, Int.reduceToNat, Nat.reduceBEq, Nat.reduceEqDiff]
  by_cases c3 : x.tmod n < 0
  · have hp : pickN x n = x.tmod n + n := by unfold pickN; rw [if_neg c1, if_pos c3]
    rw [hp]
    simp -implicitDefEqProofs (maxSteps := 99999999) (disch := omega) only [vu, c3, va, vg, vs, vh, Nat.reduceMul, ite_true, ite_false, eq_self, forall_const, implies_true, Nat.reduceAdd, Nat.reduceSub, Nat.reduceLT, Nat.reduceLeDiff, ↓reduceIte, reduceCtorEq, Int.reduceEq, Int.reduceLT, Int.reduceLE, Int.reduceGT, Int.reduceGE, Int.reduceAdd, Int.reduceSub, Int.reduceNeg, Int.reduceToNat, Nat.reduceBEq, Nat.reduceEqDiff]
    exact weak_over .refl (.same trivial)
  · have hp : pickN x n = x.tmod n := by unfold pickN; rw [if_neg c1, if_neg c3]
    rw [hp]
    simp -implicitDefEqProofs (maxSteps := 99999999) (disch := omega) only [vu, c3, va, vg, vs, vh, Nat.reduceMul, ite_true, ite_false, eq_self, forall_const, implies_true, Nat.reduceAdd, Nat.reduceSub, Nat.reduceLT, Nat.reduceLeDiff, ↓reduceIte, reduceCtorEq, Int.reduceEq, Int.reduceLT, Int.reduceLE, Int.reduceGT, Int.reduceGE, Int.reduceAdd, Int.reduceSub, Int.reduceNeg, Int.reduceToNat, Nat.reduceBEq, Nat.reduceEqDiff]
    exact weak_over .refl (.same trivial)

def sA : ByteArray := ⟨#[97, 10, 10, 98]⟩
theorem lnsA : lns sA = [⟨#[97, 10]⟩, ⟨#[10]⟩, ⟨#[98]⟩] := by decide
theorem plcA : plcS sA 3 = (2, 0) := by decide
theorem atA : atR sA 1 1 = (0, 6) := by decide
theorem spanA : spanS sA 1 3 = (2, 4, 0) := by decide
theorem geqI : ∀ H_ p_ a_ b_ c_ d_, GX.ok H_ (.eqA p_ [some .i64, some .i64]) [.agg [.sc (.int .i64 a_), .sc (.int .i64 b_)], .agg [.sc (.int .i64 c_), .sc (.int .i64 d_)]] = True := fun _ _ _ _ _ _ => by simp [GX.ok, eqOk]
theorem veqI : ∀ H_ k_ a_ b_, GX.val H_ (.eqA true k_) [.agg [.sc (.int .i64 a_), .sc (.int .i64 b_)], .agg [.sc (.int .i64 a_), .sc (.int .i64 b_)]] = .sc (.bool true) := fun _ _ a b => by simp [GX.val, eqV]
theorem awakeL_d (H : AHeap) : D Try.prog 15 [] H (.ret (.sc (.bool true))) H := by
  refine D_of_DK (Nat.le_refl _) (dk15 (E_of_ES ?_))
  have hz : sA.size = 4 := rfl
  simp -implicitDefEqProofs (maxSteps := 99999999) (disch := omega) only [vu, ic15, va, vg, vs, vh, Nat.reduceMul, ite_true, ite_false, eq_self, forall_const, implies_true, Nat.reduceAdd, Nat.reduceSub, Nat.reduceLT, Nat.reduceLeDiff, ↓reduceIte, reduceCtorEq, Int.reduceEq, Int.reduceLT, Int.reduceLE, Int.reduceGT, Int.reduceGE, Int.reduceAdd, Int.reduceSub, Int.reduceNeg, Int.reduceToNat, Nat.reduceBEq, Nat.reduceEqDiff]
  refine callR_ret (split_d sA (by omega) _) ?_
  rw [lnsA]
  simp -implicitDefEqProofs (maxSteps := 99999999) (disch := omega) only [vu, va, vg, vs, vh, Nat.reduceMul, ite_true, ite_false, eq_self, forall_const, implies_true, Nat.reduceAdd, Nat.reduceSub, Nat.reduceLT, Nat.reduceLeDiff, ↓reduceIte, reduceCtorEq, Int.reduceEq, Int.reduceLT, Int.reduceLE, Int.reduceGT, Int.reduceGE, Int.reduceAdd, Int.reduceSub, Int.reduceNeg, Int.reduceToNat, Nat.reduceBEq, Nat.reduceEqDiff]
  refine callR_ret (place_d sA (by omega) 3 _) ?_
  rw [plcA]
  simp -implicitDefEqProofs (maxSteps := 99999999) (disch := omega) only [vu, va, vg, vs, vh, Nat.reduceMul, ite_true, ite_false, eq_self, forall_const, implies_true, Nat.reduceAdd, Nat.reduceSub, Nat.reduceLT, Nat.reduceLeDiff, ↓reduceIte, reduceCtorEq, Int.reduceEq, Int.reduceLT, Int.reduceLE, Int.reduceGT, Int.reduceGE, Int.reduceAdd, Int.reduceSub, Int.reduceNeg, Int.reduceToNat, Nat.reduceBEq, Nat.reduceEqDiff]
  refine callR_ret (at_d sA (by omega) 1 1 _) ?_
  rw [atA]
  simp -implicitDefEqProofs (maxSteps := 99999999) (disch := omega) only [vu, va, vg, vs, vh, Nat.reduceMul, ite_true, ite_false, eq_self, forall_const, implies_true, Nat.reduceAdd, Nat.reduceSub, Nat.reduceLT, Nat.reduceLeDiff, ↓reduceIte, reduceCtorEq, Int.reduceEq, Int.reduceLT, Int.reduceLE, Int.reduceGT, Int.reduceGE, Int.reduceAdd, Int.reduceSub, Int.reduceNeg, Int.reduceToNat, Nat.reduceBEq, Nat.reduceEqDiff]
  refine callR_ret (span_d sA (by omega) 1 3 _) ?_
  rw [spanA]
  simp -implicitDefEqProofs (maxSteps := 99999999) (disch := omega) only [vu, va, vg, vs, vh, Nat.reduceMul, ite_true, ite_false, eq_self, forall_const, implies_true, Nat.reduceAdd, Nat.reduceSub, Nat.reduceLT, Nat.reduceLeDiff, ↓reduceIte, reduceCtorEq, Int.reduceEq, Int.reduceLT, Int.reduceLE, Int.reduceGT, Int.reduceGE, Int.reduceAdd, Int.reduceSub, Int.reduceNeg, Int.reduceToNat, Nat.reduceBEq, Nat.reduceEqDiff]
  refine callR_ret (sameTexts_d [⟨#[97, 10]⟩, ⟨#[10]⟩, ⟨#[98]⟩] [⟨#[97, 10]⟩, ⟨#[10]⟩, ⟨#[98]⟩] none (some []) _ (by simp)) ?_
  simp -implicitDefEqProofs (maxSteps := 99999999) (disch := omega) only [vu, geqI, veqI, va, vg, vs, vh, Nat.reduceMul, ite_true, ite_false, eq_self, forall_const, implies_true, Nat.reduceAdd, Nat.reduceSub, Nat.reduceLT, Nat.reduceLeDiff, ↓reduceIte, reduceCtorEq, Int.reduceEq, Int.reduceLT, Int.reduceLE, Int.reduceGT, Int.reduceGE, Int.reduceAdd, Int.reduceSub, Int.reduceNeg, Int.reduceToNat, Nat.reduceBEq, Nat.reduceEqDiff]
  exact weak_over (by repeat constructor) (.same trivial)
end Go.Proofs.Ytigmpablpmanpaa
