/- Paths: Under, Compare, Clone, step; what is made of them. -/
import Derived.Test.YtijnpkpcoeeioaaS70
import Derived.Test.YtijnpkpcoeeioaaIc13
import Derived.Test.YtijnpkpcoeeioaaV31
namespace Go.Proofs.Ytijnpkpcoeeioaa
open Go.RowKit
set_option maxRecDepth 100000
set_option linter.unusedVariables false
set_option linter.unusedSimpArgs false

/-! ### In plain words -/
def underB (a b : List Int) : Bool := decide (b.length ≤ a.length ∧ a.take b.length = b)
def thruI (p l : List Int) : Option Int := if l.length < p.length ∧ underB p l = true then some (nthI p l.length) else none
/-- A path with another number where it goes through a list. -/
def stepL (p l : List Int) (f : Int → Int) : List Int := match thruI p l with
  | some k => p.set l.length (f k)
  | none => p
def cmpL : List Int → List Int → Int
  | [], [] => 0
  | [], _ :: _ => -1
  | _ :: _, [] => 1
  | x :: a, y :: b => if x < y then -1 else if x > y then 1 else cmpL a b
theorem cmpL_step {a b : List Int} {k : Nat} (ha : k < a.length) (hb : k < b.length) : cmpL (a.drop k) (b.drop k) = if nthI a k < nthI b k then -1 else if nthI a k > nthI b k then 1 else cmpL (a.drop (k + 1)) (b.drop (k + 1)) := by
  rw [List.drop_eq_getElem_cons ha, List.drop_eq_getElem_cons hb, cmpL, nthI_eq ha, nthI_eq hb]
theorem cmpL_left {a b : List Int} {k : Nat} (ha : a.length ≤ k) (hb : k < b.length) : cmpL (a.drop k) (b.drop k) = -1 := by
  rw [List.drop_of_length_le ha, List.drop_eq_getElem_cons hb, cmpL]
theorem cmpL_right {a b : List Int} {k : Nat} (ha : k < a.length) (hb : b.length ≤ k) : cmpL (a.drop k) (b.drop k) = 1 := by
  rw [List.drop_of_length_le hb, List.drop_eq_getElem_cons ha, cmpL]
theorem cmpL_both {a b : List Int} {k : Nat} (ha : a.length ≤ k) (hb : b.length ≤ k) : cmpL (a.drop k) (b.drop k) = 0 := by
  rw [List.drop_of_length_le ha, List.drop_of_length_le hb, cmpL]

/-! ### What the library's calls tell -/
theorem equalI_d (a b : List Int) (ra rb : Option (List AV)) (H : AHeap) (hl : a.length ≤ 100000000) : D Try.prog 31 [.lst 1 (nums a) ra, .lst 1 (nums b) rb] H (.ret (.sc (.bool (decide (a = b))))) H := by
  refine D_of_DK (Nat.le_refl _) (dk31 (E_of_ES ?_))
  simp -implicitDefEqProofs (maxSteps := 99999999) (disch := omega) only [ic31, nums_length, va, vs, vh, Nat.reduceMul, ite_true, ite_false, eq_self, forall_const, implies_true, Nat.reduceAdd, Nat.reduceSub, Nat.reduceLT, Nat.reduceLeDiff, ↓reduceIte, reduceCtorEq, Int.reduceEq, Int.reduceLT, Int.reduceLE, Int.reduceGT, Int.reduceGE, Int.reduceAdd, Int.reduceSub, Int.reduceNeg, Int.reduceToNat, Nat.reduceBEq, Nat.reduceEqDiff]
  refine condR_if (fun h => ?_) (fun h => ?_)
  · have hne : ¬ a = b := fun e => by simp [e] at h
    simp -implicitDefEqProofs (maxSteps := 99999999) (disch := omega) only [hne, va, vs, vh, Nat.reduceMul, ite_true, ite_false, eq_self, forall_const, implies_true, Nat.reduceAdd, Nat.reduceSub, Nat.reduceLT, Nat.reduceLeDiff, ↓reduceIte, reduceCtorEq, Int.reduceEq, Int.reduceLT, Int.reduceLE, Int.reduceGT, Int.reduceGE, Int.reduceAdd, Int.reduceSub, Int.reduceNeg, Int.reduceToNat, Nat.reduceBEq, Nat.reduceEqDiff]
    exact weak_sc .refl
  have hl2 : a.length = b.length := by omega
  simp -implicitDefEqProofs (maxSteps := 99999999) (disch := omega) only [nums_length, va, vs, vh, Nat.reduceMul, ite_true, ite_false, eq_self, forall_const, implies_true, Nat.reduceAdd, Nat.reduceSub, Nat.reduceLT, Nat.reduceLeDiff, ↓reduceIte, reduceCtorEq, Int.reduceEq, Int.reduceLT, Int.reduceLE, Int.reduceGT, Int.reduceGE, Int.reduceAdd, Int.reduceSub, Int.reduceNeg, Int.reduceToNat, Nat.reduceBEq, Nat.reduceEqDiff]
  refine ES_loop (fun ts H' => H' = H ∧ ∃ k : Nat, (k ≤ a.length ∧ ∀ j, j < k → nthI a j = nthI b j) ∧ Fr [some (.lst 1 (nums a) ra), some (.lst 1 (nums b) rb), none, none, some (.sc (.bool false)), none, none, none, none, none, none, none, some (.sc (.int .i64 a.length)), some (.sc (.int .i64 k)), none, none, none, none, none, none, none, none, none, none, none, none] ts) (fun ts _ => a.length - (intV (ts.getD 13 .top)).toNat) ?_ ?_
  · exact ⟨rfl, 0, ⟨Nat.zero_le _, fun j h => absurd h (Nat.not_lt_zero _)⟩, by simp [Fr]⟩
  rintro ts _ ⟨rfl, k, ⟨hk, hp⟩, hfr⟩
  obtain ⟨js, rfl⟩ := hfr.opened
  clear hfr
  simp -implicitDefEqProofs (maxSteps := 99999999) (disch := omega) only [mk, va, vs, vh, Nat.reduceMul, ite_true, ite_false, eq_self, forall_const, implies_true, Nat.reduceAdd, Nat.reduceSub, Nat.reduceLT, Nat.reduceLeDiff, ↓reduceIte, reduceCtorEq, Int.reduceEq, Int.reduceLT, Int.reduceLE, Int.reduceGT, Int.reduceGE, Int.reduceAdd, Int.reduceSub, Int.reduceNeg, Int.reduceToNat, Nat.reduceBEq, Nat.reduceEqDiff]
  refine condR_if (fun h => ?_) (fun h => ?_)
  · have h1 : k < a.length := by omega
    have h2 : k < b.length := by omega
    simp -implicitDefEqProofs (maxSteps := 99999999) (disch := omega) only [nums_get h1, nums_get h2, nums_length, va, vs, vh, Nat.reduceMul, ite_true, ite_false, eq_self, forall_const, implies_true, Nat.reduceAdd, Nat.reduceSub, Nat.reduceLT, Nat.reduceLeDiff, ↓reduceIte, reduceCtorEq, Int.reduceEq, Int.reduceLT, Int.reduceLE, Int.reduceGT, Int.reduceGE, Int.reduceAdd, Int.reduceSub, Int.reduceNeg, Int.reduceToNat, Nat.reduceBEq, Nat.reduceEqDiff]
    refine ⟨by omega, by omega, condR_if (fun h => ?_) (fun h => ?_)⟩
    · have hne : ¬ a = b := fun e => by simp [e] at h
      simp -implicitDefEqProofs (maxSteps := 99999999) (disch := omega) only [hne, va, vs, vh, Nat.reduceMul, ite_true, ite_false, eq_self, forall_const, implies_true, Nat.reduceAdd, Nat.reduceSub, Nat.reduceLT, Nat.reduceLeDiff, ↓reduceIte, reduceCtorEq, Int.reduceEq, Int.reduceLT, Int.reduceLE, Int.reduceGT, Int.reduceGE, Int.reduceAdd, Int.reduceSub, Int.reduceNeg, Int.reduceToNat, Nat.reduceBEq, Nat.reduceEqDiff]
      exact weak_sc .refl
    · simp -implicitDefEqProofs (maxSteps := 99999999) (disch := omega) only [va, vs, vh, Nat.reduceMul, ite_true, ite_false, eq_self, forall_const, implies_true, Nat.reduceAdd, Nat.reduceSub, Nat.reduceLT, Nat.reduceLeDiff, ↓reduceIte, reduceCtorEq, Int.reduceEq, Int.reduceLT, Int.reduceLE, Int.reduceGT, Int.reduceGE, Int.reduceAdd, Int.reduceSub, Int.reduceNeg, Int.reduceToNat, Nat.reduceBEq, Nat.reduceEqDiff]
      refine ⟨⟨k + 1, ⟨by omega, fun j hj => ?_⟩, by simp [Fr]⟩, by omega⟩
      rcases Nat.lt_succ_iff_lt_or_eq.1 hj with h' | rfl
      · exact hp j h'
      · exact Classical.not_not.1 h
  · have hab : a = b := nthI_ext hl2 (fun i hi => hp i (by omega))
    simp -implicitDefEqProofs (maxSteps := 99999999) (disch := omega) only [hab, va, vs, vh, Nat.reduceMul, ite_true, ite_false, eq_self, forall_const, implies_true, Nat.reduceAdd, Nat.reduceSub, Nat.reduceLT, Nat.reduceLeDiff, ↓reduceIte, reduceCtorEq, Int.reduceEq, Int.reduceLT, Int.reduceLE, Int.reduceGT, Int.reduceGE, Int.reduceAdd, Int.reduceSub, Int.reduceNeg, Int.reduceToNat, Nat.reduceBEq, Nat.reduceEqDiff]
    exact weak_sc .refl
theorem nan_d (x : Int) (H : AHeap) : D Try.prog 60 [.sc (.int .i64 x)] H (.ret (.sc (.bool false))) H := by
  refine D_of_DK (Nat.le_refl _) (dk60 (E_of_ES ?_))
  simp -implicitDefEqProofs (maxSteps := 99999999) (disch := omega) only [ic60, va, vs, vh, Nat.reduceMul, ite_true, ite_false, eq_self, forall_const, implies_true, Nat.reduceAdd, Nat.reduceSub, Nat.reduceLT, Nat.reduceLeDiff, ↓reduceIte, reduceCtorEq, Int.reduceEq, Int.reduceLT, Int.reduceLE, Int.reduceGT, Int.reduceGE, Int.reduceAdd, Int.reduceSub, Int.reduceNeg, Int.reduceToNat, Nat.reduceBEq, Nat.reduceEqDiff]
  exact weak_sc .refl
def cmpI (x y : Int) : Int := if x < y then -1 else if x > y then 1 else 0
theorem cmp1_d (x y : Int) (H : AHeap) : D Try.prog 37 [.sc (.int .i64 x), .sc (.int .i64 y)] H (.ret (.sc (.int .i64 (cmpI x y)))) H := by
  refine D_of_DK (Nat.le_refl _) (dk37 (E_of_ES ?_))
  simp -implicitDefEqProofs (maxSteps := 99999999) (disch := omega) only [ic37, va, vs, vh, Nat.reduceMul, ite_true, ite_false, eq_self, forall_const, implies_true, Nat.reduceAdd, Nat.reduceSub, Nat.reduceLT, Nat.reduceLeDiff, ↓reduceIte, reduceCtorEq, Int.reduceEq, Int.reduceLT, Int.reduceLE, Int.reduceGT, Int.reduceGE, Int.reduceAdd, Int.reduceSub, Int.reduceNeg, Int.reduceToNat, Nat.reduceBEq, Nat.reduceEqDiff]
  refine callR_ret (nan_d _ _) ?_
  simp -implicitDefEqProofs (maxSteps := 99999999) (disch := omega) only [va, vs, vh, Nat.reduceMul, ite_true, ite_false, eq_self, forall_const, implies_true, Nat.reduceAdd, Nat.reduceSub, Nat.reduceLT, Nat.reduceLeDiff, ↓reduceIte, reduceCtorEq, Int.reduceEq, Int.reduceLT, Int.reduceLE, Int.reduceGT, Int.reduceGE, Int.reduceAdd, Int.reduceSub, Int.reduceNeg, Int.reduceToNat, Nat.reduceBEq, Nat.reduceEqDiff]
  refine callR_ret (nan_d _ _) ?_
  simp -implicitDefEqProofs (maxSteps := 99999999) (disch := omega) only [va, vs, vh, Nat.reduceMul, ite_true, ite_false, eq_self, forall_const, implies_true, Nat.reduceAdd, Nat.reduceSub, Nat.reduceLT, Nat.reduceLeDiff, ↓reduceIte, reduceCtorEq, Int.reduceEq, Int.reduceLT, Int.reduceLE, Int.reduceGT, Int.reduceGE, Int.reduceAdd, Int.reduceSub, Int.reduceNeg, Int.reduceToNat, Nat.reduceBEq, Nat.reduceEqDiff]
  refine condR_if (fun h => ?_) (fun h => ?_)
  · have e : cmpI x y = -1 := by simp [cmpI, h]
    simp -implicitDefEqProofs (maxSteps := 99999999) (disch := omega) only [e, va, vs, vh, Nat.reduceMul, ite_true, ite_false, eq_self, forall_const, implies_true, Nat.reduceAdd, Nat.reduceSub, Nat.reduceLT, Nat.reduceLeDiff, ↓reduceIte, reduceCtorEq, Int.reduceEq, Int.reduceLT, Int.reduceLE, Int.reduceGT, Int.reduceGE, Int.reduceAdd, Int.reduceSub, Int.reduceNeg, Int.reduceToNat, Nat.reduceBEq, Nat.reduceEqDiff]
    exact weak_sc .refl
  · simp -implicitDefEqProofs (maxSteps := 99999999) (disch := omega) only [va, vs, vh, Nat.reduceMul, ite_true, ite_false, eq_self, forall_const, implies_true, Nat.reduceAdd, Nat.reduceSub, Nat.reduceLT, Nat.reduceLeDiff, ↓reduceIte, reduceCtorEq, Int.reduceEq, Int.reduceLT, Int.reduceLE, Int.reduceGT, Int.reduceGE, Int.reduceAdd, Int.reduceSub, Int.reduceNeg, Int.reduceToNat, Nat.reduceBEq, Nat.reduceEqDiff]
    refine condR_if (fun h2 => ?_) (fun h2 => ?_)
    · have e : cmpI x y = 1 := by simp [cmpI, h]; omega
      simp -implicitDefEqProofs (maxSteps := 99999999) (disch := omega) only [e, va, vs, vh, Nat.reduceMul, ite_true, ite_false, eq_self, forall_const, implies_true, Nat.reduceAdd, Nat.reduceSub, Nat.reduceLT, Nat.reduceLeDiff, ↓reduceIte, reduceCtorEq, Int.reduceEq, Int.reduceLT, Int.reduceLE, Int.reduceGT, Int.reduceGE, Int.reduceAdd, Int.reduceSub, Int.reduceNeg, Int.reduceToNat, Nat.reduceBEq, Nat.reduceEqDiff]
      exact weak_sc .refl
    · have e : cmpI x y = 0 := by simp [cmpI, h]; omega
      simp -implicitDefEqProofs (maxSteps := 99999999) (disch := omega) only [e, va, vs, vh, Nat.reduceMul, ite_true, ite_false, eq_self, forall_const, implies_true, Nat.reduceAdd, Nat.reduceSub, Nat.reduceLT, Nat.reduceLeDiff, ↓reduceIte, reduceCtorEq, Int.reduceEq, Int.reduceLT, Int.reduceLE, Int.reduceGT, Int.reduceGE, Int.reduceAdd, Int.reduceSub, Int.reduceNeg, Int.reduceToNat, Nat.reduceBEq, Nat.reduceEqDiff]
      exact weak_sc .refl
theorem compare_d (a b : List Int) (ra rb : Option (List AV)) (H : AHeap) (hl : a.length ≤ 100000000) : D Try.prog 30 [.lst 1 (nums a) ra, .lst 1 (nums b) rb] H (.ret (.sc (.int .i64 (cmpL a b)))) H := by
  refine D_of_DK (Nat.le_refl _) (dk30 (E_of_ES ?_))
  simp -implicitDefEqProofs (maxSteps := 99999999) (disch := omega) only [ic30, nums_length, va, vs, vh, Nat.reduceMul, ite_true, ite_false, eq_self, forall_const, implies_true, Nat.reduceAdd, Nat.reduceSub, Nat.reduceLT, Nat.reduceLeDiff, ↓reduceIte, reduceCtorEq, Int.reduceEq, Int.reduceLT, Int.reduceLE, Int.reduceGT, Int.reduceGE, Int.reduceAdd, Int.reduceSub, Int.reduceNeg, Int.reduceToNat, Nat.reduceBEq, Nat.reduceEqDiff]
  refine ES_loopL (fun ts H' => H' = H ∧ ∃ k : Nat, (k ≤ a.length ∧ cmpL (a.drop k) (b.drop k) = cmpL a b) ∧ Fr [some (.lst 1 (nums a) ra), some (.lst 1 (nums b) rb), none, none, some (.sc (.int .i64 0)), none, none, none, none, some (.lst 1 (nums a) ra), some (.sc (.int .i64 a.length)), some (.sc (.int .i64 k)), none, none, none, none, none, none, none, none, none, none, none, none, none, none, none, none, none, none, none, none, none, none, none, none] ts) (fun ts _ => a.length - (intV (ts.getD 11 .top)).toNat) ⟨rfl, 0, ⟨Nat.zero_le _, rfl⟩, by simp [Fr]⟩ ?_
  rintro ts _ ⟨rfl, k, ⟨hk, hp⟩, hfr⟩ L2 hL2
  obtain ⟨js, rfl⟩ := hfr.opened
  clear hfr
  simp -implicitDefEqProofs (maxSteps := 99999999) (disch := omega) only [mk, va, vs, vh, Nat.reduceMul, ite_true, ite_false, eq_self, forall_const, implies_true, Nat.reduceAdd, Nat.reduceSub, Nat.reduceLT, Nat.reduceLeDiff, ↓reduceIte, reduceCtorEq, Int.reduceEq, Int.reduceLT, Int.reduceLE, Int.reduceGT, Int.reduceGE, Int.reduceAdd, Int.reduceSub, Int.reduceNeg, Int.reduceToNat, Nat.reduceBEq, Nat.reduceEqDiff]
  refine condR_if (fun h => ?_) (fun h => ?_)
  · have h1 : k < a.length := by omega
    simp -implicitDefEqProofs (maxSteps := 99999999) (disch := omega) only [nums_get h1, nums_length, va, vs, vh, Nat.reduceMul, ite_true, ite_false, eq_self, forall_const, implies_true, Nat.reduceAdd, Nat.reduceSub, Nat.reduceLT, Nat.reduceLeDiff, ↓reduceIte, reduceCtorEq, Int.reduceEq, Int.reduceLT, Int.reduceLE, Int.reduceGT, Int.reduceGE, Int.reduceAdd, Int.reduceSub, Int.reduceNeg, Int.reduceToNat, Nat.reduceBEq, Nat.reduceEqDiff]
    refine ⟨by omega, condR_if (fun h => ?_) (fun h => ?_)⟩
    · have e : cmpL a b = 1 := hp.symm.trans (cmpL_right h1 (by omega))
      simp -implicitDefEqProofs (maxSteps := 99999999) (disch := omega) only [e, va, vs, vh, Nat.reduceMul, ite_true, ite_false, eq_self, forall_const, implies_true, Nat.reduceAdd, Nat.reduceSub, Nat.reduceLT, Nat.reduceLeDiff, ↓reduceIte, reduceCtorEq, Int.reduceEq, Int.reduceLT, Int.reduceLE, Int.reduceGT, Int.reduceGE, Int.reduceAdd, Int.reduceSub, Int.reduceNeg, Int.reduceToNat, Nat.reduceBEq, Nat.reduceEqDiff]
      exact weak_sc .refl
    · have h2 : k < b.length := by omega
      rw [cmpL_step h1 h2] at hp
      simp -implicitDefEqProofs (maxSteps := 99999999) (disch := omega) only [nums_get h2, nums_length, va, vs, vh, Nat.reduceMul, ite_true, ite_false, eq_self, forall_const, implies_true, Nat.reduceAdd, Nat.reduceSub, Nat.reduceLT, Nat.reduceLeDiff, ↓reduceIte, reduceCtorEq, Int.reduceEq, Int.reduceLT, Int.reduceLE, Int.reduceGT, Int.reduceGE, Int.reduceAdd, Int.reduceSub, Int.reduceNeg, Int.reduceToNat, Nat.reduceBEq, Nat.reduceEqDiff]
      refine ⟨by omega, callR_ret (cmp1_d _ _ _) ?_⟩
      unfold cmpI
      split at hp
      · rename_i c
        rw [if_pos c]
        have e := hp.symm
        simp -implicitDefEqProofs (maxSteps := 99999999) (disch := omega) only [e, va, vs, vh, Nat.reduceMul, ite_true, ite_false, eq_self, forall_const, implies_true, Nat.reduceAdd, Nat.reduceSub, Nat.reduceLT, Nat.reduceLeDiff, ↓reduceIte, reduceCtorEq, Int.reduceEq, Int.reduceLT, Int.reduceLE, Int.reduceGT, Int.reduceGE, Int.reduceAdd, Int.reduceSub, Int.reduceNeg, Int.reduceToNat, Nat.reduceBEq, Nat.reduceEqDiff]
        exact weak_sc .refl
      · rename_i c
        rw [if_neg c]
        split at hp
        · rename_i c2
          rw [if_pos c2]
          have e := hp.symm
          simp -implicitDefEqProofs (maxSteps := 99999999) (disch := omega) only [e, va, vs, vh, Nat.reduceMul, ite_true, ite_false, eq_self, forall_const, implies_true, Nat.reduceAdd, Nat.reduceSub, Nat.reduceLT, Nat.reduceLeDiff, ↓reduceIte, reduceCtorEq, Int.reduceEq, Int.reduceLT, Int.reduceLE, Int.reduceGT, Int.reduceGE, Int.reduceAdd, Int.reduceSub, Int.reduceNeg, Int.reduceToNat, Nat.reduceBEq, Nat.reduceEqDiff]
          exact weak_sc .refl
        · rename_i c2
          rw [if_neg c2]
          simp -implicitDefEqProofs (maxSteps := 99999999) (disch := omega) only [va, vs, vh, Nat.reduceMul, ite_true, ite_false, eq_self, forall_const, implies_true, Nat.reduceAdd, Nat.reduceSub, Nat.reduceLT, Nat.reduceLeDiff, ↓reduceIte, reduceCtorEq, Int.reduceEq, Int.reduceLT, Int.reduceLE, Int.reduceGT, Int.reduceGE, Int.reduceAdd, Int.reduceSub, Int.reduceNeg, Int.reduceToNat, Nat.reduceBEq, Nat.reduceEqDiff]
          exact hL2 _ _ ⟨rfl, k + 1, ⟨by omega, hp⟩, by simp [Fr]⟩ (by simp [intV, mk]; omega)
  · have h1 : k = a.length := by omega
    simp -implicitDefEqProofs (maxSteps := 99999999) (disch := omega) only [nums_length, va, vs, vh, Nat.reduceMul, ite_true, ite_false, eq_self, forall_const, implies_true, Nat.reduceAdd, Nat.reduceSub, Nat.reduceLT, Nat.reduceLeDiff, ↓reduceIte, reduceCtorEq, Int.reduceEq, Int.reduceLT, Int.reduceLE, Int.reduceGT, Int.reduceGE, Int.reduceAdd, Int.reduceSub, Int.reduceNeg, Int.reduceToNat, Nat.reduceBEq, Nat.reduceEqDiff]
    refine condR_if (fun h => ?_) (fun h => ?_)
    · have e : cmpL a b = -1 := hp.symm.trans (cmpL_left (by omega) (by omega))
      simp -implicitDefEqProofs (maxSteps := 99999999) (disch := omega) only [e, va, vs, vh, Nat.reduceMul, ite_true, ite_false, eq_self, forall_const, implies_true, Nat.reduceAdd, Nat.reduceSub, Nat.reduceLT, Nat.reduceLeDiff, ↓reduceIte, reduceCtorEq, Int.reduceEq, Int.reduceLT, Int.reduceLE, Int.reduceGT, Int.reduceGE, Int.reduceAdd, Int.reduceSub, Int.reduceNeg, Int.reduceToNat, Nat.reduceBEq, Nat.reduceEqDiff]
      exact weak_sc .refl
    · have e : cmpL a b = 0 := hp.symm.trans (cmpL_both (by omega) (by omega))
      simp -implicitDefEqProofs (maxSteps := 99999999) (disch := omega) only [e, va, vs, vh, Nat.reduceMul, ite_true, ite_false, eq_self, forall_const, implies_true, Nat.reduceAdd, Nat.reduceSub, Nat.reduceLT, Nat.reduceLeDiff, ↓reduceIte, reduceCtorEq, Int.reduceEq, Int.reduceLT, Int.reduceLE, Int.reduceGT, Int.reduceGE, Int.reduceAdd, Int.reduceSub, Int.reduceNeg, Int.reduceToNat, Nat.reduceBEq, Nat.reduceEqDiff]
      exact weak_sc .refl

/-- A row that is handed out; where it lies is told anew. -/
theorem weak_row {H F : AHeap} {k s : Nat} {ty : TypeId} {xs : List AV} (hs : H.length ≤ s) (h1 : ∀ id, id < H.length → AHeap.find F id = AHeap.find H id) (h2 : xs ≠ [] → AHeap.find F s = OwnB k ty xs) (hz : GzL F H.length [s] xs xs) {x y : AV} (hv : Gz F H.length [s] x y) :
    Weak H (.ret x) F (.ret y) (OwnB k ty xs :: H) := by
  refine weak_gen [s] (by simp) (by simp) (by simpa using hs) (fun id b hid hb => .inl ?_) (fun i s' b hs' hb => ?_) hv
  · rw [find_past hid] at hb
    exact ⟨hb, (h1 id hid).trans hb⟩
  · rcases i with _ | i
    · simp only [List.getElem?_cons_zero, Option.some.injEq] at hs'
      subst hs'
      rw [Nat.add_zero, find_top rfl] at hb
      obtain ⟨hx, rfl⟩ := OwnB_some hb
      exact ⟨_, (h2 hx).trans (OwnB_ne hx), rfl, rfl, fun h => h, hz⟩
    · simp at hs'
theorem row_gz {F : AHeap} {n s k : Nat} {xs : List AV} (h : n ≤ s) : Gz F n [s] (OwnV k xs s) (OwnV k xs n) := OwnV_gz fun _ => newId_one h
theorem nil_gz {F : AHeap} {n s k k' : Nat} : Gz F n [s] (.lst k' [] (some [])) (OwnV k [] n) := .nil0
theorem cloneI_o (l : List Int) (ro : Option (List AV)) (H : AHeap) (hl : l.length ≤ 100000000) : D Try.prog 59 [.lst 1 (nums l) ro] H (.ret (OwnV 1 (nums l) H.length)) (OwnB 1 3 (nums l) :: H) := by
  refine D_of_DK (by simp) (dk59 (E_of_ES ?_))
  cases l with
  | nil =>
    simp -implicitDefEqProofs (maxSteps := 99999999) (disch := omega) only [ic59, nums_nil, va, vs, vh, Nat.reduceMul, ite_true, ite_false, eq_self, forall_const, implies_true, Nat.reduceAdd, Nat.reduceSub, Nat.reduceLT, Nat.reduceLeDiff, ↓reduceIte, reduceCtorEq, Int.reduceEq, Int.reduceLT, Int.reduceLE, Int.reduceGT, Int.reduceGE, Int.reduceAdd, Int.reduceSub, Int.reduceNeg, Int.reduceToNat, Nat.reduceBEq, Nat.reduceEqDiff]
    refine ⟨?_, ?_⟩
    · simp -implicitDefEqProofs (maxSteps := 99999999) (disch := omega) only [va, vs, vh, Nat.reduceMul, ite_true, ite_false, eq_self, forall_const, implies_true, Nat.reduceAdd, Nat.reduceSub, Nat.reduceLT, Nat.reduceLeDiff, ↓reduceIte, reduceCtorEq, Int.reduceEq, Int.reduceLT, Int.reduceLE, Int.reduceGT, Int.reduceGE, Int.reduceAdd, Int.reduceSub, Int.reduceNeg, Int.reduceToNat, Nat.reduceBEq, Nat.reduceEqDiff]
      exact weak_row (xs := []) (Nat.le_refl _) (fun _ _ => rfl) (fun h => (h rfl).elim) .nil nil_gz
    · simp -implicitDefEqProofs (maxSteps := 99999999) (disch := omega) only [va, vs, vh, Nat.reduceMul, ite_true, ite_false, eq_self, forall_const, implies_true, Nat.reduceAdd, Nat.reduceSub, Nat.reduceLT, Nat.reduceLeDiff, ↓reduceIte, reduceCtorEq, Int.reduceEq, Int.reduceLT, Int.reduceLE, Int.reduceGT, Int.reduceGE, Int.reduceAdd, Int.reduceSub, Int.reduceNeg, Int.reduceToNat, Nat.reduceBEq, Nat.reduceEqDiff]
      exact weak_row (xs := []) (Nat.le_refl _) (fun _ _ => rfl) (fun h => (h rfl).elim) .nil nil_gz
  | cons x r =>
    simp only [List.length_cons] at hl
    simp -implicitDefEqProofs (maxSteps := 99999999) (disch := omega) only [ic59, nums_cons, nums_length, va, vs, vh, Nat.reduceMul, ite_true, ite_false, eq_self, forall_const, implies_true, Nat.reduceAdd, Nat.reduceSub, Nat.reduceLT, Nat.reduceLeDiff, ↓reduceIte, reduceCtorEq, Int.reduceEq, Int.reduceLT, Int.reduceLE, Int.reduceGT, Int.reduceGE, Int.reduceAdd, Int.reduceSub, Int.reduceNeg, Int.reduceToNat, Nat.reduceBEq, Nat.reduceEqDiff]
    refine ⟨by omega, ?_⟩
    have e1 : OwnV 1 (AV.sc (.int .i64 x) :: nums r) H.length = .vec 1 H.length 0 (r.length + 1) none := by simp [OwnV, nums_length]
    rw [e1]
    exact Weak.refl _ _ _
theorem under_d (a b : List Int) (ra rb : Option (List AV)) (H : AHeap) (hl : a.length ≤ 100000000) (hra : ra = none ∨ ra = some []) : D Try.prog 16 [.lst 1 (nums a) none, .lst 1 (nums b) rb] H (.ret (.sc (.bool (underB a b)))) H := by
  refine D_of_DK (Nat.le_refl _) (dk16 (E_of_ES ?_))
  by_cases h : b.length ≤ a.length
  · have h' : (a.length : Int) ≥ b.length := by omega
    have et : (nums a).take b.length = nums (a.take b.length) := by simp [nums, List.map_take]
    have hb : underB a b = decide (a.take b.length = b) := by simp [underB, h]
    simp -implicitDefEqProofs (maxSteps := 99999999) (disch := omega) only [ic16, nums_length, h', et, va, vs, vh, Nat.reduceMul, ite_true, ite_false, eq_self, forall_const, implies_true, Nat.reduceAdd, Nat.reduceSub, Nat.reduceLT, Nat.reduceLeDiff, ↓reduceIte, reduceCtorEq, Int.reduceEq, Int.reduceLT, Int.reduceLE, Int.reduceGT, Int.reduceGE, Int.reduceAdd, Int.reduceSub, Int.reduceNeg, Int.reduceToNat, Nat.reduceBEq, Nat.reduceEqDiff]
    refine ⟨⟨by omega, by omega⟩, callR_ret (equalI_d _ _ _ _ _ (by rw [List.length_take]; omega)) ?_⟩
    simp -implicitDefEqProofs (maxSteps := 99999999) (disch := omega) only [hb, va, vs, vh, Nat.reduceMul, ite_true, ite_false, eq_self, forall_const, implies_true, Nat.reduceAdd, Nat.reduceSub, Nat.reduceLT, Nat.reduceLeDiff, ↓reduceIte, reduceCtorEq, Int.reduceEq, Int.reduceLT, Int.reduceLE, Int.reduceGT, Int.reduceGE, Int.reduceAdd, Int.reduceSub, Int.reduceNeg, Int.reduceToNat, Nat.reduceBEq, Nat.reduceEqDiff]
    exact weak_sc .refl
  · have h' : ¬ (a.length : Int) ≥ b.length := by omega
    have hb : underB a b = false := by simp [underB]; omega
    simp -implicitDefEqProofs (maxSteps := 99999999) (disch := omega) only [ic16, nums_length, h', hb, va, vs, vh, Nat.reduceMul, ite_true, ite_false, eq_self, forall_const, implies_true, Nat.reduceAdd, Nat.reduceSub, Nat.reduceLT, Nat.reduceLeDiff, ↓reduceIte, reduceCtorEq, Int.reduceEq, Int.reduceLT, Int.reduceLE, Int.reduceGT, Int.reduceGE, Int.reduceAdd, Int.reduceSub, Int.reduceNeg, Int.reduceToNat, Nat.reduceBEq, Nat.reduceEqDiff]
    exact weak_sc .refl
theorem through_d (p l : List Int) (rl : Option (List AV)) (H : AHeap) (hl : p.length ≤ 100000000) : D Try.prog 23 [.lst 1 (nums p) none, .lst 1 (nums l) rl] H (.ret (.agg [.lst 1 (nums p) none, .sc (.int .i64 (if underB p l then l.length else p.length : Nat))])) H := by
  refine D_of_DK (Nat.le_refl _) (dk23 (E_of_ES ?_))
  simp -implicitDefEqProofs (maxSteps := 99999999) (disch := omega) only [ic23, va, vs, vh, Nat.reduceMul, ite_true, ite_false, eq_self, forall_const, implies_true, Nat.reduceAdd, Nat.reduceSub, Nat.reduceLT, Nat.reduceLeDiff, ↓reduceIte, reduceCtorEq, Int.reduceEq, Int.reduceLT, Int.reduceLE, Int.reduceGT, Int.reduceGE, Int.reduceAdd, Int.reduceSub, Int.reduceNeg, Int.reduceToNat, Nat.reduceBEq, Nat.reduceEqDiff]
  refine callR_ret (under_d _ _ none _ _ hl (.inl rfl)) ?_
  cases hu : underB p l with
  | true =>
    simp -implicitDefEqProofs (maxSteps := 99999999) (disch := omega) only [nums_length, va, vs, vh, Nat.reduceMul, ite_true, ite_false, eq_self, forall_const, implies_true, Nat.reduceAdd, Nat.reduceSub, Nat.reduceLT, Nat.reduceLeDiff, ↓reduceIte, reduceCtorEq, Int.reduceEq, Int.reduceLT, Int.reduceLE, Int.reduceGT, Int.reduceGE, Int.reduceAdd, Int.reduceSub, Int.reduceNeg, Int.reduceToNat, Nat.reduceBEq, Nat.reduceEqDiff]
    exact weak_over (by repeat constructor) (.same ⟨⟨AV.idsL_iff.2 fun x hx => by obtain ⟨i, _, rfl⟩ := List.mem_map.1 hx; trivial, trivial⟩, trivial, trivial⟩)
  | false =>
    simp -implicitDefEqProofs (maxSteps := 99999999) (disch := omega) only [nums_length, va, vs, vh, Nat.reduceMul, ite_true, ite_false, eq_self, forall_const, implies_true, Nat.reduceAdd, Nat.reduceSub, Nat.reduceLT, Nat.reduceLeDiff, ↓reduceIte, reduceCtorEq, Int.reduceEq, Int.reduceLT, Int.reduceLE, Int.reduceGT, Int.reduceGE, Int.reduceAdd, Int.reduceSub, Int.reduceNeg, Int.reduceToNat, Nat.reduceBEq, Nat.reduceEqDiff]
    exact weak_over (by repeat constructor) (.same ⟨⟨AV.idsL_iff.2 fun x hx => by obtain ⟨i, _, rfl⟩ := List.mem_map.1 hx; trivial, trivial⟩, trivial, trivial⟩)
end Go.Proofs.Ytijnpkpcoeeioaa
