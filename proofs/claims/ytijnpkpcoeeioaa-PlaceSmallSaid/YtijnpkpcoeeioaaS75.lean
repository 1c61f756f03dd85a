/- The document's answers of paths. -/
import Derived.Test.YtijnpkpcoeeioaaS74
namespace Go.Proofs.Ytijnpkpcoeeioaa
open Go.RowKit
set_option maxRecDepth 100000
set_option linter.unusedVariables false
set_option linter.unusedSimpArgs false

theorem nthI_take {l : List Int} {n k : Nat} (h : k < n) : nthI (l.take n) k = nthI l k := by
  simp [nthI, List.getD, List.getElem?_take_of_lt h]
theorem underB_yes {a b : List Int} (hl : b.length ≤ a.length) (h : ∀ j, j < b.length → nthI a j = nthI b j) : underB a b = true := by
  unfold underB
  refine decide_eq_true ⟨hl, nthI_ext (by rw [List.length_take]; omega) fun i hi => ?_⟩
  rw [List.length_take] at hi
  rw [nthI_take (by omega)]
  exact h i (by omega)
theorem underB_no {a b : List Int} {k : Nat} (hk : k < b.length) (h : nthI a k ≠ nthI b k) : underB a b = false := by
  unfold underB
  refine decide_eq_false fun ⟨h1, h2⟩ => h ?_
  rw [← nthI_take (n := b.length) hk, h2]
theorem underB_long {a b : List Int} (h : a.length < b.length) : underB a b = false := by
  unfold underB
  exact decide_eq_false fun ⟨h1, _⟩ => by omega
theorem setL_yes {p l : List Int} {f : Int → Int} (h : l.length < p.length) (hu : underB p l = true) : setL p (atL p l) f = p.set l.length (f (nthI p l.length)) := by
  unfold atL
  rw [hu, if_pos rfl]
  exact if_pos h
theorem setL_no {p l : List Int} {f : Int → Int} (h : ¬ (l.length < p.length ∧ underB p l = true)) : setL p (atL p l) f = p := by
  unfold atL
  split
  · rename_i hu
    exact if_neg fun h2 => h ⟨h2, hu⟩
  · exact if_neg (Nat.lt_irrefl _)
theorem set_nth {p : List Int} {n : Nat} (h : n < p.length) : p.set n (nthI p n) = p := by
  rw [nthI_eq h]; exact List.set_getElem_self h

theorem refUnder_d (a b : List Int) (ra rb : Option (List AV)) (H : AHeap) (hl : a.length ≤ 100000000) : D Try.prog 17 [.lst 1 (nums a) ra, .lst 1 (nums b) rb] H (.ret (.sc (.bool (underB a b)))) H := by
  refine D_of_DK (Nat.le_refl _) (dk17 (E_of_ES ?_))
  simp -implicitDefEqProofs (maxSteps := 99999999) (disch := omega) only [ic17, nums_length, va, vs, vh, Nat.reduceMul, ite_true, ite_false, eq_self, forall_const, implies_true, Nat.reduceAdd, Nat.reduceSub, Nat.reduceLT, Nat.reduceLeDiff, ↓reduceIte, reduceCtorEq, Int.reduceEq, Int.reduceLT, Int.reduceLE, Int.reduceGT, Int.reduceGE, Int.reduceAdd, Int.reduceSub, Int.reduceNeg, Int.reduceToNat, Nat.reduceBEq, Nat.reduceEqDiff]
  refine condR_if (fun h => ?_) (fun h => ?_)
  · have e : underB a b = false := underB_long (by omega)
    simp -implicitDefEqProofs (maxSteps := 99999999) (disch := omega) only [e, va, vs, vh, Nat.reduceMul, ite_true, ite_false, eq_self, forall_const, implies_true, Nat.reduceAdd, Nat.reduceSub, Nat.reduceLT, Nat.reduceLeDiff, ↓reduceIte, reduceCtorEq, Int.reduceEq, Int.reduceLT, Int.reduceLE, Int.reduceGT, Int.reduceGE, Int.reduceAdd, Int.reduceSub, Int.reduceNeg, Int.reduceToNat, Nat.reduceBEq, Nat.reduceEqDiff]
    exact weak_sc .refl
  have h0 : b.length ≤ a.length := by omega
  simp -implicitDefEqProofs (maxSteps := 99999999) (disch := omega) only [va, vs, vh, Nat.reduceMul, ite_true, ite_false, eq_self, forall_const, implies_true, Nat.reduceAdd, Nat.reduceSub, Nat.reduceLT, Nat.reduceLeDiff, ↓reduceIte, reduceCtorEq, Int.reduceEq, Int.reduceLT, Int.reduceLE, Int.reduceGT, Int.reduceGE, Int.reduceAdd, Int.reduceSub, Int.reduceNeg, Int.reduceToNat, Nat.reduceBEq, Nat.reduceEqDiff]
  refine ES_loopL (fun ts H' => H' = H ∧ ∃ k : Nat, (k ≤ b.length ∧ ∀ j, j < k → nthI a j = nthI b j) ∧ Fr [some (.lst 1 (nums a) ra), some (.lst 1 (nums b) rb), none, none, some (.sc (.bool false)), some (.sc (.int .i64 k)), none, none, none, none, none, none, none, none, none, none, none, none, none, none, none, none, none, none, none, none] ts) (fun ts _ => b.length - (intV (ts.getD 5 .top)).toNat) ⟨rfl, 0, ⟨Nat.zero_le _, fun j h => absurd h (Nat.not_lt_zero _)⟩, by simp [Fr]⟩ ?_
  rintro ts _ ⟨rfl, k, ⟨hk, hp⟩, hfr⟩ L2 hL2
  obtain ⟨js, rfl⟩ := hfr.opened
  clear hfr
  simp -implicitDefEqProofs (maxSteps := 99999999) (disch := omega) only [mk, nums_length, va, vs, vh, Nat.reduceMul, ite_true, ite_false, eq_self, forall_const, implies_true, Nat.reduceAdd, Nat.reduceSub, Nat.reduceLT, Nat.reduceLeDiff, ↓reduceIte, reduceCtorEq, Int.reduceEq, Int.reduceLT, Int.reduceLE, Int.reduceGT, Int.reduceGE, Int.reduceAdd, Int.reduceSub, Int.reduceNeg, Int.reduceToNat, Nat.reduceBEq, Nat.reduceEqDiff]
  refine condR_if (fun h => ?_) (fun h => ?_)
  · have h1 : k < a.length := by omega
    have h2 : k < b.length := by omega
    simp -implicitDefEqProofs (maxSteps := 99999999) (disch := omega) only [nums_get h1, nums_get h2, nums_length, va, vs, vh, Nat.reduceMul, ite_true, ite_false, eq_self, forall_const, implies_true, Nat.reduceAdd, Nat.reduceSub, Nat.reduceLT, Nat.reduceLeDiff, ↓reduceIte, reduceCtorEq, Int.reduceEq, Int.reduceLT, Int.reduceLE, Int.reduceGT, Int.reduceGE, Int.reduceAdd, Int.reduceSub, Int.reduceNeg, Int.reduceToNat, Nat.reduceBEq, Nat.reduceEqDiff]
    refine ⟨by omega, by omega, condR_if (fun h => ?_) (fun h => ?_)⟩
    · have e : underB a b = false := underB_no h2 h
      simp -implicitDefEqProofs (maxSteps := 99999999) (disch := omega) only [e, va, vs, vh, Nat.reduceMul, ite_true, ite_false, eq_self, forall_const, implies_true, Nat.reduceAdd, Nat.reduceSub, Nat.reduceLT, Nat.reduceLeDiff, ↓reduceIte, reduceCtorEq, Int.reduceEq, Int.reduceLT, Int.reduceLE, Int.reduceGT, Int.reduceGE, Int.reduceAdd, Int.reduceSub, Int.reduceNeg, Int.reduceToNat, Nat.reduceBEq, Nat.reduceEqDiff]
      exact weak_sc .refl
    · simp -implicitDefEqProofs (maxSteps := 99999999) (disch := omega) only [va, vs, vh, Nat.reduceMul, ite_true, ite_false, eq_self, forall_const, implies_true, Nat.reduceAdd, Nat.reduceSub, Nat.reduceLT, Nat.reduceLeDiff, ↓reduceIte, reduceCtorEq, Int.reduceEq, Int.reduceLT, Int.reduceLE, Int.reduceGT, Int.reduceGE, Int.reduceAdd, Int.reduceSub, Int.reduceNeg, Int.reduceToNat, Nat.reduceBEq, Nat.reduceEqDiff]
      refine hL2 _ _ ⟨rfl, k + 1, ⟨by omega, fun j hj => ?_⟩, by simp [Fr]⟩ (by simp [intV, mk]; omega)
      rcases Nat.lt_succ_iff_lt_or_eq.1 hj with h' | rfl
      · exact hp j h'
      · exact Classical.not_not.1 h
  · have e : underB a b = true := underB_yes h0 fun j hj => hp j (by omega)
    simp -implicitDefEqProofs (maxSteps := 99999999) (disch := omega) only [e, va, vs, vh, Nat.reduceMul, ite_true, ite_false, eq_self, forall_const, implies_true, Nat.reduceAdd, Nat.reduceSub, Nat.reduceLT, Nat.reduceLeDiff, ↓reduceIte, reduceCtorEq, Int.reduceEq, Int.reduceLT, Int.reduceLE, Int.reduceGT, Int.reduceGE, Int.reduceAdd, Int.reduceSub, Int.reduceNeg, Int.reduceToNat, Nat.reduceBEq, Nat.reduceEqDiff]
    exact weak_sc .refl
theorem refCompare_d (a b : List Int) (ra rb : Option (List AV)) (H : AHeap) (ha : a.length ≤ 100000000) (hb : b.length ≤ 100000000) : D Try.prog 15 [.lst 1 (nums a) ra, .lst 1 (nums b) rb] H (.ret (.sc (.int .i64 (cmpL a b)))) H := by
  refine D_of_DK (Nat.le_refl _) (dk15 (E_of_ES ?_))
  simp -implicitDefEqProofs (maxSteps := 99999999) (disch := omega) only [ic15, nums_length, va, vs, vh, Nat.reduceMul, ite_true, ite_false, eq_self, forall_const, implies_true, Nat.reduceAdd, Nat.reduceSub, Nat.reduceLT, Nat.reduceLeDiff, ↓reduceIte, reduceCtorEq, Int.reduceEq, Int.reduceLT, Int.reduceLE, Int.reduceGT, Int.reduceGE, Int.reduceAdd, Int.reduceSub, Int.reduceNeg, Int.reduceToNat, Nat.reduceBEq, Nat.reduceEqDiff]
  refine ES_loopL (fun ts H' => H' = H ∧ ∃ k : Nat, (k ≤ a.length ∧ k ≤ b.length ∧ cmpL (a.drop k) (b.drop k) = cmpL a b) ∧ Fr [some (.lst 1 (nums a) ra), some (.lst 1 (nums b) rb), none, none, some (.sc (.int .i64 0)), some (.sc (.int .i64 k)), none, none, none, none, none, none, none, none, none, none, none, none, none, none, none, none, none, none, none, none, none, none, none, none, none, none, none, none, none, none, none, none, none, none, none, none, none, none, none, none] ts) (fun ts _ => a.length - (intV (ts.getD 5 .top)).toNat) ⟨rfl, 0, ⟨Nat.zero_le _, Nat.zero_le _, rfl⟩, by simp [Fr]⟩ ?_
  rintro ts _ ⟨rfl, k, ⟨hk, hk2, hp⟩, hfr⟩ L2 hL2
  obtain ⟨js, rfl⟩ := hfr.opened
  clear hfr
  have out : ∀ e, cmpL a b = e → True := fun _ _ => trivial
  by_cases h1 : k < a.length
  · have h1' : (k : Int) < a.length := by omega
    by_cases h2 : k < b.length
    · have h2' : (k : Int) < b.length := by omega
      have k0 : (0 : Int) ≤ k := by omega
      rw [cmpL_step h1 h2] at hp
      simp -implicitDefEqProofs (maxSteps := 99999999) (disch := omega) only [mk, nums_length, h1', h2', k0, nums_get h1, nums_get h2, va, vs, vh, Nat.reduceMul, ite_true, ite_false, eq_self, forall_const, implies_true, Nat.reduceAdd, Nat.reduceSub, Nat.reduceLT, Nat.reduceLeDiff, ↓reduceIte, reduceCtorEq, Int.reduceEq, Int.reduceLT, Int.reduceLE, Int.reduceGT, Int.reduceGE, Int.reduceAdd, Int.reduceSub, Int.reduceNeg, Int.reduceToNat, Nat.reduceBEq, Nat.reduceEqDiff]
      by_cases c : nthI a k < nthI b k
      · rw [if_pos c] at hp
        have e := hp.symm
        simp -implicitDefEqProofs (maxSteps := 99999999) (disch := omega) only [c, va, vs, vh, Nat.reduceMul, ite_true, ite_false, eq_self, forall_const, implies_true, Nat.reduceAdd, Nat.reduceSub, Nat.reduceLT, Nat.reduceLeDiff, ↓reduceIte, reduceCtorEq, Int.reduceEq, Int.reduceLT, Int.reduceLE, Int.reduceGT, Int.reduceGE, Int.reduceAdd, Int.reduceSub, Int.reduceNeg, Int.reduceToNat, Nat.reduceBEq, Nat.reduceEqDiff]
        simp -implicitDefEqProofs (maxSteps := 99999999) (disch := omega) only [e, va, vs, vh, Nat.reduceMul, ite_true, ite_false, eq_self, forall_const, implies_true, Nat.reduceAdd, Nat.reduceSub, Nat.reduceLT, Nat.reduceLeDiff, ↓reduceIte, reduceCtorEq, Int.reduceEq, Int.reduceLT, Int.reduceLE, Int.reduceGT, Int.reduceGE, Int.reduceAdd, Int.reduceSub, Int.reduceNeg, Int.reduceToNat, Nat.reduceBEq, Nat.reduceEqDiff]
        exact weak_sc .refl
      · rw [if_neg c] at hp
        simp -implicitDefEqProofs (maxSteps := 99999999) (disch := omega) only [c, mk, nums_length, h1', h2', k0, nums_get h1, nums_get h2, va, vs, vh, Nat.reduceMul, ite_true, ite_false, eq_self, forall_const, implies_true, Nat.reduceAdd, Nat.reduceSub, Nat.reduceLT, Nat.reduceLeDiff, ↓reduceIte, reduceCtorEq, Int.reduceEq, Int.reduceLT, Int.reduceLE, Int.reduceGT, Int.reduceGE, Int.reduceAdd, Int.reduceSub, Int.reduceNeg, Int.reduceToNat, Nat.reduceBEq, Nat.reduceEqDiff]
        by_cases c2 : nthI a k > nthI b k
        · rw [if_pos c2] at hp
          have e := hp.symm
          simp -implicitDefEqProofs (maxSteps := 99999999) (disch := omega) only [c2, va, vs, vh, Nat.reduceMul, ite_true, ite_false, eq_self, forall_const, implies_true, Nat.reduceAdd, Nat.reduceSub, Nat.reduceLT, Nat.reduceLeDiff, ↓reduceIte, reduceCtorEq, Int.reduceEq, Int.reduceLT, Int.reduceLE, Int.reduceGT, Int.reduceGE, Int.reduceAdd, Int.reduceSub, Int.reduceNeg, Int.reduceToNat, Nat.reduceBEq, Nat.reduceEqDiff]
          simp -implicitDefEqProofs (maxSteps := 99999999) (disch := omega) only [e, va, vs, vh, Nat.reduceMul, ite_true, ite_false, eq_self, forall_const, implies_true, Nat.reduceAdd, Nat.reduceSub, Nat.reduceLT, Nat.reduceLeDiff, ↓reduceIte, reduceCtorEq, Int.reduceEq, Int.reduceLT, Int.reduceLE, Int.reduceGT, Int.reduceGE, Int.reduceAdd, Int.reduceSub, Int.reduceNeg, Int.reduceToNat, Nat.reduceBEq, Nat.reduceEqDiff]
          exact weak_sc .refl
        · rw [if_neg c2] at hp
          simp -implicitDefEqProofs (maxSteps := 99999999) (disch := omega) only [c2, va, vs, vh, Nat.reduceMul, ite_true, ite_false, eq_self, forall_const, implies_true, Nat.reduceAdd, Nat.reduceSub, Nat.reduceLT, Nat.reduceLeDiff, ↓reduceIte, reduceCtorEq, Int.reduceEq, Int.reduceLT, Int.reduceLE, Int.reduceGT, Int.reduceGE, Int.reduceAdd, Int.reduceSub, Int.reduceNeg, Int.reduceToNat, Nat.reduceBEq, Nat.reduceEqDiff]
          exact hL2 _ _ ⟨rfl, k + 1, ⟨by omega, by omega, hp⟩, by simp [Fr]⟩ (by simp [intV, mk]; omega)
    · have h2' : ¬ (k : Int) < b.length := by omega
      have c : ¬ (a.length : Int) < b.length := by omega
      have c2 : (a.length : Int) > b.length := by omega
      have e : cmpL a b = 1 := hp.symm.trans (cmpL_right h1 (by omega))
      simp -implicitDefEqProofs (maxSteps := 99999999) (disch := omega) only [mk, nums_length, h1', h2', c, c2, e, va, vs, vh, Nat.reduceMul, ite_true, ite_false, eq_self, forall_const, implies_true, Nat.reduceAdd, Nat.reduceSub, Nat.reduceLT, Nat.reduceLeDiff, ↓reduceIte, reduceCtorEq, Int.reduceEq, Int.reduceLT, Int.reduceLE, Int.reduceGT, Int.reduceGE, Int.reduceAdd, Int.reduceSub, Int.reduceNeg, Int.reduceToNat, Nat.reduceBEq, Nat.reduceEqDiff]
      exact weak_sc .refl
  · have h1' : ¬ (k : Int) < a.length := by omega
    simp -implicitDefEqProofs (maxSteps := 99999999) (disch := omega) only [mk, nums_length, h1', va, vs, vh, Nat.reduceMul, ite_true, ite_false, eq_self, forall_const, implies_true, Nat.reduceAdd, Nat.reduceSub, Nat.reduceLT, Nat.reduceLeDiff, ↓reduceIte, reduceCtorEq, Int.reduceEq, Int.reduceLT, Int.reduceLE, Int.reduceGT, Int.reduceGE, Int.reduceAdd, Int.reduceSub, Int.reduceNeg, Int.reduceToNat, Nat.reduceBEq, Nat.reduceEqDiff]
    refine condR_if (fun h => ?_) (fun h => ?_)
    · have e : cmpL a b = -1 := hp.symm.trans (cmpL_left (by omega) (by omega))
      simp -implicitDefEqProofs (maxSteps := 99999999) (disch := omega) only [e, va, vs, vh, Nat.reduceMul, ite_true, ite_false, eq_self, forall_const, implies_true, Nat.reduceAdd, Nat.reduceSub, Nat.reduceLT, Nat.reduceLeDiff, ↓reduceIte, reduceCtorEq, Int.reduceEq, Int.reduceLT, Int.reduceLE, Int.reduceGT, Int.reduceGE, Int.reduceAdd, Int.reduceSub, Int.reduceNeg, Int.reduceToNat, Nat.reduceBEq, Nat.reduceEqDiff]
      exact weak_sc .refl
    · have c2 : ¬ (a.length : Int) > b.length := by omega
      have e : cmpL a b = 0 := hp.symm.trans (cmpL_both (by omega) (by omega))
      simp -implicitDefEqProofs (maxSteps := 99999999) (disch := omega) only [nums_length, c2, e, va, vs, vh, Nat.reduceMul, ite_true, ite_false, eq_self, forall_const, implies_true, Nat.reduceAdd, Nat.reduceSub, Nat.reduceLT, Nat.reduceLeDiff, ↓reduceIte, reduceCtorEq, Int.reduceEq, Int.reduceLT, Int.reduceLE, Int.reduceGT, Int.reduceGE, Int.reduceAdd, Int.reduceSub, Int.reduceNeg, Int.reduceToNat, Nat.reduceBEq, Nat.reduceEqDiff]
      exact weak_sc .refl
theorem refThrough_d (p l : List Int) (ra rb : Option (List AV)) (H : AHeap) (hl : p.length ≤ 100000000) : D Try.prog 26 [.lst 1 (nums p) ra, .lst 1 (nums l) rb] H (.ret (.tup [.sc (.int .i64 (if l.length < p.length ∧ underB p l = true then nthI p l.length else 0)), .sc (.bool (decide (l.length < p.length ∧ underB p l = true)))])) H := by
  refine D_of_DK (Nat.le_refl _) (dk26 (E_of_ES ?_))
  by_cases c : l.length < p.length
  · have c1 : ¬ (p.length : Int) ≤ l.length := by omega
    have c2 : (l.length : Int) < p.length := by omega
    have c0 : (0 : Int) ≤ l.length := by omega
    simp -implicitDefEqProofs (maxSteps := 99999999) (disch := omega) only [ic26, nums_length, c1, va, vs, vh, Nat.reduceMul, ite_true, ite_false, eq_self, forall_const, implies_true, Nat.reduceAdd, Nat.reduceSub, Nat.reduceLT, Nat.reduceLeDiff, ↓reduceIte, reduceCtorEq, Int.reduceEq, Int.reduceLT, Int.reduceLE, Int.reduceGT, Int.reduceGE, Int.reduceAdd, Int.reduceSub, Int.reduceNeg, Int.reduceToNat, Nat.reduceBEq, Nat.reduceEqDiff]
    refine callR_ret (refUnder_d p l _ _ _ hl) ?_
    cases hu : underB p l with
    | true =>
      rw [if_pos ⟨c, rfl⟩, decide_eq_true (show l.length < p.length ∧ true = true from ⟨c, rfl⟩)]
      simp -implicitDefEqProofs (maxSteps := 99999999) (disch := omega) only [nums_length, c0, c2, nums_get c, va, vs, vh, Nat.reduceMul, ite_true, ite_false, eq_self, forall_const, implies_true, Nat.reduceAdd, Nat.reduceSub, Nat.reduceLT, Nat.reduceLeDiff, ↓reduceIte, reduceCtorEq, Int.reduceEq, Int.reduceLT, Int.reduceLE, Int.reduceGT, Int.reduceGE, Int.reduceAdd, Int.reduceSub, Int.reduceNeg, Int.reduceToNat, Nat.reduceBEq, Nat.reduceEqDiff]
      exact Weak.refl _ _ _
    | false =>
      rw [if_neg (fun h => by simp at h), decide_eq_false (fun h : l.length < p.length ∧ false = true => by simp at h)]
      simp -implicitDefEqProofs (maxSteps := 99999999) (disch := omega) only [va, vs, vh, Nat.reduceMul, ite_true, ite_false, eq_self, forall_const, implies_true, Nat.reduceAdd, Nat.reduceSub, Nat.reduceLT, Nat.reduceLeDiff, ↓reduceIte, reduceCtorEq, Int.reduceEq, Int.reduceLT, Int.reduceLE, Int.reduceGT, Int.reduceGE, Int.reduceAdd, Int.reduceSub, Int.reduceNeg, Int.reduceToNat, Nat.reduceBEq, Nat.reduceEqDiff]
      exact Weak.refl _ _ _
  · have c1 : (p.length : Int) ≤ l.length := by omega
    rw [if_neg (fun h => c h.1), decide_eq_false (fun h => c h.1)]
    simp -implicitDefEqProofs (maxSteps := 99999999) (disch := omega) only [ic26, nums_length, c1, va, vs, vh, Nat.reduceMul, ite_true, ite_false, eq_self, forall_const, implies_true, Nat.reduceAdd, Nat.reduceSub, Nat.reduceLT, Nat.reduceLeDiff, ↓reduceIte, reduceCtorEq, Int.reduceEq, Int.reduceLT, Int.reduceLE, Int.reduceGT, Int.reduceGE, Int.reduceAdd, Int.reduceSub, Int.reduceNeg, Int.reduceToNat, Nat.reduceBEq, Nat.reduceEqDiff]
    exact Weak.refl _ _ _
/-- A fresh row of numbers, told as a list. -/
theorem fzI_fresh {H : AHeap} {k n id : Nat} {l : List Int} {b : ABlk} {m : Nat} {c : Option Nat} (hf : AHeap.find H id = some b) (hb : b.es = nums l) (hk : b.k = k) (hm : m = l.length) (h : n ≤ id) : Fz H n (.vec k id 0 m c) (.lst k (nums l) none) :=
  .vec h hf hk (by rw [hb, nums_length, hm]; omega) (by
    rw [hb, hm, List.drop_zero, ← nums_length l, List.take_length]
    exact nums_fz)
theorem nums_idsL {p : Nat → Prop} : ∀ {l : List Int}, AV.idsL p (nums l)
  | [] => trivial
  | _ :: r => ⟨trivial, nums_idsL (l := r)⟩
theorem refTo_d (p : List Int) (n : Nat) (v : Int) (ra : Option (List AV)) (H : AHeap) (hl : p.length ≤ 100000000) (hn : n < p.length) : D Try.prog 27 [.lst 1 (nums p) ra, .sc (.int .i64 n), .sc (.int .i64 v)] H (.ret (.lst 1 (nums (p.set n v)) none)) H := by
  refine D_of_DK (Nat.le_refl _) (dk27 (E_of_ES ?_))
  have h' : (n : Int) < p.length := by omega
  have h0 : (0 : Int) ≤ n := by omega
  obtain ⟨x, xs, e⟩ : ∃ x xs, nums p = x :: xs := by
    cases p with
    | nil => simp at hn
    | cons a r => exact ⟨_, _, rfl⟩
  have hxl : (x :: xs).length = p.length := by rw [← e, nums_length]
  have hg := nums_get hn
  have hs := nums_set (l := p) (n := n) (v := v)
  have hxs : xs.length + 1 = p.length := hxl
  rw [e] at hg hs
  rw [e]
  simp -implicitDefEqProofs (maxSteps := 99999999) (disch := omega) only [ic27, hn, h', h0, hxs, hg, hs, va, vs, vh, Nat.reduceMul, ite_true, ite_false, eq_self, forall_const, implies_true, Nat.reduceAdd, Nat.reduceSub, Nat.reduceLT, Nat.reduceLeDiff, ↓reduceIte, reduceCtorEq, Int.reduceEq, Int.reduceLT, Int.reduceLE, Int.reduceGT, Int.reduceGE, Int.reduceAdd, Int.reduceSub, Int.reduceNeg, Int.reduceToNat, Nat.reduceBEq, Nat.reduceEqDiff]
  exact ⟨hl, weak_over (by repeat constructor) (fzI_fresh (l := p.set n v) (b := ⟨1, nums (p.set n v), false, 3⟩) (by simp -implicitDefEqProofs (maxSteps := 99999999) (disch := omega) only [va, vs, vh, Nat.reduceMul, ite_true, ite_false, eq_self, forall_const, implies_true, Nat.reduceAdd, Nat.reduceSub, Nat.reduceLT, Nat.reduceLeDiff, ↓reduceIte, reduceCtorEq, Int.reduceEq, Int.reduceLT, Int.reduceLE, Int.reduceGT, Int.reduceGE, Int.reduceAdd, Int.reduceSub, Int.reduceNeg, Int.reduceToNat, Nat.reduceBEq, Nat.reduceEqDiff]) rfl rfl (by simp) (by omega))⟩
theorem refInserted_d (p l : List Int) (a : Int) (ra rb : Option (List AV)) (H : AHeap) (hs : small p) : D Try.prog 9 [.lst 1 (nums p) ra, .lst 1 (nums l) rb, .sc (.int .i64 a)] H (.ret (.lst 1 (nums (insP p l a)) none)) H := by
  have hl := hs.1
  refine D_of_DK (Nat.le_refl _) (dk9 (E_of_ES ?_))
  simp -implicitDefEqProofs (maxSteps := 99999999) (disch := omega) only [ic9, va, vs, vh, Nat.reduceMul, ite_true, ite_false, eq_self, forall_const, implies_true, Nat.reduceAdd, Nat.reduceSub, Nat.reduceLT, Nat.reduceLeDiff, ↓reduceIte, reduceCtorEq, Int.reduceEq, Int.reduceLT, Int.reduceLE, Int.reduceGT, Int.reduceGE, Int.reduceAdd, Int.reduceSub, Int.reduceNeg, Int.reduceToNat, Nat.reduceBEq, Nat.reduceEqDiff]
  refine callR_ret (refThrough_d p l _ _ _ hl) ?_
  by_cases ht : l.length < p.length ∧ underB p l = true
  · have hr := setL_yes (f := upF a) ht.1 ht.2
    have hk := hs.nth ht.1
    have hset := set_nth ht.1
    rw [if_pos ht, decide_eq_true ht]
    by_cases c : nthI p l.length < a
    · have e : insP p l a = p := by rw [insP, hr, upF, if_neg (by omega), hset]
      rw [e]
      simp -implicitDefEqProofs (maxSteps := 99999999) (disch := omega) only [c, va, vs, vh, Nat.reduceMul, ite_true, ite_false, eq_self, forall_const, implies_true, Nat.reduceAdd, Nat.reduceSub, Nat.reduceLT, Nat.reduceLeDiff, ↓reduceIte, reduceCtorEq, Int.reduceEq, Int.reduceLT, Int.reduceLE, Int.reduceGT, Int.reduceGE, Int.reduceAdd, Int.reduceSub, Int.reduceNeg, Int.reduceToNat, Nat.reduceBEq, Nat.reduceEqDiff]
      clear e hset hk hr ht c hs
      cases p with
      | nil =>
        simp -implicitDefEqProofs (maxSteps := 99999999) (disch := omega) only [nums_nil, va, vs, vh, Nat.reduceMul, ite_true, ite_false, eq_self, forall_const, implies_true, Nat.reduceAdd, Nat.reduceSub, Nat.reduceLT, Nat.reduceLeDiff, ↓reduceIte, reduceCtorEq, Int.reduceEq, Int.reduceLT, Int.reduceLE, Int.reduceGT, Int.reduceGE, Int.reduceAdd, Int.reduceSub, Int.reduceNeg, Int.reduceToNat, Nat.reduceBEq, Nat.reduceEqDiff]
        exact weak_over (by repeat constructor) .nil
      | cons x r =>
        simp only [List.length_cons] at hl
        simp -implicitDefEqProofs (maxSteps := 99999999) (disch := omega) only [nums_cons, nums_length, va, vs, vh, Nat.reduceMul, ite_true, ite_false, eq_self, forall_const, implies_true, Nat.reduceAdd, Nat.reduceSub, Nat.reduceLT, Nat.reduceLeDiff, ↓reduceIte, reduceCtorEq, Int.reduceEq, Int.reduceLT, Int.reduceLE, Int.reduceGT, Int.reduceGE, Int.reduceAdd, Int.reduceSub, Int.reduceNeg, Int.reduceToNat, Nat.reduceBEq, Nat.reduceEqDiff]
        exact ⟨by omega, weak_over (by repeat constructor) (fzI_fresh (l := x :: r) (b := ⟨1, nums (x :: r), false, 3⟩) (by simp -implicitDefEqProofs (maxSteps := 99999999) (disch := omega) only [nums_cons, va, vs, vh, Nat.reduceMul, ite_true, ite_false, eq_self, forall_const, implies_true, Nat.reduceAdd, Nat.reduceSub, Nat.reduceLT, Nat.reduceLeDiff, ↓reduceIte, reduceCtorEq, Int.reduceEq, Int.reduceLT, Int.reduceLE, Int.reduceGT, Int.reduceGE, Int.reduceAdd, Int.reduceSub, Int.reduceNeg, Int.reduceToNat, Nat.reduceBEq, Nat.reduceEqDiff]) rfl rfl rfl (by omega))⟩
    · have e : insP p l a = p.set l.length (nthI p l.length + 1) := by rw [insP, hr, upF, if_pos (by omega)]
      rw [e]
      simp -implicitDefEqProofs (maxSteps := 99999999) (disch := omega) only [c, nums_length, va, vs, vh, Nat.reduceMul, ite_true, ite_false, eq_self, forall_const, implies_true, Nat.reduceAdd, Nat.reduceSub, Nat.reduceLT, Nat.reduceLeDiff, ↓reduceIte, reduceCtorEq, Int.reduceEq, Int.reduceLT, Int.reduceLE, Int.reduceGT, Int.reduceGE, Int.reduceAdd, Int.reduceSub, Int.reduceNeg, Int.reduceToNat, Nat.reduceBEq, Nat.reduceEqDiff]
      refine callR_ret (refTo_d p l.length _ _ _ hl ht.1) ?_
      simp -implicitDefEqProofs (maxSteps := 99999999) (disch := omega) only [va, vs, vh, Nat.reduceMul, ite_true, ite_false, eq_self, forall_const, implies_true, Nat.reduceAdd, Nat.reduceSub, Nat.reduceLT, Nat.reduceLeDiff, ↓reduceIte, reduceCtorEq, Int.reduceEq, Int.reduceLT, Int.reduceLE, Int.reduceGT, Int.reduceGE, Int.reduceAdd, Int.reduceSub, Int.reduceNeg, Int.reduceToNat, Nat.reduceBEq, Nat.reduceEqDiff]
      exact weak_over (by repeat constructor) (.same ⟨nums_idsL, trivial⟩)
  · have e : insP p l a = p := setL_no ht
    rw [if_neg ht, decide_eq_false ht, e]
    simp -implicitDefEqProofs (maxSteps := 99999999) (disch := omega) only [va, vs, vh, Nat.reduceMul, ite_true, ite_false, eq_self, forall_const, implies_true, Nat.reduceAdd, Nat.reduceSub, Nat.reduceLT, Nat.reduceLeDiff, ↓reduceIte, reduceCtorEq, Int.reduceEq, Int.reduceLT, Int.reduceLE, Int.reduceGT, Int.reduceGE, Int.reduceAdd, Int.reduceSub, Int.reduceNeg, Int.reduceToNat, Nat.reduceBEq, Nat.reduceEqDiff]
    clear e ht hs
    cases p with
    | nil =>
      simp -implicitDefEqProofs (maxSteps := 99999999) (disch := omega) only [nums_nil, va, vs, vh, Nat.reduceMul, ite_true, ite_false, eq_self, forall_const, implies_true, Nat.reduceAdd, Nat.reduceSub, Nat.reduceLT, Nat.reduceLeDiff, ↓reduceIte, reduceCtorEq, Int.reduceEq, Int.reduceLT, Int.reduceLE, Int.reduceGT, Int.reduceGE, Int.reduceAdd, Int.reduceSub, Int.reduceNeg, Int.reduceToNat, Nat.reduceBEq, Nat.reduceEqDiff]
      exact weak_over (by repeat constructor) .nil
    | cons x r =>
      simp only [List.length_cons] at hl
      simp -implicitDefEqProofs (maxSteps := 99999999) (disch := omega) only [nums_cons, nums_length, va, vs, vh, Nat.reduceMul, ite_true, ite_false, eq_self, forall_const, implies_true, Nat.reduceAdd, Nat.reduceSub, Nat.reduceLT, Nat.reduceLeDiff, ↓reduceIte, reduceCtorEq, Int.reduceEq, Int.reduceLT, Int.reduceLE, Int.reduceGT, Int.reduceGE, Int.reduceAdd, Int.reduceSub, Int.reduceNeg, Int.reduceToNat, Nat.reduceBEq, Nat.reduceEqDiff]
      exact ⟨by omega, weak_over (by repeat constructor) (fzI_fresh (l := x :: r) (b := ⟨1, nums (x :: r), false, 3⟩) (by simp -implicitDefEqProofs (maxSteps := 99999999) (disch := omega) only [nums_cons, va, vs, vh, Nat.reduceMul, ite_true, ite_false, eq_self, forall_const, implies_true, Nat.reduceAdd, Nat.reduceSub, Nat.reduceLT, Nat.reduceLeDiff, ↓reduceIte, reduceCtorEq, Int.reduceEq, Int.reduceLT, Int.reduceLE, Int.reduceGT, Int.reduceGE, Int.reduceAdd, Int.reduceSub, Int.reduceNeg, Int.reduceToNat, Nat.reduceBEq, Nat.reduceEqDiff]) rfl rfl rfl (by omega))⟩
theorem refDeleted_d (p l : List Int) (a : Int) (ra rb : Option (List AV)) (H : AHeap) (hs : small p) : D Try.prog 11 [.lst 1 (nums p) ra, .lst 1 (nums l) rb, .sc (.int .i64 a)] H (.ret (.tup [.lst 1 (nums (delO p l a)) none, .sc (.bool (!goneP p l a))])) H := by
  have hl := hs.1
  refine D_of_DK (Nat.le_refl _) (dk11 (E_of_ES ?_))
  simp -implicitDefEqProofs (maxSteps := 99999999) (disch := omega) only [ic11, va, vs, vh, Nat.reduceMul, ite_true, ite_false, eq_self, forall_const, implies_true, Nat.reduceAdd, Nat.reduceSub, Nat.reduceLT, Nat.reduceLeDiff, ↓reduceIte, reduceCtorEq, Int.reduceEq, Int.reduceLT, Int.reduceLE, Int.reduceGT, Int.reduceGE, Int.reduceAdd, Int.reduceSub, Int.reduceNeg, Int.reduceToNat, Nat.reduceBEq, Nat.reduceEqDiff]
  refine callR_ret (refThrough_d p l _ _ _ hl) ?_
  by_cases ht : l.length < p.length ∧ underB p l = true
  · have hr := setL_yes (f := downF a) ht.1 ht.2
    have hk := hs.nth ht.1
    have hset := set_nth ht.1
    rw [if_pos ht, decide_eq_true ht]
    by_cases c : nthI p l.length < a
    · have hg : goneP p l a = false := by simp [goneP]; omega
      have e : delO p l a = p := by rw [delO, hg, if_neg (by simp), delP, hr, downF, if_neg (by omega), hset]
      rw [e, hg]
      simp -implicitDefEqProofs (maxSteps := 99999999) (disch := omega) only [c, va, vs, vh, Nat.reduceMul, ite_true, ite_false, eq_self, forall_const, implies_true, Nat.reduceAdd, Nat.reduceSub, Nat.reduceLT, Nat.reduceLeDiff, ↓reduceIte, reduceCtorEq, Int.reduceEq, Int.reduceLT, Int.reduceLE, Int.reduceGT, Int.reduceGE, Int.reduceAdd, Int.reduceSub, Int.reduceNeg, Int.reduceToNat, Nat.reduceBEq, Nat.reduceEqDiff]
      clear e hset hk hr ht c hs hg
      cases p with
      | nil =>
        simp -implicitDefEqProofs (maxSteps := 99999999) (disch := omega) only [nums_nil, va, vs, vh, Nat.reduceMul, ite_true, ite_false, eq_self, forall_const, implies_true, Nat.reduceAdd, Nat.reduceSub, Nat.reduceLT, Nat.reduceLeDiff, ↓reduceIte, reduceCtorEq, Int.reduceEq, Int.reduceLT, Int.reduceLE, Int.reduceGT, Int.reduceGE, Int.reduceAdd, Int.reduceSub, Int.reduceNeg, Int.reduceToNat, Nat.reduceBEq, Nat.reduceEqDiff]
        exact weak_over (by repeat constructor) (.tup (.cons .nil (.cons (.same trivial) .nil)))
      | cons x r =>
        simp only [List.length_cons] at hl
        simp -implicitDefEqProofs (maxSteps := 99999999) (disch := omega) only [nums_cons, nums_length, va, vs, vh, Nat.reduceMul, ite_true, ite_false, eq_self, forall_const, implies_true, Nat.reduceAdd, Nat.reduceSub, Nat.reduceLT, Nat.reduceLeDiff, ↓reduceIte, reduceCtorEq, Int.reduceEq, Int.reduceLT, Int.reduceLE, Int.reduceGT, Int.reduceGE, Int.reduceAdd, Int.reduceSub, Int.reduceNeg, Int.reduceToNat, Nat.reduceBEq, Nat.reduceEqDiff]
        exact ⟨by omega, weak_over (by repeat constructor) (.tup (.cons (fzI_fresh (l := x :: r) (b := ⟨1, nums (x :: r), false, 3⟩) (by simp -implicitDefEqProofs (maxSteps := 99999999) (disch := omega) only [nums_cons, va, vs, vh, Nat.reduceMul, ite_true, ite_false, eq_self, forall_const, implies_true, Nat.reduceAdd, Nat.reduceSub, Nat.reduceLT, Nat.reduceLeDiff, ↓reduceIte, reduceCtorEq, Int.reduceEq, Int.reduceLT, Int.reduceLE, Int.reduceGT, Int.reduceGE, Int.reduceAdd, Int.reduceSub, Int.reduceNeg, Int.reduceToNat, Nat.reduceBEq, Nat.reduceEqDiff]) rfl rfl rfl (by omega)) (.cons (.same trivial) .nil)))⟩
    · by_cases c2 : nthI p l.length = a
      · have hg : goneP p l a = true := by simp [goneP, ht, c2]
        have e : delO p l a = [] := by rw [delO, hg, if_pos rfl]
        rw [e, hg]
        simp -implicitDefEqProofs (maxSteps := 99999999) (disch := omega) only [c, c2, nums_nil, Int.lt_irrefl, decide_false, va, vs, vh, Nat.reduceMul, ite_true, ite_false, eq_self, forall_const, implies_true, Nat.reduceAdd, Nat.reduceSub, Nat.reduceLT, Nat.reduceLeDiff, ↓reduceIte, reduceCtorEq, Int.reduceEq, Int.reduceLT, Int.reduceLE, Int.reduceGT, Int.reduceGE, Int.reduceAdd, Int.reduceSub, Int.reduceNeg, Int.reduceToNat, Nat.reduceBEq, Nat.reduceEqDiff]
        exact weak_over (by repeat constructor) (.tup (.cons .nil (.cons (.same trivial) .nil)))
      · have hg : goneP p l a = false := by simp [goneP, c2]
        have e : delO p l a = p.set l.length (nthI p l.length - 1) := by rw [delO, hg, if_neg (by simp), delP, hr, downF, if_pos (by omega)]
        rw [e, hg]
        simp -implicitDefEqProofs (maxSteps := 99999999) (disch := omega) only [c, c2, nums_length, va, vs, vh, Nat.reduceMul, ite_true, ite_false, eq_self, forall_const, implies_true, Nat.reduceAdd, Nat.reduceSub, Nat.reduceLT, Nat.reduceLeDiff, ↓reduceIte, reduceCtorEq, Int.reduceEq, Int.reduceLT, Int.reduceLE, Int.reduceGT, Int.reduceGE, Int.reduceAdd, Int.reduceSub, Int.reduceNeg, Int.reduceToNat, Nat.reduceBEq, Nat.reduceEqDiff]
        refine callR_ret (refTo_d p l.length _ _ _ hl ht.1) ?_
        simp -implicitDefEqProofs (maxSteps := 99999999) (disch := omega) only [va, vs, vh, Nat.reduceMul, ite_true, ite_false, eq_self, forall_const, implies_true, Nat.reduceAdd, Nat.reduceSub, Nat.reduceLT, Nat.reduceLeDiff, ↓reduceIte, reduceCtorEq, Int.reduceEq, Int.reduceLT, Int.reduceLE, Int.reduceGT, Int.reduceGE, Int.reduceAdd, Int.reduceSub, Int.reduceNeg, Int.reduceToNat, Nat.reduceBEq, Nat.reduceEqDiff]
        exact weak_over (by repeat constructor) (.same ⟨⟨nums_idsL, trivial⟩, trivial, trivial⟩)
  · have hg : goneP p l a = false := by
      unfold goneP
      cases hu : underB p l <;> simp [hu] at ht ⊢
      omega
    have e : delO p l a = p := by rw [delO, hg, if_neg (by simp)]; exact setL_no ht
    rw [if_neg ht, decide_eq_false ht, e, hg]
    simp -implicitDefEqProofs (maxSteps := 99999999) (disch := omega) only [va, vs, vh, Nat.reduceMul, ite_true, ite_false, eq_self, forall_const, implies_true, Nat.reduceAdd, Nat.reduceSub, Nat.reduceLT, Nat.reduceLeDiff, ↓reduceIte, reduceCtorEq, Int.reduceEq, Int.reduceLT, Int.reduceLE, Int.reduceGT, Int.reduceGE, Int.reduceAdd, Int.reduceSub, Int.reduceNeg, Int.reduceToNat, Nat.reduceBEq, Nat.reduceEqDiff]
    clear e ht hs hg
    cases p with
    | nil =>
      simp -implicitDefEqProofs (maxSteps := 99999999) (disch := omega) only [nums_nil, va, vs, vh, Nat.reduceMul, ite_true, ite_false, eq_self, forall_const, implies_true, Nat.reduceAdd, Nat.reduceSub, Nat.reduceLT, Nat.reduceLeDiff, ↓reduceIte, reduceCtorEq, Int.reduceEq, Int.reduceLT, Int.reduceLE, Int.reduceGT, Int.reduceGE, Int.reduceAdd, Int.reduceSub, Int.reduceNeg, Int.reduceToNat, Nat.reduceBEq, Nat.reduceEqDiff]
      exact weak_over (by repeat constructor) (.tup (.cons .nil (.cons (.same trivial) .nil)))
    | cons x r =>
      simp only [List.length_cons] at hl
      simp -implicitDefEqProofs (maxSteps := 99999999) (disch := omega) only [nums_cons, nums_length, va, vs, vh, Nat.reduceMul, ite_true, ite_false, eq_self, forall_const, implies_true, Nat.reduceAdd, Nat.reduceSub, Nat.reduceLT, Nat.reduceLeDiff, ↓reduceIte, reduceCtorEq, Int.reduceEq, Int.reduceLT, Int.reduceLE, Int.reduceGT, Int.reduceGE, Int.reduceAdd, Int.reduceSub, Int.reduceNeg, Int.reduceToNat, Nat.reduceBEq, Nat.reduceEqDiff]
      exact ⟨by omega, weak_over (by repeat constructor) (.tup (.cons (fzI_fresh (l := x :: r) (b := ⟨1, nums (x :: r), false, 3⟩) (by simp -implicitDefEqProofs (maxSteps := 99999999) (disch := omega) only [nums_cons, va, vs, vh, Nat.reduceMul, ite_true, ite_false, eq_self, forall_const, implies_true, Nat.reduceAdd, Nat.reduceSub, Nat.reduceLT, Nat.reduceLeDiff, ↓reduceIte, reduceCtorEq, Int.reduceEq, Int.reduceLT, Int.reduceLE, Int.reduceGT, Int.reduceGE, Int.reduceAdd, Int.reduceSub, Int.reduceNeg, Int.reduceToNat, Nat.reduceBEq, Nat.reduceEqDiff]) rfl rfl rfl (by omega)) (.cons (.same trivial) .nil)))⟩
theorem refMoved_d (p l : List Int) (f t : Int) (ra rb : Option (List AV)) (H : AHeap) (hs : small p) : D Try.prog 13 [.lst 1 (nums p) ra, .lst 1 (nums l) rb, .sc (.int .i64 f), .sc (.int .i64 t)] H (.ret (.lst 1 (nums (movP p l f t)) none)) H := by
  have hl := hs.1
  refine D_of_DK (Nat.le_refl _) (dk13 (E_of_ES ?_))
  simp -implicitDefEqProofs (maxSteps := 99999999) (disch := omega) only [ic13, va, vs, vh, Nat.reduceMul, ite_true, ite_false, eq_self, forall_const, implies_true, Nat.reduceAdd, Nat.reduceSub, Nat.reduceLT, Nat.reduceLeDiff, ↓reduceIte, reduceCtorEq, Int.reduceEq, Int.reduceLT, Int.reduceLE, Int.reduceGT, Int.reduceGE, Int.reduceAdd, Int.reduceSub, Int.reduceNeg, Int.reduceToNat, Nat.reduceBEq, Nat.reduceEqDiff]
  refine callR_ret (refThrough_d p l _ _ _ hl) ?_
  by_cases ht : l.length < p.length ∧ underB p l = true
  · have hr := setL_yes (f := movF f t) ht.1 ht.2
    have hk := hs.nth ht.1
    rw [if_pos ht, decide_eq_true ht]
    have done : ∀ v : Int, movF f t (nthI p l.length) = v → movP p l f t = p.set l.length v := fun v h => by rw [movP, hr, h]
    by_cases c : nthI p l.length = f
    · rw [done t (by rw [movF, if_pos c])]
      simp -implicitDefEqProofs (maxSteps := 99999999) (disch := omega) only [c, nums_length, va, vs, vh, Nat.reduceMul, ite_true, ite_false, eq_self, forall_const, implies_true, Nat.reduceAdd, Nat.reduceSub, Nat.reduceLT, Nat.reduceLeDiff, ↓reduceIte, reduceCtorEq, Int.reduceEq, Int.reduceLT, Int.reduceLE, Int.reduceGT, Int.reduceGE, Int.reduceAdd, Int.reduceSub, Int.reduceNeg, Int.reduceToNat, Nat.reduceBEq, Nat.reduceEqDiff]
      refine callR_ret (refTo_d p l.length _ _ _ hl ht.1) ?_
      simp -implicitDefEqProofs (maxSteps := 99999999) (disch := omega) only [va, vs, vh, Nat.reduceMul, ite_true, ite_false, eq_self, forall_const, implies_true, Nat.reduceAdd, Nat.reduceSub, Nat.reduceLT, Nat.reduceLeDiff, ↓reduceIte, reduceCtorEq, Int.reduceEq, Int.reduceLT, Int.reduceLE, Int.reduceGT, Int.reduceGE, Int.reduceAdd, Int.reduceSub, Int.reduceNeg, Int.reduceToNat, Nat.reduceBEq, Nat.reduceEqDiff]
      exact weak_over (by repeat constructor) (.same ⟨nums_idsL, trivial⟩)
    · rw [done _ (by rw [movF, if_neg c])]
      clear done hr
      unfold upF downF
      generalize nthI p l.length = k at *
      by_cases c1 : k > f
      · rw [if_pos c1]
        by_cases c2 : k - 1 ≥ t
        · rw [if_pos c2]
          simp -implicitDefEqProofs (maxSteps := 99999999) (disch := omega) only [c, c1, c2, nums_length, va, vs, vh, Nat.reduceMul, ite_true, ite_false, eq_self, forall_const, implies_true, Nat.reduceAdd, Nat.reduceSub, Nat.reduceLT, Nat.reduceLeDiff, ↓reduceIte, reduceCtorEq, Int.reduceEq, Int.reduceLT, Int.reduceLE, Int.reduceGT, Int.reduceGE, Int.reduceAdd, Int.reduceSub, Int.reduceNeg, Int.reduceToNat, Nat.reduceBEq, Nat.reduceEqDiff]
          refine callR_ret (refTo_d p l.length _ _ _ hl ht.1) ?_
          simp -implicitDefEqProofs (maxSteps := 99999999) (disch := omega) only [va, vs, vh, Nat.reduceMul, ite_true, ite_false, eq_self, forall_const, implies_true, Nat.reduceAdd, Nat.reduceSub, Nat.reduceLT, Nat.reduceLeDiff, ↓reduceIte, reduceCtorEq, Int.reduceEq, Int.reduceLT, Int.reduceLE, Int.reduceGT, Int.reduceGE, Int.reduceAdd, Int.reduceSub, Int.reduceNeg, Int.reduceToNat, Nat.reduceBEq, Nat.reduceEqDiff]
          exact weak_over (by repeat constructor) (.same ⟨nums_idsL, trivial⟩)
        · rw [if_neg c2]
          simp -implicitDefEqProofs (maxSteps := 99999999) (disch := omega) only [c, c1, c2, nums_length, va, vs, vh, Nat.reduceMul, ite_true, ite_false, eq_self, forall_const, implies_true, Nat.reduceAdd, Nat.reduceSub, Nat.reduceLT, Nat.reduceLeDiff, ↓reduceIte, reduceCtorEq, Int.reduceEq, Int.reduceLT, Int.reduceLE, Int.reduceGT, Int.reduceGE, Int.reduceAdd, Int.reduceSub, Int.reduceNeg, Int.reduceToNat, Nat.reduceBEq, Nat.reduceEqDiff]
          refine callR_ret (refTo_d p l.length _ _ _ hl ht.1) ?_
          simp -implicitDefEqProofs (maxSteps := 99999999) (disch := omega) only [va, vs, vh, Nat.reduceMul, ite_true, ite_false, eq_self, forall_const, implies_true, Nat.reduceAdd, Nat.reduceSub, Nat.reduceLT, Nat.reduceLeDiff, ↓reduceIte, reduceCtorEq, Int.reduceEq, Int.reduceLT, Int.reduceLE, Int.reduceGT, Int.reduceGE, Int.reduceAdd, Int.reduceSub, Int.reduceNeg, Int.reduceToNat, Nat.reduceBEq, Nat.reduceEqDiff]
          exact weak_over (by repeat constructor) (.same ⟨nums_idsL, trivial⟩)
      · rw [if_neg c1]
        by_cases c2 : k ≥ t
        · rw [if_pos c2]
          simp -implicitDefEqProofs (maxSteps := 99999999) (disch := omega) only [c, c1, c2, nums_length, va, vs, vh, Nat.reduceMul, ite_true, ite_false, eq_self, forall_const, implies_true, Nat.reduceAdd, Nat.reduceSub, Nat.reduceLT, Nat.reduceLeDiff, ↓reduceIte, reduceCtorEq, Int.reduceEq, Int.reduceLT, Int.reduceLE, Int.reduceGT, Int.reduceGE, Int.reduceAdd, Int.reduceSub, Int.reduceNeg, Int.reduceToNat, Nat.reduceBEq, Nat.reduceEqDiff]
          refine callR_ret (refTo_d p l.length _ _ _ hl ht.1) ?_
          simp -implicitDefEqProofs (maxSteps := 99999999) (disch := omega) only [va, vs, vh, Nat.reduceMul, ite_true, ite_false, eq_self, forall_const, implies_true, Nat.reduceAdd, Nat.reduceSub, Nat.reduceLT, Nat.reduceLeDiff, ↓reduceIte, reduceCtorEq, Int.reduceEq, Int.reduceLT, Int.reduceLE, Int.reduceGT, Int.reduceGE, Int.reduceAdd, Int.reduceSub, Int.reduceNeg, Int.reduceToNat, Nat.reduceBEq, Nat.reduceEqDiff]
          exact weak_over (by repeat constructor) (.same ⟨nums_idsL, trivial⟩)
        · rw [if_neg c2]
          simp -implicitDefEqProofs (maxSteps := 99999999) (disch := omega) only [c, c1, c2, nums_length, va, vs, vh, Nat.reduceMul, ite_true, ite_false, eq_self, forall_const, implies_true, Nat.reduceAdd, Nat.reduceSub, Nat.reduceLT, Nat.reduceLeDiff, ↓reduceIte, reduceCtorEq, Int.reduceEq, Int.reduceLT, Int.reduceLE, Int.reduceGT, Int.reduceGE, Int.reduceAdd, Int.reduceSub, Int.reduceNeg, Int.reduceToNat, Nat.reduceBEq, Nat.reduceEqDiff]
          refine callR_ret (refTo_d p l.length _ _ _ hl ht.1) ?_
          simp -implicitDefEqProofs (maxSteps := 99999999) (disch := omega) only [va, vs, vh, Nat.reduceMul, ite_true, ite_false, eq_self, forall_const, implies_true, Nat.reduceAdd, Nat.reduceSub, Nat.reduceLT, Nat.reduceLeDiff, ↓reduceIte, reduceCtorEq, Int.reduceEq, Int.reduceLT, Int.reduceLE, Int.reduceGT, Int.reduceGE, Int.reduceAdd, Int.reduceSub, Int.reduceNeg, Int.reduceToNat, Nat.reduceBEq, Nat.reduceEqDiff]
          exact weak_over (by repeat constructor) (.same ⟨nums_idsL, trivial⟩)
  · have e : movP p l f t = p := setL_no ht
    rw [if_neg ht, decide_eq_false ht, e]
    simp -implicitDefEqProofs (maxSteps := 99999999) (disch := omega) only [va, vs, vh, Nat.reduceMul, ite_true, ite_false, eq_self, forall_const, implies_true, Nat.reduceAdd, Nat.reduceSub, Nat.reduceLT, Nat.reduceLeDiff, ↓reduceIte, reduceCtorEq, Int.reduceEq, Int.reduceLT, Int.reduceLE, Int.reduceGT, Int.reduceGE, Int.reduceAdd, Int.reduceSub, Int.reduceNeg, Int.reduceToNat, Nat.reduceBEq, Nat.reduceEqDiff]
    clear e ht hs
    cases p with
    | nil =>
      simp -implicitDefEqProofs (maxSteps := 99999999) (disch := omega) only [nums_nil, va, vs, vh, Nat.reduceMul, ite_true, ite_false, eq_self, forall_const, implies_true, Nat.reduceAdd, Nat.reduceSub, Nat.reduceLT, Nat.reduceLeDiff, ↓reduceIte, reduceCtorEq, Int.reduceEq, Int.reduceLT, Int.reduceLE, Int.reduceGT, Int.reduceGE, Int.reduceAdd, Int.reduceSub, Int.reduceNeg, Int.reduceToNat, Nat.reduceBEq, Nat.reduceEqDiff]
      exact weak_over (by repeat constructor) .nil
    | cons x r =>
      simp only [List.length_cons] at hl
      simp -implicitDefEqProofs (maxSteps := 99999999) (disch := omega) only [nums_cons, nums_length, va, vs, vh, Nat.reduceMul, ite_true, ite_false, eq_self, forall_const, implies_true, Nat.reduceAdd, Nat.reduceSub, Nat.reduceLT, Nat.reduceLeDiff, ↓reduceIte, reduceCtorEq, Int.reduceEq, Int.reduceLT, Int.reduceLE, Int.reduceGT, Int.reduceGE, Int.reduceAdd, Int.reduceSub, Int.reduceNeg, Int.reduceToNat, Nat.reduceBEq, Nat.reduceEqDiff]
      exact ⟨by omega, weak_over (by repeat constructor) (fzI_fresh (l := x :: r) (b := ⟨1, nums (x :: r), false, 3⟩) (by simp -implicitDefEqProofs (maxSteps := 99999999) (disch := omega) only [nums_cons, va, vs, vh, Nat.reduceMul, ite_true, ite_false, eq_self, forall_const, implies_true, Nat.reduceAdd, Nat.reduceSub, Nat.reduceLT, Nat.reduceLeDiff, ↓reduceIte, reduceCtorEq, Int.reduceEq, Int.reduceLT, Int.reduceLE, Int.reduceGT, Int.reduceGE, Int.reduceAdd, Int.reduceSub, Int.reduceNeg, Int.reduceToNat, Nat.reduceBEq, Nat.reduceEqDiff]) rfl rfl rfl (by omega))⟩
end Go.Proofs.Ytijnpkpcoeeioaa
