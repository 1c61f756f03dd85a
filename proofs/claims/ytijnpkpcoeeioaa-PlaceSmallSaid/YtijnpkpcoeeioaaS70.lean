/- Lists of numbers: same; lent; kept. -/
import Derived.Test.YtijnpkpcoeeioaaSM
import Derived.Test.YtijnpkpcoeeioaaIc12
import Derived.Test.YtijnpkpcoeeioaaV30
namespace Go.Proofs.Ytijnpkpcoeeioaa
open Go.RowKit
set_option maxRecDepth 100000
set_option linter.unusedVariables false
set_option linter.unusedSimpArgs false

def nums (l : List Int) : List AV := l.map fun i => .sc (.int .i64 i)
theorem nums_length (l : List Int) : (nums l).length = l.length := by simp [nums]
theorem nums_nil : nums [] = [] := rfl
theorem nums_cons (s : Int) (l : List Int) : nums (s :: l) = .sc (.int .i64 s) :: nums l := rfl
theorem nums_append (a b : List Int) : nums (a ++ b) = nums a ++ nums b := by simp [nums]
def nthI (xs : List Int) (k : Nat) : Int := xs.getD k 0
theorem nthI_eq {xs : List Int} {k : Nat} (h : k < xs.length) : nthI xs k = xs[k] := by simp [nthI, List.getD, h]
theorem nums_get {l : List Int} {k : Nat} (h : k < l.length) : (nums l).getD k .top = .sc (.int .i64 (nthI l k)) := by
  simp [nums, nthI, List.getD, h]
theorem nthI_ext {xs ys : List Int} (hl : xs.length = ys.length) (h : ∀ i, i < xs.length → nthI xs i = nthI ys i) : xs = ys := by
  apply List.ext_getElem hl
  intro i h1 h2
  have := h i h1
  rwa [nthI_eq h1, nthI_eq h2] at this
theorem nums_fz {H : AHeap} {n : Nat} : ∀ {l : List Int}, FzL H n (nums l) (nums l)
  | [] => .nil
  | _ :: _ => .cons (.same trivial) nums_fz
theorem nums_gz {H : AHeap} {n : Nat} {src : List Nat} : ∀ {l : List Int}, GzL H n src (nums l) (nums l)
  | [] => .nil
  | _ :: _ => .cons (.same trivial) nums_gz
theorem nums_view {H : AHeap} {l : List Int} {r : Option (List AV)} : View H (.lst 1 (nums l) r) (.lst 1 (nums l) none) := .lst ViewL.scs
theorem sameInts_d (a b : List Int) (ra rb : Option (List AV)) (H : AHeap) (hl : a.length ≤ 100000000) : D Try.prog 18 [.lst 1 (nums a) ra, .lst 1 (nums b) rb] H (.ret (.sc (.bool (decide (a = b))))) H := by
  refine D_of_DK (Nat.le_refl _) (dk18 (E_of_ES ?_))
  simp -implicitDefEqProofs (maxSteps := 99999999) (disch := omega) only [nums_length, ic18, va, vs, vh, Nat.reduceMul, ite_true, ite_false, eq_self, forall_const, implies_true, Nat.reduceAdd, Nat.reduceSub, Nat.reduceLT, Nat.reduceLeDiff, ↓reduceIte, reduceCtorEq, Int.reduceEq, Int.reduceLT, Int.reduceLE, Int.reduceGT, Int.reduceGE, Int.reduceAdd, Int.reduceSub, Int.reduceNeg, Int.reduceToNat, Nat.reduceBEq, Nat.reduceEqDiff]
  refine condR_if (fun h => ?_) (fun h => ?_)
  · have hne : ¬ a = b := fun e => by simp [e] at h
    simp -implicitDefEqProofs (maxSteps := 99999999) (disch := omega) only [nums_length, hne, va, vs, vh, Nat.reduceMul, ite_true, ite_false, eq_self, forall_const, implies_true, Nat.reduceAdd, Nat.reduceSub, Nat.reduceLT, Nat.reduceLeDiff, ↓reduceIte, reduceCtorEq, Int.reduceEq, Int.reduceLT, Int.reduceLE, Int.reduceGT, Int.reduceGE, Int.reduceAdd, Int.reduceSub, Int.reduceNeg, Int.reduceToNat, Nat.reduceBEq, Nat.reduceEqDiff]
    exact weak_sc .refl
  have hl2 : a.length = b.length := by omega
  simp -implicitDefEqProofs (maxSteps := 99999999) (disch := omega) only [nums_length, va, vs, vh, Nat.reduceMul, ite_true, ite_false, eq_self, forall_const, implies_true, Nat.reduceAdd, Nat.reduceSub, Nat.reduceLT, Nat.reduceLeDiff, ↓reduceIte, reduceCtorEq, Int.reduceEq, Int.reduceLT, Int.reduceLE, Int.reduceGT, Int.reduceGE, Int.reduceAdd, Int.reduceSub, Int.reduceNeg, Int.reduceToNat, Nat.reduceBEq, Nat.reduceEqDiff]
  refine ES_loop (fun ts H' => H' = H ∧ ∃ k : Nat, (k ≤ a.length ∧ ∀ j, j < k → nthI a j = nthI b j) ∧ Fr [some (.lst 1 (nums a) ra), some (.lst 1 (nums b) rb), none, none, some (.sc (.bool false)), some (.sc (.int .i64 k)), none, none, none, none, none, none, none, none, none, none, none, none, none, none, none, none, none, none, none, none] ts) (fun ts _ => a.length - (intV (ts.getD 5 .top)).toNat) ?_ ?_
  · exact ⟨rfl, 0, ⟨Nat.zero_le _, fun j h => absurd h (Nat.not_lt_zero _)⟩, by simp [Fr]⟩
  rintro ts _ ⟨rfl, k, ⟨hk, hp⟩, hfr⟩
  obtain ⟨js, rfl⟩ := hfr.opened
  clear hfr
  simp -implicitDefEqProofs (maxSteps := 99999999) (disch := omega) only [nums_length, mk, va, vs, vh, Nat.reduceMul, ite_true, ite_false, eq_self, forall_const, implies_true, Nat.reduceAdd, Nat.reduceSub, Nat.reduceLT, Nat.reduceLeDiff, ↓reduceIte, reduceCtorEq, Int.reduceEq, Int.reduceLT, Int.reduceLE, Int.reduceGT, Int.reduceGE, Int.reduceAdd, Int.reduceSub, Int.reduceNeg, Int.reduceToNat, Nat.reduceBEq, Nat.reduceEqDiff]
  refine condR_if (fun h => ?_) (fun h => ?_)
  · have h1 : k < a.length := by omega
    have h2 : k < b.length := by omega
    simp -implicitDefEqProofs (maxSteps := 99999999) (disch := omega) only [nums_length, nums_get h1, nums_get h2, va, vs, vh, Nat.reduceMul, ite_true, ite_false, eq_self, forall_const, implies_true, Nat.reduceAdd, Nat.reduceSub, Nat.reduceLT, Nat.reduceLeDiff, ↓reduceIte, reduceCtorEq, Int.reduceEq, Int.reduceLT, Int.reduceLE, Int.reduceGT, Int.reduceGE, Int.reduceAdd, Int.reduceSub, Int.reduceNeg, Int.reduceToNat, Nat.reduceBEq, Nat.reduceEqDiff]
    refine ⟨by omega, by omega, condR_if (fun h => ?_) (fun h => ?_)⟩
    · have hne : ¬ a = b := fun e => by simp [e] at h
      simp -implicitDefEqProofs (maxSteps := 99999999) (disch := omega) only [nums_length, hne, va, vs, vh, Nat.reduceMul, ite_true, ite_false, eq_self, forall_const, implies_true, Nat.reduceAdd, Nat.reduceSub, Nat.reduceLT, Nat.reduceLeDiff, ↓reduceIte, reduceCtorEq, Int.reduceEq, Int.reduceLT, Int.reduceLE, Int.reduceGT, Int.reduceGE, Int.reduceAdd, Int.reduceSub, Int.reduceNeg, Int.reduceToNat, Nat.reduceBEq, Nat.reduceEqDiff]
      exact weak_sc .refl
    · simp -implicitDefEqProofs (maxSteps := 99999999) (disch := omega) only [nums_length, va, vs, vh, Nat.reduceMul, ite_true, ite_false, eq_self, forall_const, implies_true, Nat.reduceAdd, Nat.reduceSub, Nat.reduceLT, Nat.reduceLeDiff, ↓reduceIte, reduceCtorEq, Int.reduceEq, Int.reduceLT, Int.reduceLE, Int.reduceGT, Int.reduceGE, Int.reduceAdd, Int.reduceSub, Int.reduceNeg, Int.reduceToNat, Nat.reduceBEq, Nat.reduceEqDiff]
      refine ⟨⟨k + 1, ⟨by omega, fun j hj => ?_⟩, by simp [Fr]⟩, by omega⟩
      rcases Nat.lt_succ_iff_lt_or_eq.1 hj with h' | rfl
      · exact hp j h'
      · exact Classical.not_not.1 h
  · have hab : a = b := nthI_ext hl2 (fun i hi => hp i (by omega))
    simp -implicitDefEqProofs (maxSteps := 99999999) (disch := omega) only [nums_length, hab, va, vs, vh, Nat.reduceMul, ite_true, ite_false, eq_self, forall_const, implies_true, Nat.reduceAdd, Nat.reduceSub, Nat.reduceLT, Nat.reduceLeDiff, ↓reduceIte, reduceCtorEq, Int.reduceEq, Int.reduceLT, Int.reduceLE, Int.reduceGT, Int.reduceGE, Int.reduceAdd, Int.reduceSub, Int.reduceNeg, Int.reduceToNat, Nat.reduceBEq, Nat.reduceEqDiff]
    exact weak_sc .refl

/-- The marks behind a list's end. -/
def mksI (j : Nat) : List Int := (List.range j).map fun i : Nat => markI 1 (i : Int)
theorem mksI_length {j : Nat} : (mksI j).length = j := by simp [mksI]
theorem mksI_succ {j : Nat} : mksI (j + 1) = mksI j ++ [markI 1 j] := by simp [mksI, List.range_succ]
/-- A lent list's cells, j marks behind it. -/
def lentI (l : List Int) (j : Nat) : List AV := nums (l ++ mksI j) ++ List.replicate (12 - j) (.sc (.int .i64 0))
theorem lentI_length {l : List Int} {j : Nat} (h : j ≤ 12) : (lentI l j).length = l.length + 12 := by
  simp [lentI, nums_length, mksI_length]; omega
theorem lentI_start {l : List Int} : nums l ++ List.drop l.length (List.replicate (l.length + 12) (.sc (.int .i64 0))) = lentI l 0 := by
  simp [lentI, mksI]
theorem lentI_app {l : List Int} {j : Nat} (h : j < 12) : (lentI l j).take (l.length + j) ++ (.sc (.int .i64 (markI 1 j)) :: (lentI l j).drop (l.length + (j + 1))) = lentI l (j + 1) := by
  have h1 : (nums (l ++ mksI j)).length = l.length + j := by simp [nums_length, mksI_length]
  unfold lentI
  rw [List.take_append_of_le_length (by omega), List.take_of_length_le (by omega), List.drop_append, List.drop_of_length_le (by omega), h1, mksI_succ, ← List.append_assoc, nums_append]
  rw [show l.length + (j + 1) - (l.length + j) = 1 from by omega, List.drop_replicate, show 12 - j - 1 = 12 - (j + 1) from by omega]
  simp [nums]

theorem lentInts_d (l : List Int) (ro : Option (List AV)) (H : AHeap) (hl : l.length ≤ 1000000) : D Try.prog 7 [.lst 1 (nums l) ro] H (.ret (.vec 1 H.length 0 l.length (some (l.length + 12)))) (some ⟨1, nums (l ++ mksI 12), true, 3⟩ :: H) := by
  refine D_of_DK (by simp) (dk7 (E_of_ES ?_))
  simp only [ic7, ux]
  obtain ⟨m, hm⟩ : ∃ m, m = l.length + 12 := ⟨_, rfl⟩
  have e12 : ((l.length : Int) + 12).toNat = m := by omega
  have cm : l.length ≤ m := by omega
  have hS : nums l ++ List.drop l.length (List.replicate m (.sc (.int .i64 0))) = lentI l 0 := by rw [hm]; exact lentI_start
  rw [← hm]
  refine ES_seq_gen fun L hL => ?_
  simp -implicitDefEqProofs (maxSteps := 99999999) (disch := omega) only [nums_length, va, vs, vh, Nat.reduceMul, ite_true, ite_false, eq_self, forall_const, implies_true, Nat.reduceAdd, Nat.reduceSub, Nat.reduceLT, Nat.reduceLeDiff, ↓reduceIte, reduceCtorEq, Int.reduceEq, Int.reduceLT, Int.reduceLE, Int.reduceGT, Int.reduceGE, Int.reduceAdd, Int.reduceSub, Int.reduceNeg, Int.reduceToNat, Nat.reduceBEq, Nat.reduceEqDiff]
  refine hL _ _ ?_
  clear hL
  refine ES_seq_gen fun L hL => ?_
  simp -implicitDefEqProofs (maxSteps := 99999999) (disch := omega) only [nums_length, e12, va, vs, vh, Nat.reduceMul, ite_true, ite_false, eq_self, forall_const, implies_true, Nat.reduceAdd, Nat.reduceSub, Nat.reduceLT, Nat.reduceLeDiff, ↓reduceIte, reduceCtorEq, Int.reduceEq, Int.reduceLT, Int.reduceLE, Int.reduceGT, Int.reduceGE, Int.reduceAdd, Int.reduceSub, Int.reduceNeg, Int.reduceToNat, Nat.reduceBEq, Nat.reduceEqDiff]
  refine ⟨by omega, ?_⟩
  refine hL _ _ ?_
  clear hL
  refine ES_seq_gen fun L hL => ?_
  simp -implicitDefEqProofs (maxSteps := 99999999) (disch := omega) only [nums_length, e12, List.length_replicate, cm, hS, va, vs, vh, Nat.reduceMul, ite_true, ite_false, eq_self, forall_const, implies_true, Nat.reduceAdd, Nat.reduceSub, Nat.reduceLT, Nat.reduceLeDiff, ↓reduceIte, reduceCtorEq, Int.reduceEq, Int.reduceLT, Int.reduceLE, Int.reduceGT, Int.reduceGE, Int.reduceAdd, Int.reduceSub, Int.reduceNeg, Int.reduceToNat, Nat.reduceBEq, Nat.reduceEqDiff]
  refine ⟨by omega, ?_⟩
  refine hL _ _ ?_
  clear hL
  refine ES_seq_gen fun L hL => ?_
  simp -implicitDefEqProofs (maxSteps := 99999999) (disch := omega) only [nums_length, e12, va, vs, vh, Nat.reduceMul, ite_true, ite_false, eq_self, forall_const, implies_true, Nat.reduceAdd, Nat.reduceSub, Nat.reduceLT, Nat.reduceLeDiff, ↓reduceIte, reduceCtorEq, Int.reduceEq, Int.reduceLT, Int.reduceLE, Int.reduceGT, Int.reduceGE, Int.reduceAdd, Int.reduceSub, Int.reduceNeg, Int.reduceToNat, Nat.reduceBEq, Nat.reduceEqDiff]
  refine ES_loopL (fun ts H' => ∃ j : Nat, j ≤ 12 ∧ H' = some ⟨1, lentI l j, true, 3⟩ :: H ∧ Fr [some (.lst 1 (nums l) ro), none, none, some (.vec 1 H.length 0 (l.length + j) (some m)), some (.sc (.int .i64 j)), none, none, none, none, none, none, none, none, none, none, none, none, none, none, none, none, none, none, none, none] ts) (fun ts _ => 12 - (intV (ts.getD 4 .top)).toNat) ⟨0, by omega, rfl, by simp [Fr]⟩ ?_
  rintro ts _ ⟨j, hj, rfl, hfr⟩ L2 hL2
  obtain ⟨js, rfl⟩ := hfr.opened
  clear hfr
  simp -implicitDefEqProofs (maxSteps := 99999999) (disch := omega) only [nums_length, mk, va, vs, vh, Nat.reduceMul, ite_true, ite_false, eq_self, forall_const, implies_true, Nat.reduceAdd, Nat.reduceSub, Nat.reduceLT, Nat.reduceLeDiff, ↓reduceIte, reduceCtorEq, Int.reduceEq, Int.reduceLT, Int.reduceLE, Int.reduceGT, Int.reduceGE, Int.reduceAdd, Int.reduceSub, Int.reduceNeg, Int.reduceToNat, Nat.reduceBEq, Nat.reduceEqDiff]
  refine condR_if (fun h => ?_) (fun h => ?_)
  · have h1 : j < 12 := by omega
    have c1 : l.length + (j + 1) ≤ m := by omega
    simp -implicitDefEqProofs (maxSteps := 99999999) (disch := omega) only [nums_length, va, vs, vh, Nat.reduceMul, ite_true, ite_false, eq_self, forall_const, implies_true, Nat.reduceAdd, Nat.reduceSub, Nat.reduceLT, Nat.reduceLeDiff, ↓reduceIte, reduceCtorEq, Int.reduceEq, Int.reduceLT, Int.reduceLE, Int.reduceGT, Int.reduceGE, Int.reduceAdd, Int.reduceSub, Int.reduceNeg, Int.reduceToNat, Nat.reduceBEq, Nat.reduceEqDiff]
    refine callR_ret (mark_d _ _ _) ?_
    have hlen : (lentI l j).length = m := by rw [lentI_length hj, hm]
    simp -implicitDefEqProofs (maxSteps := 99999999) (disch := omega) only [nums_length, hlen, lentI_app h1, c1, va, vs, vh, Nat.reduceMul, ite_true, ite_false, eq_self, forall_const, implies_true, Nat.reduceAdd, Nat.reduceSub, Nat.reduceLT, Nat.reduceLeDiff, ↓reduceIte, reduceCtorEq, Int.reduceEq, Int.reduceLT, Int.reduceLE, Int.reduceGT, Int.reduceGE, Int.reduceAdd, Int.reduceSub, Int.reduceNeg, Int.reduceToNat, Nat.reduceBEq, Nat.reduceEqDiff]
    exact ⟨by omega, hL2 _ _ ⟨j + 1, by omega, rfl, by simp [Fr]⟩ (by simp [intV, mk]; omega)⟩
  · have h1 : j = 12 := by omega
    subst h1
    refine hL _ _ ?_
    clear hL
    have c2 : 0 < m := by omega
    have e2 : lentI l 12 = nums (l ++ mksI 12) := by simp [lentI]
    simp -implicitDefEqProofs (maxSteps := 99999999) (disch := omega) only [nums_length, c2, Nat.sub_zero, e2, va, vs, vh, Nat.reduceMul, ite_true, ite_false, eq_self, forall_const, implies_true, Nat.reduceAdd, Nat.reduceSub, Nat.reduceLT, Nat.reduceLeDiff, ↓reduceIte, reduceCtorEq, Int.reduceEq, Int.reduceLT, Int.reduceLE, Int.reduceGT, Int.reduceGE, Int.reduceAdd, Int.reduceSub, Int.reduceNeg, Int.reduceToNat, Nat.reduceBEq, Nat.reduceEqDiff]
    exact ⟨⟨by omega, rfl, by omega, by omega⟩, Weak.refl _ _ _⟩
theorem mksI_nth {l : List Int} {j n : Nat} (h : j < n) : nthI (l ++ mksI n) (l.length + j) = markI 1 j := by
  rw [nthI_eq (by simp [mksI_length]; exact h)]
  rw [List.getElem_append_right (by omega)]
  simp [mksI]
theorem lent_nth {l m : List Int} {k : Nat} (h : k < l.length) : nthI (l ++ m) k = nthI l k := by
  rw [nthI_eq (by simp; omega), nthI_eq h, List.getElem_append_left h]

theorem keptInts_d (l : List Int) (rl : Option (List AV)) (H : AHeap) (id : Nat) (ty : TypeId) (hf : AHeap.find H id = some ⟨1, nums (l ++ mksI 12), true, ty⟩) (hl : l.length ≤ 1000000) :
    D Try.prog 19 [.vec 1 id 0 l.length (some (l.length + 12)), .lst 1 (nums l) rl] H (.ret (.sc (.bool true))) H := by
  refine D_of_DK (Nat.le_refl _) (dk19 (E_of_ES ?_))
  simp only [ic19, ux]
  obtain ⟨m, hm⟩ : ∃ m, m = l.length + 12 := ⟨_, rfl⟩
  have e12 : ((l.length : Int) + 12).toNat = m := by omega
  have c0 : 0 < m := by omega
  have hlen : (l ++ mksI 12).length = m := by simp [mksI_length]; omega
  rw [← hm]
  refine ES_seq_gen fun L hL => ?_
  simp -implicitDefEqProofs (maxSteps := 99999999) (disch := first | omega | (simp only [AHeap.set_length, killO_length, List.length_cons, List.length_nil]; first | done | omega)) only [nums_length, va, vs, vw, Nat.reduceMul, ite_true, ite_false, eq_self, forall_const, implies_true, Nat.reduceAdd, Nat.reduceSub, Nat.reduceLT, Nat.reduceLeDiff, ↓reduceIte, reduceCtorEq, Int.reduceEq, Int.reduceLT, Int.reduceLE, Int.reduceGT, Int.reduceGE, Int.reduceAdd, Int.reduceSub, Int.reduceNeg, Int.reduceToNat, Nat.reduceBEq, Nat.reduceEqDiff]
  refine hL _ _ ?_
  clear hL
  refine ES_seq_gen fun L hL => ?_
  simp -implicitDefEqProofs (maxSteps := 99999999) (disch := first | omega | (simp only [AHeap.set_length, killO_length, List.length_cons, List.length_nil]; first | done | omega)) only [nums_length, ne_eq, va, vs, vw, Nat.reduceMul, ite_true, ite_false, eq_self, forall_const, implies_true, Nat.reduceAdd, Nat.reduceSub, Nat.reduceLT, Nat.reduceLeDiff, ↓reduceIte, reduceCtorEq, Int.reduceEq, Int.reduceLT, Int.reduceLE, Int.reduceGT, Int.reduceGE, Int.reduceAdd, Int.reduceSub, Int.reduceNeg, Int.reduceToNat, Nat.reduceBEq, Nat.reduceEqDiff]
  refine hL _ _ ?_
  clear hL
  refine ES_seq_gen fun L hL => ?_
  simp -implicitDefEqProofs (maxSteps := 99999999) (disch := first | omega | (simp only [AHeap.set_length, killO_length, List.length_cons, List.length_nil]; first | done | omega)) only [nums_length, e12, c0, Nat.sub_zero, va, vs, vw, Nat.reduceMul, ite_true, ite_false, eq_self, forall_const, implies_true, Nat.reduceAdd, Nat.reduceSub, Nat.reduceLT, Nat.reduceLeDiff, ↓reduceIte, reduceCtorEq, Int.reduceEq, Int.reduceLT, Int.reduceLE, Int.reduceGT, Int.reduceGE, Int.reduceAdd, Int.reduceSub, Int.reduceNeg, Int.reduceToNat, Nat.reduceBEq, Nat.reduceEqDiff]

  refine ⟨⟨by omega, rfl, by omega, by omega⟩, ?_⟩
  refine hL _ _ ?_
  clear hL
  refine ES_seq_gen fun L hL => ?_
  simp -implicitDefEqProofs (maxSteps := 99999999) (disch := first | omega | (simp only [AHeap.set_length, killO_length, List.length_cons, List.length_nil]; first | done | omega)) only [nums_length, va, vs, vw, Nat.reduceMul, ite_true, ite_false, eq_self, forall_const, implies_true, Nat.reduceAdd, Nat.reduceSub, Nat.reduceLT, Nat.reduceLeDiff, ↓reduceIte, reduceCtorEq, Int.reduceEq, Int.reduceLT, Int.reduceLE, Int.reduceGT, Int.reduceGE, Int.reduceAdd, Int.reduceSub, Int.reduceNeg, Int.reduceToNat, Nat.reduceBEq, Nat.reduceEqDiff]
  refine ES_loopL (fun ts H' => ∃ j : Nat, j ≤ m ∧ H' = H ∧ Fr [some (.vec 1 id 0 l.length (some m)), some (.lst 1 (nums l) rl), none, none, some (.sc (.bool false)), some (.vec 1 id 0 m (some m)), some (.sc (.int .i64 j)), none, none, none, none, none, none, none, none, none, none, none, none, none, none, none, none, none, none, none, none, none, none, none, none, none, none, none, none, none, none, none, none, none, none, none, none, none, none, none, none, none, none, none, none, none, none, none, none, none, none, none] ts) (fun ts _ => m - (intV (ts.getD 6 .top)).toNat) ⟨0, by omega, rfl, by simp [Fr]⟩ ?_
  rintro ts _ ⟨j, hj, rfl, hfr⟩ L2 hL2
  obtain ⟨js, rfl⟩ := hfr.opened
  clear hfr
  simp -implicitDefEqProofs (maxSteps := 99999999) (disch := first | omega | (simp only [AHeap.set_length, killO_length, List.length_cons, List.length_nil]; first | done | omega)) only [nums_length, mk, va, vs, vw, Nat.reduceMul, ite_true, ite_false, eq_self, forall_const, implies_true, Nat.reduceAdd, Nat.reduceSub, Nat.reduceLT, Nat.reduceLeDiff, ↓reduceIte, reduceCtorEq, Int.reduceEq, Int.reduceLT, Int.reduceLE, Int.reduceGT, Int.reduceGE, Int.reduceAdd, Int.reduceSub, Int.reduceNeg, Int.reduceToNat, Nat.reduceBEq, Nat.reduceEqDiff]
  refine condR_if (fun h => ?_) (fun h => ?_)
  · have h1 : j < m := by omega
    have hg : (nums (l ++ mksI 12)).getD j .top = .sc (.int .i64 (nthI (l ++ mksI 12) j)) := nums_get (by omega)
    by_cases c1 : j < l.length
    · have c2 : (j : Int) < l.length := by omega
      have c3 : ¬ ((j : Int) ≥ l.length) := by omega
      have e1 := lent_nth (m := mksI 12) c1
      simp -implicitDefEqProofs (maxSteps := 99999999) (disch := first | omega | (simp only [AHeap.set_length, killO_length, List.length_cons, List.length_nil]; first | done | omega)) only [nums_length, hf, nums_length, hlen, h1, c1, c2, c3, hg, nums_get c1, e1, va, vs, vw, Nat.reduceMul, ite_true, ite_false, eq_self, forall_const, implies_true, Nat.reduceAdd, Nat.reduceSub, Nat.reduceLT, Nat.reduceLeDiff, ↓reduceIte, reduceCtorEq, Int.reduceEq, Int.reduceLT, Int.reduceLE, Int.reduceGT, Int.reduceGE, Int.reduceAdd, Int.reduceSub, Int.reduceNeg, Int.reduceToNat, Nat.reduceBEq, Nat.reduceEqDiff]
      exact ⟨⟨by omega, by omega⟩, by omega, hL2 _ _ ⟨j + 1, by omega, rfl, by simp [Fr]⟩ (by simp [intV, mk]; omega)⟩
    · obtain ⟨t, rfl⟩ : ∃ t, j = l.length + t := ⟨j - l.length, by omega⟩
      have c2 : ¬ (((l.length + t : Nat) : Int) < l.length) := by omega
      have c3 : ((l.length + t : Nat) : Int) ≥ l.length := by omega
      have e1 := mksI_nth (l := l) (j := t) (n := 12) (by omega)
      have e2 : ((l.length + t : Nat) : Int) - l.length = t := by omega
      simp -implicitDefEqProofs (maxSteps := 99999999) (disch := first | omega | (simp only [AHeap.set_length, killO_length, List.length_cons, List.length_nil]; first | done | omega)) only [nums_length, hf, nums_length, hlen, h1, c1, c2, c3, hg, e1, e2, va, vs, vw, Nat.reduceMul, ite_true, ite_false, eq_self, forall_const, implies_true, Nat.reduceAdd, Nat.reduceSub, Nat.reduceLT, Nat.reduceLeDiff, ↓reduceIte, reduceCtorEq, Int.reduceEq, Int.reduceLT, Int.reduceLE, Int.reduceGT, Int.reduceGE, Int.reduceAdd, Int.reduceSub, Int.reduceNeg, Int.reduceToNat, Nat.reduceBEq, Nat.reduceEqDiff]
      refine ⟨⟨by omega, by omega⟩, callD_same (mark_d _ _ _) ?_⟩
      simp -implicitDefEqProofs (maxSteps := 99999999) (disch := first | omega | (simp only [AHeap.set_length, killO_length, List.length_cons, List.length_nil]; first | done | omega)) only [nums_length, hf, nums_length, hlen, h1, c1, c2, c3, hg, e1, e2, va, vs, vw, Nat.reduceMul, ite_true, ite_false, eq_self, forall_const, implies_true, Nat.reduceAdd, Nat.reduceSub, Nat.reduceLT, Nat.reduceLeDiff, ↓reduceIte, reduceCtorEq, Int.reduceEq, Int.reduceLT, Int.reduceLE, Int.reduceGT, Int.reduceGE, Int.reduceAdd, Int.reduceSub, Int.reduceNeg, Int.reduceToNat, Nat.reduceBEq, Nat.reduceEqDiff]
      exact hL2 _ _ ⟨l.length + t + 1, by omega, rfl, by simp [Fr]⟩ (by simp [intV, mk]; omega)
  · have h1 : j = m := by omega
    refine hL _ _ ?_
    clear hL
    simp -implicitDefEqProofs (maxSteps := 99999999) (disch := first | omega | (simp only [AHeap.set_length, killO_length, List.length_cons, List.length_nil]; first | done | omega)) only [nums_length, va, vs, vw, Nat.reduceMul, ite_true, ite_false, eq_self, forall_const, implies_true, Nat.reduceAdd, Nat.reduceSub, Nat.reduceLT, Nat.reduceLeDiff, ↓reduceIte, reduceCtorEq, Int.reduceEq, Int.reduceLT, Int.reduceLE, Int.reduceGT, Int.reduceGE, Int.reduceAdd, Int.reduceSub, Int.reduceNeg, Int.reduceToNat, Nat.reduceBEq, Nat.reduceEqDiff]
    exact Weak.refl _ _ _

end Go.Proofs.Ytijnpkpcoeeioaa
