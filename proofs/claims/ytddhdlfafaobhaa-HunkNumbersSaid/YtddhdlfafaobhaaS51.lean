/- Hunks that were lent: kept, and written over. -/
import Derived.Test.YtddhdlfafaobhaaS50
namespace Go.Proofs.Ytddhdlfafaobhaa
open Go.RowKit
set_option maxRecDepth 100000
set_option linter.unusedVariables false
set_option linter.unusedSimpArgs false

theorem lentHs_get {hs : List Hk} {io jn : Nat → Nat} {k : Nat} (h : k < hs.length) : (lentHs hs io jn ++ mksH 12).getD k .top = lentH (nthH hs k) (io k) (jn k) := by
  rw [List.getD_eq_getElem?_getD, List.getElem?_append_left (by rw [lentHs_length]; exact h)]
  simp [lentHs, h]
theorem lentHs_mark {hs : List Hk} {io jn : Nat → Nat} {t : Nat} (h : t < 12) : (lentHs hs io jn ++ mksH 12).getD (hs.length + t) .top = mkH 1 t := by
  rw [List.getD_eq_getElem?_getD, List.getElem?_append_right (by rw [lentHs_length]; omega), lentHs_length]
  simp [mksH, h]
theorem lentAll_length {hs : List Hk} {io jn : Nat → Nat} : (lentHs hs io jn ++ mksH 12).length = hs.length + 12 := by rw [List.length_append, lentHs_length, mksH_length]

/-- Lent hunks in own memory. -/
structure LentOK (H : AHeap) (hs : List Hk) (idh : Nat) (io jn : Nat → Nat) : Prop where
  row : AHeap.find H idh = lentHB hs io jn
  old : ∀ i, i < hs.length → AHeap.find H (io i) = lentB (nthH hs i).old
  new : ∀ i, i < hs.length → AHeap.find H (jn i) = lentB (nthH hs i).new

theorem keptHunks_d (hs : List Hk) (rl : Option (List AV)) (H : AHeap) (idh : Nat) (io jn : Nat → Nat) (ok : LentOK H hs idh io jn) (hf : FewH hs) :
    D Try.prog 18 [lentHV hs idh, .lst 3 (hks hs) rl] H (.ret (.sc (.bool true))) H := by
  have hlen := hf.1
  have hrow := ok.row
  refine D_of_DK (Nat.le_refl _) (dk18 (E_of_ES ?_))
  simp only [ic18, ux]
  obtain ⟨m, hm⟩ : ∃ m, m = hs.length + 12 := ⟨_, rfl⟩
  have e12 : ((hs.length : Int) + 12).toNat = m := by omega
  have c0 : 0 < m := by omega
  have hl3 := hks_length hs
  have hla : (lentHs hs io jn ++ mksH 12).length = m := by rw [lentAll_length, hm]
  rw [show lentHV hs idh = .vec 3 idh 0 hs.length (some m) from by rw [hm]]
  refine ES_seq_gen fun L hL => ?_
  simp -implicitDefEqProofs (maxSteps := 99999999) (disch := first | omega | (simp only [AHeap.set_length, killO_length, List.length_cons]; first | done | omega)) only [va, vs, vw, Nat.reduceMul, ite_true, ite_false, eq_self, forall_const, implies_true, Nat.reduceAdd, Nat.reduceSub, Nat.reduceLT, Nat.reduceLeDiff, ↓reduceIte, reduceCtorEq, Int.reduceEq, Int.reduceLT, Int.reduceLE, Int.reduceGT, Int.reduceGE, Int.reduceAdd, Int.reduceSub, Int.reduceNeg, Int.reduceToNat, Nat.reduceBEq, Nat.reduceEqDiff]
  refine hL _ _ ?_
  clear hL
  refine ES_seq_gen fun L hL => ?_
  simp -implicitDefEqProofs (maxSteps := 99999999) (disch := first | omega | (simp only [AHeap.set_length, killO_length, List.length_cons]; first | done | omega)) only [hl3, ne_eq, va, vs, vw, Nat.reduceMul, ite_true, ite_false, eq_self, forall_const, implies_true, Nat.reduceAdd, Nat.reduceSub, Nat.reduceLT, Nat.reduceLeDiff, ↓reduceIte, reduceCtorEq, Int.reduceEq, Int.reduceLT, Int.reduceLE, Int.reduceGT, Int.reduceGE, Int.reduceAdd, Int.reduceSub, Int.reduceNeg, Int.reduceToNat, Nat.reduceBEq, Nat.reduceEqDiff]
  refine hL _ _ ?_
  clear hL
  refine ES_seq_gen fun L hL => ?_
  simp -implicitDefEqProofs (maxSteps := 99999999) (disch := first | omega | (simp only [AHeap.set_length, killO_length, List.length_cons]; first | done | omega)) only [hl3, e12, c0, Nat.sub_zero, va, vs, vw, Nat.reduceMul, ite_true, ite_false, eq_self, forall_const, implies_true, Nat.reduceAdd, Nat.reduceSub, Nat.reduceLT, Nat.reduceLeDiff, ↓reduceIte, reduceCtorEq, Int.reduceEq, Int.reduceLT, Int.reduceLE, Int.reduceGT, Int.reduceGE, Int.reduceAdd, Int.reduceSub, Int.reduceNeg, Int.reduceToNat, Nat.reduceBEq, Nat.reduceEqDiff]
  refine ⟨⟨by omega, rfl, by omega, by omega⟩, ?_⟩
  refine hL _ _ ?_
  clear hL
  refine ES_seq_gen fun L hL => ?_
  simp -implicitDefEqProofs (maxSteps := 99999999) (disch := first | omega | (simp only [AHeap.set_length, killO_length, List.length_cons]; first | done | omega)) only [va, vs, vw, Nat.reduceMul, ite_true, ite_false, eq_self, forall_const, implies_true, Nat.reduceAdd, Nat.reduceSub, Nat.reduceLT, Nat.reduceLeDiff, ↓reduceIte, reduceCtorEq, Int.reduceEq, Int.reduceLT, Int.reduceLE, Int.reduceGT, Int.reduceGE, Int.reduceAdd, Int.reduceSub, Int.reduceNeg, Int.reduceToNat, Nat.reduceBEq, Nat.reduceEqDiff]
  refine ES_loopL (fun ts G => ∃ j : Nat, (j ≤ m ∧ G = H) ∧ Fr [some (.vec 3 idh 0 hs.length (some m)), some (.lst 3 (hks hs) rl), none, none, some (.sc (.bool false)), some (.vec 3 idh 0 m (some m)), some (.sc (.int .i64 j)), none, none, none, none, none, none, none, none, none, none, none, none, none, none, none, none, none, none, none, none, none, none, none, none, none, none, none, none, none, none, none, none, none, none, none, none, none, none, none, none, none, none, none, none, none, none, none, none, none, none, none] ts) (fun ts _ => m - (intV (ts.getD 6 .top)).toNat) ⟨0, ⟨by omega, rfl⟩, by simp [Fr]⟩ ?_
  rintro ts H ⟨j, ⟨hj, rfl⟩, hfr⟩ L2 hL2
  obtain ⟨js, rfl⟩ := hfr.opened
  clear hfr
  simp -implicitDefEqProofs (maxSteps := 99999999) (disch := first | omega | (simp only [AHeap.set_length, killO_length, List.length_cons]; first | done | omega)) only [mk, va, vs, vw, Nat.reduceMul, ite_true, ite_false, eq_self, forall_const, implies_true, Nat.reduceAdd, Nat.reduceSub, Nat.reduceLT, Nat.reduceLeDiff, ↓reduceIte, reduceCtorEq, Int.reduceEq, Int.reduceLT, Int.reduceLE, Int.reduceGT, Int.reduceGE, Int.reduceAdd, Int.reduceSub, Int.reduceNeg, Int.reduceToNat, Nat.reduceBEq, Nat.reduceEqDiff]
  refine condR_if (fun h => ?_) (fun h => ?_)
  · have h1 : j < m := by omega
    have j0 : (0 : Int) ≤ (j : Int) := by omega
    have j1 : (j : Int) < m := by omega
    by_cases c1 : j < hs.length
    · have c2 : (j : Int) < hs.length := by omega
      have c3 : ¬ ((j : Int) ≥ hs.length) := by omega
      have hg1 := lentHs_get (io := io) (jn := jn) c1
      have hg2 := hks_get c1
      obtain ⟨f1, f2⟩ := hf.nth c1
      unfold lentH at hg1
      simp -implicitDefEqProofs (maxSteps := 99999999) (disch := first | omega | (simp only [AHeap.set_length, killO_length, List.length_cons]; first | done | omega)) only [hrow, hl3, hla, h1, j0, j1, c1, c2, c3, hg1, hg2, va, vs, vw, Nat.reduceMul, ite_true, ite_false, eq_self, forall_const, implies_true, Nat.reduceAdd, Nat.reduceSub, Nat.reduceLT, Nat.reduceLeDiff, ↓reduceIte, reduceCtorEq, Int.reduceEq, Int.reduceLT, Int.reduceLE, Int.reduceGT, Int.reduceGE, Int.reduceAdd, Int.reduceSub, Int.reduceNeg, Int.reduceToNat, Nat.reduceBEq, Nat.reduceEqDiff]
      refine callD_same (keptHunk_d (nthH hs j) none none H (io j) (jn j) (ok.old j c1) (ok.new j c1) f1 f2) ?_
      simp -implicitDefEqProofs (maxSteps := 99999999) (disch := first | omega | (simp only [AHeap.set_length, killO_length, List.length_cons]; first | done | omega)) only [hrow, hl3, hla, h1, j0, j1, c1, c2, c3, hg1, hg2, va, vs, vw, Nat.reduceMul, ite_true, ite_false, eq_self, forall_const, implies_true, Nat.reduceAdd, Nat.reduceSub, Nat.reduceLT, Nat.reduceLeDiff, ↓reduceIte, reduceCtorEq, Int.reduceEq, Int.reduceLT, Int.reduceLE, Int.reduceGT, Int.reduceGE, Int.reduceAdd, Int.reduceSub, Int.reduceNeg, Int.reduceToNat, Nat.reduceBEq, Nat.reduceEqDiff]
      exact hL2 _ _ ⟨j + 1, ⟨by omega, rfl⟩, by simp [Fr]⟩ (by simp [intV, mk]; omega)
    · obtain ⟨t, rfl⟩ : ∃ t, j = hs.length + t := ⟨j - hs.length, by omega⟩
      have c2 : ¬ (((hs.length + t : Nat) : Int) < hs.length) := by omega
      have c3 : ((hs.length + t : Nat) : Int) ≥ hs.length := by omega
      have hg1 := lentHs_mark (hs := hs) (io := io) (jn := jn) (t := t) (by omega)
      unfold mkH at hg1
      have e2 : ((hs.length + t : Nat) : Int) - hs.length = t := by omega
      simp -implicitDefEqProofs (maxSteps := 99999999) (disch := first | omega | (simp only [AHeap.set_length, killO_length, List.length_cons]; first | done | omega)) only [hrow, hl3, hla, h1, j0, j1, c1, c2, c3, hg1, e2, va, vs, vw, Nat.reduceMul, ite_true, ite_false, eq_self, forall_const, implies_true, Nat.reduceAdd, Nat.reduceSub, Nat.reduceLT, Nat.reduceLeDiff, ↓reduceIte, reduceCtorEq, Int.reduceEq, Int.reduceLT, Int.reduceLE, Int.reduceGT, Int.reduceGE, Int.reduceAdd, Int.reduceSub, Int.reduceNeg, Int.reduceToNat, Nat.reduceBEq, Nat.reduceEqDiff]
      refine callD_same (markHunk_d _ _ _) ?_
      simp -implicitDefEqProofs (maxSteps := 99999999) (disch := first | omega | (simp only [AHeap.set_length, killO_length, List.length_cons]; first | done | omega)) only [hrow, hl3, hla, h1, j0, j1, c1, c2, c3, hg1, e2, va, vs, vw, Nat.reduceMul, ite_true, ite_false, eq_self, forall_const, implies_true, Nat.reduceAdd, Nat.reduceSub, Nat.reduceLT, Nat.reduceLeDiff, ↓reduceIte, reduceCtorEq, Int.reduceEq, Int.reduceLT, Int.reduceLE, Int.reduceGT, Int.reduceGE, Int.reduceAdd, Int.reduceSub, Int.reduceNeg, Int.reduceToNat, Nat.reduceBEq, Nat.reduceEqDiff]
      refine callD_same (sameMark_d _ _) ?_
      simp -implicitDefEqProofs (maxSteps := 99999999) (disch := first | omega | (simp only [AHeap.set_length, killO_length, List.length_cons]; first | done | omega)) only [hrow, hl3, hla, h1, j0, j1, c1, c2, c3, hg1, e2, va, vs, vw, Nat.reduceMul, ite_true, ite_false, eq_self, forall_const, implies_true, Nat.reduceAdd, Nat.reduceSub, Nat.reduceLT, Nat.reduceLeDiff, ↓reduceIte, reduceCtorEq, Int.reduceEq, Int.reduceLT, Int.reduceLE, Int.reduceGT, Int.reduceGE, Int.reduceAdd, Int.reduceSub, Int.reduceNeg, Int.reduceToNat, Nat.reduceBEq, Nat.reduceEqDiff]
      exact hL2 _ _ ⟨hs.length + t + 1, ⟨by omega, rfl⟩, by simp [Fr]⟩ (by simp [intV, mk]; omega)
  · refine hL _ _ ?_
    clear hL
    simp -implicitDefEqProofs (maxSteps := 99999999) (disch := first | omega | (simp only [AHeap.set_length, killO_length, List.length_cons]; first | done | omega)) only [va, vs, vw, Nat.reduceMul, ite_true, ite_false, eq_self, forall_const, implies_true, Nat.reduceAdd, Nat.reduceSub, Nat.reduceLT, Nat.reduceLeDiff, ↓reduceIte, reduceCtorEq, Int.reduceEq, Int.reduceLT, Int.reduceLE, Int.reduceGT, Int.reduceGE, Int.reduceAdd, Int.reduceSub, Int.reduceNeg, Int.reduceToNat, Nat.reduceBEq, Nat.reduceEqDiff]
    exact Weak.refl _ _ _

/-- The lent blocks' numbers. -/
def lentIds (n idh : Nat) (io jn : Nat → Nat) : List Nat := idh :: ((List.range n).map io ++ (List.range n).map jn)
theorem mem_lentIds {n idh : Nat} {io jn : Nat → Nat} {i : Nat} : i ∈ lentIds n idh io jn ↔ i = idh ∨ (∃ k, k < n ∧ i = io k) ∨ ∃ k, k < n ∧ i = jn k := by
  simp [lentIds, eq_comm]
structure LentFar (n idh : Nat) (io jn : Nat → Nat) : Prop where
  oo : ∀ i j, i < n → j < n → io i = io j → i = j
  nn : ∀ i j, i < n → j < n → jn i = jn j → i = j
  on : ∀ i j, i < n → j < n → io i ≠ jn j
  ho : ∀ i, i < n → io i ≠ idh
  hn : ∀ i, i < n → jn i ≠ idh

theorem overHunks_d (hs : List Hk) (H : AHeap) (idh : Nat) (io jn : Nat → Nat) (ok : LentOK H hs idh io jn) (far : LentFar hs.length idh io jn) (hf : FewH hs) :
    D Try.prog 20 [lentHV hs idh] H (.ret (.tup [])) (killIds (lentIds hs.length idh io jn) H) := by
  have hlen := hf.1
  have hidl := AHeap.find_lt ok.row
  refine D_of_DK (by rw [killIds_length]; exact Nat.le_refl _) (dk20 (E_of_ES ?_))
  simp only [ic20, ux]
  obtain ⟨m, hm⟩ : ∃ m, m = hs.length + 12 := ⟨_, rfl⟩
  have e12 : ((hs.length : Int) + 12).toNat = m := by omega
  have c0 : 0 < m := by omega
  have hla : (lentHs hs io jn ++ mksH 12).length = m := by rw [lentAll_length, hm]
  rw [show lentHV hs idh = .vec 3 idh 0 hs.length (some m) from by rw [hm]]
  refine ES_seq_gen fun L hL => ?_
  simp -implicitDefEqProofs (maxSteps := 99999999) (disch := first | omega | (simp only [AHeap.set_length, killO_length, List.length_cons]; first | done | omega)) only [va, vs, vw, Nat.reduceMul, ite_true, ite_false, eq_self, forall_const, implies_true, Nat.reduceAdd, Nat.reduceSub, Nat.reduceLT, Nat.reduceLeDiff, ↓reduceIte, reduceCtorEq, Int.reduceEq, Int.reduceLT, Int.reduceLE, Int.reduceGT, Int.reduceGE, Int.reduceAdd, Int.reduceSub, Int.reduceNeg, Int.reduceToNat, Nat.reduceBEq, Nat.reduceEqDiff]
  refine ES_loopL (fun ts G => ∃ k : Nat, (k ≤ hs.length ∧ G.length = H.length ∧ AHeap.find G idh = lentHB hs io jn ∧ (∀ i, k ≤ i → i < hs.length → AHeap.find G (io i) = lentB (nthH hs i).old ∧ AHeap.find G (jn i) = lentB (nthH hs i).new) ∧ ∀ i, i ∉ lentIds hs.length idh io jn → AHeap.find G i = AHeap.find H i) ∧ Fr [some (.vec 3 idh 0 hs.length (some m)), none, some (.sc (.int .i64 k)), none, none, none, none, none, none, none, none, none, none, none, none, none, none, none, none, none, none, none, none, none, none, none, none, none, none, none, none, none] ts) (fun ts _ => hs.length - (intV (ts.getD 2 .top)).toNat) ⟨0, ⟨by omega, rfl, ok.row, fun i _ hi => ⟨ok.old i hi, ok.new i hi⟩, fun _ _ => rfl⟩, by simp [Fr]⟩ ?_
  rintro ts G ⟨k, ⟨hk, q1, q2, q3, q4⟩, hfr⟩ L2 hL2
  obtain ⟨js, rfl⟩ := hfr.opened
  clear hfr
  simp -implicitDefEqProofs (maxSteps := 99999999) (disch := first | omega | (simp only [AHeap.set_length, killO_length, List.length_cons]; first | done | omega)) only [mk, va, vs, vw, Nat.reduceMul, ite_true, ite_false, eq_self, forall_const, implies_true, Nat.reduceAdd, Nat.reduceSub, Nat.reduceLT, Nat.reduceLeDiff, ↓reduceIte, reduceCtorEq, Int.reduceEq, Int.reduceLT, Int.reduceLE, Int.reduceGT, Int.reduceGE, Int.reduceAdd, Int.reduceSub, Int.reduceNeg, Int.reduceToNat, Nat.reduceBEq, Nat.reduceEqDiff]
  refine condR_if (fun h => ?_) (fun h => ?_)
  · have h1 : k < hs.length := by omega
    have k0 : (0 : Int) ≤ (k : Int) := by omega
    have k1 : (k : Int) < hs.length := by omega
    have k2 : k < m := by omega
    have hg1 := lentHs_get (io := io) (jn := jn) h1
    unfold lentH at hg1
    obtain ⟨f1, f2⟩ := hf.nth h1
    obtain ⟨z1, z2⟩ := q3 k (Nat.le_refl _) h1
    simp -implicitDefEqProofs (maxSteps := 99999999) (disch := first | omega | (simp only [AHeap.set_length, killO_length, List.length_cons]; first | done | omega)) only [q2, hla, h1, k0, k1, k2, hg1, va, vs, vw, Nat.reduceMul, ite_true, ite_false, eq_self, forall_const, implies_true, Nat.reduceAdd, Nat.reduceSub, Nat.reduceLT, Nat.reduceLeDiff, ↓reduceIte, reduceCtorEq, Int.reduceEq, Int.reduceLT, Int.reduceLE, Int.reduceGT, Int.reduceGE, Int.reduceAdd, Int.reduceSub, Int.reduceNeg, Int.reduceToNat, Nat.reduceBEq, Nat.reduceEqDiff]
    refine callR_ret (overHunk_d (nthH hs k) G (io k) (jn k) z1 z2 (far.on k k h1 h1) f1 f2) ?_
    simp -implicitDefEqProofs (maxSteps := 99999999) (disch := first | omega | (simp only [AHeap.set_length, killO_length, List.length_cons]; first | done | omega)) only [va, vs, vw, Nat.reduceMul, ite_true, ite_false, eq_self, forall_const, implies_true, Nat.reduceAdd, Nat.reduceSub, Nat.reduceLT, Nat.reduceLeDiff, ↓reduceIte, reduceCtorEq, Int.reduceEq, Int.reduceLT, Int.reduceLE, Int.reduceGT, Int.reduceGE, Int.reduceAdd, Int.reduceSub, Int.reduceNeg, Int.reduceToNat, Nat.reduceBEq, Nat.reduceEqDiff]
    refine hL2 _ _ ⟨k + 1, ⟨by omega, by rw [AHeap.set_length, AHeap.set_length]; exact q1, ?_, fun i hi hi2 => ?_, fun i hi => ?_⟩, by simp [Fr]⟩ (by simp [intV, mk]; omega)
    · rw [AHeap.find_set_ne (far.hn k h1).symm, AHeap.find_set_ne (far.ho k h1).symm]
      exact q2
    · obtain ⟨w1, w2⟩ := q3 i (by omega) hi2
      constructor
      · rw [AHeap.find_set_ne (far.on i k hi2 h1), AHeap.find_set_ne (fun e => by have := far.oo i k hi2 h1 e; omega)]
        exact w1
      · rw [AHeap.find_set_ne (fun e => by have := far.nn i k hi2 h1 e; omega), AHeap.find_set_ne (far.on k i h1 hi2).symm]
        exact w2
    · rw [AHeap.find_set_ne (fun e => hi (mem_lentIds.2 (.inr (.inr ⟨k, h1, e⟩)))), AHeap.find_set_ne (fun e => hi (mem_lentIds.2 (.inr (.inl ⟨k, h1, e⟩))))]
      exact q4 i hi
  · refine hL _ _ ?_
    clear hL hL2
    refine ES_seq_gen fun L hL => ?_
    simp -implicitDefEqProofs (maxSteps := 99999999) (disch := first | omega | (simp only [AHeap.set_length, killO_length, List.length_cons]; first | done | omega)) only [e12, c0, Nat.sub_zero, va, vs, vw, Nat.reduceMul, ite_true, ite_false, eq_self, forall_const, implies_true, Nat.reduceAdd, Nat.reduceSub, Nat.reduceLT, Nat.reduceLeDiff, ↓reduceIte, reduceCtorEq, Int.reduceEq, Int.reduceLT, Int.reduceLE, Int.reduceGT, Int.reduceGE, Int.reduceAdd, Int.reduceSub, Int.reduceNeg, Int.reduceToNat, Nat.reduceBEq, Nat.reduceEqDiff]
    refine ⟨⟨by omega, rfl, by omega, by omega⟩, ?_⟩
    refine hL _ _ ?_
    clear hL
    simp -implicitDefEqProofs (maxSteps := 99999999) (disch := first | omega | (simp only [AHeap.set_length, killO_length, List.length_cons]; first | done | omega)) only [va, vs, vw, Nat.reduceMul, ite_true, ite_false, eq_self, forall_const, implies_true, Nat.reduceAdd, Nat.reduceSub, Nat.reduceLT, Nat.reduceLeDiff, ↓reduceIte, reduceCtorEq, Int.reduceEq, Int.reduceLT, Int.reduceLE, Int.reduceGT, Int.reduceGE, Int.reduceAdd, Int.reduceSub, Int.reduceNeg, Int.reduceToNat, Nat.reduceBEq, Nat.reduceEqDiff]
    have hsh : ∀ x ∈ lentHs hs io jn ++ mksH 12, shH.is x := fun x hx => by
      rcases List.mem_append.1 hx with hx | hx
      · obtain ⟨i, _, rfl⟩ := List.mem_map.1 hx; exact ⟨rfl, rfl, rfl⟩
      · obtain ⟨i, _, rfl⟩ := List.mem_map.1 hx; exact ⟨rfl, rfl, rfl⟩
    refine ES_loopL (fun ts F => ∃ (j : Nat) (es : List AV), (j ≤ m ∧ F.length = G.length ∧ AHeap.find F idh = some ⟨3, es, true, 41⟩ ∧ es.length = m ∧ (∀ x ∈ es, shH.is x) ∧ ∀ i, i ≠ idh → AHeap.find F i = AHeap.find G i) ∧ Fr [none, none, none, some (.vec 3 idh 0 m (some m)), some (.sc (.int .i64 j)), none, none, none, none, none, none, none, none, none, none, none, none, none, none, none, none, none, none, none, none, none, none, none, none, none, none, none] ts) (fun ts _ => m - (intV (ts.getD 4 .top)).toNat) ⟨0, _, ⟨by omega, rfl, q2, hla, hsh, fun _ _ => rfl⟩, by simp [Fr]⟩ ?_
    rintro ts F ⟨j, es, ⟨hj, p1, p2, p3, p4, p5⟩, hfr⟩ L2 hL2
    obtain ⟨js, rfl⟩ := hfr.opened
    clear hfr
    simp -implicitDefEqProofs (maxSteps := 99999999) (disch := first | omega | (simp only [AHeap.set_length, killO_length, List.length_cons]; first | done | omega)) only [mk, va, vs, vw, Nat.reduceMul, ite_true, ite_false, eq_self, forall_const, implies_true, Nat.reduceAdd, Nat.reduceSub, Nat.reduceLT, Nat.reduceLeDiff, ↓reduceIte, reduceCtorEq, Int.reduceEq, Int.reduceLT, Int.reduceLE, Int.reduceGT, Int.reduceGE, Int.reduceAdd, Int.reduceSub, Int.reduceNeg, Int.reduceToNat, Nat.reduceBEq, Nat.reduceEqDiff]
    refine condR_if (fun h => ?_) (fun h => ?_)
    · have h1 : j < m := by omega
      have j0 : (0 : Int) ≤ (j : Int) := by omega
      have j1 : (j : Int) < m := by omega
      simp -implicitDefEqProofs (maxSteps := 99999999) (disch := first | omega | (simp only [AHeap.set_length, killO_length, List.length_cons]; first | done | omega)) only [j0, j1, va, vs, vw, Nat.reduceMul, ite_true, ite_false, eq_self, forall_const, implies_true, Nat.reduceAdd, Nat.reduceSub, Nat.reduceLT, Nat.reduceLeDiff, ↓reduceIte, reduceCtorEq, Int.reduceEq, Int.reduceLT, Int.reduceLE, Int.reduceGT, Int.reduceGE, Int.reduceAdd, Int.reduceSub, Int.reduceNeg, Int.reduceToNat, Nat.reduceBEq, Nat.reduceEqDiff]
      refine callR_ret (markHunk_d _ _ _) ?_
      have j2 : j < es.length := by omega
      have hsx := p4 _ (List.getElem_mem j2)
      have hgx : es.getD j .top = es[j] := by simp [List.getD, j2]
      have x1 : (es.getD j .top).ncells = 3 := by rw [hgx]; exact hsx.2.1
      have x2 : (es.getD j .top).isAgg = true := by rw [hgx]; exact hsx.2.2
      have x3 : ∀ c, AV.upd (es.getD j .top) 0 (.agg [c, .lst 0 [] (some []), .lst 0 [] (some [])]) = .agg [c, .lst 0 [] (some []), .lst 0 [] (some [])] := fun c => upd_full x1 rfl rfl
      simp -implicitDefEqProofs (maxSteps := 99999999) (disch := first | omega | (simp only [AHeap.set_length, killO_length, List.length_cons]; first | done | omega)) only [p2, p3, h1, j0, j1, j2, x1, x2, x3, va, vs, vw, Nat.reduceMul, ite_true, ite_false, eq_self, forall_const, implies_true, Nat.reduceAdd, Nat.reduceSub, Nat.reduceLT, Nat.reduceLeDiff, ↓reduceIte, reduceCtorEq, Int.reduceEq, Int.reduceLT, Int.reduceLE, Int.reduceGT, Int.reduceGE, Int.reduceAdd, Int.reduceSub, Int.reduceNeg, Int.reduceToNat, Nat.reduceBEq, Nat.reduceEqDiff]
      refine hL2 _ _ ⟨j + 1, _, ⟨by omega, by rw [AHeap.set_length]; exact p1, AHeap.find_set_same (by omega), by simp [p3], fun x hx => ?_, fun i hi => ?_⟩, by simp [Fr]⟩ (by simp [intV, mk]; omega)
      · rcases List.mem_or_eq_of_mem_set hx with hx | rfl
        · exact p4 x hx
        · exact ⟨rfl, rfl, rfl⟩
      · rw [AHeap.find_set_ne hi]
        exact p5 i hi
    · simp -implicitDefEqProofs (maxSteps := 99999999) (disch := first | omega | (simp only [AHeap.set_length, killO_length, List.length_cons]; first | done | omega)) only [va, vs, vw, Nat.reduceMul, ite_true, ite_false, eq_self, forall_const, implies_true, Nat.reduceAdd, Nat.reduceSub, Nat.reduceLT, Nat.reduceLeDiff, ↓reduceIte, reduceCtorEq, Int.reduceEq, Int.reduceLT, Int.reduceLE, Int.reduceGT, Int.reduceGE, Int.reduceAdd, Int.reduceSub, Int.reduceNeg, Int.reduceToNat, Nat.reduceBEq, Nat.reduceEqDiff]
      refine weak_gen [] (by simp [killIds_length]) (by simp) (by simp) (fun i k hi hk => .inl ?_) (fun i s k hs => by simp at hs) (.same trivial)
      obtain ⟨g1, g2⟩ := find_killIds hk
      have g3 : i ≠ idh := fun e => g1 (mem_lentIds.2 (.inl e))
      exact ⟨g2, by rw [p5 i g3, q4 i g1]; exact g2⟩
end Go.Proofs.Ytddhdlfafaobhaa
