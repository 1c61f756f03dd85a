/- Hunks that are lent. -/
import Derived.Test.YtddhdlfafaobhaaS36
import Derived.Test.YtddhdlfafaobhaaS44
import Derived.Test.YtddhdlfafaobhaaV34
namespace Go.Proofs.Ytddhdlfafaobhaa
open Go.RowKit
set_option maxRecDepth 100000
set_option linter.unusedVariables false
set_option linter.unusedSimpArgs false

/-- A lent list of hunks: its elements, where their texts lie in own memory; the marks behind it. -/
def lentH (h : Hk) (i j : Nat) : AV := .agg [.sc (.int .i64 h.at_), lentV h.old i, lentV h.new j]
def lentHs (hs : List Hk) (io jn : Nat → Nat) : List AV := (List.range hs.length).map fun i => lentH (nthH hs i) (io i) (jn i)
def mksH (j : Nat) : List AV := (List.range j).map fun i => mkH 1 i
theorem lentHs_length {hs : List Hk} {io jn : Nat → Nat} : (lentHs hs io jn).length = hs.length := by simp [lentHs]
theorem mksH_length {j : Nat} : (mksH j).length = j := by simp [mksH]
theorem mksH_succ {j : Nat} : mksH (j + 1) = mksH j ++ [mkH 1 j] := by simp [mksH, List.range_succ]
abbrev lentHB (hs : List Hk) (io jn : Nat → Nat) : Option ABlk := some ⟨3, lentHs hs io jn ++ mksH 12, true, 41⟩
abbrev lentHV (hs : List Hk) (id : Nat) : AV := .vec 3 id 0 hs.length (some (hs.length + 12))
abbrev zeroH : AV := .agg [.sc (.int .i64 0), .lst 0 [] (some []), .lst 0 [] (some [])]
/-- The blocks that are laid for them. -/
def lentBs (hs : List Hk) : List (Option ABlk) := (List.range (2 * hs.length)).map fun j => if j % 2 = 0 then lentB (nthH hs (j / 2)).old else lentB (nthH hs (j / 2)).new
/-- What is made of it, up to the k-th. -/
def partH (hs : List Hk) (n0 k : Nat) : List AV := (List.range k).map fun i => lentH (nthH hs i) (n0 + 1 + 3 * i) (n0 + 2 + 3 * i)
theorem partH_length {hs : List Hk} {n0 k : Nat} : (partH hs n0 k).length = k := by simp [partH]
theorem partH_succ {hs : List Hk} {n0 k : Nat} : partH hs n0 (k + 1) = partH hs n0 k ++ [lentH (nthH hs k) (n0 + 1 + 3 * k) (n0 + 2 + 3 * k)] := by simp [partH, List.range_succ]

def FewH (hs : List Hk) : Prop := hs.length ≤ 1000000 ∧ ∀ h ∈ hs, h.old.length ≤ 1000000 ∧ h.new.length ≤ 1000000
theorem FewH.nth {hs : List Hk} (h : FewH hs) {k : Nat} (hk : k < hs.length) : (nthH hs k).old.length ≤ 1000000 ∧ (nthH hs k).new.length ≤ 1000000 := by
  rw [nthH_eq hk]; exact h.2 _ (List.getElem_mem _)

set_option maxHeartbeats 0 in
theorem lentHunks_d (hs : List Hk) (ro : Option (List AV)) (H : AHeap) (hf : FewH hs) :
    D Try.prog 13 [.lst 3 (hks hs) ro] H (.ret (lentHV hs (H.length + 2 * hs.length))) (lays (lentBs hs ++ [lentHB hs (fun i => H.length + 2 * i) (fun i => H.length + 2 * i + 1)]) H) := by
  have hlen := hf.1
  refine D_of_DK (by rw [lays_length]; omega) (dk13 (E_of_ES ?_))
  simp only [ic13, ux]
  obtain ⟨m, hm⟩ : ∃ m, m = hs.length + 12 := ⟨_, rfl⟩
  have e12 : ((hs.length : Int) + 12).toNat = m := by omega
  have hl3 := hks_length hs
  refine ES_seq_gen fun L hL => ?_
  simp -implicitDefEqProofs (maxSteps := 99999999) (disch := first | omega | (simp only [AHeap.set_length, killO_length, List.length_cons]; first | done | omega)) only [va, vs, vw, Nat.reduceMul, ite_true, ite_false, eq_self, forall_const, implies_true, Nat.reduceAdd, Nat.reduceSub, Nat.reduceLT, Nat.reduceLeDiff, ↓reduceIte, reduceCtorEq, Int.reduceEq, Int.reduceLT, Int.reduceLE, Int.reduceGT, Int.reduceGE, Int.reduceAdd, Int.reduceSub, Int.reduceNeg, Int.reduceToNat, Nat.reduceBEq, Nat.reduceEqDiff]
  refine hL _ _ ?_
  clear hL
  refine ES_seq_gen fun L hL => ?_
  simp -implicitDefEqProofs (maxSteps := 99999999) (disch := first | omega | (simp only [AHeap.set_length, killO_length, List.length_cons]; first | done | omega)) only [hl3, e12, va, vs, vw, Nat.reduceMul, ite_true, ite_false, eq_self, forall_const, implies_true, Nat.reduceAdd, Nat.reduceSub, Nat.reduceLT, Nat.reduceLeDiff, ↓reduceIte, reduceCtorEq, Int.reduceEq, Int.reduceLT, Int.reduceLE, Int.reduceGT, Int.reduceGE, Int.reduceAdd, Int.reduceSub, Int.reduceNeg, Int.reduceToNat, Nat.reduceBEq, Nat.reduceEqDiff]
  refine ⟨by omega, ?_⟩
  refine hL _ _ ?_
  clear hL
  refine ES_seq_gen fun L hL => ?_
  simp -implicitDefEqProofs (maxSteps := 99999999) (disch := first | omega | (simp only [AHeap.set_length, killO_length, List.length_cons]; first | done | omega)) only [va, vs, vw, Nat.reduceMul, ite_true, ite_false, eq_self, forall_const, implies_true, Nat.reduceAdd, Nat.reduceSub, Nat.reduceLT, Nat.reduceLeDiff, ↓reduceIte, reduceCtorEq, Int.reduceEq, Int.reduceLT, Int.reduceLE, Int.reduceGT, Int.reduceGE, Int.reduceAdd, Int.reduceSub, Int.reduceNeg, Int.reduceToNat, Nat.reduceBEq, Nat.reduceEqDiff]
  refine ES_loopL (fun ts G => ∃ k : Nat, (k ≤ hs.length ∧ G.length = H.length + 1 + 3 * k ∧ AHeap.find G H.length = some ⟨3, partH hs H.length k ++ List.replicate (m - k) zeroH, true, 41⟩ ∧ (∀ i, i < k → AHeap.find G (H.length + 1 + 3 * i) = lentB (nthH hs i).old ∧ AHeap.find G (H.length + 2 + 3 * i) = lentB (nthH hs i).new) ∧ ∀ i, i < H.length → AHeap.find G i = AHeap.find H i) ∧ Fr [some (.lst 3 (hks hs) ro), none, none, some (.vec 3 H.length 0 k (some m)), some (.sc (.int .i64 k)), none, none, none, none, none, none, none, none, none, none, none, none, none, none, none, none, none, none, none, none, none, none, none, none, none, none, none, none, none, none, none, none, none, none] ts) (fun ts _ => hs.length - (intV (ts.getD 4 .top)).toNat) ?_ ?_
  · refine ⟨0, ⟨Nat.zero_le _, by simp, ?_, fun i hi => by omega, fun i hi => ?_⟩, by simp [Fr]⟩
    · simp -implicitDefEqProofs (maxSteps := 99999999) (disch := first | omega | (simp only [AHeap.set_length, killO_length, List.length_cons]; first | done | omega)) only [va, vs, vw, Nat.reduceMul, ite_true, ite_false, eq_self, forall_const, implies_true, Nat.reduceAdd, Nat.reduceSub, Nat.reduceLT, Nat.reduceLeDiff, ↓reduceIte, reduceCtorEq, Int.reduceEq, Int.reduceLT, Int.reduceLE, Int.reduceGT, Int.reduceGE, Int.reduceAdd, Int.reduceSub, Int.reduceNeg, Int.reduceToNat, Nat.reduceBEq, Nat.reduceEqDiff]
      simp [partH]
    · simp -implicitDefEqProofs (maxSteps := 99999999) (disch := first | omega | (simp only [AHeap.set_length, killO_length, List.length_cons]; first | done | omega)) only [va, vs, vw, Nat.reduceMul, ite_true, ite_false, eq_self, forall_const, implies_true, Nat.reduceAdd, Nat.reduceSub, Nat.reduceLT, Nat.reduceLeDiff, ↓reduceIte, reduceCtorEq, Int.reduceEq, Int.reduceLT, Int.reduceLE, Int.reduceGT, Int.reduceGE, Int.reduceAdd, Int.reduceSub, Int.reduceNeg, Int.reduceToNat, Nat.reduceBEq, Nat.reduceEqDiff]
  · rintro ts G ⟨k, ⟨hk, q1, q2, q3, q4⟩, hfr⟩ L2 hL2
    obtain ⟨js, rfl⟩ := hfr.opened
    clear hfr
    simp -implicitDefEqProofs (maxSteps := 99999999) (disch := first | omega | (simp only [AHeap.set_length, killO_length, List.length_cons]; first | done | omega)) only [mk, hl3, va, vs, vw, Nat.reduceMul, ite_true, ite_false, eq_self, forall_const, implies_true, Nat.reduceAdd, Nat.reduceSub, Nat.reduceLT, Nat.reduceLeDiff, ↓reduceIte, reduceCtorEq, Int.reduceEq, Int.reduceLT, Int.reduceLE, Int.reduceGT, Int.reduceGE, Int.reduceAdd, Int.reduceSub, Int.reduceNeg, Int.reduceToNat, Nat.reduceBEq, Nat.reduceEqDiff]
    refine condR_if (fun h => ?_) (fun h => ?_)
    · have h1 : k < hs.length := by omega
      have k0 : (0 : Int) ≤ (k : Int) := by omega
      have k1 : (k : Int) < hs.length := by omega
      have hg := hks_get h1
      obtain ⟨f1, f2⟩ := hf.nth h1
      simp -implicitDefEqProofs (maxSteps := 99999999) (disch := first | omega | (simp only [AHeap.set_length, killO_length, List.length_cons]; first | done | omega)) only [hl3, hg, h1, k0, k1, va, vs, vw, Nat.reduceMul, ite_true, ite_false, eq_self, forall_const, implies_true, Nat.reduceAdd, Nat.reduceSub, Nat.reduceLT, Nat.reduceLeDiff, ↓reduceIte, reduceCtorEq, Int.reduceEq, Int.reduceLT, Int.reduceLE, Int.reduceGT, Int.reduceGE, Int.reduceAdd, Int.reduceSub, Int.reduceNeg, Int.reduceToNat, Nat.reduceBEq, Nat.reduceEqDiff]
      refine callR_ret (lentHunk_d (nthH hs k) none none G f1 f2) ?_
      have hpl := partH_length (hs := hs) (n0 := H.length) (k := k)
      have htk : (partH hs H.length k ++ List.replicate (m - k) zeroH).take k = partH hs H.length k := by rw [List.take_append_of_le_length (by omega), List.take_of_length_le (by omega)]
      have hdk : (partH hs H.length k ++ List.replicate (m - k) zeroH).drop (k + 1) = List.replicate (m - (k + 1)) zeroH := by
        rw [List.drop_append, List.drop_of_length_le (by omega), hpl, List.nil_append, List.drop_replicate]
        congr 1
        omega
      have hll : (partH hs H.length k ++ List.replicate (m - k) zeroH).length = m := by rw [List.length_append, hpl, List.length_replicate]; omega
      have hroom : k + 1 ≤ m := by omega
      have hkm : k ≤ m := by omega
      have hlim : k + 1 ≤ 100000000 := by omega
      simp -implicitDefEqProofs (maxSteps := 99999999) (disch := first | omega | (simp only [AHeap.set_length, killO_length, List.length_cons]; first | done | omega)) only [q2, htk, hdk, hll, hroom, hkm, hlim, va, vs, vw, Nat.reduceMul, ite_true, ite_false, eq_self, forall_const, implies_true, Nat.reduceAdd, Nat.reduceSub, Nat.reduceLT, Nat.reduceLeDiff, ↓reduceIte, reduceCtorEq, Int.reduceEq, Int.reduceLT, Int.reduceLE, Int.reduceGT, Int.reduceGE, Int.reduceAdd, Int.reduceSub, Int.reduceNeg, Int.reduceToNat, Nat.reduceBEq, Nat.reduceEqDiff]
      refine hL2 _ _ ⟨k + 1, ⟨by omega, by simp [AHeap.set_length]; omega, ?_, fun i hi => ?_, fun i hi => ?_⟩, by simp [Fr]⟩ (by simp [intV, mk]; omega)
      · simp -implicitDefEqProofs (maxSteps := 99999999) (disch := first | omega | (simp only [AHeap.set_length, killO_length, List.length_cons]; first | done | omega)) only [va, vs, vw, Nat.reduceMul, ite_true, ite_false, eq_self, forall_const, implies_true, Nat.reduceAdd, Nat.reduceSub, Nat.reduceLT, Nat.reduceLeDiff, ↓reduceIte, reduceCtorEq, Int.reduceEq, Int.reduceLT, Int.reduceLE, Int.reduceGT, Int.reduceGE, Int.reduceAdd, Int.reduceSub, Int.reduceNeg, Int.reduceToNat, Nat.reduceBEq, Nat.reduceEqDiff]
        rw [partH_succ, q1]
        simp only [List.append_assoc, List.singleton_append, lentH]
        rw [show H.length + 1 + 3 * k + 1 = H.length + 2 + 3 * k from by omega]
      · by_cases e : i = k
        · subst e
          rw [show H.length + 1 + 3 * i = G.length from by omega, show H.length + 2 + 3 * i = G.length + 1 from by omega]
          constructor
          · simp -implicitDefEqProofs (maxSteps := 99999999) (disch := first | omega | (simp only [AHeap.set_length, killO_length, List.length_cons]; first | done | omega)) only [va, vs, vw, Nat.reduceMul, ite_true, ite_false, eq_self, forall_const, implies_true, Nat.reduceAdd, Nat.reduceSub, Nat.reduceLT, Nat.reduceLeDiff, ↓reduceIte, reduceCtorEq, Int.reduceEq, Int.reduceLT, Int.reduceLE, Int.reduceGT, Int.reduceGE, Int.reduceAdd, Int.reduceSub, Int.reduceNeg, Int.reduceToNat, Nat.reduceBEq, Nat.reduceEqDiff]
          · simp -implicitDefEqProofs (maxSteps := 99999999) (disch := first | omega | (simp only [AHeap.set_length, killO_length, List.length_cons]; first | done | omega)) only [va, vs, vw, Nat.reduceMul, ite_true, ite_false, eq_self, forall_const, implies_true, Nat.reduceAdd, Nat.reduceSub, Nat.reduceLT, Nat.reduceLeDiff, ↓reduceIte, reduceCtorEq, Int.reduceEq, Int.reduceLT, Int.reduceLE, Int.reduceGT, Int.reduceGE, Int.reduceAdd, Int.reduceSub, Int.reduceNeg, Int.reduceToNat, Nat.reduceBEq, Nat.reduceEqDiff]
        · obtain ⟨z1, z2⟩ := q3 i (by omega)
          constructor
          · rw [find_past (by simp [AHeap.set_length]; omega), find_past (by simp [AHeap.set_length]; omega), find_past (by rw [AHeap.set_length]; omega), AHeap.find_set_ne (by omega)]
            exact z1
          · rw [find_past (by simp [AHeap.set_length]; omega), find_past (by simp [AHeap.set_length]; omega), find_past (by rw [AHeap.set_length]; omega), AHeap.find_set_ne (by omega)]
            exact z2
      · rw [find_past (by simp [AHeap.set_length]; omega), find_past (by simp [AHeap.set_length]; omega), find_past (by rw [AHeap.set_length]; omega), AHeap.find_set_ne (by omega)]
        exact q4 i hi
    · have hkl : k = hs.length := by omega
      subst hkl
      refine hL _ _ ?_
      clear hL hL2
      refine ES_seq_gen fun L hL => ?_
      simp -implicitDefEqProofs (maxSteps := 99999999) (disch := first | omega | (simp only [AHeap.set_length, killO_length, List.length_cons]; first | done | omega)) only [va, vs, vw, Nat.reduceMul, ite_true, ite_false, eq_self, forall_const, implies_true, Nat.reduceAdd, Nat.reduceSub, Nat.reduceLT, Nat.reduceLeDiff, ↓reduceIte, reduceCtorEq, Int.reduceEq, Int.reduceLT, Int.reduceLE, Int.reduceGT, Int.reduceGE, Int.reduceAdd, Int.reduceSub, Int.reduceNeg, Int.reduceToNat, Nat.reduceBEq, Nat.reduceEqDiff]
      have hpl := partH_length (hs := hs) (n0 := H.length) (k := hs.length)
      have ed : m - hs.length = 12 := by omega
      rw [ed] at q2
      refine ES_loopL (fun ts F => ∃ j : Nat, (j ≤ 12 ∧ F.length = G.length ∧ AHeap.find F H.length = some ⟨3, partH hs H.length hs.length ++ (mksH j ++ List.replicate (12 - j) zeroH), true, 41⟩ ∧ ∀ i, i < G.length → i ≠ H.length → AHeap.find F i = AHeap.find G i) ∧ Fr [some (.lst 3 (hks hs) ro), none, none, some (.vec 3 H.length 0 (hs.length + j) (some m)), none, none, some (.sc (.int .i64 j)), none, none, none, none, none, none, none, none, none, none, none, none, none, none, none, none, none, none, none, none, none, none, none, none, none, none, none, none, none, none, none, none] ts) (fun ts _ => 12 - (intV (ts.getD 6 .top)).toNat) ⟨0, ⟨by omega, rfl, by simpa [mksH] using q2, fun _ _ _ => rfl⟩, by simp [Fr]⟩ ?_
      rintro ts F ⟨j, ⟨hj, p1, p2, p3⟩, hfr⟩ L2 hL2
      obtain ⟨js, rfl⟩ := hfr.opened
      clear hfr
      simp -implicitDefEqProofs (maxSteps := 99999999) (disch := first | omega | (simp only [AHeap.set_length, killO_length, List.length_cons]; first | done | omega)) only [mk, va, vs, vw, Nat.reduceMul, ite_true, ite_false, eq_self, forall_const, implies_true, Nat.reduceAdd, Nat.reduceSub, Nat.reduceLT, Nat.reduceLeDiff, ↓reduceIte, reduceCtorEq, Int.reduceEq, Int.reduceLT, Int.reduceLE, Int.reduceGT, Int.reduceGE, Int.reduceAdd, Int.reduceSub, Int.reduceNeg, Int.reduceToNat, Nat.reduceBEq, Nat.reduceEqDiff]
      refine condR_if (fun h => ?_) (fun h => ?_)
      · have h1 : j < 12 := by omega
        simp -implicitDefEqProofs (maxSteps := 99999999) (disch := first | omega | (simp only [AHeap.set_length, killO_length, List.length_cons]; first | done | omega)) only [va, vs, vw, Nat.reduceMul, ite_true, ite_false, eq_self, forall_const, implies_true, Nat.reduceAdd, Nat.reduceSub, Nat.reduceLT, Nat.reduceLeDiff, ↓reduceIte, reduceCtorEq, Int.reduceEq, Int.reduceLT, Int.reduceLE, Int.reduceGT, Int.reduceGE, Int.reduceAdd, Int.reduceSub, Int.reduceNeg, Int.reduceToNat, Nat.reduceBEq, Nat.reduceEqDiff]
        refine callR_ret (markHunk_d _ _ _) ?_
        have hml := mksH_length (j := j)
        have htk : (partH hs H.length hs.length ++ (mksH j ++ List.replicate (12 - j) zeroH)).take (hs.length + j) = partH hs H.length hs.length ++ mksH j := by
          rw [← List.append_assoc, List.take_append_of_le_length (by simp [hpl, hml]), List.take_of_length_le (by simp [hpl, hml])]
        have hdk : (partH hs H.length hs.length ++ (mksH j ++ List.replicate (12 - j) zeroH)).drop (hs.length + (j + 1)) = List.replicate (12 - (j + 1)) zeroH := by
          rw [← List.append_assoc, List.drop_append, List.drop_of_length_le (by simp [hpl, hml]), List.length_append, hpl, hml, List.nil_append, List.drop_replicate]
          congr 1
          omega
        have hll : (partH hs H.length hs.length ++ (mksH j ++ List.replicate (12 - j) zeroH)).length = m := by rw [List.length_append, List.length_append, hpl, hml, List.length_replicate]; omega
        have hroom : hs.length + (j + 1) ≤ m := by omega
        have hkm : hs.length + j ≤ m := by omega
        have hlim : hs.length + (j + 1) ≤ 100000000 := by omega
        simp -implicitDefEqProofs (maxSteps := 99999999) (disch := first | omega | (simp only [AHeap.set_length, killO_length, List.length_cons]; first | done | omega)) only [p2, htk, hdk, hll, hroom, hkm, hlim, va, vs, vw, Nat.reduceMul, ite_true, ite_false, eq_self, forall_const, implies_true, Nat.reduceAdd, Nat.reduceSub, Nat.reduceLT, Nat.reduceLeDiff, ↓reduceIte, reduceCtorEq, Int.reduceEq, Int.reduceLT, Int.reduceLE, Int.reduceGT, Int.reduceGE, Int.reduceAdd, Int.reduceSub, Int.reduceNeg, Int.reduceToNat, Nat.reduceBEq, Nat.reduceEqDiff]
        refine hL2 _ _ ⟨j + 1, ⟨by omega, by rw [AHeap.set_length]; exact p1, ?_, fun i h2 h3 => ?_⟩, by simp [Fr]⟩ (by simp [intV, mk]; omega)
        · rw [AHeap.find_set_same (by omega), mksH_succ]
          simp only [List.append_assoc, List.singleton_append, List.cons_append, List.nil_append]
          rfl
        · rw [AHeap.find_set_ne h3]
          exact p3 i h2 h3
      · have hj12 : j = 12 := by omega
        subst hj12
        refine hL _ _ ?_
        clear hL hL2
        have hkm : hs.length ≤ m := by omega
        have h0m : 0 < m := by omega
        simp -implicitDefEqProofs (maxSteps := 99999999) (disch := first | omega | (simp only [AHeap.set_length, killO_length, List.length_cons]; first | done | omega)) only [hl3, hkm, h0m, Nat.sub_zero, va, vs, vw, Nat.reduceMul, ite_true, ite_false, eq_self, forall_const, implies_true, Nat.reduceAdd, Nat.reduceSub, Nat.reduceLT, Nat.reduceLeDiff, ↓reduceIte, reduceCtorEq, Int.reduceEq, Int.reduceLT, Int.reduceLE, Int.reduceGT, Int.reduceGE, Int.reduceAdd, Int.reduceSub, Int.reduceNeg, Int.reduceToNat, Nat.reduceBEq, Nat.reduceEqDiff]
        refine ⟨⟨by omega, rfl, by omega⟩, ?_⟩
        simp only [Nat.sub_self, List.replicate_zero, List.append_nil] at p2
        have hsl : (lentBs hs).length = 2 * hs.length := by simp [lentBs]
        obtain ⟨src, hsrc⟩ : ∃ src, src = (List.range (2 * hs.length)).map (fun j => H.length + 1 + 3 * (j / 2) + j % 2) ++ [H.length] := ⟨_, rfl⟩
        have sget : ∀ j, j < 2 * hs.length → src[j]? = some (H.length + 1 + 3 * (j / 2) + j % 2) := fun j hj => by
          rw [hsrc, List.getElem?_append_left (by simpa using hj)]
          simp [hj]
        have slast : src[2 * hs.length]? = some H.length := by
          rw [hsrc, List.getElem?_append_right (by simp)]
          simp
        have snd : src.Nodup := by
          rw [hsrc]
          refine List.nodup_append.2 ⟨nodup_map (fun i j hij => by omega), by simp, fun a ha b hb => ?_⟩
          obtain ⟨j, _, rfl⟩ := List.mem_map.1 ha
          rw [List.mem_singleton.1 hb]
          omega
        have slen : src.length = 2 * hs.length + 1 := by rw [hsrc]; simp
        have eV : lentHV hs (H.length + 2 * hs.length) = .vec 3 (H.length + 2 * hs.length) 0 hs.length (some m) := by rw [hm]
        rw [eV]
        refine weak_lays _ src (by simp [slen, hsl]) snd (fun s hs => ?_) (fun i hi => (p3 i (by omega) (by omega)).trans (q4 i hi)) (fun i k s h1 h2 => ?_) (.vecR (newId_at snd slast (Nat.le_refl _)) (.inl rfl))
        · rw [hsrc] at hs
          rcases List.mem_append.1 hs with h | h
          · obtain ⟨j, _, rfl⟩ := List.mem_map.1 h; omega
          · rw [List.mem_singleton.1 h]; exact Nat.le_refl _
        · by_cases e : i < 2 * hs.length
          · rw [List.getElem?_append_left (by rw [hsl]; exact e)] at h1
            rw [sget i e] at h2
            cases h2
            have hi2 : i / 2 < hs.length := by omega
            obtain ⟨z1, z2⟩ := q3 _ hi2
            simp [lentBs, e] at h1
            by_cases e2 : i % 2 = 0
            · rw [if_pos e2] at h1
              cases h1
              refine ⟨_, ?_, rfl, rfl, fun h => h, strs_gz⟩
              rw [show H.length + 1 + 3 * (i / 2) + i % 2 = H.length + 1 + 3 * (i / 2) from by omega, p3 _ (by omega) (by omega)]
              exact z1
            · rw [if_neg e2] at h1
              cases h1
              refine ⟨_, ?_, rfl, rfl, fun h => h, strs_gz⟩
              rw [show H.length + 1 + 3 * (i / 2) + i % 2 = H.length + 2 + 3 * (i / 2) from by omega, p3 _ (by omega) (by omega)]
              exact z2
          · have e3 : i = 2 * hs.length := by
              have := (List.getElem?_eq_some_iff.1 h2).1
              omega
            subst e3
            rw [slast] at h2
            cases h2
            rw [List.getElem?_append_right (by omega), hsl] at h1
            simp at h1
            subst h1
            refine ⟨_, p2, rfl, rfl, fun h => h, ?_⟩
            refine GzL.append (GzL.map fun i hi => ?_) (GzL.map fun i hi => .same ⟨trivial, ⟨trivial, trivial⟩, ⟨trivial, trivial⟩, trivial⟩)
            have hi' : i < hs.length := by simpa using hi
            have s1 := newId_at (n0 := H.length) snd (sget (2 * i) (by omega)) (by omega)
            have s2 := newId_at (n0 := H.length) snd (sget (2 * i + 1) (by omega)) (by omega)
            rw [show H.length + 1 + 3 * (2 * i / 2) + 2 * i % 2 = H.length + 1 + 3 * i from by omega] at s1
            rw [show H.length + 1 + 3 * ((2 * i + 1) / 2) + (2 * i + 1) % 2 = H.length + 2 + 3 * i from by omega] at s2
            exact .agg (.cons (.same (x := .sc _) trivial) (.cons (.vecR s1 (.inl rfl)) (.cons (.vecR s2 (.inl rfl)) .nil)))
end Go.Proofs.Ytddhdlfafaobhaa
