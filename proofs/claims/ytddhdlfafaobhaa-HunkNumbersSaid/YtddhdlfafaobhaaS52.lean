/- The document's Apply. -/
import Derived.Test.YtddhdlfafaobhaaS34
import Derived.Test.YtddhdlfafaobhaaV34
namespace Go.Proofs.Ytddhdlfafaobhaa
open Go.RowKit
set_option maxRecDepth 100000
set_option linter.unusedVariables false
set_option linter.unusedSimpArgs false

theorem frz_out {H F : AHeap} {out : List ByteArray} {io : Nat} (h1 : out ≠ [] → AHeap.find F io = OutB out ∧ H.length ≤ io) : Gz F H.length [] (OutV out io) (.lst 1 (strs out) none) := by
  by_cases e : out = []
  · subst e; exact .nil
  · refine OwnV_fz (ty := 9) (fun _ => ?_) (fun _ => (h1 e).1) strs_gz
    have := (h1 e).2
    unfold newId
    rw [if_neg (by omega)]
    rfl

set_option maxHeartbeats 0 in
theorem refApply_d (l : List ByteArray) (hs : List Hk) (rh : Option (List AV)) (H : AHeap) (hl : Short l) (hhs : AllShort hs) (htot : l.length + newLen hs ≤ 100000000) :
    D Try.prog 15 [.lst 1 (strs l) none, .lst 3 (hks hs) rh] H (.ret (.tup [.lst 1 (strs (applyR l hs).1) none, .sc (.int .i64 (applyR l hs).2)])) H := by
  have hlen := hhs.1
  have hll := hl.1
  have nilz : ∀ {F : AHeap}, Gz F H.length [] (.lst 0 [] (some [])) (.lst 1 (strs []) none) := .nil
  refine D_of_DK (Nat.le_refl _) (dk15 (E_of_ES ?_))
  simp only [ic15, ux]
  refine ES_seq_gen fun L hL => ?_
  simp -implicitDefEqProofs (maxSteps := 99999999) (disch := first | omega | (simp only [AHeap.set_length, killO_length, List.length_cons]; first | done | omega)) only [va, vs, vw, Nat.reduceMul, ite_true, ite_false, eq_self, forall_const, implies_true, Nat.reduceAdd, Nat.reduceSub, Nat.reduceLT, Nat.reduceLeDiff, ↓reduceIte, reduceCtorEq, Int.reduceEq, Int.reduceLT, Int.reduceLE, Int.reduceGT, Int.reduceGE, Int.reduceAdd, Int.reduceSub, Int.reduceNeg, Int.reduceToNat, Nat.reduceBEq, Nat.reduceEqDiff]
  refine hL _ _ ?_
  clear hL
  refine ES_seq_gen fun L hL => ?_
  simp -implicitDefEqProofs (maxSteps := 99999999) (disch := first | omega | (simp only [AHeap.set_length, killO_length, List.length_cons]; first | done | omega)) only [va, vs, vw, Nat.reduceMul, ite_true, ite_false, eq_self, forall_const, implies_true, Nat.reduceAdd, Nat.reduceSub, Nat.reduceLT, Nat.reduceLeDiff, ↓reduceIte, reduceCtorEq, Int.reduceEq, Int.reduceLT, Int.reduceLE, Int.reduceGT, Int.reduceGE, Int.reduceAdd, Int.reduceSub, Int.reduceNeg, Int.reduceToNat, Nat.reduceBEq, Nat.reduceEqDiff]
  refine callR_ret (lines_r l none _ hl) ?_
  cases c0 : linesB l with
  | false =>
    have hA : applyR l hs = ([], 4) := by unfold applyR; rw [if_neg (by simp [c0])]
    rw [hA]
    simp -implicitDefEqProofs (maxSteps := 99999999) (disch := first | omega | (simp only [AHeap.set_length, killO_length, List.length_cons]; first | done | omega)) only [va, vs, vw, Nat.reduceMul, ite_true, ite_false, eq_self, forall_const, implies_true, Nat.reduceAdd, Nat.reduceSub, Nat.reduceLT, Nat.reduceLeDiff, ↓reduceIte, reduceCtorEq, Int.reduceEq, Int.reduceLT, Int.reduceLE, Int.reduceGT, Int.reduceGE, Int.reduceAdd, Int.reduceSub, Int.reduceNeg, Int.reduceToNat, Nat.reduceBEq, Nat.reduceEqDiff]
    exact weak_frz (fun _ _ => rfl) (.tup (.cons nilz (.cons (.same trivial) .nil)))
  | true =>
    simp -implicitDefEqProofs (maxSteps := 99999999) (disch := first | omega | (simp only [AHeap.set_length, killO_length, List.length_cons]; first | done | omega)) only [va, vs, vw, Nat.reduceMul, ite_true, ite_false, eq_self, forall_const, implies_true, Nat.reduceAdd, Nat.reduceSub, Nat.reduceLT, Nat.reduceLeDiff, ↓reduceIte, reduceCtorEq, Int.reduceEq, Int.reduceLT, Int.reduceLE, Int.reduceGT, Int.reduceGE, Int.reduceAdd, Int.reduceSub, Int.reduceNeg, Int.reduceToNat, Nat.reduceBEq, Nat.reduceEqDiff]
    refine callR_ret (sorted_r hs rh _ hhs) ?_
    cases c1 : sortedB 0 hs with
    | false =>
      have hA : applyR l hs = ([], 4) := by unfold applyR; rw [if_neg (by simp [c1])]
      rw [hA]
      simp -implicitDefEqProofs (maxSteps := 99999999) (disch := first | omega | (simp only [AHeap.set_length, killO_length, List.length_cons]; first | done | omega)) only [va, vs, vw, Nat.reduceMul, ite_true, ite_false, eq_self, forall_const, implies_true, Nat.reduceAdd, Nat.reduceSub, Nat.reduceLT, Nat.reduceLeDiff, ↓reduceIte, reduceCtorEq, Int.reduceEq, Int.reduceLT, Int.reduceLE, Int.reduceGT, Int.reduceGE, Int.reduceAdd, Int.reduceSub, Int.reduceNeg, Int.reduceToNat, Nat.reduceBEq, Nat.reduceEqDiff]
      exact weak_frz (fun _ _ => rfl) (.tup (.cons nilz (.cons (.same trivial) .nil)))
    | true =>
      simp -implicitDefEqProofs (maxSteps := 99999999) (disch := first | omega | (simp only [AHeap.set_length, killO_length, List.length_cons]; first | done | omega)) only [va, vs, vw, Nat.reduceMul, ite_true, ite_false, eq_self, forall_const, implies_true, Nat.reduceAdd, Nat.reduceSub, Nat.reduceLT, Nat.reduceLeDiff, ↓reduceIte, reduceCtorEq, Int.reduceEq, Int.reduceLT, Int.reduceLE, Int.reduceGT, Int.reduceGE, Int.reduceAdd, Int.reduceSub, Int.reduceNeg, Int.reduceToNat, Nat.reduceBEq, Nat.reduceEqDiff]
      refine hL _ _ ?_
      clear hL
      refine ES_seq_gen fun L hL => ?_
      simp -implicitDefEqProofs (maxSteps := 99999999) (disch := first | omega | (simp only [AHeap.set_length, killO_length, List.length_cons]; first | done | omega)) only [va, vs, vw, Nat.reduceMul, ite_true, ite_false, eq_self, forall_const, implies_true, Nat.reduceAdd, Nat.reduceSub, Nat.reduceLT, Nat.reduceLeDiff, ↓reduceIte, reduceCtorEq, Int.reduceEq, Int.reduceLT, Int.reduceLE, Int.reduceGT, Int.reduceGE, Int.reduceAdd, Int.reduceSub, Int.reduceNeg, Int.reduceToNat, Nat.reduceBEq, Nat.reduceEqDiff]
      refine hL _ _ ?_
      clear hL
      refine ES_seq_gen fun L hL => ?_
      simp -implicitDefEqProofs (maxSteps := 99999999) (disch := first | omega | (simp only [AHeap.set_length, killO_length, List.length_cons]; first | done | omega)) only [va, vs, vw, Nat.reduceMul, ite_true, ite_false, eq_self, forall_const, implies_true, Nat.reduceAdd, Nat.reduceSub, Nat.reduceLT, Nat.reduceLeDiff, ↓reduceIte, reduceCtorEq, Int.reduceEq, Int.reduceLT, Int.reduceLE, Int.reduceGT, Int.reduceGE, Int.reduceAdd, Int.reduceSub, Int.reduceNeg, Int.reduceToNat, Nat.reduceBEq, Nat.reduceEqDiff]
      refine hL _ _ ?_
      clear hL
      refine ES_seq_gen fun L hL => ?_
      simp -implicitDefEqProofs (maxSteps := 99999999) (disch := first | omega | (simp only [AHeap.set_length, killO_length, List.length_cons]; first | done | omega)) only [va, vs, vw, Nat.reduceMul, ite_true, ite_false, eq_self, forall_const, implies_true, Nat.reduceAdd, Nat.reduceSub, Nat.reduceLT, Nat.reduceLeDiff, ↓reduceIte, reduceCtorEq, Int.reduceEq, Int.reduceLT, Int.reduceLE, Int.reduceGT, Int.reduceGE, Int.reduceAdd, Int.reduceSub, Int.reduceNeg, Int.reduceToNat, Nat.reduceBEq, Nat.reduceEqDiff]
      refine ES_loopL (fun ts F => ∃ (k a io : Nat) (least : Int) (out : List ByteArray), (k ≤ hs.length ∧ applyGo l hs 0 [] = applyGo l (hs.drop k) a out ∧ sortedB least (hs.drop k) = true ∧ (a : Int) ≤ least ∧ a ≤ l.length ∧ Short out ∧ out.length + newLen (hs.drop k) ≤ a + newLen hs) ∧
          (H.length ≤ F.length ∧ (out ≠ [] → AHeap.find F io = OutB out ∧ H.length ≤ io)) ∧ (∀ id, id < H.length → AHeap.find F id = AHeap.find H id) ∧
          Fr [some (.lst 1 (strs l) none), some (.lst 3 (hks hs) rh), none, none, none, none, some (OutV out io), some (.sc (.int .i64 a)), some (.sc (.int .i64 k)), none, none, none, none, none, none, none, none, none, none, none, none, none, none, none, none, none, none, none, none, none, none, none, none, none, none, none, none, none, none, none, none, none, none, none, none, none, none, none, none, none, none, none, none, none, none, none, none, none, none, none, none, none, none, none, none, none, none, none, none, none, none, none, none, none, none, none, none] ts) (fun ts _ => hs.length - (intV (ts.getD 8 .top)).toNat) ?_ ?_
      · exact ⟨0, 0, 0, 0, [], ⟨Nat.zero_le _, rfl, c1, by omega, Nat.zero_le _, Short.nil, by simp⟩, ⟨Nat.le_refl _, fun h => (h rfl).elim⟩, fun _ _ => rfl, by simp [Fr, OutV, strs_nil, OwnV]⟩
      rintro ts F ⟨k, a, io, least, out, ⟨i1, i2, i3, i4, i5, i6, i7⟩, ⟨m1, m2⟩, m5, hfr⟩ L2 hL2
      obtain ⟨js, rfl⟩ := hfr.opened
      clear hfr
      simp -implicitDefEqProofs (maxSteps := 99999999) (disch := first | omega | (simp only [AHeap.set_length, killO_length, List.length_cons]; first | done | omega)) only [mk, hks_length, va, vs, vw, Nat.reduceMul, ite_true, ite_false, eq_self, forall_const, implies_true, Nat.reduceAdd, Nat.reduceSub, Nat.reduceLT, Nat.reduceLeDiff, ↓reduceIte, reduceCtorEq, Int.reduceEq, Int.reduceLT, Int.reduceLE, Int.reduceGT, Int.reduceGE, Int.reduceAdd, Int.reduceSub, Int.reduceNeg, Int.reduceToNat, Nat.reduceBEq, Nat.reduceEqDiff]
      refine condR_if (fun hlt => ?_) (fun hge => ?_)
      · have h1 : k < hs.length := by omega
        have hd : hs.drop k = nthH hs k :: hs.drop (k + 1) := by rw [List.drop_eq_getElem_cons h1, nthH_eq h1]
        have hsh := hhs.nth h1
        rw [hd] at i2 i3
        have hnl := newLen_drop h1
        simp only [applyGo, sortedB, Bool.and_eq_true, Bool.not_eq_true', decide_eq_false_iff_not] at i2 i3
        obtain ⟨r1, r2, r3⟩ := i3
        have hat := rightB_at r1
        have hol := hsh.1.1
        have k0 : (0 : Int) ≤ (k : Int) := by omega
        have k1 : (k : Int) < hs.length := by omega
        simp -implicitDefEqProofs (maxSteps := 99999999) (disch := first | omega | (simp only [AHeap.set_length, killO_length, List.length_cons]; first | done | omega)) only [hks_get h1, hks_length, k0, k1, va, vs, vw, Nat.reduceMul, ite_true, ite_false, eq_self, forall_const, implies_true, Nat.reduceAdd, Nat.reduceSub, Nat.reduceLT, Nat.reduceLeDiff, ↓reduceIte, reduceCtorEq, Int.reduceEq, Int.reduceLT, Int.reduceLE, Int.reduceGT, Int.reduceGE, Int.reduceAdd, Int.reduceSub, Int.reduceNeg, Int.reduceToNat, Nat.reduceBEq, Nat.reduceEqDiff]
        have hh1 : (strs (nthH hs k).old).length = (nthH hs k).old.length := strs_length _
        refine condR_if (fun hgt => ?_) (fun hle => ?_)
        · have hA : applyR l hs = ([], 6) := by
            unfold applyR
            have c2 : ¬ ((nthH hs k).old.length ≤ l.length ∧ (nthH hs k).at_ ≤ (l.length : Int) - (nthH hs k).old.length) := by omega
            rw [if_pos ⟨c0, c1⟩, i2, if_neg c2]
            rfl
          rw [hA]
          simp -implicitDefEqProofs (maxSteps := 99999999) (disch := first | omega | (simp only [AHeap.set_length, killO_length, List.length_cons]; first | done | omega)) only [va, vs, vw, Nat.reduceMul, ite_true, ite_false, eq_self, forall_const, implies_true, Nat.reduceAdd, Nat.reduceSub, Nat.reduceLT, Nat.reduceLeDiff, ↓reduceIte, reduceCtorEq, Int.reduceEq, Int.reduceLT, Int.reduceLE, Int.reduceGT, Int.reduceGE, Int.reduceAdd, Int.reduceSub, Int.reduceNeg, Int.reduceToNat, Nat.reduceBEq, Nat.reduceEqDiff]
          refine weak_frz (fun id hid => ?_) (.tup (.cons nilz (.cons (.same trivial) .nil)))
          simp -implicitDefEqProofs (maxSteps := 99999999) (disch := first | omega | (simp only [AHeap.set_length, killO_length, List.length_cons]; first | done | omega)) only [m5 id hid, va, vs, vw, Nat.reduceMul, ite_true, ite_false, eq_self, forall_const, implies_true, Nat.reduceAdd, Nat.reduceSub, Nat.reduceLT, Nat.reduceLeDiff, ↓reduceIte, reduceCtorEq, Int.reduceEq, Int.reduceLT, Int.reduceLE, Int.reduceGT, Int.reduceGE, Int.reduceAdd, Int.reduceSub, Int.reduceNeg, Int.reduceToNat, Nat.reduceBEq, Nat.reduceEqDiff]
        have c2 : (nthH hs k).old.length ≤ l.length ∧ (nthH hs k).at_ ≤ (l.length : Int) - (nthH hs k).old.length := by omega
        rw [if_pos c2] at i2
        obtain ⟨A, hA⟩ : ∃ A : Nat, A = (nthH hs k).at_.toNat := ⟨_, rfl⟩
        have hAt : (nthH hs k).at_ = (A : Int) := by omega
        rw [← hA] at i2
        have eN : ((nthH hs k).at_ + ((nthH hs k).old.length : Int)).toNat = A + (nthH hs k).old.length := by omega
        have eN2 : ((A : Int) + ((nthH hs k).old.length : Int)).toNat = A + (nthH hs k).old.length := by omega
        rw [eN] at i2
        obtain ⟨G, hG⟩ : ∃ G, G = some ⟨3, [hk (nthH hs k)], true, 41⟩ :: F := ⟨_, rfl⟩
        have gl : G.length = F.length + 1 := by rw [hG]; rfl
        have g1 : AHeap.find G F.length = some ⟨3, [.agg [.sc (.int .i64 A), .lst 1 (strs (nthH hs k).old) none, .lst 1 (strs (nthH hs k).new) none]], true, 41⟩ := by rw [hG, find_top rfl, ← hAt]
        have g2 : ∀ i, i < F.length → AHeap.find G i = AHeap.find F i := fun i hi => by rw [hG]; exact find_past hi
        rw [← hG, hAt]
        clear hG
        have f1 := hsh.2.1
        have aA : a ≤ A := by omega
        have AL : A + (nthH hs k).old.length ≤ l.length := by omega
        rw [ES_skip, thenK_n]
        refine ES_seq_gen fun L hL => ?_
        have s1 : (((l.take (A + (nthH hs k).old.length)).drop A).length ≤ 100000000) := by simp; omega
        simp -implicitDefEqProofs (maxSteps := 99999999) (disch := first | omega | (simp only [AHeap.set_length, killO_length, List.length_cons]; first | done | omega)) only [g1, gl, strs_part, eN2, strs_length, va, vs, vw, Nat.reduceMul, ite_true, ite_false, eq_self, forall_const, implies_true, Nat.reduceAdd, Nat.reduceSub, Nat.reduceLT, Nat.reduceLeDiff, ↓reduceIte, reduceCtorEq, Int.reduceEq, Int.reduceLT, Int.reduceLE, Int.reduceGT, Int.reduceGE, Int.reduceAdd, Int.reduceSub, Int.reduceNeg, Int.reduceToNat, Nat.reduceBEq, Nat.reduceEqDiff]
        refine ⟨⟨by omega, by omega⟩, callD_same (sameTexts_d _ (nthH hs k).old none none _ s1) ?_⟩
        have em : decide ((l.take (A + (nthH hs k).old.length)).drop A = (nthH hs k).old) = decide ((l.drop A).take (nthH hs k).old.length = (nthH hs k).old) := by
          rw [List.drop_take, Nat.add_sub_cancel_left]
        rw [em]
        by_cases c3 : (l.drop A).take (nthH hs k).old.length = (nthH hs k).old
        · simp -implicitDefEqProofs (maxSteps := 99999999) (disch := first | omega | (simp only [AHeap.set_length, killO_length, List.length_cons]; first | done | omega)) only [c3, va, vs, vw, Nat.reduceMul, ite_true, ite_false, eq_self, forall_const, implies_true, Nat.reduceAdd, Nat.reduceSub, Nat.reduceLT, Nat.reduceLeDiff, ↓reduceIte, reduceCtorEq, Int.reduceEq, Int.reduceLT, Int.reduceLE, Int.reduceGT, Int.reduceGE, Int.reduceAdd, Int.reduceSub, Int.reduceNeg, Int.reduceToNat, Nat.reduceBEq, Nat.reduceEqDiff]
          refine hL _ _ ?_
          clear hL
          refine ES_seq_gen fun L hL => ?_
          have fo : strs out ≠ [] → AHeap.find G io = OwnB 1 9 (strs out) := fun e => by
            have e' : out ≠ [] := fun h => e (by rw [h]; rfl)
            have h0 := (m2 e').1
            rw [g2 io (AHeap.find_lt (h0.trans (OwnB_ne (strs_ne e'))))]
            exact h0
          have lo : (strs out).length = out.length := strs_length _
          have ly : (strs ((l.take A).drop a)).length = A - a := by rw [strs_length]; simp; omega
          obtain ⟨io1, G1, p1, p2, p3, p4, p5, p6⟩ := apAny (k := 1) (ty := 9) (ys := strs ((l.take A).drop a)) fo (by omega)
          have aA2 : (a : Int) ≤ A := by omega
          simp -implicitDefEqProofs (maxSteps := 99999999) (disch := first | omega | (simp only [AHeap.set_length, killO_length, List.length_cons]; first | done | omega)) only [g1, gl, strs_part, strs_length, p1, p2, p3, va, vs, vw, Nat.reduceMul, ite_true, ite_false, eq_self, forall_const, implies_true, Nat.reduceAdd, Nat.reduceSub, Nat.reduceLT, Nat.reduceLeDiff, ↓reduceIte, reduceCtorEq, Int.reduceEq, Int.reduceLT, Int.reduceLE, Int.reduceGT, Int.reduceGE, Int.reduceAdd, Int.reduceSub, Int.reduceNeg, Int.reduceToNat, Nat.reduceBEq, Nat.reduceEqDiff]
          refine ⟨⟨by omega, by omega⟩, ?_⟩
          refine hL _ _ ?_
          clear hL
          refine ES_seq_gen fun L hL => ?_
          rw [← strs_append] at p4 ⊢
          have q1 : AHeap.find G1 F.length = AHeap.find G F.length := p6 F.length (by omega) (fun e => by
            have e' : out ≠ [] := fun h => e (by rw [h]; rfl)
            have := AHeap.find_lt ((m2 e').1.trans (OwnB_ne (strs_ne e')))
            omega)
          rw [g1] at q1
          have fo1 : strs (out ++ (l.take A).drop a) ≠ [] → AHeap.find G1 io1 = OwnB 1 9 (strs (out ++ (l.take A).drop a)) := fun e => (p4 e).1
          have lo1 : (strs (out ++ (l.take A).drop a)).length = out.length + (A - a) := by rw [strs_append, List.length_append, lo, ly]
          obtain ⟨io2, G2, w1, w2, w3, w4, w5, w6⟩ := apAny (k := 1) (ty := 9) (ys := strs (nthH hs k).new) fo1 (by rw [lo1, strs_length]; omega)
          simp -implicitDefEqProofs (maxSteps := 99999999) (disch := first | omega | (simp only [AHeap.set_length, killO_length, List.length_cons]; first | done | omega)) only [q1, w1, w2, w3, va, vs, vw, Nat.reduceMul, ite_true, ite_false, eq_self, forall_const, implies_true, Nat.reduceAdd, Nat.reduceSub, Nat.reduceLT, Nat.reduceLeDiff, ↓reduceIte, reduceCtorEq, Int.reduceEq, Int.reduceLT, Int.reduceLE, Int.reduceGT, Int.reduceGE, Int.reduceAdd, Int.reduceSub, Int.reduceNeg, Int.reduceToNat, Nat.reduceBEq, Nat.reduceEqDiff]
          refine hL _ _ ?_
          clear hL
          rw [← strs_append] at w4 ⊢
          have q2 : AHeap.find G2 F.length = AHeap.find G1 F.length := w6 F.length (by omega) (fun e => by
            have := (p4 e).2
            omega)
          rw [q1] at q2
          simp -implicitDefEqProofs (maxSteps := 99999999) (disch := first | omega | (simp only [AHeap.set_length, killO_length, List.length_cons]; first | done | omega)) only [q2, strs_length, va, vs, vw, Nat.reduceMul, ite_true, ite_false, eq_self, forall_const, implies_true, Nat.reduceAdd, Nat.reduceSub, Nat.reduceLT, Nat.reduceLeDiff, ↓reduceIte, reduceCtorEq, Int.reduceEq, Int.reduceLT, Int.reduceLE, Int.reduceGT, Int.reduceGE, Int.reduceAdd, Int.reduceSub, Int.reduceNeg, Int.reduceToNat, Nat.reduceBEq, Nat.reduceEqDiff]
          refine hL2 _ _ ⟨k + 1, A + (nthH hs k).old.length, io2, (nthH hs k).at_ + (nthH hs k).old.length + 1, out ++ (l.take A).drop a ++ (nthH hs k).new, ⟨by omega, ?_, r3, ?_, by omega, ?_, ?_⟩, ⟨by omega, fun e => ?_⟩, fun id hid => ?_, by simp [Fr]⟩ ?_
          · rw [i2, if_pos c3]
          · rw [hAt]; omega
          · exact (i6.app ((hl.take _).drop _) (by simp; omega)).app hsh.2 (by simp; omega)
          · simp only [List.length_append]
            have : ((l.take A).drop a).length = A - a := by simp; omega
            omega
          · exact ⟨(w4 (strs_ne e)).1, by have := (w4 (strs_ne e)).2; omega⟩
          · rw [w6 id (by omega) (fun e => by have := (p4 e).2; omega), p6 id (by omega) (fun e => by
              have e' : out ≠ [] := fun h => e (by rw [h]; rfl)
              have := (m2 e').2
              omega), g2 id (by omega)]
            exact m5 id hid
          · simp only [List.getD_cons_succ, List.getD_cons_zero, intV, mk]; omega
        · have hA : applyR l hs = ([], 121) := by
            unfold applyR
            rw [if_pos ⟨c0, c1⟩, i2, if_neg c3]
            rfl
          rw [hA]
          simp -implicitDefEqProofs (maxSteps := 99999999) (disch := first | omega | (simp only [AHeap.set_length, killO_length, List.length_cons]; first | done | omega)) only [c3, va, vs, vw, Nat.reduceMul, ite_true, ite_false, eq_self, forall_const, implies_true, Nat.reduceAdd, Nat.reduceSub, Nat.reduceLT, Nat.reduceLeDiff, ↓reduceIte, reduceCtorEq, Int.reduceEq, Int.reduceLT, Int.reduceLE, Int.reduceGT, Int.reduceGE, Int.reduceAdd, Int.reduceSub, Int.reduceNeg, Int.reduceToNat, Nat.reduceBEq, Nat.reduceEqDiff]
          refine weak_frz (fun id hid => ?_) (.tup (.cons nilz (.cons (.same trivial) .nil)))
          rw [g2 id (by omega), m5 id hid]
      · have hk' : k = hs.length := by omega
        subst hk'
        rw [List.drop_length] at i2 i3 i7
        simp only [applyGo] at i2
        simp only [newLen] at i7
        clear hL2
        refine hL _ _ ?_
        clear hL
        refine ES_seq_gen fun L hL => ?_
        have fo : strs out ≠ [] → AHeap.find F io = OwnB 1 9 (strs out) := fun e => (m2 (fun h => e (by rw [h]; rfl))).1
        have lo : (strs out).length = out.length := strs_length _
        have ly : (strs (l.drop a)).length = l.length - a := by rw [strs_length]; simp
        have ed : (strs l).drop a = strs (l.drop a) := by simp [strs, List.map_drop]
        have et : (strs l).take l.length = strs l := List.take_of_length_le (by rw [strs_length]; exact Nat.le_refl _)
        have ei : ((l.length : Int)).toNat = l.length := Int.toNat_natCast _
        obtain ⟨io1, G1, p1, p2, p3, p4, p5, p6⟩ := apAny (k := 1) (ty := 9) (ys := strs (l.drop a)) fo (by omega)
        simp -implicitDefEqProofs (maxSteps := 99999999) (disch := first | omega | (simp only [AHeap.set_length, killO_length, List.length_cons]; first | done | omega)) only [strs_length, ed, et, p1, p2, p3, va, vs, vw, Nat.reduceMul, ite_true, ite_false, eq_self, forall_const, implies_true, Nat.reduceAdd, Nat.reduceSub, Nat.reduceLT, Nat.reduceLeDiff, ↓reduceIte, reduceCtorEq, Int.reduceEq, Int.reduceLT, Int.reduceLE, Int.reduceGT, Int.reduceGE, Int.reduceAdd, Int.reduceSub, Int.reduceNeg, Int.reduceToNat, Nat.reduceBEq, Nat.reduceEqDiff]
        refine ⟨⟨by omega, by omega, Nat.le_refl _⟩, ?_⟩
        refine hL _ _ ?_
        clear hL
        refine ES_seq_gen fun L hL => ?_
        rw [← strs_append] at p4 ⊢
        have hsO : Short (out ++ l.drop a) := i6.app (hl.drop _) (by simp; omega)
        have gF : strs (out ++ l.drop a) ≠ [] → AHeap.find G1 io1 = OwnB 1 9 (strs (out ++ l.drop a)) := fun e => (p4 e).1
        have old : ∀ id, id < H.length → AHeap.find G1 id = AHeap.find H id := fun id hid => by
          rw [p6 id (by omega) (fun e => by
            have e' : out ≠ [] := fun h => e (by rw [h]; rfl)
            have := (m2 e').2
            omega)]
          exact m5 id hid
        simp -implicitDefEqProofs (maxSteps := 99999999) (disch := first | omega | (simp only [AHeap.set_length, killO_length, List.length_cons]; first | done | omega)) only [va, vs, vw, Nat.reduceMul, ite_true, ite_false, eq_self, forall_const, implies_true, Nat.reduceAdd, Nat.reduceSub, Nat.reduceLT, Nat.reduceLeDiff, ↓reduceIte, reduceCtorEq, Int.reduceEq, Int.reduceLT, Int.reduceLE, Int.reduceGT, Int.reduceGE, Int.reduceAdd, Int.reduceSub, Int.reduceNeg, Int.reduceToNat, Nat.reduceBEq, Nat.reduceEqDiff]
        refine callR_ret (D_view (.cons (ViewL.own gF ViewL.scs) .nil) .sc (lines_r (out ++ l.drop a) none [] hsO)) ?_
        cases c4 : linesB (out ++ l.drop a) with
        | false =>
          have hA : applyR l hs = ([], 4) := by
            unfold applyR
            rw [if_pos ⟨c0, c1⟩, i2, if_pos rfl, if_neg (by simp [c4])]
          rw [hA]
          simp -implicitDefEqProofs (maxSteps := 99999999) (disch := first | omega | (simp only [AHeap.set_length, killO_length, List.length_cons]; first | done | omega)) only [va, vs, vw, Nat.reduceMul, ite_true, ite_false, eq_self, forall_const, implies_true, Nat.reduceAdd, Nat.reduceSub, Nat.reduceLT, Nat.reduceLeDiff, ↓reduceIte, reduceCtorEq, Int.reduceEq, Int.reduceLT, Int.reduceLE, Int.reduceGT, Int.reduceGE, Int.reduceAdd, Int.reduceSub, Int.reduceNeg, Int.reduceToNat, Nat.reduceBEq, Nat.reduceEqDiff]
          exact weak_frz old (.tup (.cons nilz (.cons (.same trivial) .nil)))
        | true =>
          have hA : applyR l hs = (out ++ l.drop a, 0) := by
            unfold applyR
            rw [if_pos ⟨c0, c1⟩, i2, if_pos rfl, if_pos c4]
          rw [hA]
          simp -implicitDefEqProofs (maxSteps := 99999999) (disch := first | omega | (simp only [AHeap.set_length, killO_length, List.length_cons]; first | done | omega)) only [va, vs, vw, Nat.reduceMul, ite_true, ite_false, eq_self, forall_const, implies_true, Nat.reduceAdd, Nat.reduceSub, Nat.reduceLT, Nat.reduceLeDiff, ↓reduceIte, reduceCtorEq, Int.reduceEq, Int.reduceLT, Int.reduceLE, Int.reduceGT, Int.reduceGE, Int.reduceAdd, Int.reduceSub, Int.reduceNeg, Int.reduceToNat, Nat.reduceBEq, Nat.reduceEqDiff]
          refine hL _ _ ?_
          clear hL
          rw [hA]
          simp -implicitDefEqProofs (maxSteps := 99999999) (disch := first | omega | (simp only [AHeap.set_length, killO_length, List.length_cons]; first | done | omega)) only [va, vs, vw, Nat.reduceMul, ite_true, ite_false, eq_self, forall_const, implies_true, Nat.reduceAdd, Nat.reduceSub, Nat.reduceLT, Nat.reduceLeDiff, ↓reduceIte, reduceCtorEq, Int.reduceEq, Int.reduceLT, Int.reduceLE, Int.reduceGT, Int.reduceGE, Int.reduceAdd, Int.reduceSub, Int.reduceNeg, Int.reduceToNat, Nat.reduceBEq, Nat.reduceEqDiff]
          exact weak_frz old (.tup (.cons (frz_out (H := H) fun e => ⟨gF (strs_ne e), by have := (p4 (strs_ne e)).2; omega⟩) (.cons (.same (x := .sc _) trivial) .nil)))
end Go.Proofs.Ytddhdlfafaobhaa
