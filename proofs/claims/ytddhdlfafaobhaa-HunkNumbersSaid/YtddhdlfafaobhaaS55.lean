/- HunkRight tells true. -/
import Derived.Test.YtddhdlfafaobhaaS53
import Derived.Test.YtddhdlfafaobhaaS39
namespace Go.Proofs.Ytddhdlfafaobhaa
open Go.RowKit
set_option maxRecDepth 100000
set_option linter.unusedVariables false
set_option linter.unusedSimpArgs false

theorem invert_v {H : AHeap} {h : Hk} {x : AV} (hx : View H x (hk h)) (hs : h.short) : D Try.prog 24 [x] H (.ret (hkO h.inv H.length (H.length + 1))) (outs [h.new, h.old] H) := by
  have h1 := D_viewO (H := H) (.cons hx .nil) ?_ ?_ (invert_o h none none [] hs)
  · simp only [AV.up, AV.upL, OwnV_up, List.length_nil, Nat.add_zero, Nat.zero_add, AHeap.up, outs, List.map_cons, List.map_nil, up_outB, List.cons_append, List.nil_append] at h1
    exact h1
  · simp [AV.op, AV.opL, OwnV_op]
  · intro id b hb
    have hlt := AHeap.find_lt hb
    simp only [outs, List.length_cons, List.length_nil] at hlt
    rcases (by omega : id = 0 ∨ id = 1) with rfl | rfl
    · simp [outs, AHeap.find] at hb
      obtain ⟨_, rfl⟩ := OwnB_some hb
      exact opL_strs
    · simp [outs, AHeap.find] at hb
      obtain ⟨_, rfl⟩ := OwnB_some hb
      exact opL_strs

theorem refInvert_o (h : Hk) (a b : Option (List AV)) (H : AHeap) (h1 : h.old.length ≤ 1000000) (h2 : h.new.length ≤ 1000000) : D Try.prog 28 [hkr h a b] H (.ret (hkO h.inv H.length (H.length + 1))) (outs [h.new, h.old] H) := by
  refine D_of_DK (by simp [outs_length]) (dk28 (E_of_ES ?_))
  simp -implicitDefEqProofs (maxSteps := 99999999) (disch := first | omega | (simp only [AHeap.set_length, killO_length, List.length_cons]; first | done | omega)) only [ic28, va, vs, vw, Nat.reduceMul, ite_true, ite_false, eq_self, forall_const, implies_true, Nat.reduceAdd, Nat.reduceSub, Nat.reduceLT, Nat.reduceLeDiff, ↓reduceIte, reduceCtorEq, Int.reduceEq, Int.reduceLT, Int.reduceLE, Int.reduceGT, Int.reduceGE, Int.reduceAdd, Int.reduceSub, Int.reduceNeg, Int.reduceToNat, Nat.reduceBEq, Nat.reduceEqDiff]
  refine callD_ret (copyTexts_o _ _ _ h2) (chS_grow (G := [_]) (by simp <;> omega)) ?_
  simp -implicitDefEqProofs (maxSteps := 99999999) (disch := first | omega | (simp only [AHeap.set_length, killO_length, List.length_cons]; first | done | omega)) only [va, vs, vw, Nat.reduceMul, ite_true, ite_false, eq_self, forall_const, implies_true, Nat.reduceAdd, Nat.reduceSub, Nat.reduceLT, Nat.reduceLeDiff, ↓reduceIte, reduceCtorEq, Int.reduceEq, Int.reduceLT, Int.reduceLE, Int.reduceGT, Int.reduceGE, Int.reduceAdd, Int.reduceSub, Int.reduceNeg, Int.reduceToNat, Nat.reduceBEq, Nat.reduceEqDiff]
  refine callD_ret (copyTexts_o _ _ _ h1) (chS_grow (G := [_]) (by simp <;> omega)) ?_
  simp -implicitDefEqProofs (maxSteps := 99999999) (disch := first | omega | (simp only [AHeap.set_length, killO_length, List.length_cons]; first | done | omega)) only [va, vs, vw, Nat.reduceMul, ite_true, ite_false, eq_self, forall_const, implies_true, Nat.reduceAdd, Nat.reduceSub, Nat.reduceLT, Nat.reduceLeDiff, ↓reduceIte, reduceCtorEq, Int.reduceEq, Int.reduceLT, Int.reduceLE, Int.reduceGT, Int.reduceGE, Int.reduceAdd, Int.reduceSub, Int.reduceNeg, Int.reduceToNat, Nat.reduceBEq, Nat.reduceEqDiff]
  refine weak_outs (H := H) [h.new, h.old] [H.length + 2, H.length + 3] rfl (by simp) (by simp) (fun id hid => ?_) (fun i l s h1 h2 h3 => ?_) (.agg (.cons (.same (x := .sc _) trivial) (.cons (outs_gz (i := 0) (s := H.length + 2) (by simp) (by simp) (by omega)) (.cons (outs_gz (i := 1) (s := H.length + 3) (by simp) (by simp) (by omega)) .nil))))
  · simp -implicitDefEqProofs (maxSteps := 99999999) (disch := first | omega | (simp only [AHeap.set_length, killO_length, List.length_cons]; first | done | omega)) only [va, vs, vw, Nat.reduceMul, ite_true, ite_false, eq_self, forall_const, implies_true, Nat.reduceAdd, Nat.reduceSub, Nat.reduceLT, Nat.reduceLeDiff, ↓reduceIte, reduceCtorEq, Int.reduceEq, Int.reduceLT, Int.reduceLE, Int.reduceGT, Int.reduceGE, Int.reduceAdd, Int.reduceSub, Int.reduceNeg, Int.reduceToNat, Nat.reduceBEq, Nat.reduceEqDiff]
  · rcases i with _ | _ | i
    · simp at h1 h2
      subst h1 h2
      simp -implicitDefEqProofs (maxSteps := 99999999) (disch := first | omega | (simp only [AHeap.set_length, killO_length, List.length_cons]; first | done | omega)) only [va, vs, vw, Nat.reduceMul, ite_true, ite_false, eq_self, forall_const, implies_true, Nat.reduceAdd, Nat.reduceSub, Nat.reduceLT, Nat.reduceLeDiff, ↓reduceIte, reduceCtorEq, Int.reduceEq, Int.reduceLT, Int.reduceLE, Int.reduceGT, Int.reduceGE, Int.reduceAdd, Int.reduceSub, Int.reduceNeg, Int.reduceToNat, Nat.reduceBEq, Nat.reduceEqDiff]
    · simp at h1 h2
      subst h1 h2
      simp -implicitDefEqProofs (maxSteps := 99999999) (disch := first | omega | (simp only [AHeap.set_length, killO_length, List.length_cons]; first | done | omega)) only [va, vs, vw, Nat.reduceMul, ite_true, ite_false, eq_self, forall_const, implies_true, Nat.reduceAdd, Nat.reduceSub, Nat.reduceLT, Nat.reduceLeDiff, ↓reduceIte, reduceCtorEq, Int.reduceEq, Int.reduceLT, Int.reduceLE, Int.reduceGT, Int.reduceGE, Int.reduceAdd, Int.reduceSub, Int.reduceNeg, Int.reduceToNat, Nat.reduceBEq, Nat.reduceEqDiff]
    · simp at h1

/-- The inverses that are told, where they lie. -/
def invs (hs : List Hk) (b k : Nat) : List HRow := (List.range k).map fun i => ((nthH hs i).inv, b + 6 * i, b + 6 * i + 1)
theorem invs_length {hs : List Hk} {b k : Nat} : (invs hs b k).length = k := by simp [invs]
theorem invs_succ {hs : List Hk} {b k : Nat} : invs hs b (k + 1) = invs hs b k ++ [((nthH hs k).inv, b + 6 * k, b + 6 * k + 1)] := by simp [invs, List.range_succ]
theorem hks3_append {a b : List HRow} : hks3 (a ++ b) = hks3 a ++ hks3 b := by simp [hks3]
theorem txs3_invs (hs : List Hk) (b : Nat) : ∀ n, txs3 (invs hs b n) = (List.range (2 * n)).map fun j => if j % 2 = 0 then (strs (nthH hs (j / 2)).new, b + 6 * (j / 2)) else (strs (nthH hs (j / 2)).old, b + 6 * (j / 2) + 1)
  | 0 => rfl
  | n + 1 => by
    have e1 : 2 * n / 2 = n := by omega
    have e2 : (2 * n + 1) / 2 = n := by omega
    have e3 : (2 * n) % 2 = 0 := by omega
    have e4 : (2 * n + 1) % 2 = 1 := by omega
    rw [invs_succ, txs3_append, txs3_invs hs b n, show 2 * (n + 1) = 2 * n + 1 + 1 from by omega, List.range_succ, List.range_succ]
    simp only [List.map_append, List.map_cons, List.map_nil, e1, e2, e3, e4, List.append_assoc, List.singleton_append, if_true, Nat.one_ne_zero, if_false]
    rfl
theorem nth_invs {hs : List Hk} {b n j : Nat} (h : j < 2 * n) : nthO (txs3 (invs hs b n)) j = if j % 2 = 0 then (strs (nthH hs (j / 2)).new, b + 6 * (j / 2)) else (strs (nthH hs (j / 2)).old, b + 6 * (j / 2) + 1) := by
  simp [txs3_invs, nthO, List.getD, h]
theorem sameH_refl (h : Hk) : sameH h h = true := by simp [sameH]

theorem invs_okT {G : AHeap} {hs : List Hk} {b : Nat} (hf : FewH hs) (q : ∀ i, i < hs.length → AHeap.find G (b + 6 * i) = OutB (nthH hs i).new ∧ AHeap.find G (b + 6 * i + 1) = OutB (nthH hs i).old) : OwnsOK shT G (txs3 (invs hs b hs.length)) := by
  have hl : (txs3 (invs hs b hs.length)).length = 2 * hs.length := by rw [txs3_length, invs_length]
  refine ⟨fun j hj hn => ?_, fun j hj => ?_, fun j m hj hm n1 n2 e => ?_, fun j hj => ?_⟩
  · rw [hl] at hj
    rw [nth_invs hj]
    obtain ⟨q1, q2⟩ := q (j / 2) (by omega)
    by_cases e : j % 2 = 0
    · rw [if_pos e]; exact q1
    · rw [if_neg e]; exact q2
  · rw [hl] at hj
    rw [nth_invs hj]
    by_cases e : j % 2 = 0
    · rw [if_pos e]; exact shT_strs
    · rw [if_neg e]; exact shT_strs
  · rw [hl] at hj hm
    rw [nth_invs hj, nth_invs hm] at e
    by_cases e1 : j % 2 = 0 <;> by_cases e2 : m % 2 = 0 <;> simp only [e1, e2, if_true, if_false] at e <;> omega
  · rw [hl] at hj
    rw [nth_invs hj]
    have := hf.nth (k := j / 2) (by omega)
    by_cases e : j % 2 = 0
    · rw [if_pos e]; simp only [strs_length]; omega
    · rw [if_neg e]; simp only [strs_length]; omega

set_option maxHeartbeats 0 in
theorem hunkRight_d (hs : List Hk) (hh : AllShort hs) : D Try.prog 4 [.lst 3 (hks hs) none] [] (.ret (.sc (.bool true))) [] := by
  refine D_of_DK (Nat.le_refl _) (dk4 (E_of_ES ?_))
  simp only [ic4, ux]
  refine ES_seq_gen fun L hL => ?_
  simp -implicitDefEqProofs (maxSteps := 99999999) (disch := first | omega | (simp only [AHeap.set_length, killO_length, List.length_cons]; first | done | omega)) only [va, vs, vw, Nat.reduceMul, ite_true, ite_false, eq_self, forall_const, implies_true, Nat.reduceAdd, Nat.reduceSub, Nat.reduceLT, Nat.reduceLeDiff, ↓reduceIte, reduceCtorEq, Int.reduceEq, Int.reduceLT, Int.reduceLE, Int.reduceGT, Int.reduceGE, Int.reduceAdd, Int.reduceSub, Int.reduceNeg, Int.reduceToNat, Nat.reduceBEq, Nat.reduceEqDiff]
  refine hL _ _ ?_
  clear hL
  refine ES_seq_gen fun L hL => ?_
  simp -implicitDefEqProofs (maxSteps := 99999999) (disch := first | omega | (simp only [AHeap.set_length, killO_length, List.length_cons]; first | done | omega)) only [va, vs, vw, Nat.reduceMul, ite_true, ite_false, eq_self, forall_const, implies_true, Nat.reduceAdd, Nat.reduceSub, Nat.reduceLT, Nat.reduceLeDiff, ↓reduceIte, reduceCtorEq, Int.reduceEq, Int.reduceLT, Int.reduceLE, Int.reduceGT, Int.reduceGE, Int.reduceAdd, Int.reduceSub, Int.reduceNeg, Int.reduceToNat, Nat.reduceBEq, Nat.reduceEqDiff]
  refine callR_ret (D_le (.cons .nil (.cons .refl .nil)) (great3_d [] hs none _ _ Short.nil hh)) ?_
  by_cases g : load3 (hs.length + textsOf [] 2000) hs > 2000
  · simp -implicitDefEqProofs (maxSteps := 99999999) (disch := first | omega | (simp only [AHeap.set_length, killO_length, List.length_cons]; first | done | omega)) only [g, va, vs, vw, Nat.reduceMul, ite_true, ite_false, eq_self, forall_const, implies_true, Nat.reduceAdd, Nat.reduceSub, Nat.reduceLT, Nat.reduceLeDiff, ↓reduceIte, reduceCtorEq, Int.reduceEq, Int.reduceLT, Int.reduceLE, Int.reduceGT, Int.reduceGE, Int.reduceAdd, Int.reduceSub, Int.reduceNeg, Int.reduceToNat, Nat.reduceBEq, Nat.reduceEqDiff]
    refine callR_ret (awake3_d _) ?_
    simp -implicitDefEqProofs (maxSteps := 99999999) (disch := first | omega | (simp only [AHeap.set_length, killO_length, List.length_cons]; first | done | omega)) only [va, vs, vw, Nat.reduceMul, ite_true, ite_false, eq_self, forall_const, implies_true, Nat.reduceAdd, Nat.reduceSub, Nat.reduceLT, Nat.reduceLeDiff, ↓reduceIte, reduceCtorEq, Int.reduceEq, Int.reduceLT, Int.reduceLE, Int.reduceGT, Int.reduceGE, Int.reduceAdd, Int.reduceSub, Int.reduceNeg, Int.reduceToNat, Nat.reduceBEq, Nat.reduceEqDiff]
    exact weak_end
  obtain ⟨_, z2, z3, z4⟩ := few_of_load g
  simp -implicitDefEqProofs (maxSteps := 99999999) (disch := first | omega | (simp only [AHeap.set_length, killO_length, List.length_cons]; first | done | omega)) only [g, va, vs, vw, Nat.reduceMul, ite_true, ite_false, eq_self, forall_const, implies_true, Nat.reduceAdd, Nat.reduceSub, Nat.reduceLT, Nat.reduceLeDiff, ↓reduceIte, reduceCtorEq, Int.reduceEq, Int.reduceLT, Int.reduceLE, Int.reduceGT, Int.reduceGE, Int.reduceAdd, Int.reduceSub, Int.reduceNeg, Int.reduceToNat, Nat.reduceBEq, Nat.reduceEqDiff]
  refine hL _ _ ?_
  clear hL
  refine ES_seq_gen fun L hL => ?_
  simp -implicitDefEqProofs (maxSteps := 99999999) (disch := first | omega | (simp only [AHeap.set_length, killO_length, List.length_cons]; first | done | omega)) only [va, vs, vw, Nat.reduceMul, ite_true, ite_false, eq_self, forall_const, implies_true, Nat.reduceAdd, Nat.reduceSub, Nat.reduceLT, Nat.reduceLeDiff, ↓reduceIte, reduceCtorEq, Int.reduceEq, Int.reduceLT, Int.reduceLE, Int.reduceGT, Int.reduceGE, Int.reduceAdd, Int.reduceSub, Int.reduceNeg, Int.reduceToNat, Nat.reduceBEq, Nat.reduceEqDiff]
  refine callR_ret (lentHunks_d hs none [] z4) ?_
  simp -implicitDefEqProofs (maxSteps := 99999999) (disch := first | omega | (simp only [AHeap.set_length, killO_length, List.length_cons]; first | done | omega)) only [va, vs, vw, Nat.reduceMul, ite_true, ite_false, eq_self, forall_const, implies_true, Nat.reduceAdd, Nat.reduceSub, Nat.reduceLT, Nat.reduceLeDiff, ↓reduceIte, reduceCtorEq, Int.reduceEq, Int.reduceLT, Int.reduceLE, Int.reduceGT, Int.reduceGE, Int.reduceAdd, Int.reduceSub, Int.reduceNeg, Int.reduceToNat, Nat.reduceBEq, Nat.reduceEqDiff]
  have ok := lent_ok hs []
  have hFl : (lays (lentBs hs ++ [lentHB hs (fun i => 2 * i) (fun i => 2 * i + 1)]) []).length = 2 * hs.length + 1 := by rw [lays_length]; simp [lentBs]
  simp only [List.length_nil, Nat.zero_add] at ok
  generalize lays (lentBs hs ++ [lentHB hs (fun i => 2 * i) (fun i => 2 * i + 1)]) [] = F at ok hFl ⊢
  have lt : ∀ i, i ∈ lentIds hs.length (2 * hs.length) (fun i => 2 * i) (fun i => 2 * i + 1) → i < F.length := fun i hi => by
    rcases mem_lentIds.1 hi with rfl | ⟨k, h, rfl⟩ | ⟨k, h, rfl⟩ <;> omega
  have hl3 := hks_length hs
  obtain ⟨m, hm⟩ : ∃ m, m = hs.length + 12 := ⟨_, rfl⟩
  have hla : (lentHs hs (fun i => 2 * i) (fun i => 2 * i + 1) ++ mksH 12).length = m := by rw [lentAll_length, hm]
  refine hL _ _ ?_
  clear hL
  refine ES_seq_gen fun L hL => ?_
  simp -implicitDefEqProofs (maxSteps := 99999999) (disch := first | omega | (simp only [AHeap.set_length, killO_length, List.length_cons]; first | done | omega)) only [va, vs, vw, Nat.reduceMul, ite_true, ite_false, eq_self, forall_const, implies_true, Nat.reduceAdd, Nat.reduceSub, Nat.reduceLT, Nat.reduceLeDiff, ↓reduceIte, reduceCtorEq, Int.reduceEq, Int.reduceLT, Int.reduceLE, Int.reduceGT, Int.reduceGE, Int.reduceAdd, Int.reduceSub, Int.reduceNeg, Int.reduceToNat, Nat.reduceBEq, Nat.reduceEqDiff]
  refine callR_ret (D_view (.cons (lentHs_view ok) .nil) .sc (sorted_d hs none [] hh)) ?_
  simp -implicitDefEqProofs (maxSteps := 99999999) (disch := first | omega | (simp only [AHeap.set_length, killO_length, List.length_cons]; first | done | omega)) only [va, vs, vw, Nat.reduceMul, ite_true, ite_false, eq_self, forall_const, implies_true, Nat.reduceAdd, Nat.reduceSub, Nat.reduceLT, Nat.reduceLeDiff, ↓reduceIte, reduceCtorEq, Int.reduceEq, Int.reduceLT, Int.reduceLE, Int.reduceGT, Int.reduceGE, Int.reduceAdd, Int.reduceSub, Int.reduceNeg, Int.reduceToNat, Nat.reduceBEq, Nat.reduceEqDiff]
  refine callR_ret (sorted_r hs none _ hh) ?_
  simp -implicitDefEqProofs (maxSteps := 99999999) (disch := first | omega | (simp only [AHeap.set_length, killO_length, List.length_cons]; first | done | omega)) only [va, vs, vw, Nat.reduceMul, ite_true, ite_false, eq_self, forall_const, implies_true, Nat.reduceAdd, Nat.reduceSub, Nat.reduceLT, Nat.reduceLeDiff, ↓reduceIte, reduceCtorEq, Int.reduceEq, Int.reduceLT, Int.reduceLE, Int.reduceGT, Int.reduceGE, Int.reduceAdd, Int.reduceSub, Int.reduceNeg, Int.reduceToNat, Nat.reduceBEq, Nat.reduceEqDiff]
  refine hL _ _ ?_
  clear hL
  refine ES_seq_gen fun L hL => ?_
  simp -implicitDefEqProofs (maxSteps := 99999999) (disch := first | omega | (simp only [AHeap.set_length, killO_length, List.length_cons]; first | done | omega)) only [va, vs, vw, Nat.reduceMul, ite_true, ite_false, eq_self, forall_const, implies_true, Nat.reduceAdd, Nat.reduceSub, Nat.reduceLT, Nat.reduceLeDiff, ↓reduceIte, reduceCtorEq, Int.reduceEq, Int.reduceLT, Int.reduceLE, Int.reduceGT, Int.reduceGE, Int.reduceAdd, Int.reduceSub, Int.reduceNeg, Int.reduceToNat, Nat.reduceBEq, Nat.reduceEqDiff]
  refine hL _ _ ?_
  clear hL
  refine ES_seq_gen fun L hL => ?_
  simp -implicitDefEqProofs (maxSteps := 99999999) (disch := first | omega | (simp only [AHeap.set_length, killO_length, List.length_cons]; first | done | omega)) only [va, vs, vw, Nat.reduceMul, ite_true, ite_false, eq_self, forall_const, implies_true, Nat.reduceAdd, Nat.reduceSub, Nat.reduceLT, Nat.reduceLeDiff, ↓reduceIte, reduceCtorEq, Int.reduceEq, Int.reduceLT, Int.reduceLE, Int.reduceGT, Int.reduceGE, Int.reduceAdd, Int.reduceSub, Int.reduceNeg, Int.reduceToNat, Nat.reduceBEq, Nat.reduceEqDiff]
  refine ES_loopL (fun ts G => ∃ k : Nat, (k ≤ hs.length ∧ G.length = F.length + 6 * k ∧ (∀ i, i < k → AHeap.find G (F.length + 6 * i) = OutB (nthH hs i).new ∧ AHeap.find G (F.length + 6 * i + 1) = OutB (nthH hs i).old) ∧ (k ≠ 0 → AHeap.find G (F.length + 6 * k - 1) = OwnB 3 41 (hks3 (invs hs F.length k))) ∧ ∀ i, i < F.length → AHeap.find G i = AHeap.find F i) ∧
      Fr [some (.lst 3 (hks hs) none), none, none, some (.vec 3 (2 * hs.length) 0 hs.length (some m)), some (OwnV 3 (hks3 (invs hs F.length k)) (F.length + 6 * k - 1)), some (.sc (.int .i64 k)), none, none, none, none, none, none, none, none, none, none, none, none, none, none, none, none, none, none, none, none, none, none, none, none, none, none, none, none, none, none, none, none, none, none, none, none, none, none, none, none, none, none, none, none, none, none, none, none, none, none, none, none, none, none, none, none, none, none, none, none, none, none] ts) (fun ts _ => hs.length - (intV (ts.getD 5 .top)).toNat) ⟨0, ⟨by omega, by simp, fun i hi => by omega, fun h => (h rfl).elim, fun _ _ => rfl⟩, by simp [Fr, invs, hks3, OwnV, hm]⟩ ?_
  rintro ts G ⟨k, ⟨hkn, q1, q2, q3, q4⟩, hfr⟩ L2 hL2
  obtain ⟨js, rfl⟩ := hfr.opened
  clear hfr
  have okG : LentOK G hs (2 * hs.length) (fun i => 2 * i) (fun i => 2 * i + 1) := ok.keep fun i hi => q4 i (lt i hi)
  have hrow := okG.row
  simp -implicitDefEqProofs (maxSteps := 99999999) (disch := first | omega | (simp only [AHeap.set_length, killO_length, List.length_cons]; first | done | omega)) only [mk, hl3, va, vs, vw, Nat.reduceMul, ite_true, ite_false, eq_self, forall_const, implies_true, Nat.reduceAdd, Nat.reduceSub, Nat.reduceLT, Nat.reduceLeDiff, ↓reduceIte, reduceCtorEq, Int.reduceEq, Int.reduceLT, Int.reduceLE, Int.reduceGT, Int.reduceGE, Int.reduceAdd, Int.reduceSub, Int.reduceNeg, Int.reduceToNat, Nat.reduceBEq, Nat.reduceEqDiff]
  refine condR_if (fun h => ?_) (fun h => ?_)
  · have h1 : k < hs.length := by omega
    have k0 : (0 : Int) ≤ (k : Int) := by omega
    have k1 : (k : Int) < hs.length := by omega
    have hg1 := lentHs_get (io := fun i => 2 * i) (jn := fun i => 2 * i + 1) h1
    have hg2 := hks_get h1
    have hsk := hh.nth h1
    have km : k < m := by omega
    simp only [lentH] at hg1
    have o1 := okG.old k h1
    have o2 := okG.new k h1
    simp -implicitDefEqProofs (maxSteps := 99999999) (disch := first | omega | (simp only [AHeap.set_length, killO_length, List.length_cons]; first | done | omega)) only [hrow, hla, hg1, h1, k0, k1, km, va, vs, vw, Nat.reduceMul, ite_true, ite_false, eq_self, forall_const, implies_true, Nat.reduceAdd, Nat.reduceSub, Nat.reduceLT, Nat.reduceLeDiff, ↓reduceIte, reduceCtorEq, Int.reduceEq, Int.reduceLT, Int.reduceLE, Int.reduceGT, Int.reduceGE, Int.reduceAdd, Int.reduceSub, Int.reduceNeg, Int.reduceToNat, Nat.reduceBEq, Nat.reduceEqDiff]
    refine callR_ret (invert_v (.agg (.cons .sc (.cons (lent_view o1) (.cons (lent_view o2) .nil)))) hsk) ?_
    simp -implicitDefEqProofs (maxSteps := 99999999) (disch := first | omega | (simp only [AHeap.set_length, killO_length, List.length_cons]; first | done | omega)) only [outs, hrow, hla, hg1, h1, k0, k1, km, va, vs, vw, Nat.reduceMul, ite_true, ite_false, eq_self, forall_const, implies_true, Nat.reduceAdd, Nat.reduceSub, Nat.reduceLT, Nat.reduceLeDiff, ↓reduceIte, reduceCtorEq, Int.reduceEq, Int.reduceLT, Int.reduceLE, Int.reduceGT, Int.reduceGE, Int.reduceAdd, Int.reduceSub, Int.reduceNeg, Int.reduceToNat, Nat.reduceBEq, Nat.reduceEqDiff]
    have x1 : ∀ {X : AHeap}, (∀ i, i < G.length → AHeap.find X i = AHeap.find G i) → View X (.agg [.sc (.int .i64 (nthH hs k).at_), lentV (nthH hs k).old (2 * k), lentV (nthH hs k).new (2 * k + 1)]) (hk (nthH hs k)) := fun hX => .agg (.cons .sc (.cons (lent_view ((hX _ (by omega)).trans o1)) (.cons (lent_view ((hX _ (by omega)).trans o2)) .nil)))
    refine callD_same (D_view (.cons (x1 fun i hi => ?_) .nil) .sc (right_d (nthH hs k) none none [] hsk)) ?_
    · simp -implicitDefEqProofs (maxSteps := 99999999) (disch := first | omega | (simp only [AHeap.set_length, killO_length, List.length_cons]; first | done | omega)) only [va, vs, vw, Nat.reduceMul, ite_true, ite_false, eq_self, forall_const, implies_true, Nat.reduceAdd, Nat.reduceSub, Nat.reduceLT, Nat.reduceLeDiff, ↓reduceIte, reduceCtorEq, Int.reduceEq, Int.reduceLT, Int.reduceLE, Int.reduceGT, Int.reduceGE, Int.reduceAdd, Int.reduceSub, Int.reduceNeg, Int.reduceToNat, Nat.reduceBEq, Nat.reduceEqDiff]
    simp -implicitDefEqProofs (maxSteps := 99999999) (disch := first | omega | (simp only [AHeap.set_length, killO_length, List.length_cons]; first | done | omega)) only [outs, hrow, hla, hg1, hg2, hl3, h1, k0, k1, km, va, vs, vw, Nat.reduceMul, ite_true, ite_false, eq_self, forall_const, implies_true, Nat.reduceAdd, Nat.reduceSub, Nat.reduceLT, Nat.reduceLeDiff, ↓reduceIte, reduceCtorEq, Int.reduceEq, Int.reduceLT, Int.reduceLE, Int.reduceGT, Int.reduceGE, Int.reduceAdd, Int.reduceSub, Int.reduceNeg, Int.reduceToNat, Nat.reduceBEq, Nat.reduceEqDiff]
    refine callD_same (right_r (nthH hs k) none none _ hsk) ?_
    simp -implicitDefEqProofs (maxSteps := 99999999) (disch := first | omega | (simp only [AHeap.set_length, killO_length, List.length_cons]; first | done | omega)) only [outs, hrow, hla, hg1, hg2, hl3, h1, k0, k1, km, va, vs, vw, Nat.reduceMul, ite_true, ite_false, eq_self, forall_const, implies_true, Nat.reduceAdd, Nat.reduceSub, Nat.reduceLT, Nat.reduceLeDiff, ↓reduceIte, reduceCtorEq, Int.reduceEq, Int.reduceLT, Int.reduceLE, Int.reduceGT, Int.reduceGE, Int.reduceAdd, Int.reduceSub, Int.reduceNeg, Int.reduceToNat, Nat.reduceBEq, Nat.reduceEqDiff]
    obtain ⟨f1, f2⟩ := z4.nth h1
    refine callD_ret (refInvert_o (nthH hs k) none none _ f1 f2) (chS_grow (G := [_, _]) (by simp <;> omega)) ?_
    simp -implicitDefEqProofs (maxSteps := 99999999) (disch := first | omega | (simp only [AHeap.set_length, killO_length, List.length_cons]; first | done | omega)) only [outs, hrow, hla, hg1, hg2, hl3, h1, k0, k1, km, va, vs, vw, Nat.reduceMul, ite_true, ite_false, eq_self, forall_const, implies_true, Nat.reduceAdd, Nat.reduceSub, Nat.reduceLT, Nat.reduceLeDiff, ↓reduceIte, reduceCtorEq, Int.reduceEq, Int.reduceLT, Int.reduceLE, Int.reduceGT, Int.reduceGE, Int.reduceAdd, Int.reduceSub, Int.reduceNeg, Int.reduceToNat, Nat.reduceBEq, Nat.reduceEqDiff]
    refine callD_same (D_view (.cons (hkO_view (fun _ => ?_) (fun _ => ?_)) (.cons (hkO_view (fun _ => ?_) (fun _ => ?_)) .nil)) .sc (sameHunk_d (nthH hs k).inv (nthH hs k).inv none none none none [] ⟨by simp only [Hk.inv]; omega, by simp only [Hk.inv]; omega⟩)) ?_
    · simp -implicitDefEqProofs (maxSteps := 99999999) (disch := first | omega | (simp only [AHeap.set_length, killO_length, List.length_cons]; first | done | omega)) only [Hk.inv, va, vs, vw, Nat.reduceMul, ite_true, ite_false, eq_self, forall_const, implies_true, Nat.reduceAdd, Nat.reduceSub, Nat.reduceLT, Nat.reduceLeDiff, ↓reduceIte, reduceCtorEq, Int.reduceEq, Int.reduceLT, Int.reduceLE, Int.reduceGT, Int.reduceGE, Int.reduceAdd, Int.reduceSub, Int.reduceNeg, Int.reduceToNat, Nat.reduceBEq, Nat.reduceEqDiff]
    · simp -implicitDefEqProofs (maxSteps := 99999999) (disch := first | omega | (simp only [AHeap.set_length, killO_length, List.length_cons]; first | done | omega)) only [Hk.inv, va, vs, vw, Nat.reduceMul, ite_true, ite_false, eq_self, forall_const, implies_true, Nat.reduceAdd, Nat.reduceSub, Nat.reduceLT, Nat.reduceLeDiff, ↓reduceIte, reduceCtorEq, Int.reduceEq, Int.reduceLT, Int.reduceLE, Int.reduceGT, Int.reduceGE, Int.reduceAdd, Int.reduceSub, Int.reduceNeg, Int.reduceToNat, Nat.reduceBEq, Nat.reduceEqDiff]
    · simp -implicitDefEqProofs (maxSteps := 99999999) (disch := first | omega | (simp only [AHeap.set_length, killO_length, List.length_cons]; first | done | omega)) only [Hk.inv, va, vs, vw, Nat.reduceMul, ite_true, ite_false, eq_self, forall_const, implies_true, Nat.reduceAdd, Nat.reduceSub, Nat.reduceLT, Nat.reduceLeDiff, ↓reduceIte, reduceCtorEq, Int.reduceEq, Int.reduceLT, Int.reduceLE, Int.reduceGT, Int.reduceGE, Int.reduceAdd, Int.reduceSub, Int.reduceNeg, Int.reduceToNat, Nat.reduceBEq, Nat.reduceEqDiff]
    · simp -implicitDefEqProofs (maxSteps := 99999999) (disch := first | omega | (simp only [AHeap.set_length, killO_length, List.length_cons]; first | done | omega)) only [Hk.inv, va, vs, vw, Nat.reduceMul, ite_true, ite_false, eq_self, forall_const, implies_true, Nat.reduceAdd, Nat.reduceSub, Nat.reduceLT, Nat.reduceLeDiff, ↓reduceIte, reduceCtorEq, Int.reduceEq, Int.reduceLT, Int.reduceLE, Int.reduceGT, Int.reduceGE, Int.reduceAdd, Int.reduceSub, Int.reduceNeg, Int.reduceToNat, Nat.reduceBEq, Nat.reduceEqDiff]
    have hlk : (hks3 (invs hs F.length k)).length = k := by rw [hks3_length, invs_length]
    have e2 : OwnV 3 (hks3 (invs hs F.length (k + 1))) (F.length + 6 * (k + 1) - 1) = .vec 3 (G.length + 5) 0 (k + 1) none := by
      rw [OwnV_ne (by rw [invs_succ, hks3_append]; simp [hks3]), hks3_length, invs_length, q1]
      congr 1
    by_cases c : k = 0
    · have e : ∀ x, OwnV 3 (hks3 (invs hs F.length k)) x = .lst 0 [] (some []) := fun x => by rw [c]; rfl
      rw [e]
      simp -implicitDefEqProofs (maxSteps := 99999999) (disch := first | omega | (simp only [AHeap.set_length, killO_length, List.length_cons]; first | done | omega)) only [sameH_refl, va, vs, vw, Nat.reduceMul, ite_true, ite_false, eq_self, forall_const, implies_true, Nat.reduceAdd, Nat.reduceSub, Nat.reduceLT, Nat.reduceLeDiff, ↓reduceIte, reduceCtorEq, Int.reduceEq, Int.reduceLT, Int.reduceLE, Int.reduceGT, Int.reduceGE, Int.reduceAdd, Int.reduceSub, Int.reduceNeg, Int.reduceToNat, Nat.reduceBEq, Nat.reduceEqDiff]
      refine hL2 _ _ ⟨k + 1, ⟨by omega, by simp; omega, fun i hi => ?_, fun _ => ?_, fun i hi => ?_⟩, ?_⟩ (by simp [intV, mk]; omega)
      · have : i = k := by omega
        subst this
        rw [← q1]
        constructor
        · simp -implicitDefEqProofs (maxSteps := 99999999) (disch := first | omega | (simp only [AHeap.set_length, killO_length, List.length_cons]; first | done | omega)) only [va, vs, vw, Nat.reduceMul, ite_true, ite_false, eq_self, forall_const, implies_true, Nat.reduceAdd, Nat.reduceSub, Nat.reduceLT, Nat.reduceLeDiff, ↓reduceIte, reduceCtorEq, Int.reduceEq, Int.reduceLT, Int.reduceLE, Int.reduceGT, Int.reduceGE, Int.reduceAdd, Int.reduceSub, Int.reduceNeg, Int.reduceToNat, Nat.reduceBEq, Nat.reduceEqDiff]
        · simp -implicitDefEqProofs (maxSteps := 99999999) (disch := first | omega | (simp only [AHeap.set_length, killO_length, List.length_cons]; first | done | omega)) only [va, vs, vw, Nat.reduceMul, ite_true, ite_false, eq_self, forall_const, implies_true, Nat.reduceAdd, Nat.reduceSub, Nat.reduceLT, Nat.reduceLeDiff, ↓reduceIte, reduceCtorEq, Int.reduceEq, Int.reduceLT, Int.reduceLE, Int.reduceGT, Int.reduceGE, Int.reduceAdd, Int.reduceSub, Int.reduceNeg, Int.reduceToNat, Nat.reduceBEq, Nat.reduceEqDiff]
      · have e0 : hks3 (invs hs F.length k) = [] := by rw [c]; rfl
        rw [find_top (by simp; omega), invs_succ, hks3_append, OwnB_ne (by simp [hks3]), ← q1, e0]
        rfl
      · simp -implicitDefEqProofs (maxSteps := 99999999) (disch := first | omega | (simp only [AHeap.set_length, killO_length, List.length_cons]; first | done | omega)) only [q4, va, vs, vw, Nat.reduceMul, ite_true, ite_false, eq_self, forall_const, implies_true, Nat.reduceAdd, Nat.reduceSub, Nat.reduceLT, Nat.reduceLeDiff, ↓reduceIte, reduceCtorEq, Int.reduceEq, Int.reduceLT, Int.reduceLE, Int.reduceGT, Int.reduceGE, Int.reduceAdd, Int.reduceSub, Int.reduceNeg, Int.reduceToNat, Nat.reduceBEq, Nat.reduceEqDiff]
      · rw [e2]
        simp [Fr, c]
    · have e : ∀ x, OwnV 3 (hks3 (invs hs F.length k)) x = .vec 3 x 0 k none := fun x => by rw [OwnV_ne (fun h => c (by rw [h] at hlk; exact hlk.symm)), hlk]
      have q3' := q3 c
      rw [OwnB_ne (fun h => c (by rw [h] at hlk; exact hlk.symm))] at q3'
      rw [e]
      simp -implicitDefEqProofs (maxSteps := 99999999) (disch := first | omega | (simp only [AHeap.set_length, killO_length, List.length_cons]; first | done | omega)) only [sameH_refl, q3', hlk, va, vs, vw, Nat.reduceMul, ite_true, ite_false, eq_self, forall_const, implies_true, Nat.reduceAdd, Nat.reduceSub, Nat.reduceLT, Nat.reduceLeDiff, ↓reduceIte, reduceCtorEq, Int.reduceEq, Int.reduceLT, Int.reduceLE, Int.reduceGT, Int.reduceGE, Int.reduceAdd, Int.reduceSub, Int.reduceNeg, Int.reduceToNat, Nat.reduceBEq, Nat.reduceEqDiff]
      refine ⟨by omega, hL2 _ _ ⟨k + 1, ⟨by omega, by simp [AHeap.set_length]; omega, fun i hi => ?_, fun _ => ?_, fun i hi => ?_⟩, ?_⟩ (by simp [intV, mk]; omega)⟩
      · by_cases e : i = k
        · subst e
          rw [← q1]
          constructor
          · simp -implicitDefEqProofs (maxSteps := 99999999) (disch := first | omega | (simp only [AHeap.set_length, killO_length, List.length_cons]; first | done | omega)) only [va, vs, vw, Nat.reduceMul, ite_true, ite_false, eq_self, forall_const, implies_true, Nat.reduceAdd, Nat.reduceSub, Nat.reduceLT, Nat.reduceLeDiff, ↓reduceIte, reduceCtorEq, Int.reduceEq, Int.reduceLT, Int.reduceLE, Int.reduceGT, Int.reduceGE, Int.reduceAdd, Int.reduceSub, Int.reduceNeg, Int.reduceToNat, Nat.reduceBEq, Nat.reduceEqDiff]
          · simp -implicitDefEqProofs (maxSteps := 99999999) (disch := first | omega | (simp only [AHeap.set_length, killO_length, List.length_cons]; first | done | omega)) only [va, vs, vw, Nat.reduceMul, ite_true, ite_false, eq_self, forall_const, implies_true, Nat.reduceAdd, Nat.reduceSub, Nat.reduceLT, Nat.reduceLeDiff, ↓reduceIte, reduceCtorEq, Int.reduceEq, Int.reduceLT, Int.reduceLE, Int.reduceGT, Int.reduceGE, Int.reduceAdd, Int.reduceSub, Int.reduceNeg, Int.reduceToNat, Nat.reduceBEq, Nat.reduceEqDiff]
        · obtain ⟨z1, z2⟩ := q2 i (by omega)
          constructor
          · simp -implicitDefEqProofs (maxSteps := 99999999) (disch := first | omega | (simp only [AHeap.set_length, killO_length, List.length_cons]; first | done | omega)) only [z1, va, vs, vw, Nat.reduceMul, ite_true, ite_false, eq_self, forall_const, implies_true, Nat.reduceAdd, Nat.reduceSub, Nat.reduceLT, Nat.reduceLeDiff, ↓reduceIte, reduceCtorEq, Int.reduceEq, Int.reduceLT, Int.reduceLE, Int.reduceGT, Int.reduceGE, Int.reduceAdd, Int.reduceSub, Int.reduceNeg, Int.reduceToNat, Nat.reduceBEq, Nat.reduceEqDiff]
          · simp -implicitDefEqProofs (maxSteps := 99999999) (disch := first | omega | (simp only [AHeap.set_length, killO_length, List.length_cons]; first | done | omega)) only [va, vs, vw, Nat.reduceMul, ite_true, ite_false, eq_self, forall_const, implies_true, Nat.reduceAdd, Nat.reduceSub, Nat.reduceLT, Nat.reduceLeDiff, ↓reduceIte, reduceCtorEq, Int.reduceEq, Int.reduceLT, Int.reduceLE, Int.reduceGT, Int.reduceGE, Int.reduceAdd, Int.reduceSub, Int.reduceNeg, Int.reduceToNat, Nat.reduceBEq, Nat.reduceEqDiff]
            rw [← Nat.add_assoc]
            exact z2
      · rw [find_top (by simp [AHeap.set_length]; omega), invs_succ, hks3_append, OwnB_ne (by simp [hks3]), ← q1]
        rfl
      · simp -implicitDefEqProofs (maxSteps := 99999999) (disch := first | omega | (simp only [AHeap.set_length, killO_length, List.length_cons]; first | done | omega)) only [q4, va, vs, vw, Nat.reduceMul, ite_true, ite_false, eq_self, forall_const, implies_true, Nat.reduceAdd, Nat.reduceSub, Nat.reduceLT, Nat.reduceLeDiff, ↓reduceIte, reduceCtorEq, Int.reduceEq, Int.reduceLT, Int.reduceLE, Int.reduceGT, Int.reduceGE, Int.reduceAdd, Int.reduceSub, Int.reduceNeg, Int.reduceToNat, Nat.reduceBEq, Nat.reduceEqDiff]
      · rw [e2]
        simp [Fr]
  · have hkl : k = hs.length := by omega
    subst hkl
    subst hm
    refine hL _ _ ?_
    clear hL hL2
    have okT : OwnsOK shT G (tosOf [(invs hs F.length hs.length, F.length + 6 * hs.length - 1)]) := by
      have : tosOf [(invs hs F.length hs.length, F.length + 6 * hs.length - 1)] = txs3 (invs hs F.length hs.length) := by simp [tosOf]
      rw [this]
      exact invs_okT z4 q2
    have hlk : (hks3 (invs hs F.length hs.length)).length = hs.length := by rw [hks3_length, invs_length]
    have okH : OwnsOK shH G (hosOf [(invs hs F.length hs.length, F.length + 6 * hs.length - 1)]) := by
      refine ⟨fun j hj hn => ?_, fun j hj x hx => ?_, fun j m hj hm n1 n2 e => ?_, fun j hj => ?_⟩
      · have : j = 0 := by simpa [hosOf] using hj
        subst this
        refine q3 fun h0 => hn ?_
        exact List.length_eq_zero_iff.1 (hlk.trans h0)
      · have : j = 0 := by simpa [hosOf] using hj
        subst this
        obtain ⟨y, _, rfl⟩ := List.mem_map.1 (show x ∈ (invs hs F.length hs.length).map _ from hx)
        exact ⟨rfl, rfl, rfl⟩
      · have h1 : j = 0 := by simpa [hosOf] using hj
        have h2 : m = 0 := by simpa [hosOf] using hm
        rw [h1, h2]
      · have : j = 0 := by simpa [hosOf] using hj
        subst this
        show (hks3 (invs hs F.length hs.length)).length ≤ 10000000
        omega
    have idH : ∀ i, i ∈ ownIds (hosOf [(invs hs F.length hs.length, F.length + 6 * hs.length - 1)]) → i = F.length + 6 * hs.length - 1 ∧ hs.length ≠ 0 := fun i hi => by
      obtain ⟨j, hj, hn, e⟩ := of_mem_ownIds hi
      have : j = 0 := by simpa [hosOf] using hj
      subst this
      refine ⟨e.symm, fun h0 => hn ?_⟩
      exact List.length_eq_zero_iff.1 (hlk.trans h0)
    have idT : ∀ i, i ∈ ownIds (tosOf [(invs hs F.length hs.length, F.length + 6 * hs.length - 1)]) → ∃ j, j < 2 * hs.length ∧ i = F.length + 6 * (j / 2) + j % 2 := fun i hi => by
      have : tosOf [(invs hs F.length hs.length, F.length + 6 * hs.length - 1)] = txs3 (invs hs F.length hs.length) := by simp [tosOf]
      rw [this] at hi
      obtain ⟨j, hj, hn, e⟩ := of_mem_ownIds hi
      rw [txs3_length, invs_length] at hj
      refine ⟨j, hj, ?_⟩
      rw [nth_invs hj] at e
      by_cases e1 : j % 2 = 0 <;> simp only [e1, if_true, if_false] at e <;> omega
    refine ES_seq_gen fun L hL => ?_
    simp -implicitDefEqProofs (maxSteps := 99999999) (disch := first | omega | (simp only [AHeap.set_length, killO_length, List.length_cons]; first | done | omega)) only [va, vs, vw, Nat.reduceMul, ite_true, ite_false, eq_self, forall_const, implies_true, Nat.reduceAdd, Nat.reduceSub, Nat.reduceLT, Nat.reduceLeDiff, ↓reduceIte, reduceCtorEq, Int.reduceEq, Int.reduceLT, Int.reduceLE, Int.reduceGT, Int.reduceGE, Int.reduceAdd, Int.reduceSub, Int.reduceNeg, Int.reduceToNat, Nat.reduceBEq, Nat.reduceEqDiff]
    refine callR_ret (keptHunks_d hs none G _ _ _ okG z4) ?_
    simp -implicitDefEqProofs (maxSteps := 99999999) (disch := first | omega | (simp only [AHeap.set_length, killO_length, List.length_cons]; first | done | omega)) only [va, vs, vw, Nat.reduceMul, ite_true, ite_false, eq_self, forall_const, implies_true, Nat.reduceAdd, Nat.reduceSub, Nat.reduceLT, Nat.reduceLeDiff, ↓reduceIte, reduceCtorEq, Int.reduceEq, Int.reduceLT, Int.reduceLE, Int.reduceGT, Int.reduceGE, Int.reduceAdd, Int.reduceSub, Int.reduceNeg, Int.reduceToNat, Nat.reduceBEq, Nat.reduceEqDiff]
    refine hL _ _ ?_
    clear hL
    refine ES_seq_gen fun L hL => ?_
    simp -implicitDefEqProofs (maxSteps := 99999999) (disch := first | omega | (simp only [AHeap.set_length, killO_length, List.length_cons]; first | done | omega)) only [va, vs, vw, Nat.reduceMul, ite_true, ite_false, eq_self, forall_const, implies_true, Nat.reduceAdd, Nat.reduceSub, Nat.reduceLT, Nat.reduceLeDiff, ↓reduceIte, reduceCtorEq, Int.reduceEq, Int.reduceLT, Int.reduceLE, Int.reduceGT, Int.reduceGE, Int.reduceAdd, Int.reduceSub, Int.reduceNeg, Int.reduceToNat, Nat.reduceBEq, Nat.reduceEqDiff]
    refine callR_ret (apartHunks_d G [(invs hs F.length hs.length, F.length + 6 * hs.length - 1)] _ okT okH (fun i h1 h2 => ?_) (by simp) ?_) ?_
    · obtain ⟨e1, _⟩ := idH i h1
      obtain ⟨j, hj, e2⟩ := idT i h2
      omega
    · have : tosOf [(invs hs F.length hs.length, F.length + 6 * hs.length - 1)] = txs3 (invs hs F.length hs.length) := by simp [tosOf]
      rw [this, txs3_length, invs_length]
      omega
    have okK : LentOK (killIds (ownIds (hosOf [(invs hs F.length hs.length, F.length + 6 * hs.length - 1)]) ++ ownIds (tosOf [(invs hs F.length hs.length, F.length + 6 * hs.length - 1)])) G) hs (2 * hs.length) (fun i => 2 * i) (fun i => 2 * i + 1) := okG.keep fun i hi => killIds_other fun hm => by
      have := lt i hi
      rcases List.mem_append.1 hm with h1 | h1
      · obtain ⟨e1, _⟩ := idH i h1
        omega
      · obtain ⟨j, hj, e2⟩ := idT i h1
        omega
    simp -implicitDefEqProofs (maxSteps := 99999999) (disch := first | omega | (simp only [AHeap.set_length, killO_length, List.length_cons]; first | done | omega)) only [va, vs, vw, Nat.reduceMul, ite_true, ite_false, eq_self, forall_const, implies_true, Nat.reduceAdd, Nat.reduceSub, Nat.reduceLT, Nat.reduceLeDiff, ↓reduceIte, reduceCtorEq, Int.reduceEq, Int.reduceLT, Int.reduceLE, Int.reduceGT, Int.reduceGE, Int.reduceAdd, Int.reduceSub, Int.reduceNeg, Int.reduceToNat, Nat.reduceBEq, Nat.reduceEqDiff]
    refine callR_ret (keptHunks_d hs none _ _ _ _ okK z4) ?_
    simp -implicitDefEqProofs (maxSteps := 99999999) (disch := first | omega | (simp only [AHeap.set_length, killO_length, List.length_cons]; first | done | omega)) only [va, vs, vw, Nat.reduceMul, ite_true, ite_false, eq_self, forall_const, implies_true, Nat.reduceAdd, Nat.reduceSub, Nat.reduceLT, Nat.reduceLeDiff, ↓reduceIte, reduceCtorEq, Int.reduceEq, Int.reduceLT, Int.reduceLE, Int.reduceGT, Int.reduceGE, Int.reduceAdd, Int.reduceSub, Int.reduceNeg, Int.reduceToNat, Nat.reduceBEq, Nat.reduceEqDiff]
    refine callR_ret (awake3_d _) ?_
    simp -implicitDefEqProofs (maxSteps := 99999999) (disch := first | omega | (simp only [AHeap.set_length, killO_length, List.length_cons]; first | done | omega)) only [va, vs, vw, Nat.reduceMul, ite_true, ite_false, eq_self, forall_const, implies_true, Nat.reduceAdd, Nat.reduceSub, Nat.reduceLT, Nat.reduceLeDiff, ↓reduceIte, reduceCtorEq, Int.reduceEq, Int.reduceLT, Int.reduceLE, Int.reduceGT, Int.reduceGE, Int.reduceAdd, Int.reduceSub, Int.reduceNeg, Int.reduceToNat, Nat.reduceBEq, Nat.reduceEqDiff]
    refine hL _ _ ?_
    clear hL
    simp -implicitDefEqProofs (maxSteps := 99999999) (disch := first | omega | (simp only [AHeap.set_length, killO_length, List.length_cons]; first | done | omega)) only [va, vs, vw, Nat.reduceMul, ite_true, ite_false, eq_self, forall_const, implies_true, Nat.reduceAdd, Nat.reduceSub, Nat.reduceLT, Nat.reduceLeDiff, ↓reduceIte, reduceCtorEq, Int.reduceEq, Int.reduceLT, Int.reduceLE, Int.reduceGT, Int.reduceGE, Int.reduceAdd, Int.reduceSub, Int.reduceNeg, Int.reduceToNat, Nat.reduceBEq, Nat.reduceEqDiff]
    exact weak_end
end Go.Proofs.Ytddhdlfafaobhaa
