/- law03.great; law03.HunkBack tells true. -/
import Derived.Test.YtddhdlfafaobhaaSC
namespace Go.Proofs.Ytddhdlfafaobhaa
open Go.RowKit
set_option maxRecDepth 100000
set_option linter.unusedVariables false
set_option linter.unusedSimpArgs false

def load3 : Int → List Hk → Int
  | n, [] => n
  | n, h :: r => if n ≤ 2000 then load3 (n + textsOf h.old 2000 + textsOf h.new 2000) r else n
theorem load3_step {l : List Hk} {k : Nat} (hk : k < l.length) (n : Int) : load3 n (l.drop k) = if n ≤ 2000 then load3 (n + textsOf (nthH l k).old 2000 + textsOf (nthH l k).new 2000) (l.drop (k + 1)) else n := by
  rw [List.drop_eq_getElem_cons hk, load3, nthH_eq hk]

theorem great3_d (l : List ByteArray) (hs : List Hk) (r1 r2 : Option (List AV)) (H : AHeap) (hl : Short l) (hh : AllShort hs) : D Try.prog 10 [.lst 1 (strs l) r1, .lst 3 (hks hs) r2] H (.ret (.sc (.bool (decide (load3 (hs.length + textsOf l 2000) hs > 2000))))) H := by
  have b0 := textsOf_rng hl (most := 2000) (by omega)
  have hlen := hh.1
  refine D_of_DK (Nat.le_refl _) (dk10 (E_of_ES ?_))
  simp -implicitDefEqProofs (maxSteps := 99999999) (disch := omega) only [ic10, hks_length, va, vh, Nat.reduceAdd, Nat.reduceSub, Nat.reduceLT, Nat.reduceLeDiff, ite_true, ite_false, ↓reduceIte, eq_self, reduceCtorEq, Int.reduceEq, Int.reduceNe, Int.reduceLT, Int.reduceLE, Int.reduceGT, Int.reduceGE, Int.reduceAdd, Int.reduceSub, Int.reduceMul, Int.reduceNeg, Int.reduceToNat, Int.reduceTDiv, Int.reduceTMod, Nat.reduceMul, Nat.reduceDiv, Nat.reduceMod, Nat.reduceBEq, forall_const, implies_true, Nat.reduceEqDiff]
  refine callR_ret (textsOf_d l r1 2000 _ hl (by omega)) ?_
  simp -implicitDefEqProofs (maxSteps := 99999999) (disch := omega) only [va, vh, Nat.reduceAdd, Nat.reduceSub, Nat.reduceLT, Nat.reduceLeDiff, ite_true, ite_false, ↓reduceIte, eq_self, reduceCtorEq, Int.reduceEq, Int.reduceNe, Int.reduceLT, Int.reduceLE, Int.reduceGT, Int.reduceGE, Int.reduceAdd, Int.reduceSub, Int.reduceMul, Int.reduceNeg, Int.reduceToNat, Int.reduceTDiv, Int.reduceTMod, Nat.reduceMul, Nat.reduceDiv, Nat.reduceMod, Nat.reduceBEq, forall_const, implies_true, Nat.reduceEqDiff]
  refine ES_loop (fun ts H' => H' = H ∧ ∃ (k : Nat) (n : Int), (k ≤ hs.length ∧ 0 ≤ n ∧ n ≤ 300000000 ∧ load3 n (hs.drop k) = load3 (hs.length + textsOf l 2000) hs) ∧ Fr [some (.lst 1 (strs l) r1), some (.lst 3 (hks hs) r2), none, none, none, some (.sc (.int .i64 n)), some (.sc (.int .i64 k)), none, none, none, none, none, none, none, none, none, none, none, none, none, none, none, none, none, none, none, none, none, none, none, none, none, none, none, none, none, none, none, none] ts) (fun ts _ => hs.length - (intV (ts.getD 6 .top)).toNat) ?_ ?_
  · exact ⟨rfl, 0, _, ⟨Nat.zero_le _, by omega, by omega, rfl⟩, by simp [Fr]⟩
  rintro ts _ ⟨rfl, k, n, ⟨hk, hn0, hn1, hp⟩, hfr⟩
  obtain ⟨js, rfl⟩ := hfr.opened
  clear hfr
  by_cases h1 : k < hs.length
  · have h1' : (k : Int) < hs.length := by omega
    have hsh := hh.nth h1
    have c1 := textsOf_rng hsh.1 (most := 2000) (by omega)
    have c2 := textsOf_rng hsh.2 (most := 2000) (by omega)
    rw [load3_step h1] at hp
    by_cases h2 : n ≤ 2000
    · rw [if_pos h2] at hp
      simp -implicitDefEqProofs (maxSteps := 99999999) (disch := omega) only [mk, h1', h2, hks_get h1, hks_length, va, vh, Nat.reduceAdd, Nat.reduceSub, Nat.reduceLT, Nat.reduceLeDiff, ite_true, ite_false, ↓reduceIte, eq_self, reduceCtorEq, Int.reduceEq, Int.reduceNe, Int.reduceLT, Int.reduceLE, Int.reduceGT, Int.reduceGE, Int.reduceAdd, Int.reduceSub, Int.reduceMul, Int.reduceNeg, Int.reduceToNat, Int.reduceTDiv, Int.reduceTMod, Nat.reduceMul, Nat.reduceDiv, Nat.reduceMod, Nat.reduceBEq, forall_const, implies_true, Nat.reduceEqDiff]
      refine ⟨by omega, callD_same (textsOf_d _ _ 2000 _ hsh.1 (by omega)) ?_⟩
      simp -implicitDefEqProofs (maxSteps := 99999999) (disch := omega) only [hks_get h1, hks_length, va, vh, Nat.reduceAdd, Nat.reduceSub, Nat.reduceLT, Nat.reduceLeDiff, ite_true, ite_false, ↓reduceIte, eq_self, reduceCtorEq, Int.reduceEq, Int.reduceNe, Int.reduceLT, Int.reduceLE, Int.reduceGT, Int.reduceGE, Int.reduceAdd, Int.reduceSub, Int.reduceMul, Int.reduceNeg, Int.reduceToNat, Int.reduceTDiv, Int.reduceTMod, Nat.reduceMul, Nat.reduceDiv, Nat.reduceMod, Nat.reduceBEq, forall_const, implies_true, Nat.reduceEqDiff]
      refine ⟨by omega, callD_same (textsOf_d _ _ 2000 _ hsh.2 (by omega)) ?_⟩
      simp -implicitDefEqProofs (maxSteps := 99999999) (disch := omega) only [va, vh, Nat.reduceAdd, Nat.reduceSub, Nat.reduceLT, Nat.reduceLeDiff, ite_true, ite_false, ↓reduceIte, eq_self, reduceCtorEq, Int.reduceEq, Int.reduceNe, Int.reduceLT, Int.reduceLE, Int.reduceGT, Int.reduceGE, Int.reduceAdd, Int.reduceSub, Int.reduceMul, Int.reduceNeg, Int.reduceToNat, Int.reduceTDiv, Int.reduceTMod, Nat.reduceMul, Nat.reduceDiv, Nat.reduceMod, Nat.reduceBEq, forall_const, implies_true, Nat.reduceEqDiff]
      exact ⟨⟨k + 1, _, ⟨by omega, by omega, by omega, hp⟩, by simp [Fr]⟩, by omega⟩
    · rw [if_neg h2] at hp
      subst hp
      simp -implicitDefEqProofs (maxSteps := 99999999) (disch := omega) only [mk, h1', h2, hks_length, va, vh, Nat.reduceAdd, Nat.reduceSub, Nat.reduceLT, Nat.reduceLeDiff, ite_true, ite_false, ↓reduceIte, eq_self, reduceCtorEq, Int.reduceEq, Int.reduceNe, Int.reduceLT, Int.reduceLE, Int.reduceGT, Int.reduceGE, Int.reduceAdd, Int.reduceSub, Int.reduceMul, Int.reduceNeg, Int.reduceToNat, Int.reduceTDiv, Int.reduceTMod, Nat.reduceMul, Nat.reduceDiv, Nat.reduceMod, Nat.reduceBEq, forall_const, implies_true, Nat.reduceEqDiff]
      exact weak_sc .refl
  · have h1' : ¬ (k : Int) < hs.length := by omega
    have hp' : n = load3 (hs.length + textsOf l 2000) hs := by rw [← hp, List.drop_eq_nil_of_le (by omega)]; rfl
    subst hp'
    simp -implicitDefEqProofs (maxSteps := 99999999) (disch := omega) only [mk, h1', hks_length, va, vh, Nat.reduceAdd, Nat.reduceSub, Nat.reduceLT, Nat.reduceLeDiff, ite_true, ite_false, ↓reduceIte, eq_self, reduceCtorEq, Int.reduceEq, Int.reduceNe, Int.reduceLT, Int.reduceLE, Int.reduceGT, Int.reduceGE, Int.reduceAdd, Int.reduceSub, Int.reduceMul, Int.reduceNeg, Int.reduceToNat, Int.reduceTDiv, Int.reduceTMod, Nat.reduceMul, Nat.reduceDiv, Nat.reduceMod, Nat.reduceBEq, forall_const, implies_true, Nat.reduceEqDiff]
    exact weak_sc .refl

theorem weak_end {F : AHeap} {v : Value} : Weak [] (.ret (.sc v)) F (.ret (.sc v)) [] :=
  weak_gen [] (by simp) (by simp) (by simp) (fun id k hid hk => by simp at hid) (fun i s k hs => by simp at hs) (.same trivial)

theorem endN_eq : ∀ (n : Int) (hs : List Hk) (k : Nat), k < hs.length → endN n (hs.take (k + 1)) = endN n (hs.take k) + (nthH hs k).new.length - (nthH hs k).old.length := by
  intro n hs k hk
  rw [List.take_add_one, List.getElem?_eq_getElem hk]
  simp only [Option.toList_some]
  rw [endN_app, nthH_eq hk]
theorem backL_eq (L : Nat) : ∀ (n : Int) (hs : List Hk) (k : Nat), k < hs.length → backL L n (hs.take (k + 1)) = backL L n (hs.take k) ++ [⟨(nthH hs k).at_ + endN n (hs.take k) - L, (nthH hs k).new, (nthH hs k).old⟩] := by
  intro n hs k hk
  rw [List.take_add_one, List.getElem?_eq_getElem hk]
  simp only [Option.toList_some]
  rw [backL_app, nthH_eq hk]
def sumL : List Hk → Nat
  | [] => 0
  | h :: r => h.old.length + h.new.length + sumL r
theorem sumL_new (l : List Hk) : newLen l ≤ sumL l := by
  induction l with
  | nil => exact Nat.le_refl _
  | cons h r ih => simp only [newLen, sumL]; omega
theorem sumL_app (a b : List Hk) : sumL (a ++ b) = sumL a + sumL b := by
  induction a with
  | nil => simp [sumL]
  | cons h r ih => simp only [List.cons_append, sumL, ih]; omega
theorem sumL_take (l : List Hk) (k : Nat) : sumL (l.take k) ≤ sumL l := by
  conv => rhs; rw [← List.take_append_drop k l, sumL_app]
  omega
theorem endN_rng : ∀ (n : Int) (l : List Hk), n - sumL l ≤ endN n l ∧ endN n l ≤ n + sumL l
  | n, [] => by simp [endN, sumL]
  | n, h :: r => by
    have := endN_rng (n + h.new.length - h.old.length) r
    simp only [endN, sumL]
    omega
theorem newLen_back (L : Nat) : ∀ (n : Int) (l : List Hk), newLen (backL L n l) ≤ sumL l
  | n, [] => Nat.le_refl _
  | n, h :: r => by
    have := newLen_back L (n + h.new.length - h.old.length) r
    simp only [backL, newLen, sumL]
    omega
theorem back_short (L : Nat) : ∀ (n : Int) (l : List Hk), (∀ h ∈ l, h.short) → ∀ h ∈ backL L n l, h.short
  | n, [], _, h, hh => by simp [backL] at hh
  | n, x :: r, hs, h, hh => by
    simp only [backL, List.mem_cons] at hh
    rcases hh with rfl | hh
    · have := hs x (by simp)
      exact ⟨this.2, this.1⟩
    · exact back_short L _ r (fun y hy => hs y (by simp [hy])) h hh

set_option maxHeartbeats 0 in
theorem back_d (l : List ByteArray) (hs : List Hk) (hl : Short l) (hh : AllShort hs) (htot : l.length + sumL hs ≤ 10000000) :
    D Try.prog 6 [.lst 1 (strs l) none, .lst 3 (hks hs) none] [] (.ret (.sc (.bool true))) [] := by
  have hlen := hh.1
  have hnew := sumL_new hs
  refine D_of_DK (Nat.le_refl _) (dk6 (E_of_ES ?_))
  unfold ic6
  refine ES_seq_gen fun L hL => ?_
  simp -implicitDefEqProofs (maxSteps := 99999999) (disch := first | omega | (simp only [AHeap.set_length, killO_length, List.length_cons]; done) | (simp only [AHeap.set_length, killO_length, List.length_cons]; omega)) only [va, vw, Nat.reduceAdd, Nat.reduceSub, Nat.reduceLT, Nat.reduceLeDiff, ite_true, ite_false, ↓reduceIte, eq_self, reduceCtorEq, Int.reduceEq, Int.reduceNe, Int.reduceLT, Int.reduceLE, Int.reduceGT, Int.reduceGE, Int.reduceAdd, Int.reduceSub, Int.reduceMul, Int.reduceNeg, Int.reduceToNat, Int.reduceTDiv, Int.reduceTMod, Nat.reduceMul, Nat.reduceDiv, Nat.reduceMod, Nat.reduceBEq, forall_const, implies_true, Nat.reduceEqDiff]
  refine hL _ _ ?_
  clear hL
  refine ES_seq_gen fun L hL => ?_
  simp -implicitDefEqProofs (maxSteps := 99999999) (disch := first | omega | (simp only [AHeap.set_length, killO_length, List.length_cons]; done) | (simp only [AHeap.set_length, killO_length, List.length_cons]; omega)) only [va, vw, Nat.reduceAdd, Nat.reduceSub, Nat.reduceLT, Nat.reduceLeDiff, ite_true, ite_false, ↓reduceIte, eq_self, reduceCtorEq, Int.reduceEq, Int.reduceNe, Int.reduceLT, Int.reduceLE, Int.reduceGT, Int.reduceGE, Int.reduceAdd, Int.reduceSub, Int.reduceMul, Int.reduceNeg, Int.reduceToNat, Int.reduceTDiv, Int.reduceTMod, Nat.reduceMul, Nat.reduceDiv, Nat.reduceMod, Nat.reduceBEq, forall_const, implies_true, Nat.reduceEqDiff]
  refine callR_ret (awake3_d _) ?_
  simp -implicitDefEqProofs (maxSteps := 99999999) (disch := first | omega | (simp only [AHeap.set_length, killO_length, List.length_cons]; done) | (simp only [AHeap.set_length, killO_length, List.length_cons]; omega)) only [va, vw, Nat.reduceAdd, Nat.reduceSub, Nat.reduceLT, Nat.reduceLeDiff, ite_true, ite_false, ↓reduceIte, eq_self, reduceCtorEq, Int.reduceEq, Int.reduceNe, Int.reduceLT, Int.reduceLE, Int.reduceGT, Int.reduceGE, Int.reduceAdd, Int.reduceSub, Int.reduceMul, Int.reduceNeg, Int.reduceToNat, Int.reduceTDiv, Int.reduceTMod, Nat.reduceMul, Nat.reduceDiv, Nat.reduceMod, Nat.reduceBEq, forall_const, implies_true, Nat.reduceEqDiff]
  refine hL _ _ ?_
  clear hL
  refine ES_seq_gen fun L hL => ?_
  simp -implicitDefEqProofs (maxSteps := 99999999) (disch := first | omega | (simp only [AHeap.set_length, killO_length, List.length_cons]; done) | (simp only [AHeap.set_length, killO_length, List.length_cons]; omega)) only [va, vw, Nat.reduceAdd, Nat.reduceSub, Nat.reduceLT, Nat.reduceLeDiff, ite_true, ite_false, ↓reduceIte, eq_self, reduceCtorEq, Int.reduceEq, Int.reduceNe, Int.reduceLT, Int.reduceLE, Int.reduceGT, Int.reduceGE, Int.reduceAdd, Int.reduceSub, Int.reduceMul, Int.reduceNeg, Int.reduceToNat, Int.reduceTDiv, Int.reduceTMod, Nat.reduceMul, Nat.reduceDiv, Nat.reduceMod, Nat.reduceBEq, forall_const, implies_true, Nat.reduceEqDiff]
  refine callR_ret (great3_d l hs _ _ _ hl hh) ?_
  by_cases g : load3 (hs.length + textsOf l 2000) hs > 2000
  · simp -implicitDefEqProofs (maxSteps := 99999999) (disch := first | omega | (simp only [AHeap.set_length, killO_length, List.length_cons]; done) | (simp only [AHeap.set_length, killO_length, List.length_cons]; omega)) only [g, va, vw, Nat.reduceAdd, Nat.reduceSub, Nat.reduceLT, Nat.reduceLeDiff, ite_true, ite_false, ↓reduceIte, eq_self, reduceCtorEq, Int.reduceEq, Int.reduceNe, Int.reduceLT, Int.reduceLE, Int.reduceGT, Int.reduceGE, Int.reduceAdd, Int.reduceSub, Int.reduceMul, Int.reduceNeg, Int.reduceToNat, Int.reduceTDiv, Int.reduceTMod, Nat.reduceMul, Nat.reduceDiv, Nat.reduceMod, Nat.reduceBEq, forall_const, implies_true, Nat.reduceEqDiff]
    exact weak_end
  simp -implicitDefEqProofs (maxSteps := 99999999) (disch := first | omega | (simp only [AHeap.set_length, killO_length, List.length_cons]; done) | (simp only [AHeap.set_length, killO_length, List.length_cons]; omega)) only [g, va, vw, Nat.reduceAdd, Nat.reduceSub, Nat.reduceLT, Nat.reduceLeDiff, ite_true, ite_false, ↓reduceIte, eq_self, reduceCtorEq, Int.reduceEq, Int.reduceNe, Int.reduceLT, Int.reduceLE, Int.reduceGT, Int.reduceGE, Int.reduceAdd, Int.reduceSub, Int.reduceMul, Int.reduceNeg, Int.reduceToNat, Int.reduceTDiv, Int.reduceTMod, Nat.reduceMul, Nat.reduceDiv, Nat.reduceMod, Nat.reduceBEq, forall_const, implies_true, Nat.reduceEqDiff]
  refine hL _ _ ?_
  clear hL
  refine ES_seq_gen fun L hL => ?_
  simp -implicitDefEqProofs (maxSteps := 99999999) (disch := first | omega | (simp only [AHeap.set_length, killO_length, List.length_cons]; done) | (simp only [AHeap.set_length, killO_length, List.length_cons]; omega)) only [va, vw, Nat.reduceAdd, Nat.reduceSub, Nat.reduceLT, Nat.reduceLeDiff, ite_true, ite_false, ↓reduceIte, eq_self, reduceCtorEq, Int.reduceEq, Int.reduceNe, Int.reduceLT, Int.reduceLE, Int.reduceGT, Int.reduceGE, Int.reduceAdd, Int.reduceSub, Int.reduceMul, Int.reduceNeg, Int.reduceToNat, Int.reduceTDiv, Int.reduceTMod, Nat.reduceMul, Nat.reduceDiv, Nat.reduceMod, Nat.reduceBEq, forall_const, implies_true, Nat.reduceEqDiff]
  refine callR_ret (apply_f l hs .refl .refl _ hl hh (by omega)) ?_
  by_cases e : (applyR l hs).2 = 0
  case neg =>
    have e' := applyR_err e
    simp -implicitDefEqProofs (maxSteps := 99999999) (disch := first | omega | (simp only [AHeap.set_length, killO_length, List.length_cons]; done) | (simp only [AHeap.set_length, killO_length, List.length_cons]; omega)) only [e, e', strs_nil, va, vw, Nat.reduceAdd, Nat.reduceSub, Nat.reduceLT, Nat.reduceLeDiff, ite_true, ite_false, ↓reduceIte, eq_self, reduceCtorEq, Int.reduceEq, Int.reduceNe, Int.reduceLT, Int.reduceLE, Int.reduceGT, Int.reduceGE, Int.reduceAdd, Int.reduceSub, Int.reduceMul, Int.reduceNeg, Int.reduceToNat, Int.reduceTDiv, Int.reduceTMod, Nat.reduceMul, Nat.reduceDiv, Nat.reduceMod, Nat.reduceBEq, forall_const, implies_true, Nat.reduceEqDiff]
    refine hL _ _ ?_
    clear hL
    refine ES_seq_gen fun L hL => ?_
    simp -implicitDefEqProofs (maxSteps := 99999999) (disch := first | omega | (simp only [AHeap.set_length, killO_length, List.length_cons]; done) | (simp only [AHeap.set_length, killO_length, List.length_cons]; omega)) only [e, e', strs_nil, va, vw, Nat.reduceAdd, Nat.reduceSub, Nat.reduceLT, Nat.reduceLeDiff, ite_true, ite_false, ↓reduceIte, eq_self, reduceCtorEq, Int.reduceEq, Int.reduceNe, Int.reduceLT, Int.reduceLE, Int.reduceGT, Int.reduceGE, Int.reduceAdd, Int.reduceSub, Int.reduceMul, Int.reduceNeg, Int.reduceToNat, Int.reduceTDiv, Int.reduceTMod, Nat.reduceMul, Nat.reduceDiv, Nat.reduceMod, Nat.reduceBEq, forall_const, implies_true, Nat.reduceEqDiff]
    exact weak_end
  have ok := applyR_iff.1 e
  have hA := applyR_short hl hh (by omega)
  obtain ⟨un1, un2⟩ := undone e (by omega) (by omega)
  have hbl : ∀ k, (backL l.length l.length (hs.take k)).length = (hs.take k).length := fun k => backL_length _ _ _
  simp -implicitDefEqProofs (maxSteps := 99999999) (disch := first | omega | (simp only [AHeap.set_length, killO_length, List.length_cons]; done) | (simp only [AHeap.set_length, killO_length, List.length_cons]; omega)) only [e, va, vw, Nat.reduceAdd, Nat.reduceSub, Nat.reduceLT, Nat.reduceLeDiff, ite_true, ite_false, ↓reduceIte, eq_self, reduceCtorEq, Int.reduceEq, Int.reduceNe, Int.reduceLT, Int.reduceLE, Int.reduceGT, Int.reduceGE, Int.reduceAdd, Int.reduceSub, Int.reduceMul, Int.reduceNeg, Int.reduceToNat, Int.reduceTDiv, Int.reduceTMod, Nat.reduceMul, Nat.reduceDiv, Nat.reduceMod, Nat.reduceBEq, forall_const, implies_true, Nat.reduceEqDiff]
  refine hL _ _ ?_
  clear hL
  refine ES_seq_gen fun L hL => ?_
  simp -implicitDefEqProofs (maxSteps := 99999999) (disch := first | omega | (simp only [AHeap.set_length, killO_length, List.length_cons]; done) | (simp only [AHeap.set_length, killO_length, List.length_cons]; omega)) only [e, va, vw, Nat.reduceAdd, Nat.reduceSub, Nat.reduceLT, Nat.reduceLeDiff, ite_true, ite_false, ↓reduceIte, eq_self, reduceCtorEq, Int.reduceEq, Int.reduceNe, Int.reduceLT, Int.reduceLE, Int.reduceGT, Int.reduceGE, Int.reduceAdd, Int.reduceSub, Int.reduceMul, Int.reduceNeg, Int.reduceToNat, Int.reduceTDiv, Int.reduceTMod, Nat.reduceMul, Nat.reduceDiv, Nat.reduceMod, Nat.reduceBEq, forall_const, implies_true, Nat.reduceEqDiff]
  refine hL _ _ ?_
  clear hL
  refine ES_seq_gen fun L hL => ?_
  simp -implicitDefEqProofs (maxSteps := 99999999) (disch := first | omega | (simp only [AHeap.set_length, killO_length, List.length_cons]; done) | (simp only [AHeap.set_length, killO_length, List.length_cons]; omega)) only [e, va, vw, Nat.reduceAdd, Nat.reduceSub, Nat.reduceLT, Nat.reduceLeDiff, ite_true, ite_false, ↓reduceIte, eq_self, reduceCtorEq, Int.reduceEq, Int.reduceNe, Int.reduceLT, Int.reduceLE, Int.reduceGT, Int.reduceGE, Int.reduceAdd, Int.reduceSub, Int.reduceMul, Int.reduceNeg, Int.reduceToNat, Int.reduceTDiv, Int.reduceTMod, Nat.reduceMul, Nat.reduceDiv, Nat.reduceMod, Nat.reduceBEq, forall_const, implies_true, Nat.reduceEqDiff]
  refine hL _ _ ?_
  clear hL
  refine ES_seq_gen fun L hL => ?_
  simp -implicitDefEqProofs (maxSteps := 99999999) (disch := first | omega | (simp only [AHeap.set_length, killO_length, List.length_cons]; done) | (simp only [AHeap.set_length, killO_length, List.length_cons]; omega)) only [e, va, vw, Nat.reduceAdd, Nat.reduceSub, Nat.reduceLT, Nat.reduceLeDiff, ite_true, ite_false, ↓reduceIte, eq_self, reduceCtorEq, Int.reduceEq, Int.reduceNe, Int.reduceLT, Int.reduceLE, Int.reduceGT, Int.reduceGE, Int.reduceAdd, Int.reduceSub, Int.reduceMul, Int.reduceNeg, Int.reduceToNat, Int.reduceTDiv, Int.reduceTMod, Nat.reduceMul, Nat.reduceDiv, Nat.reduceMod, Nat.reduceBEq, forall_const, implies_true, Nat.reduceEqDiff]
  refine hL _ _ ?_
  clear hL
  refine ES_seq_gen fun L hL => ?_
  simp -implicitDefEqProofs (maxSteps := 99999999) (disch := first | omega | (simp only [AHeap.set_length, killO_length, List.length_cons]; done) | (simp only [AHeap.set_length, killO_length, List.length_cons]; omega)) only [e, va, vw, Nat.reduceAdd, Nat.reduceSub, Nat.reduceLT, Nat.reduceLeDiff, ite_true, ite_false, ↓reduceIte, eq_self, reduceCtorEq, Int.reduceEq, Int.reduceNe, Int.reduceLT, Int.reduceLE, Int.reduceGT, Int.reduceGE, Int.reduceAdd, Int.reduceSub, Int.reduceMul, Int.reduceNeg, Int.reduceToNat, Int.reduceTDiv, Int.reduceTMod, Nat.reduceMul, Nat.reduceDiv, Nat.reduceMod, Nat.reduceBEq, forall_const, implies_true, Nat.reduceEqDiff]
  refine ES_gen fun K hK => ?_
  refine ES_loopL (fun ts F => ∃ (k io : Nat), (k ≤ hs.length ∧ (hks (backL l.length l.length (hs.take k)) ≠ [] → AHeap.find F io = OwnB 3 41 (hks (backL l.length l.length (hs.take k))))) ∧
      Fr [some (.lst 1 (strs l) none), some (.lst 3 (hks hs) none), none, none, none, some (.lst 1 (strs (applyR l hs).1) none), none, some (.sc (.int .i64 (endN l.length (hs.take k)))), some (OwnV 3 (hks (backL l.length l.length (hs.take k))) io), some (.sc (.int .i64 k)), none, none, none, none, none, none, none, none, none, none, none, none, none, none, none, none, none, none, none, none, none, none, none, none, none, none, none, none, none, none, none, none, none, none, none, none, none, none, none, none, none, none, none, none, none, none, none, none, none, none, none, none, none, none, none, none, none, none, none, none, none, none, none, none, none, none, none, none, none, none, none, none, none, none, none, none, none, none, none, none, none, none, none, none, none, none, none, none, none, none, none, none, none, none, none, none, none, none, none, none, none, none] ts) (fun ts _ => hs.length - (intV (ts.getD 9 .top)).toNat) ?_ ?_
  · exact ⟨0, 0, ⟨Nat.zero_le _, fun h => (h rfl).elim⟩, by simp [Fr, endN, backL, hks, OwnV]⟩
  · rintro ts F ⟨k, io, ⟨hk0, hf⟩, hfr⟩ L' hL'
    obtain ⟨js, rfl⟩ := hfr.opened
    clear hfr
    by_cases h1 : k < hs.length
    · have h1' : (k : Int) < hs.length := by omega
      have hsh := hh.nth h1
      have hrt : rightB (nthH hs k) = true := by
        have := ok.2.1
        rw [split_at h1] at this
        exact (sorted_past this).1
      have hat := rightB_at hrt
      have hr := endN_rng l.length (hs.take k)
      have hsk := sumL_take hs k
      have q1 := hsh.1.1
      have q2 := hsh.2.1
      have eB := backL_eq l.length l.length hs k h1
      have eN := endN_eq l.length hs k h1
      have hbk : (backL l.length l.length (hs.take k)).length = k := by rw [hbl, List.length_take]; omega
      generalize backL l.length l.length (hs.take k) = bk at *
      generalize endN l.length (hs.take k) = nn at *
      simp -implicitDefEqProofs (maxSteps := 99999999) (disch := first | omega | (simp only [AHeap.set_length, killO_length, List.length_cons]; done) | (simp only [AHeap.set_length, killO_length, List.length_cons]; omega)) only [mk, h1', hks_get h1, hks_length, va, vw, Nat.reduceAdd, Nat.reduceSub, Nat.reduceLT, Nat.reduceLeDiff, ite_true, ite_false, ↓reduceIte, eq_self, reduceCtorEq, Int.reduceEq, Int.reduceNe, Int.reduceLT, Int.reduceLE, Int.reduceGT, Int.reduceGE, Int.reduceAdd, Int.reduceSub, Int.reduceMul, Int.reduceNeg, Int.reduceToNat, Int.reduceTDiv, Int.reduceTMod, Nat.reduceMul, Nat.reduceDiv, Nat.reduceMod, Nat.reduceBEq, forall_const, implies_true, Nat.reduceEqDiff]
      refine ⟨by omega, callR_ret (invert_d _ _ _ _ hsh) ?_⟩
      have fin : ∀ (F' : AHeap) (ts' : List AV), AHeap.find F' (F.length + 1) = OwnB 3 41 (hks (bk ++ [⟨(nthH hs k).at_ + nn - l.length, (nthH hs k).new, (nthH hs k).old⟩])) →
          Fr [some (.lst 1 (strs l) none), some (.lst 3 (hks hs) none), none, none, none, some (.lst 1 (strs (applyR l hs).1) none), none, some (.sc (.int .i64 (nn + (nthH hs k).new.length - (nthH hs k).old.length))), some (.vec 3 (F.length + 1) 0 (bk.length + 1) none), some (.sc (.int .i64 (k + 1))), none, none, none, none, none, none, none, none, none, none, none, none, none, none, none, none, none, none, none, none, none, none, none, none, none, none, none, none, none, none, none, none, none, none, none, none, none, none, none, none, none, none, none, none, none, none, none, none, none, none, none, none, none, none, none, none, none, none, none, none, none, none, none, none, none, none, none, none, none, none, none, none, none, none, none, none, none, none, none, none, none, none, none, none, none, none, none, none, none, none, none, none, none, none, none, none, none, none, none, none, none, none] ts' → ts'.getD 9 .top = .sc (.int .i64 (k + 1)) → L' ts' F' := by
        intro F' ts' hf' hfr' h9
        refine hL' _ _ ⟨k + 1, F.length + 1, ⟨by omega, fun h => by rw [eB]; exact hf'⟩, ?_⟩ ?_
        · rw [eB, eN, OwnV_ne (by simp [hks]), hks_length, List.length_append]
          exact hfr'
        · simp only [h9, mk, List.getD_cons_succ, List.getD_cons_zero, intV]; omega
      cases bk with
      | nil =>
        have e8 : OwnV 3 (hks []) io = .lst 0 [] (some []) := rfl
        unfold Hk.inv
        simp -implicitDefEqProofs (maxSteps := 99999999) (disch := first | omega | (simp only [AHeap.set_length, killO_length, List.length_cons]; done) | (simp only [AHeap.set_length, killO_length, List.length_cons]; omega)) only [e8, va, vw, Nat.reduceAdd, Nat.reduceSub, Nat.reduceLT, Nat.reduceLeDiff, ite_true, ite_false, ↓reduceIte, eq_self, reduceCtorEq, Int.reduceEq, Int.reduceNe, Int.reduceLT, Int.reduceLE, Int.reduceGT, Int.reduceGE, Int.reduceAdd, Int.reduceSub, Int.reduceMul, Int.reduceNeg, Int.reduceToNat, Int.reduceTDiv, Int.reduceTMod, Nat.reduceMul, Nat.reduceDiv, Nat.reduceMod, Nat.reduceBEq, forall_const, implies_true, Nat.reduceEqDiff]
        exact fin _ _ (find_top (by simp)) (by simp [Fr]) (by simp)
      | cons b0 br =>
        have e8 : OwnV 3 (hks (b0 :: br)) io = .vec 3 io 0 (br.length + 1) none := by simp [OwnV, hks]
        have e9 : AHeap.find F io = some ⟨3, hks (b0 :: br), false, 41⟩ := hf (by simp [hks])
        have hio := AHeap.find_lt e9
        unfold Hk.inv
        simp -implicitDefEqProofs (maxSteps := 99999999) (disch := first | omega | (simp only [AHeap.set_length, killO_length, List.length_cons]; done) | (simp only [AHeap.set_length, killO_length, List.length_cons]; omega)) only [e8, e9, hks_length, va, vw, Nat.reduceAdd, Nat.reduceSub, Nat.reduceLT, Nat.reduceLeDiff, ite_true, ite_false, ↓reduceIte, eq_self, reduceCtorEq, Int.reduceEq, Int.reduceNe, Int.reduceLT, Int.reduceLE, Int.reduceGT, Int.reduceGE, Int.reduceAdd, Int.reduceSub, Int.reduceMul, Int.reduceNeg, Int.reduceToNat, Int.reduceTDiv, Int.reduceTMod, Nat.reduceMul, Nat.reduceDiv, Nat.reduceMod, Nat.reduceBEq, forall_const, implies_true, Nat.reduceEqDiff]
        simp only [List.length_cons] at hbk
        refine ⟨by omega, fin _ _ ?_ (by simp [Fr]) (by simp)⟩
        rw [find_top (by simp [AHeap.set_length])]
        simp [OwnB, hks]
    · have hk' : k = hs.length := by omega
      subst hk'
      have h1' : ¬ (hs.length : Int) < hs.length := by omega
      rw [List.take_length] at hf
      simp -implicitDefEqProofs (maxSteps := 99999999) (disch := first | omega | (simp only [AHeap.set_length, killO_length, List.length_cons]; done) | (simp only [AHeap.set_length, killO_length, List.length_cons]; omega)) only [mk, h1', hks_length, List.take_length, va, vw, Nat.reduceAdd, Nat.reduceSub, Nat.reduceLT, Nat.reduceLeDiff, ite_true, ite_false, ↓reduceIte, eq_self, reduceCtorEq, Int.reduceEq, Int.reduceNe, Int.reduceLT, Int.reduceLE, Int.reduceGT, Int.reduceGE, Int.reduceAdd, Int.reduceSub, Int.reduceMul, Int.reduceNeg, Int.reduceToNat, Int.reduceTDiv, Int.reduceTMod, Nat.reduceMul, Nat.reduceDiv, Nat.reduceMod, Nat.reduceBEq, forall_const, implies_true, Nat.reduceEqDiff]
      clear hL'
      refine hK _ _ _ ?_
      clear hK
      simp -implicitDefEqProofs (maxSteps := 99999999) (disch := first | omega | (simp only [AHeap.set_length, killO_length, List.length_cons]; done) | (simp only [AHeap.set_length, killO_length, List.length_cons]; omega)) only [va, vw, Nat.reduceAdd, Nat.reduceSub, Nat.reduceLT, Nat.reduceLeDiff, ite_true, ite_false, ↓reduceIte, eq_self, reduceCtorEq, Int.reduceEq, Int.reduceNe, Int.reduceLT, Int.reduceLE, Int.reduceGT, Int.reduceGE, Int.reduceAdd, Int.reduceSub, Int.reduceMul, Int.reduceNeg, Int.reduceToNat, Int.reduceTDiv, Int.reduceTMod, Nat.reduceMul, Nat.reduceDiv, Nat.reduceMod, Nat.reduceBEq, forall_const, implies_true, Nat.reduceEqDiff]
      refine hL _ _ ?_
      clear hL
      refine ES_seq_gen fun L hL => ?_
      simp -implicitDefEqProofs (maxSteps := 99999999) (disch := first | omega | (simp only [AHeap.set_length, killO_length, List.length_cons]; done) | (simp only [AHeap.set_length, killO_length, List.length_cons]; omega)) only [va, vw, Nat.reduceAdd, Nat.reduceSub, Nat.reduceLT, Nat.reduceLeDiff, ite_true, ite_false, ↓reduceIte, eq_self, reduceCtorEq, Int.reduceEq, Int.reduceNe, Int.reduceLT, Int.reduceLE, Int.reduceGT, Int.reduceGE, Int.reduceAdd, Int.reduceSub, Int.reduceMul, Int.reduceNeg, Int.reduceToNat, Int.reduceTDiv, Int.reduceTMod, Nat.reduceMul, Nat.reduceDiv, Nat.reduceMod, Nat.reduceBEq, forall_const, implies_true, Nat.reduceEqDiff]
      refine callR_ret (D_own (a := [.lst 1 (strs (applyR l hs).1) none]) (b := []) hf (apply_f (applyR l hs).1 (backL l.length l.length hs) .refl .refl _ hA.1 ⟨by rw [backL_length]; exact hh.1, back_short _ _ _ hh.2⟩ ?_)) ?_
      · have := newLen_back l.length l.length hs
        have := hA.2
        omega
      rw [un1]
      simp -implicitDefEqProofs (maxSteps := 99999999) (disch := first | omega | (simp only [AHeap.set_length, killO_length, List.length_cons]; done) | (simp only [AHeap.set_length, killO_length, List.length_cons]; omega)) only [va, vw, Nat.reduceAdd, Nat.reduceSub, Nat.reduceLT, Nat.reduceLeDiff, ite_true, ite_false, ↓reduceIte, eq_self, reduceCtorEq, Int.reduceEq, Int.reduceNe, Int.reduceLT, Int.reduceLE, Int.reduceGT, Int.reduceGE, Int.reduceAdd, Int.reduceSub, Int.reduceMul, Int.reduceNeg, Int.reduceToNat, Int.reduceTDiv, Int.reduceTMod, Nat.reduceMul, Nat.reduceDiv, Nat.reduceMod, Nat.reduceBEq, forall_const, implies_true, Nat.reduceEqDiff]
      refine hL _ _ ?_
      clear hL
      refine ES_seq_gen fun L hL => ?_
      simp -implicitDefEqProofs (maxSteps := 99999999) (disch := first | omega | (simp only [AHeap.set_length, killO_length, List.length_cons]; done) | (simp only [AHeap.set_length, killO_length, List.length_cons]; omega)) only [va, vw, Nat.reduceAdd, Nat.reduceSub, Nat.reduceLT, Nat.reduceLeDiff, ite_true, ite_false, ↓reduceIte, eq_self, reduceCtorEq, Int.reduceEq, Int.reduceNe, Int.reduceLT, Int.reduceLE, Int.reduceGT, Int.reduceGE, Int.reduceAdd, Int.reduceSub, Int.reduceMul, Int.reduceNeg, Int.reduceToNat, Int.reduceTDiv, Int.reduceTMod, Nat.reduceMul, Nat.reduceDiv, Nat.reduceMod, Nat.reduceBEq, forall_const, implies_true, Nat.reduceEqDiff]
      refine callR_ret (sameTexts_t l .refl .refl _ hl.1) ?_
      simp -implicitDefEqProofs (maxSteps := 99999999) (disch := first | omega | (simp only [AHeap.set_length, killO_length, List.length_cons]; done) | (simp only [AHeap.set_length, killO_length, List.length_cons]; omega)) only [strs_length, un2, va, vw, Nat.reduceAdd, Nat.reduceSub, Nat.reduceLT, Nat.reduceLeDiff, ite_true, ite_false, ↓reduceIte, eq_self, reduceCtorEq, Int.reduceEq, Int.reduceNe, Int.reduceLT, Int.reduceLE, Int.reduceGT, Int.reduceGE, Int.reduceAdd, Int.reduceSub, Int.reduceMul, Int.reduceNeg, Int.reduceToNat, Int.reduceTDiv, Int.reduceTMod, Nat.reduceMul, Nat.reduceDiv, Nat.reduceMod, Nat.reduceBEq, forall_const, implies_true, Nat.reduceEqDiff]
      refine hL _ _ ?_
      clear hL
      refine ES_seq_gen fun L hL => ?_
      simp -implicitDefEqProofs (maxSteps := 99999999) (disch := first | omega | (simp only [AHeap.set_length, killO_length, List.length_cons]; done) | (simp only [AHeap.set_length, killO_length, List.length_cons]; omega)) only [va, vw, Nat.reduceAdd, Nat.reduceSub, Nat.reduceLT, Nat.reduceLeDiff, ite_true, ite_false, ↓reduceIte, eq_self, reduceCtorEq, Int.reduceEq, Int.reduceNe, Int.reduceLT, Int.reduceLE, Int.reduceGT, Int.reduceGE, Int.reduceAdd, Int.reduceSub, Int.reduceMul, Int.reduceNeg, Int.reduceToNat, Int.reduceTDiv, Int.reduceTMod, Nat.reduceMul, Nat.reduceDiv, Nat.reduceMod, Nat.reduceBEq, forall_const, implies_true, Nat.reduceEqDiff]
      refine callR_ret (copyTexts_d l none _ hl.1) ?_
      simp -implicitDefEqProofs (maxSteps := 99999999) (disch := first | omega | (simp only [AHeap.set_length, killO_length, List.length_cons]; done) | (simp only [AHeap.set_length, killO_length, List.length_cons]; omega)) only [va, vw, Nat.reduceAdd, Nat.reduceSub, Nat.reduceLT, Nat.reduceLeDiff, ite_true, ite_false, ↓reduceIte, eq_self, reduceCtorEq, Int.reduceEq, Int.reduceNe, Int.reduceLT, Int.reduceLE, Int.reduceGT, Int.reduceGE, Int.reduceAdd, Int.reduceSub, Int.reduceMul, Int.reduceNeg, Int.reduceToNat, Int.reduceTDiv, Int.reduceTMod, Nat.reduceMul, Nat.reduceDiv, Nat.reduceMod, Nat.reduceBEq, forall_const, implies_true, Nat.reduceEqDiff]
      refine hL _ _ ?_
      clear hL
      refine ES_seq_gen fun L hL => ?_
      simp -implicitDefEqProofs (maxSteps := 99999999) (disch := first | omega | (simp only [AHeap.set_length, killO_length, List.length_cons]; done) | (simp only [AHeap.set_length, killO_length, List.length_cons]; omega)) only [hks_length, va, vw, Nat.reduceAdd, Nat.reduceSub, Nat.reduceLT, Nat.reduceLeDiff, ite_true, ite_false, ↓reduceIte, eq_self, reduceCtorEq, Int.reduceEq, Int.reduceNe, Int.reduceLT, Int.reduceLE, Int.reduceGT, Int.reduceGE, Int.reduceAdd, Int.reduceSub, Int.reduceMul, Int.reduceNeg, Int.reduceToNat, Int.reduceTDiv, Int.reduceTMod, Nat.reduceMul, Nat.reduceDiv, Nat.reduceMod, Nat.reduceBEq, forall_const, implies_true, Nat.reduceEqDiff]
      refine ES_gen fun K hK => ?_
      refine ES_loopL (fun ts F => ∃ (k : Nat), k ≤ hs.length ∧ Fr [some (.lst 1 (strs l) none), some (.lst 3 (hks hs) none), none, none, none, some (.lst 1 (strs (applyR l hs).1) none), none, none, none, none, none, none, none, some (.lst 1 (strs (Ct l hs k)) none), some (.sc (.int .i64 (k - 1))), none, none, none, none, none, none, none, none, none, none, none, none, none, none, none, none, none, none, none, none, none, none, none, none, none, none, none, none, none, none, none, none, none, none, none, none, none, none, none, none, none, none, none, none, none, none, none, none, none, none, none, none, none, none, none, none, none, none, none, none, none, none, none, none, none, none, none, none, none, none, none, none, none, none, none, none, none, none, none, none, none, none, none, none, none, none, none, none, none, none, none, none, none, none, none, none, none] ts) (fun ts _ => (intV (ts.getD 14 .top) + 1).toNat) ?_ ?_
      · exact ⟨hs.length, Nat.le_refl _, by simp [Fr, Ct_last]⟩
      rintro ts F ⟨k, hk0, hfr⟩ L' hL'
      obtain ⟨js, rfl⟩ := hfr.opened
      clear hfr
      cases k with
      | zero =>
        have h1' : ¬ ((0 : Nat) : Int) - 1 ≥ 0 := by omega
        clear hL'
        simp -implicitDefEqProofs (maxSteps := 99999999) (disch := first | omega | (simp only [AHeap.set_length, killO_length, List.length_cons]; done) | (simp only [AHeap.set_length, killO_length, List.length_cons]; omega)) only [mk, h1', va, vw, Nat.reduceAdd, Nat.reduceSub, Nat.reduceLT, Nat.reduceLeDiff, ite_true, ite_false, ↓reduceIte, eq_self, reduceCtorEq, Int.reduceEq, Int.reduceNe, Int.reduceLT, Int.reduceLE, Int.reduceGT, Int.reduceGE, Int.reduceAdd, Int.reduceSub, Int.reduceMul, Int.reduceNeg, Int.reduceToNat, Int.reduceTDiv, Int.reduceTMod, Nat.reduceMul, Nat.reduceDiv, Nat.reduceMod, Nat.reduceBEq, forall_const, implies_true, Nat.reduceEqDiff]
        refine hK _ _ _ ?_
        simp -implicitDefEqProofs (maxSteps := 99999999) (disch := first | omega | (simp only [AHeap.set_length, killO_length, List.length_cons]; done) | (simp only [AHeap.set_length, killO_length, List.length_cons]; omega)) only [va, vw, Nat.reduceAdd, Nat.reduceSub, Nat.reduceLT, Nat.reduceLeDiff, ite_true, ite_false, ↓reduceIte, eq_self, reduceCtorEq, Int.reduceEq, Int.reduceNe, Int.reduceLT, Int.reduceLE, Int.reduceGT, Int.reduceGE, Int.reduceAdd, Int.reduceSub, Int.reduceMul, Int.reduceNeg, Int.reduceToNat, Int.reduceTDiv, Int.reduceTMod, Nat.reduceMul, Nat.reduceDiv, Nat.reduceMod, Nat.reduceBEq, forall_const, implies_true, Nat.reduceEqDiff]
        refine hL _ _ ?_
        simp -implicitDefEqProofs (maxSteps := 99999999) (disch := first | omega | (simp only [AHeap.set_length, killO_length, List.length_cons]; done) | (simp only [AHeap.set_length, killO_length, List.length_cons]; omega)) only [va, vw, Nat.reduceAdd, Nat.reduceSub, Nat.reduceLT, Nat.reduceLeDiff, ite_true, ite_false, ↓reduceIte, eq_self, reduceCtorEq, Int.reduceEq, Int.reduceNe, Int.reduceLT, Int.reduceLE, Int.reduceGT, Int.reduceGE, Int.reduceAdd, Int.reduceSub, Int.reduceMul, Int.reduceNeg, Int.reduceToNat, Int.reduceTDiv, Int.reduceTMod, Nat.reduceMul, Nat.reduceDiv, Nat.reduceMod, Nat.reduceBEq, forall_const, implies_true, Nat.reduceEqDiff]
        have hC : Ct l hs 0 = (applyR l hs).1 := (applyR_val e).symm
        rw [hC]
        refine callR_ret (sameTexts_t _ .refl .refl _ hA.1.1) ?_
        simp -implicitDefEqProofs (maxSteps := 99999999) (disch := first | omega | (simp only [AHeap.set_length, killO_length, List.length_cons]; done) | (simp only [AHeap.set_length, killO_length, List.length_cons]; omega)) only [va, vw, Nat.reduceAdd, Nat.reduceSub, Nat.reduceLT, Nat.reduceLeDiff, ite_true, ite_false, ↓reduceIte, eq_self, reduceCtorEq, Int.reduceEq, Int.reduceNe, Int.reduceLT, Int.reduceLE, Int.reduceGT, Int.reduceGE, Int.reduceAdd, Int.reduceSub, Int.reduceMul, Int.reduceNeg, Int.reduceToNat, Int.reduceTDiv, Int.reduceTMod, Nat.reduceMul, Nat.reduceDiv, Nat.reduceMod, Nat.reduceBEq, forall_const, implies_true, Nat.reduceEqDiff]
        exact weak_end
      | succ j =>
        have h1 : j < hs.length := by omega
        have h1' : ((j + 1 : Nat) : Int) - 1 ≥ 0 := by omega
        have ej : ((j + 1 : Nat) : Int) - 1 = j := by omega
        have hC1 := Ct_len hl hh ok.2.1 ok.2.2.1 (k := j + 1) (by omega)
        have hnl := newLen_drop h1
        have hnd := newLen_drop_le hs j
        have h2' : (j : Int) ≥ 0 := by omega
        simp -implicitDefEqProofs (maxSteps := 99999999) (disch := first | omega | (simp only [AHeap.set_length, killO_length, List.length_cons]; done) | (simp only [AHeap.set_length, killO_length, List.length_cons]; omega)) only [mk, ej, h2', hks_get h1, hks_length, va, vw, Nat.reduceAdd, Nat.reduceSub, Nat.reduceLT, Nat.reduceLeDiff, ite_true, ite_false, ↓reduceIte, eq_self, reduceCtorEq, Int.reduceEq, Int.reduceNe, Int.reduceLT, Int.reduceLE, Int.reduceGT, Int.reduceGE, Int.reduceAdd, Int.reduceSub, Int.reduceMul, Int.reduceNeg, Int.reduceToNat, Int.reduceTDiv, Int.reduceTMod, Nat.reduceMul, Nat.reduceDiv, Nat.reduceMod, Nat.reduceBEq, forall_const, implies_true, Nat.reduceEqDiff]
        refine ⟨by omega, callR_ret (apply_e (hs := [nthH hs j]) (one_by_one e h1) .refl (le_one (nthH hs j) none none _) _ ⟨by omega, hC1.2⟩ (short1 (hh.nth h1)) ?_) ?_⟩
        · simp only [newLen]; omega
        simp -implicitDefEqProofs (maxSteps := 99999999) (disch := first | omega | (simp only [AHeap.set_length, killO_length, List.length_cons]; done) | (simp only [AHeap.set_length, killO_length, List.length_cons]; omega)) only [va, vw, Nat.reduceAdd, Nat.reduceSub, Nat.reduceLT, Nat.reduceLeDiff, ite_true, ite_false, ↓reduceIte, eq_self, reduceCtorEq, Int.reduceEq, Int.reduceNe, Int.reduceLT, Int.reduceLE, Int.reduceGT, Int.reduceGE, Int.reduceAdd, Int.reduceSub, Int.reduceMul, Int.reduceNeg, Int.reduceToNat, Int.reduceTDiv, Int.reduceTMod, Nat.reduceMul, Nat.reduceDiv, Nat.reduceMod, Nat.reduceBEq, forall_const, implies_true, Nat.reduceEqDiff]
        refine hL' _ _ ⟨j, by omega, by simp [Fr]⟩ ?_
        simp only [mk, List.getD_cons_succ, List.getD_cons_zero, intV]; omega
end Go.Proofs.Ytddhdlfafaobhaa
