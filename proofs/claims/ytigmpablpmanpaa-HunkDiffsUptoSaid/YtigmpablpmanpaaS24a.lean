/- law03.great; counts of rows. -/
import Derived.Test.YtigmpablpmanpaaSC
namespace Go.Proofs.Ytigmpablpmanpaa
open Go.RowKit
set_option maxRecDepth 100000
set_option linter.unusedVariables false
set_option linter.unusedSimpArgs false

def load3 : Int → List Hk → Int
  | n, [] => n
  | n, h :: r => if n ≤ 2000 then load3 (n + textsOf h.old 2000 + textsOf h.new 2000) r else n
theorem load3_step {l : List Hk} {k : Nat} (hk : k < l.length) (n : Int) : load3 n (l.drop k) = if n ≤ 2000 then load3 (n + textsOf (nthH l k).old 2000 + textsOf (nthH l k).new 2000) (l.drop (k + 1)) else n := by
  rw [List.drop_eq_getElem_cons hk, load3, nthH_eq hk]

theorem great3_d (l : List ByteArray) (hs : List Hk) (r1 r2 : Option (List AV)) (H : AHeap) (hl : Short l) (hh : AllShort hs) : D Try.prog 10 [.lst 1 (strs l) r1, .lst 3 (hks hs) r2] H (.ret (.sc (.bool (decide (load3 (hs.length + textsOf l 2000) hs > 2000))))) H := by
  have b0 := textsOf_rng hl (most := 2000) (by omega)
  have hlen := hh.1
  refine D_of_DK (Nat.le_refl _) (dk10 (E_of_ES ?_))
  simp -implicitDefEqProofs (maxSteps := 99999999) (disch := omega) only [ic10, hks_length, va, vg, vs, vh, Nat.reduceMul, ite_true, ite_false, eq_self, forall_const, implies_true, Nat.reduceAdd, Nat.reduceSub, Nat.reduceLT, Nat.reduceLeDiff, ↓reduceIte, reduceCtorEq, Int.reduceEq, Int.reduceLT, Int.reduceLE, Int.reduceGT, Int.reduceGE, Int.reduceAdd, Int.reduceSub, Int.reduceNeg, Int.reduceToNat, Nat.reduceBEq, Nat.reduceEqDiff]
  refine callR_ret (textsOf_d l r1 2000 _ hl (by omega)) ?_
  simp -implicitDefEqProofs (maxSteps := 99999999) (disch := omega) only [va, vg, vs, vh, Nat.reduceMul, ite_true, ite_false, eq_self, forall_const, implies_true, Nat.reduceAdd, Nat.reduceSub, Nat.reduceLT, Nat.reduceLeDiff, ↓reduceIte, reduceCtorEq, Int.reduceEq, Int.reduceLT, Int.reduceLE, Int.reduceGT, Int.reduceGE, Int.reduceAdd, Int.reduceSub, Int.reduceNeg, Int.reduceToNat, Nat.reduceBEq, Nat.reduceEqDiff]
  refine ES_loop (fun ts H' => H' = H ∧ ∃ (k : Nat) (n : Int), (k ≤ hs.length ∧ 0 ≤ n ∧ n ≤ 300000000 ∧ load3 n (hs.drop k) = load3 (hs.length + textsOf l 2000) hs) ∧ Fr [some (.lst 1 (strs l) r1), some (.lst 3 (hks hs) r2), none, none, none, some (.sc (.int .i64 n)), some (.sc (.int .i64 k)), none, none, none, none, none, none, none, none, none, none, none, none, none, none, none, none, none, none, none, none, none, none, none, none, none, none, none, none, none, none, none, none] ts) (fun ts _ => hs.length - (intV (ts.getD 6 .top)).toNat) ?_ ?_
  · exact ⟨rfl, 0, _, ⟨Nat.zero_le _, by omega, by omega, rfl⟩, by simp [Fr]⟩
  rintro ts _ ⟨rfl, k, n, ⟨hk, hn0, hn1, hp⟩, hfr⟩
  obtain ⟨js, rfl⟩ := hfr.opened
  clear hfr
  by_cases h1 : k < hs.length
  · have h1' : (k : Int) < hs.length := by omega
    have hsh := hh.nth h1
    have c1 := textsOf_rng hsh.1 (most := 2000) (by omega)
    have c2 := textsOf_rng hsh.2 (most := 2000) (by omega)
    rw [load3_step h1] at hp
    by_cases h2 : n ≤ 2000
    · rw [if_pos h2] at hp
      simp -implicitDefEqProofs (maxSteps := 99999999) (disch := omega) only [mk, h1', h2, hks_get h1, hks_length, va, vg, vs, vh, Nat.reduceMul, ite_true, ite_false, eq_self, forall_const, implies_true, Nat.reduceAdd, Nat.reduceSub, Nat.reduceLT, Nat.reduceLeDiff, ↓reduceIte, reduceCtorEq, Int.reduceEq, Int.reduceLT, Int.reduceLE, Int.reduceGT, Int.reduceGE, Int.reduceAdd, Int.reduceSub, Int.reduceNeg, Int.reduceToNat, Nat.reduceBEq, Nat.reduceEqDiff]
      refine ⟨by omega, callD_same (textsOf_d _ _ 2000 _ hsh.1 (by omega)) ?_⟩
      simp -implicitDefEqProofs (maxSteps := 99999999) (disch := omega) only [hks_get h1, hks_length, va, vg, vs, vh, Nat.reduceMul, ite_true, ite_false, eq_self, forall_const, implies_true, Nat.reduceAdd, Nat.reduceSub, Nat.reduceLT, Nat.reduceLeDiff, ↓reduceIte, reduceCtorEq, Int.reduceEq, Int.reduceLT, Int.reduceLE, Int.reduceGT, Int.reduceGE, Int.reduceAdd, Int.reduceSub, Int.reduceNeg, Int.reduceToNat, Nat.reduceBEq, Nat.reduceEqDiff]
      refine ⟨by omega, callD_same (textsOf_d _ _ 2000 _ hsh.2 (by omega)) ?_⟩
      simp -implicitDefEqProofs (maxSteps := 99999999) (disch := omega) only [va, vg, vs, vh, Nat.reduceMul, ite_true, ite_false, eq_self, forall_const, implies_true, Nat.reduceAdd, Nat.reduceSub, Nat.reduceLT, Nat.reduceLeDiff, ↓reduceIte, reduceCtorEq, Int.reduceEq, Int.reduceLT, Int.reduceLE, Int.reduceGT, Int.reduceGE, Int.reduceAdd, Int.reduceSub, Int.reduceNeg, Int.reduceToNat, Nat.reduceBEq, Nat.reduceEqDiff]
      exact ⟨⟨k + 1, _, ⟨by omega, by omega, by omega, hp⟩, by simp [Fr]⟩, by omega⟩
    · rw [if_neg h2] at hp
      subst hp
      simp -implicitDefEqProofs (maxSteps := 99999999) (disch := omega) only [mk, h1', h2, hks_length, va, vg, vs, vh, Nat.reduceMul, ite_true, ite_false, eq_self, forall_const, implies_true, Nat.reduceAdd, Nat.reduceSub, Nat.reduceLT, Nat.reduceLeDiff, ↓reduceIte, reduceCtorEq, Int.reduceEq, Int.reduceLT, Int.reduceLE, Int.reduceGT, Int.reduceGE, Int.reduceAdd, Int.reduceSub, Int.reduceNeg, Int.reduceToNat, Nat.reduceBEq, Nat.reduceEqDiff]
      exact weak_sc .refl
  · have h1' : ¬ (k : Int) < hs.length := by omega
    have hp' : n = load3 (hs.length + textsOf l 2000) hs := by rw [← hp, List.drop_eq_nil_of_le (by omega)]; rfl
    subst hp'
    simp -implicitDefEqProofs (maxSteps := 99999999) (disch := omega) only [mk, h1', hks_length, va, vg, vs, vh, Nat.reduceMul, ite_true, ite_false, eq_self, forall_const, implies_true, Nat.reduceAdd, Nat.reduceSub, Nat.reduceLT, Nat.reduceLeDiff, ↓reduceIte, reduceCtorEq, Int.reduceEq, Int.reduceLT, Int.reduceLE, Int.reduceGT, Int.reduceGE, Int.reduceAdd, Int.reduceSub, Int.reduceNeg, Int.reduceToNat, Nat.reduceBEq, Nat.reduceEqDiff]
    exact weak_sc .refl

theorem weak_end {F : AHeap} {v : Value} : Weak [] (.ret (.sc v)) F (.ret (.sc v)) [] :=
  weak_gen [] (by simp) (by simp) (by simp) (fun id k hid hk => by simp at hid) (fun i s k hs => by simp at hs) (.same trivial)

def sumL : List Hk → Nat
  | [] => 0
  | h :: r => h.old.length + h.new.length + sumL r
theorem sumL_new (l : List Hk) : newLen l ≤ sumL l := by
  induction l with
  | nil => exact Nat.le_refl _
  | cons h r ih => simp only [newLen, sumL]; omega
theorem sumL_app (a b : List Hk) : sumL (a ++ b) = sumL a + sumL b := by
  induction a with
  | nil => simp [sumL]
  | cons h r ih => simp only [List.cons_append, sumL, ih]; omega
theorem sumL_take (l : List Hk) (k : Nat) : sumL (l.take k) ≤ sumL l := by
  conv => rhs; rw [← List.take_append_drop k l, sumL_app]
  omega
end Go.Proofs.Ytigmpablpmanpaa
