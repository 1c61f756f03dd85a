/- strings.Clone; a text's lines, gone through. -/
import Derived.Test.YtigmpablpmanpaaS119
import Derived.Test.YtigmpablpmanpaaV39
import Derived.Test.YtigmpablpmanpaaIc20
import Derived.Test.YtigmpablpmanpaaIcY1
namespace Go.Proofs.Ytigmpablpmanpaa
open Go.RowKit
set_option maxRecDepth 100000
set_option linter.unusedVariables false
set_option linter.unusedSimpArgs false

theorem bytesV_byteL (s : ByteArray) : bytesV (byteL s) = s := by
  apply ByteArray.ext
  simp only [bytesV, byteL, List.map_map]
  apply Array.ext'
  simp only [List.toList_toArray]
  have : ∀ l : List UInt8, l.map ((fun x => (byteV x).getD 0) ∘ fun b => AV.sc (.int .u8 (b.toNat : Int))) = l := by
    intro l
    induction l with
    | nil => rfl
    | cons c r ih =>
      rw [List.map_cons, ih]
      congr 1
      simp [Function.comp, byteV]
  exact this _
theorem size_zero {s : ByteArray} (h : s.size = 0) : s = ⟨#[]⟩ := by
  apply ByteArray.ext
  exact Array.eq_empty_of_size_eq_zero h
theorem take_byteL (s : ByteArray) : (byteL s).take s.size = byteL s := List.take_of_length_le (by rw [byteL_size]; exact Nat.le_refl _)
theorem drop_rep (s : ByteArray) (x : AV) : (List.replicate s.size x).drop s.size = [] := List.drop_of_length_le (by simp)

theorem sliteClone_d (s : ByteArray) (H : AHeap) (hs : s.size ≤ 100000000) : D Try.prog 59 [.sc (.string s)] H (.ret (.sc (.string s))) H := by
  refine D_of_DK (Nat.le_refl _) (dk59 (E_of_ES ?_))
  simp -implicitDefEqProofs (maxSteps := 99999999) (disch := omega) only [vu, ic59, va, vg, vs, vh, Nat.reduceMul, ite_true, ite_false, eq_self, forall_const, implies_true, Nat.reduceAdd, Nat.reduceSub, Nat.reduceLT, Nat.reduceLeDiff, ↓reduceIte, reduceCtorEq, Int.reduceEq, Int.reduceLT, Int.reduceLE, Int.reduceGT, Int.reduceGE, Int.reduceAdd, Int.reduceSub, Int.reduceNeg, Int.reduceToNat, Nat.reduceBEq, Nat.reduceEqDiff]
  refine condR_if (fun h => ?_) (fun h => ?_)
  · have := size_zero (s := s) (by omega)
    subst this
    simp -implicitDefEqProofs (maxSteps := 99999999) (disch := omega) only [vu, va, vg, vs, vh, Nat.reduceMul, ite_true, ite_false, eq_self, forall_const, implies_true, Nat.reduceAdd, Nat.reduceSub, Nat.reduceLT, Nat.reduceLeDiff, ↓reduceIte, reduceCtorEq, Int.reduceEq, Int.reduceLT, Int.reduceLE, Int.reduceGT, Int.reduceGE, Int.reduceAdd, Int.reduceSub, Int.reduceNeg, Int.reduceToNat, Nat.reduceBEq, Nat.reduceEqDiff]
    exact weak_sc .refl
  have h0 : 0 < s.size := by omega
  simp -implicitDefEqProofs (maxSteps := 99999999) (disch := omega) only [vu, List.length_replicate, drop_rep s, take_byteL s, byteL_size s, bytesV_byteL s, va, vg, vs, vh, Nat.reduceMul, ite_true, ite_false, eq_self, forall_const, implies_true, Nat.reduceAdd, Nat.reduceSub, Nat.reduceLT, Nat.reduceLeDiff, ↓reduceIte, reduceCtorEq, Int.reduceEq, Int.reduceLT, Int.reduceLE, Int.reduceGT, Int.reduceGE, Int.reduceAdd, Int.reduceSub, Int.reduceNeg, Int.reduceToNat, Nat.reduceBEq, Nat.reduceEqDiff]
  exact ⟨⟨by omega, by omega, by omega⟩, Nat.le_refl _, by omega, ⟨⟨by omega, Nat.le_refl _⟩, ⟨s, rfl⟩⟩, weak_sc (by repeat constructor)⟩

theorem strClone_d (s : ByteArray) (H : AHeap) (hs : s.size ≤ 100000000) : D Try.prog 43 [.sc (.string s)] H (.ret (.sc (.string s))) H := by
  refine D_of_DK (Nat.le_refl _) (dk43 (E_of_ES ?_))
  simp -implicitDefEqProofs (maxSteps := 99999999) (disch := omega) only [vu, ic43, va, vg, vs, vh, Nat.reduceMul, ite_true, ite_false, eq_self, forall_const, implies_true, Nat.reduceAdd, Nat.reduceSub, Nat.reduceLT, Nat.reduceLeDiff, ↓reduceIte, reduceCtorEq, Int.reduceEq, Int.reduceLT, Int.reduceLE, Int.reduceGT, Int.reduceGE, Int.reduceAdd, Int.reduceSub, Int.reduceNeg, Int.reduceToNat, Nat.reduceBEq, Nat.reduceEqDiff]
  refine callR_ret (sliteClone_d s H hs) ?_
  simp -implicitDefEqProofs (maxSteps := 99999999) (disch := omega) only [vu, va, vg, vs, vh, Nat.reduceMul, ite_true, ite_false, eq_self, forall_const, implies_true, Nat.reduceAdd, Nat.reduceSub, Nat.reduceLT, Nat.reduceLeDiff, ↓reduceIte, reduceCtorEq, Int.reduceEq, Int.reduceLT, Int.reduceLE, Int.reduceGT, Int.reduceGE, Int.reduceAdd, Int.reduceSub, Int.reduceNeg, Int.reduceToNat, Nat.reduceBEq, Nat.reduceEqDiff]
  exact weak_sc .refl

theorem each_d (s : ByteArray) (H : AHeap) : D Try.prog 41 [.sc (.string s)] H (.ret (.fn (.func 57) [] [.ptr 1 H.length 0 0])) (some ⟨1, [.sc (.string s)], true, 9⟩ :: H) := by
  refine D_of_DK (by simp) (dk41 (E_of_ES ?_))
  simp -implicitDefEqProofs (maxSteps := 99999999) (disch := omega) only [vu, ic41, va, vg, vs, vh, Nat.reduceMul, ite_true, ite_false, eq_self, forall_const, implies_true, Nat.reduceAdd, Nat.reduceSub, Nat.reduceLT, Nat.reduceLeDiff, ↓reduceIte, reduceCtorEq, Int.reduceEq, Int.reduceLT, Int.reduceLE, Int.reduceGT, Int.reduceGE, Int.reduceAdd, Int.reduceSub, Int.reduceNeg, Int.reduceToNat, Nat.reduceBEq, Nat.reduceEqDiff]
  exact Weak.refl _ _ _

theorem each1_d (s : ByteArray) (hs : s.size ≤ 100000000) (id sid n : Nat) (Hs : Nat → AHeap) (Hf : AHeap) (hn : n ≤ (lns s).length) (hf : ∀ k, k ≤ n → AHeap.find (Hs k) sid = some ⟨1, [.sc (.string s)], true, 9⟩) (hl : (Hs 0).length ≤ Hf.length)
    (hy : ∀ k, k < n → DY Try.prog id [.sc (.int .i64 (atS s k : Nat)), .sc (.string (nthS (lns s) k))] (Hs k) (.ret (.sc (.bool true))) (Hs (k + 1)))
    (he : (n = (lns s).length ∧ Hf = Hs n) ∨ (n < (lns s).length ∧ DY Try.prog id [.sc (.int .i64 (atS s n : Nat)), .sc (.string (nthS (lns s) n))] (Hs n) (.ret (.sc (.bool false))) Hf)) :
    D Try.prog 57 [.ptr 0 id 0 1, .ptr 1 sid 0 0] (Hs 0) (.ret (.tup [])) Hf := by
  refine D_of_DK hl (dk57 (E_of_ES ?_))
  simp -implicitDefEqProofs (maxSteps := 99999999) (disch := omega) only [vu, ES_yld, guardK_n, ic57, va, vg, vs, vh, Nat.reduceMul, ite_true, ite_false, eq_self, forall_const, implies_true, Nat.reduceAdd, Nat.reduceSub, Nat.reduceLT, Nat.reduceLeDiff, ↓reduceIte, reduceCtorEq, Int.reduceEq, Int.reduceLT, Int.reduceLE, Int.reduceGT, Int.reduceGE, Int.reduceAdd, Int.reduceSub, Int.reduceNeg, Int.reduceToNat, Nat.reduceBEq, Nat.reduceEqDiff]
  refine ES_loop (fun ts H' => ∃ k : Nat, k ≤ n ∧ H' = Hs k ∧ Fr [some (.ptr 0 id 0 1), some (.ptr 1 sid 0 0), none, some (.sc (.int .i64 (atS s k : Nat))), none, none, none, none, none, none, none, none, none, none, none, none, none, none, none, none, none, none, none, none, none, none, none, none, none, none, none, none, none] ts) (fun ts _ => s.size - (intV (ts.getD 3 .top)).toNat) ?_ ?_
  · exact ⟨0, Nat.zero_le _, rfl, by simp [Fr, atS_zero]⟩
  rintro ts H' ⟨k, hk, rfl, hfr⟩
  obtain ⟨js, rfl⟩ := hfr.opened
  clear hfr
  have hfk := hf k hk
  simp -implicitDefEqProofs (maxSteps := 99999999) (disch := omega) only [vu, ES_yld, guardK_n, mk, hfk, va, vg, vs, vh, Nat.reduceMul, ite_true, ite_false, eq_self, forall_const, implies_true, Nat.reduceAdd, Nat.reduceSub, Nat.reduceLT, Nat.reduceLeDiff, ↓reduceIte, reduceCtorEq, Int.reduceEq, Int.reduceLT, Int.reduceLE, Int.reduceGT, Int.reduceGE, Int.reduceAdd, Int.reduceSub, Int.reduceNeg, Int.reduceToNat, Nat.reduceBEq, Nat.reduceEqDiff]
  refine condR_if (fun h => ?_) (fun h => ?_)
  · have hkl : k < (lns s).length := by
      rcases Nat.lt_or_ge k (lns s).length with h1 | h1
      · exact h1
      · have : k = (lns s).length := by omega
        rw [this, atS_end] at h
        omega
    obtain ⟨l1, c, l2, l3, l4, l5, l6⟩ := line_at s hkl
    simp -implicitDefEqProofs (maxSteps := 99999999) (disch := omega) only [vu, ES_yld, guardK_n, hfk, va, vg, vs, vh, Nat.reduceMul, ite_true, ite_false, eq_self, forall_const, implies_true, Nat.reduceAdd, Nat.reduceSub, Nat.reduceLT, Nat.reduceLeDiff, ↓reduceIte, reduceCtorEq, Int.reduceEq, Int.reduceLT, Int.reduceLE, Int.reduceGT, Int.reduceGE, Int.reduceAdd, Int.reduceSub, Int.reduceNeg, Int.reduceToNat, Nat.reduceBEq, Nat.reduceEqDiff]
    refine ⟨⟨by omega, by omega, by omega⟩, callR_ret (indexByte_d _ _) ?_⟩
    generalize nl (s.extract (atS s k) s.size) = q at l6 ⊢
    simp -implicitDefEqProofs (maxSteps := 99999999) (disch := omega) only [vu, ES_yld, guardK_n, hfk, va, vg, vs, vh, Nat.reduceMul, ite_true, ite_false, eq_self, forall_const, implies_true, Nat.reduceAdd, Nat.reduceSub, Nat.reduceLT, Nat.reduceLeDiff, ↓reduceIte, reduceCtorEq, Int.reduceEq, Int.reduceLT, Int.reduceLE, Int.reduceGT, Int.reduceGE, Int.reduceAdd, Int.reduceSub, Int.reduceNeg, Int.reduceToNat, Nat.reduceBEq, Nat.reduceEqDiff]
    have ht : ((atS s k : Int) + (c : Nat)).toNat = atS s k + c := by omega
    refine condR_if (fun h3 => ?_) (fun h3 => ?_)
    · have hc : (s.size : Int) - (atS s k : Nat) = (c : Nat) := by omega
      simp -implicitDefEqProofs (maxSteps := 99999999) (disch := omega) only [vu, ES_yld, guardK_n, hfk, hc, ht, va, vg, vs, vh, Nat.reduceMul, ite_true, ite_false, eq_self, forall_const, implies_true, Nat.reduceAdd, Nat.reduceSub, Nat.reduceLT, Nat.reduceLeDiff, ↓reduceIte, reduceCtorEq, Int.reduceEq, Int.reduceLT, Int.reduceLE, Int.reduceGT, Int.reduceGE, Int.reduceAdd, Int.reduceSub, Int.reduceNeg, Int.reduceToNat, Nat.reduceBEq, Nat.reduceEqDiff]
      rw [← l5]
      refine ⟨⟨by omega, by omega, by omega, by omega⟩, ?_⟩
      rcases Nat.lt_or_ge k n with hkn | hkn
      · refine yldK_ret (hy k hkn) ?_
        simp -implicitDefEqProofs (maxSteps := 99999999) (disch := omega) only [vu, va, vg, vs, vh, Nat.reduceMul, ite_true, ite_false, eq_self, forall_const, implies_true, Nat.reduceAdd, Nat.reduceSub, Nat.reduceLT, Nat.reduceLeDiff, ↓reduceIte, reduceCtorEq, Int.reduceEq, Int.reduceLT, Int.reduceLE, Int.reduceGT, Int.reduceGE, Int.reduceAdd, Int.reduceSub, Int.reduceNeg, Int.reduceToNat, Nat.reduceBEq, Nat.reduceEqDiff]
        exact ⟨⟨k + 1, by omega, rfl, by simp [Fr, l4]⟩, by omega⟩
      · have hkn : k = n := by omega
        subst hkn
        rcases he with ⟨e1, _⟩ | ⟨_, e1⟩
        · omega
        · refine yldK_ret e1 ?_
          simp -implicitDefEqProofs (maxSteps := 99999999) (disch := omega) only [vu, va, vg, vs, vh, Nat.reduceMul, ite_true, ite_false, eq_self, forall_const, implies_true, Nat.reduceAdd, Nat.reduceSub, Nat.reduceLT, Nat.reduceLeDiff, ↓reduceIte, reduceCtorEq, Int.reduceEq, Int.reduceLT, Int.reduceLE, Int.reduceGT, Int.reduceGE, Int.reduceAdd, Int.reduceSub, Int.reduceNeg, Int.reduceToNat, Nat.reduceBEq, Nat.reduceEqDiff]
          exact Weak.refl _ _ _
    · have hc : q + 1 = (c : Nat) := by omega
      rw [hc]
      simp -implicitDefEqProofs (maxSteps := 99999999) (disch := omega) only [vu, ES_yld, guardK_n, hfk, ht, va, vg, vs, vh, Nat.reduceMul, ite_true, ite_false, eq_self, forall_const, implies_true, Nat.reduceAdd, Nat.reduceSub, Nat.reduceLT, Nat.reduceLeDiff, ↓reduceIte, reduceCtorEq, Int.reduceEq, Int.reduceLT, Int.reduceLE, Int.reduceGT, Int.reduceGE, Int.reduceAdd, Int.reduceSub, Int.reduceNeg, Int.reduceToNat, Nat.reduceBEq, Nat.reduceEqDiff]
      rw [← l5]
      refine ⟨⟨by omega, by omega, by omega, by omega⟩, ?_⟩
      rcases Nat.lt_or_ge k n with hkn | hkn
      · refine yldK_ret (hy k hkn) ?_
        simp -implicitDefEqProofs (maxSteps := 99999999) (disch := omega) only [vu, va, vg, vs, vh, Nat.reduceMul, ite_true, ite_false, eq_self, forall_const, implies_true, Nat.reduceAdd, Nat.reduceSub, Nat.reduceLT, Nat.reduceLeDiff, ↓reduceIte, reduceCtorEq, Int.reduceEq, Int.reduceLT, Int.reduceLE, Int.reduceGT, Int.reduceGE, Int.reduceAdd, Int.reduceSub, Int.reduceNeg, Int.reduceToNat, Nat.reduceBEq, Nat.reduceEqDiff]
        exact ⟨⟨k + 1, by omega, rfl, by simp [Fr, l4]⟩, by omega⟩
      · have hkn : k = n := by omega
        subst hkn
        rcases he with ⟨e1, _⟩ | ⟨_, e1⟩
        · omega
        · refine yldK_ret e1 ?_
          simp -implicitDefEqProofs (maxSteps := 99999999) (disch := omega) only [vu, va, vg, vs, vh, Nat.reduceMul, ite_true, ite_false, eq_self, forall_const, implies_true, Nat.reduceAdd, Nat.reduceSub, Nat.reduceLT, Nat.reduceLeDiff, ↓reduceIte, reduceCtorEq, Int.reduceEq, Int.reduceLT, Int.reduceLE, Int.reduceGT, Int.reduceGE, Int.reduceAdd, Int.reduceSub, Int.reduceNeg, Int.reduceToNat, Nat.reduceBEq, Nat.reduceEqDiff]
          exact Weak.refl _ _ _
  · have hkn : k = n := by
      rcases Nat.lt_or_ge k (lns s).length with h1 | h1
      · have := (line_at s h1).1
        omega
      · omega
    subst hkn
    rcases he with ⟨e1, e2⟩ | ⟨e1, _⟩
    · subst e2
      simp -implicitDefEqProofs (maxSteps := 99999999) (disch := omega) only [vu, va, vg, vs, vh, Nat.reduceMul, ite_true, ite_false, eq_self, forall_const, implies_true, Nat.reduceAdd, Nat.reduceSub, Nat.reduceLT, Nat.reduceLeDiff, ↓reduceIte, reduceCtorEq, Int.reduceEq, Int.reduceLT, Int.reduceLE, Int.reduceGT, Int.reduceGE, Int.reduceAdd, Int.reduceSub, Int.reduceNeg, Int.reduceToNat, Nat.reduceBEq, Nat.reduceEqDiff]
      exact Weak.refl _ _ _
    · have := (line_at s e1).1
      omega
end Go.Proofs.Ytigmpablpmanpaa
