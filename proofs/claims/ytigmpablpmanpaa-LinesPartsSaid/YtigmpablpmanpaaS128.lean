/- The document's Join and Span. -/
import Derived.Test.YtigmpablpmanpaaS127
namespace Go.Proofs.Ytigmpablpmanpaa
open Go.RowKit
set_option maxRecDepth 100000
set_option linter.unusedVariables false
set_option linter.unusedSimpArgs false

def joinB : List ByteArray → ByteArray
  | [] => ⟨#[]⟩
  | x :: r => x ++ joinB r
theorem ba_nil (a : ByteArray) : a ++ ⟨#[]⟩ = a := ByteArray.append_empty
theorem ba_nil' (a : ByteArray) : (⟨#[]⟩ : ByteArray) ++ a = a := ByteArray.empty_append
theorem joinB_append : ∀ a b : List ByteArray, joinB (a ++ b) = joinB a ++ joinB b
  | [], b => (ba_nil' _).symm
  | x :: r, b => by simp only [List.cons_append, joinB, joinB_append r b, ByteArray.append_assoc]
theorem joinB_size : ∀ a : List ByteArray, (joinB a).size = (a.map ByteArray.size).sum
  | [] => rfl
  | x :: r => by simp only [joinB, ByteArray.size_append, List.map_cons, List.sum_cons, joinB_size r]
theorem joinB_snoc {L : List ByteArray} {k : Nat} (h : k < L.length) : joinB (L.take k) ++ nthS L k = joinB (L.take (k + 1)) := by
  rw [← take_nth h, joinB_append]
  simp only [joinB, ba_nil]
theorem joinB_take (L : List ByteArray) (k : Nat) : (joinB (L.take k)).size ≤ (joinB L).size := by
  have : joinB L = joinB (L.take k) ++ joinB (L.drop k) := by rw [← joinB_append, List.take_append_drop]
  rw [this, ByteArray.size_append]
  omega
theorem joinB_lns (s : ByteArray) : ∀ k, k ≤ (lns s).length → joinB ((lns s).take k) = s.extract 0 (atS s k)
  | 0, _ => by rw [atS_zero, ext_nil]; rfl
  | k + 1, h => by
    have hst := atS_step s (k := k) (by omega)
    rw [← joinB_snoc (by omega), joinB_lns s k (by omega), nth_ext s (by omega), ext_app s (Nat.zero_le _) (by omega)]
theorem ext_all (s : ByteArray) : s.extract 0 s.size = s := by
  apply ByteArray.ext
  rw [ByteArray.data_extract]
  exact Array.extract_size
theorem joinB_all (s : ByteArray) : joinB (lns s) = s := by
  have := joinB_lns s (lns s).length (Nat.le_refl _)
  rw [List.take_length, atS_end, ext_all] at this
  exact this

theorem refJoin_d (L : List ByteArray) (hL : L.length ≤ 10000000) (hs : (joinB L).size ≤ 100000000) (H : AHeap) : D Try.prog 27 [.lst 1 (strs L) none] H (.ret (.sc (.string (joinB L)))) H := by
  refine D_of_DK (Nat.le_refl _) (dk27 (E_of_ES ?_))
  simp -implicitDefEqProofs (maxSteps := 99999999) (disch := omega) only [vu, ic27, va, vg, vs, vh, Nat.reduceMul, ite_true, ite_false, eq_self, forall_const, implies_true, Nat.reduceAdd, Nat.reduceSub, Nat.reduceLT, Nat.reduceLeDiff, ↓reduceIte, reduceCtorEq, Int.reduceEq, Int.reduceLT, Int.reduceLE, Int.reduceGT, Int.reduceGE, Int.reduceAdd, Int.reduceSub, Int.reduceNeg, Int.reduceToNat, Nat.reduceBEq, Nat.reduceEqDiff]
  refine ES_loop (fun ts H' => H' = H ∧ ∃ k : Nat, k ≤ L.length ∧ Fr [some (.lst 1 (strs L) none), none, none, some (.sc (.string (joinB (L.take k)))), some (.sc (.int .i64 k)), none, none, none, none, none, none, none, none, none, none, none, none, none] ts) (fun ts _ => L.length - (intV (ts.getD 4 .top)).toNat) ?_ ?_
  · exact ⟨rfl, 0, Nat.zero_le _, by simp [Fr, joinB]⟩
  rintro ts _ ⟨rfl, k, hk, hfr⟩
  obtain ⟨js, rfl⟩ := hfr.opened
  clear hfr
  by_cases h : k < L.length
  · have h1 : (k : Int) < L.length := by omega
    have hsn := joinB_snoc h
    have hle := joinB_take L (k + 1)
    rw [← hsn, ByteArray.size_append] at hle
    have hfit : fits ((joinB (L.take k)).size + (nthS L k).size) = true := fits_le (by omega)
    simp -implicitDefEqProofs (maxSteps := 99999999) (disch := omega) only [vu, mk, strs_length, h1, hfit, strs_get h, hsn, va, vg, vs, vh, Nat.reduceMul, ite_true, ite_false, eq_self, forall_const, implies_true, Nat.reduceAdd, Nat.reduceSub, Nat.reduceLT, Nat.reduceLeDiff, ↓reduceIte, reduceCtorEq, Int.reduceEq, Int.reduceLT, Int.reduceLE, Int.reduceGT, Int.reduceGE, Int.reduceAdd, Int.reduceSub, Int.reduceNeg, Int.reduceToNat, Nat.reduceBEq, Nat.reduceEqDiff]
    refine ⟨by omega, ⟨k + 1, by omega, by simp [Fr]⟩, by omega⟩
  · have : k = L.length := by omega
    subst this
    have h1 : ¬ (L.length : Int) < L.length := by omega
    simp -implicitDefEqProofs (maxSteps := 99999999) (disch := omega) only [vu, mk, strs_length, h1, List.take_length, va, vg, vs, vh, Nat.reduceMul, ite_true, ite_false, eq_self, forall_const, implies_true, Nat.reduceAdd, Nat.reduceSub, Nat.reduceLT, Nat.reduceLeDiff, ↓reduceIte, reduceCtorEq, Int.reduceEq, Int.reduceLT, Int.reduceLE, Int.reduceGT, Int.reduceGE, Int.reduceAdd, Int.reduceSub, Int.reduceNeg, Int.reduceToNat, Nat.reduceBEq, Nat.reduceEqDiff]
    exact weak_over .refl (.same trivial)
theorem strs_take (L : List ByteArray) (k : Nat) : (strs L).take k = strs (L.take k) := by simp [strs, List.map_take]
theorem strs_drop (L : List ByteArray) (k : Nat) : (strs L).drop k = strs (L.drop k) := by simp [strs, List.map_drop]
theorem refSpan_d (s : ByteArray) (hs : s.size ≤ 900000) (from_ to : Int) (H : AHeap) : D Try.prog 21 [.sc (.string s), .sc (.int .i64 from_), .sc (.int .i64 to)] H (.ret (.tup [.agg [.sc (.int .i64 (spanS s from_ to).1), .sc (.int .i64 (spanS s from_ to).2.1)], .sc (.int .i64 (spanS s from_ to).2.2)])) H := by
  refine D_of_DK (Nat.le_refl _) (dk21 (E_of_ES ?_))
  simp -implicitDefEqProofs (maxSteps := 99999999) (disch := omega) only [vu, ic21, va, vg, vs, vh, Nat.reduceMul, ite_true, ite_false, eq_self, forall_const, implies_true, Nat.reduceAdd, Nat.reduceSub, Nat.reduceLT, Nat.reduceLeDiff, ↓reduceIte, reduceCtorEq, Int.reduceEq, Int.reduceLT, Int.reduceLE, Int.reduceGT, Int.reduceGE, Int.reduceAdd, Int.reduceSub, Int.reduceNeg, Int.reduceToNat, Nat.reduceBEq, Nat.reduceEqDiff]
  have hll := lns_le s
  refine callR_ret (refSplit_d s (by omega) _) ?_
  have EX : ∀ (a b e : Int) (G : AHeap) (R : AEnd), R = .ret (.tup [.agg [.sc (.int .i64 a), .sc (.int .i64 b)], .sc (.int .i64 e)]) → Weak H R (some ⟨2, [.agg [.sc (.int .i64 a), .sc (.int .i64 b)]], true, 37⟩ :: H) (.ret (.tup [.agg [.sc (.int .i64 a), .sc (.int .i64 b)], .sc (.int .i64 e)])) H := by
    rintro a b e G R rfl
    exact weak_over (by repeat constructor) (.same ⟨⟨trivial, trivial, trivial⟩, trivial, trivial⟩)
  by_cases c1 : from_ < 0
  · have hS : spanS s from_ to = (0, 0, 2) := by unfold spanS; rw [if_pos (.inl c1)]
    rw [hS]
    simp -implicitDefEqProofs (maxSteps := 99999999) (disch := omega) only [vu, c1, va, vg, vs, vh, Nat.reduceMul, ite_true, ite_false, eq_self, forall_const, implies_true, Nat.reduceAdd, Nat.reduceSub, Nat.reduceLT, Nat.reduceLeDiff, ↓reduceIte, reduceCtorEq, Int.reduceEq, Int.reduceLT, Int.reduceLE, Int.reduceGT, Int.reduceGE, Int.reduceAdd, Int.reduceSub, Int.reduceNeg, Int.reduceToNat, Nat.reduceBEq, Nat.reduceEqDiff]
    exact EX _ _ _ H _ rfl
  by_cases c2 : from_ > to
  · have hS : spanS s from_ to = (0, 0, 2) := by unfold spanS; rw [if_pos (.inr (.inl c2))]
    rw [hS]
    simp -implicitDefEqProofs (maxSteps := 99999999) (disch := omega) only [vu, c1, c2, va, vg, vs, vh, Nat.reduceMul, ite_true, ite_false, eq_self, forall_const, implies_true, Nat.reduceAdd, Nat.reduceSub, Nat.reduceLT, Nat.reduceLeDiff, ↓reduceIte, reduceCtorEq, Int.reduceEq, Int.reduceLT, Int.reduceLE, Int.reduceGT, Int.reduceGE, Int.reduceAdd, Int.reduceSub, Int.reduceNeg, Int.reduceToNat, Nat.reduceBEq, Nat.reduceEqDiff]
    exact EX _ _ _ H _ rfl
  by_cases c3 : to > (lns s).length
  · have hS : spanS s from_ to = (0, 0, 2) := by unfold spanS; rw [if_pos (.inr (.inr c3))]
    rw [hS]
    simp -implicitDefEqProofs (maxSteps := 99999999) (disch := omega) only [vu, c1, c2, c3, strs_length, va, vg, vs, vh, Nat.reduceMul, ite_true, ite_false, eq_self, forall_const, implies_true, Nat.reduceAdd, Nat.reduceSub, Nat.reduceLT, Nat.reduceLeDiff, ↓reduceIte, reduceCtorEq, Int.reduceEq, Int.reduceLT, Int.reduceLE, Int.reduceGT, Int.reduceGE, Int.reduceAdd, Int.reduceSub, Int.reduceNeg, Int.reduceToNat, Nat.reduceBEq, Nat.reduceEqDiff]
    exact EX _ _ _ H _ rfl
  · have hS : spanS s from_ to = (((atS s from_.toNat : Nat) : Int), ((atS s to.toNat : Nat) : Int), 0) := by unfold spanS; rw [if_neg (by omega)]
    rw [hS]
    have j1 := joinB_lns s from_.toNat (by omega)
    have j2 := joinB_lns s to.toNat (by omega)
    have a1 := atS_le s (k := from_.toNat) (by omega)
    have a2 := atS_le s (k := to.toNat) (by omega)
    have z1 : (s.extract 0 (atS s from_.toNat)).size = atS s from_.toNat := by rw [ByteArray.size_extract]; omega
    have z2 : (s.extract 0 (atS s to.toNat)).size = atS s to.toNat := by rw [ByteArray.size_extract]; omega
    simp -implicitDefEqProofs (maxSteps := 99999999) (disch := omega) only [vu, c1, c2, c3, strs_length, strs_take, va, vg, vs, vh, Nat.reduceMul, ite_true, ite_false, eq_self, forall_const, implies_true, Nat.reduceAdd, Nat.reduceSub, Nat.reduceLT, Nat.reduceLeDiff, ↓reduceIte, reduceCtorEq, Int.reduceEq, Int.reduceLT, Int.reduceLE, Int.reduceGT, Int.reduceGE, Int.reduceAdd, Int.reduceSub, Int.reduceNeg, Int.reduceToNat, Nat.reduceBEq, Nat.reduceEqDiff]
    refine ⟨⟨by omega, by omega⟩, callD_same (refJoin_d ((lns s).take from_.toNat) (by rw [List.length_take]; omega) (by rw [j1, z1]; omega) _) ?_⟩
    rw [j1]
    simp -implicitDefEqProofs (maxSteps := 99999999) (disch := omega) only [vu, strs_length, strs_take, z1, va, vg, vs, vh, Nat.reduceMul, ite_true, ite_false, eq_self, forall_const, implies_true, Nat.reduceAdd, Nat.reduceSub, Nat.reduceLT, Nat.reduceLeDiff, ↓reduceIte, reduceCtorEq, Int.reduceEq, Int.reduceLT, Int.reduceLE, Int.reduceGT, Int.reduceGE, Int.reduceAdd, Int.reduceSub, Int.reduceNeg, Int.reduceToNat, Nat.reduceBEq, Nat.reduceEqDiff]
    refine ⟨⟨by omega, by omega⟩, callD_same (refJoin_d ((lns s).take to.toNat) (by rw [List.length_take]; omega) (by rw [j2, z2]; omega) _) ?_⟩
    rw [j2]
    simp -implicitDefEqProofs (maxSteps := 99999999) (disch := omega) only [vu, z2, va, vg, vs, vh, Nat.reduceMul, ite_true, ite_false, eq_self, forall_const, implies_true, Nat.reduceAdd, Nat.reduceSub, Nat.reduceLT, Nat.reduceLeDiff, ↓reduceIte, reduceCtorEq, Int.reduceEq, Int.reduceLT, Int.reduceLE, Int.reduceGT, Int.reduceGE, Int.reduceAdd, Int.reduceSub, Int.reduceNeg, Int.reduceToNat, Nat.reduceBEq, Nat.reduceEqDiff]
    exact EX _ _ _ H _ rfl
end Go.Proofs.Ytigmpablpmanpaa
