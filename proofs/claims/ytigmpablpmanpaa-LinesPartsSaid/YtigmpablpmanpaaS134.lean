/- lines.Join. -/
import Derived.Test.YtigmpablpmanpaaS133
namespace Go.Proofs.Ytigmpablpmanpaa
open Go.RowKit
set_option maxRecDepth 100000
set_option linter.unusedVariables false
set_option linter.unusedSimpArgs false

theorem join_d (L : List ByteArray) (hL : L.length ≤ 10000000) (hs : (joinB L).size ≤ 100000000) (H : AHeap) : D Try.prog 26 [.lst 1 (strs L) none] H (.ret (.sc (.string (joinB L)))) H := by
  refine D_of_DK (Nat.le_refl _) (dk26 (E_of_ES ?_))
  simp -implicitDefEqProofs (maxSteps := 99999999) (disch := omega) only [vu, ic26, strs_length, va, vg, vs, vh, Nat.reduceMul, ite_true, ite_false, eq_self, forall_const, implies_true, Nat.reduceAdd, Nat.reduceSub, Nat.reduceLT, Nat.reduceLeDiff, ↓reduceIte, reduceCtorEq, Int.reduceEq, Int.reduceLT, Int.reduceLE, Int.reduceGT, Int.reduceGE, Int.reduceAdd, Int.reduceSub, Int.reduceNeg, Int.reduceToNat, Nat.reduceBEq, Nat.reduceEqDiff]
  refine ES_gen fun K hK => ?_
  refine ES_loopL (fun ts F => ∃ (k v : Nat) (p : AV), k ≤ L.length ∧ (AHeap.find F H.length = some (wrB p (bufA (joinB (L.take k)) v)) ∧ (p = .sc (.pointer none) ∨ p = .ptr 2 H.length 0 0) ∧ ((joinB (L.take k)).size ≠ 0 → AHeap.find F v = some ⟨1, byteL (joinB (L.take k)), false, 5⟩ ∧ H.length < v) ∧ (∀ id, id < H.length → AHeap.find F id = AHeap.find H id)) ∧
      Fr [some (.lst 1 (strs L) none), none, none, some (.ptr 2 H.length 0 0), none, none, some (.lst 1 (strs L) none), some (.sc (.int .i64 L.length)), some (.sc (.int .i64 k)), none, none, none, none, none, none, none, none, none] ts) (fun ts _ => L.length - (intV (ts.getD 8 .top)).toNat) ?_ ?_
  · refine ⟨0, 0, .sc (.pointer none), Nat.zero_le _, ⟨find_top rfl, .inl rfl, fun h => (h rfl).elim, fun id hid => find_past hid⟩, by simp [Fr]⟩
  · rintro ts F ⟨k, v, p, hk, ⟨m1, m2, m3, m4⟩, hfr⟩ L1 hL1
    obtain ⟨js, rfl⟩ := hfr.opened
    clear hfr
    have hfl := AHeap.find_lt m1
    by_cases h : k < L.length
    · have h1 : (k : Int) < L.length := by omega
      have hsn := joinB_snoc h
      have hle := joinB_take L (k + 1)
      rw [← hsn, ByteArray.size_append] at hle
      simp -implicitDefEqProofs (maxSteps := 99999999) (disch := first | omega | (simp only [AHeap.set_length, killO_length, List.length_cons, List.length_nil]; first | done | omega)) only [vu, mk, h1, strs_length, strs_get h, va, vg, vs, vw, Nat.reduceMul, ite_true, ite_false, eq_self, forall_const, implies_true, Nat.reduceAdd, Nat.reduceSub, Nat.reduceLT, Nat.reduceLeDiff, ↓reduceIte, reduceCtorEq, Int.reduceEq, Int.reduceLT, Int.reduceLE, Int.reduceGT, Int.reduceGE, Int.reduceAdd, Int.reduceSub, Int.reduceNeg, Int.reduceToNat, Nat.reduceBEq, Nat.reduceEqDiff]
      refine ⟨by omega, callR_ret (write_d m1 m2 (fun hc => ⟨(m3 hc).1, by have := (m3 hc).2; omega⟩) (by omega)) ?_⟩
      obtain ⟨w1, w2, w3, w4⟩ := wrH_ok (s := nthS L k) m1 (fun hc => ⟨(m3 hc).1, by have := (m3 hc).2; omega⟩)
      rw [hsn] at w1 w2
      simp -implicitDefEqProofs (maxSteps := 99999999) (disch := first | omega | (simp only [AHeap.set_length, killO_length, List.length_cons, List.length_nil]; first | done | omega)) only [vu, va, vg, vs, vw, Nat.reduceMul, ite_true, ite_false, eq_self, forall_const, implies_true, Nat.reduceAdd, Nat.reduceSub, Nat.reduceLT, Nat.reduceLeDiff, ↓reduceIte, reduceCtorEq, Int.reduceEq, Int.reduceLT, Int.reduceLE, Int.reduceGT, Int.reduceGE, Int.reduceAdd, Int.reduceSub, Int.reduceNeg, Int.reduceToNat, Nat.reduceBEq, Nat.reduceEqDiff]
      refine hL1 _ _ ⟨k + 1, F.length, .ptr 2 H.length 0 0, by omega, ⟨w1, .inr rfl, fun hc => ⟨w2 hc, hfl⟩, fun id hid => ?_⟩, by simp [Fr]⟩ (by simp [mk, intV]; omega)
      rw [w3 id (by omega) (by omega) (fun hc => by have := (m3 hc).2; omega)]
      exact m4 id hid
    · have : k = L.length := by omega
      subst this
      have h1 : ¬ (L.length : Int) < L.length := by omega
      rw [List.take_length] at m1 m3
      simp -implicitDefEqProofs (maxSteps := 99999999) (disch := first | omega | (simp only [AHeap.set_length, killO_length, List.length_cons, List.length_nil]; first | done | omega)) only [vu, mk, h1, va, vg, vs, vw, Nat.reduceMul, ite_true, ite_false, eq_self, forall_const, implies_true, Nat.reduceAdd, Nat.reduceSub, Nat.reduceLT, Nat.reduceLeDiff, ↓reduceIte, reduceCtorEq, Int.reduceEq, Int.reduceLT, Int.reduceLE, Int.reduceGT, Int.reduceGE, Int.reduceAdd, Int.reduceSub, Int.reduceNeg, Int.reduceToNat, Nat.reduceBEq, Nat.reduceEqDiff]
      clear hL1
      refine hK _ _ _ ?_
      clear hK
      simp -implicitDefEqProofs (maxSteps := 99999999) (disch := first | omega | (simp only [AHeap.set_length, killO_length, List.length_cons, List.length_nil]; first | done | omega)) only [vu, va, vg, vs, vw, Nat.reduceMul, ite_true, ite_false, eq_self, forall_const, implies_true, Nat.reduceAdd, Nat.reduceSub, Nat.reduceLT, Nat.reduceLeDiff, ↓reduceIte, reduceCtorEq, Int.reduceEq, Int.reduceLT, Int.reduceLE, Int.reduceGT, Int.reduceGE, Int.reduceAdd, Int.reduceSub, Int.reduceNeg, Int.reduceToNat, Nat.reduceBEq, Nat.reduceEqDiff]
      refine callR_ret (wstring_d m1 (fun hc => (m3 hc).1) hs) ?_
      simp -implicitDefEqProofs (maxSteps := 99999999) (disch := first | omega | (simp only [AHeap.set_length, killO_length, List.length_cons, List.length_nil]; first | done | omega)) only [vu, va, vg, vs, vw, Nat.reduceMul, ite_true, ite_false, eq_self, forall_const, implies_true, Nat.reduceAdd, Nat.reduceSub, Nat.reduceLT, Nat.reduceLeDiff, ↓reduceIte, reduceCtorEq, Int.reduceEq, Int.reduceLT, Int.reduceLE, Int.reduceGT, Int.reduceGE, Int.reduceAdd, Int.reduceSub, Int.reduceNeg, Int.reduceToNat, Nat.reduceBEq, Nat.reduceEqDiff]
      refine weak_frz (fun id hid => ?_) (.same trivial)
      split
      · exact m4 id hid
      · rename_i hc
        have := (m3 hc).2
        rw [find_set_other (by omega)]
        exact m4 id hid
end Go.Proofs.Ytigmpablpmanpaa
