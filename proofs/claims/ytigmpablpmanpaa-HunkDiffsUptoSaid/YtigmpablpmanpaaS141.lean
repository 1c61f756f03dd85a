/- diff.table.at; what fill's closure tells. -/
import Derived.Test.YtigmpablpmanpaaS140
import Derived.Test.YtigmpablpmanpaaIc21
namespace Go.Proofs.Ytigmpablpmanpaa
open Go.RowKit
set_option maxRecDepth 100000
set_option linter.unusedVariables false
set_option linter.unusedSimpArgs false

def tblB (w : Nat) (nid N : Nat) : ABlk := ⟨2, [.agg [.sc (.int .i64 w), .vec 1 nid 0 N (some N)]], true, 105⟩
theorem tat_d {H : AHeap} {tid nid N w : Nat} {f : Nat → Nat} (ht : AHeap.find H tid = some (tblB w nid N)) (hn : AHeap.find H nid = some ⟨1, tabL N f, true, 99⟩) {i j : Nat} (hij : i * w + j < N) (hN : N ≤ 100000000) (hi : i ≤ 10000) (hw : w ≤ 10000) (hj : j ≤ 10000) :
    D Try.prog 63 [.ptr 2 tid 0 0, .sc (.int .i64 i), .sc (.int .i64 j)] H (.ret (.sc (.int .u16 (f (i * w + j))))) H := by
  refine D_of_DK (Nat.le_refl _) (dk63 (E_of_ES ?_))
  unfold tblB at ht
  have hm : i * w ≤ 100000000 := by omega
  have e1 : (i : Int) * (w : Int) = ((i * w : Nat) : Int) := by rw [Int.natCast_mul]
  have e2 : ((i * w : Nat) : Int) + (j : Int) = ((i * w + j : Nat) : Int) := by omega
  have hg := tabL_get (f := f) hij
  generalize i * w + j = m at *
  generalize i * w = q at *
  simp -implicitDefEqProofs (maxSteps := 99999999) (disch := first | omega | (simp only [AHeap.set_length, killO_length, List.length_cons, List.length_nil]; first | done | omega)) only [vu, ic63, ht, hn, e1, e2, tabL_length, hg, va, vg, vs, vw, Nat.reduceMul, ite_true, ite_false, eq_self, forall_const, implies_true, Nat.reduceAdd, Nat.reduceSub, Nat.reduceLT, Nat.reduceLeDiff, ↓reduceIte, reduceCtorEq, Int.reduceEq, Int.reduceLT, Int.reduceLE, Int.reduceGT, Int.reduceGE, Int.reduceAdd, Int.reduceSub, Int.reduceNeg, Int.reduceToNat, Nat.reduceBEq, Nat.reduceEqDiff]
  exact ⟨⟨by omega, by omega⟩, hij, weak_over .refl (.same trivial)⟩

theorem best_d {H : AHeap} {ca cb ct tid nid : Nat} {a b : List ByteArray} {t1 t2 t3 : TypeId} {p : Nat} (ha : AHeap.find H ca = some ⟨1, [.lst 1 (strs a) none], true, t1⟩) (hb : AHeap.find H cb = some ⟨1, [.lst 1 (strs b) none], true, t2⟩) (hc : AHeap.find H ct = some ⟨1, [.ptr 2 tid 0 0], true, t3⟩)
    (ht : AHeap.find H tid = some (tblB (b.length + 1) nid ((a.length + 1) * (b.length + 1)))) (hn : AHeap.find H nid = some ⟨1, tabL ((a.length + 1) * (b.length + 1)) (tabF a b p), true, 99⟩) (hla : a.length ≤ 4096) (hlb : b.length ≤ 4096)
    {i j : Nat} (hi : i < a.length) (hj : j < b.length) (hp : p = i * (b.length + 1) + j + 1) :
    D Try.prog 67 [.sc (.int .i64 i), .sc (.int .i64 j), .ptr 1 ca 0 0, .ptr 1 cb 0 0, .ptr 1 ct 0 0] H (.ret (.sc (.int .u16 (lcd a b i j)))) H := by
  have hN : (a.length + 1) * (b.length + 1) ≤ 4097 * 4097 := Nat.mul_le_mul (by omega) (by omega)
  have m1 : (i + 1) * (b.length + 1) = i * (b.length + 1) + (b.length + 1) := by rw [Nat.add_mul]; omega
  have m2 : (i + 1) * (b.length + 1) ≤ a.length * (b.length + 1) := Nat.mul_le_mul_right _ (by omega)
  have m3 : (a.length + 1) * (b.length + 1) = a.length * (b.length + 1) + (b.length + 1) := by rw [Nat.add_mul]; omega
  have f1 : tabF a b p ((i + 1) * (b.length + 1) + (j + 1)) = lcd a b (i + 1) (j + 1) := tabF_at (by omega) (by omega)
  have f2 : tabF a b p ((i + 1) * (b.length + 1) + j) = lcd a b (i + 1) j := tabF_at (by omega) (by omega)
  have f3 : tabF a b p (i * (b.length + 1) + (j + 1)) = lcd a b i (j + 1) := tabF_at (by omega) (by omega)
  have l1 := lcd_le a b (i + 1) (j + 1)
  have c1 := tat_d ht hn (i := i + 1) (j := j + 1) (by omega) (by omega) (by omega) (by omega) (by omega)
  have c2 := tat_d ht hn (i := i + 1) (j := j) (by omega) (by omega) (by omega) (by omega) (by omega)
  have c3 := tat_d ht hn (i := i) (j := j + 1) (by omega) (by omega) (by omega) (by omega) (by omega)
  rw [f1] at c1
  rw [f2] at c2
  rw [f3] at c3
  have e1 : ((i + 1 : Nat) : Int) = (i : Int) + 1 := by omega
  have e2 : ((j + 1 : Nat) : Int) = (j : Int) + 1 := by omega
  simp only [e1, e2] at c1 c2 c3
  have hst := lcd_step hi hj
  refine D_of_DK (Nat.le_refl _) (dk67 (E_of_ES ?_))
  have hw : IntKind.u16.wrap ((lcd a b (i + 1) (j + 1) : Nat) + 1 : Int) = ((lcd a b (i + 1) (j + 1) + 1 : Nat) : Int) := by
    have h1 : lcd a b (i + 1) (j + 1) ≤ 4096 := by omega
    generalize lcd a b (i + 1) (j + 1) = x at h1
    simp [IntKind.wrap, IntKind.signed, IntKind.bits]
    omega
  have hmx : (if ((lcd a b (i + 1) j : Nat) : Int) < ((lcd a b i (j + 1) : Nat) : Int) then ((lcd a b i (j + 1) : Nat) : Int) else ((lcd a b (i + 1) j : Nat) : Int)) = ((max (lcd a b (i + 1) j) (lcd a b i (j + 1)) : Nat) : Int) := by split <;> omega
  have hmy : (if ((lcd a b i (j + 1) : Nat) : Int) > ((lcd a b (i + 1) j : Nat) : Int) then ((lcd a b i (j + 1) : Nat) : Int) else ((lcd a b (i + 1) j : Nat) : Int)) = ((max (lcd a b (i + 1) j) (lcd a b i (j + 1)) : Nat) : Int) := by split <;> omega
  by_cases e : nthS a i = nthS b j
  · rw [if_pos e] at hst
    rw [hst]
    simp -implicitDefEqProofs (maxSteps := 99999999) (disch := first | omega | (simp only [AHeap.set_length, killO_length, List.length_cons, List.length_nil]; first | done | omega)) only [vu, ic67, ha, hb, hc, strs_length, strs_get hi, strs_get hj, e, va, vg, vs, vw, Nat.reduceMul, ite_true, ite_false, eq_self, forall_const, implies_true, Nat.reduceAdd, Nat.reduceSub, Nat.reduceLT, Nat.reduceLeDiff, ↓reduceIte, reduceCtorEq, Int.reduceEq, Int.reduceLT, Int.reduceLE, Int.reduceGT, Int.reduceGE, Int.reduceAdd, Int.reduceSub, Int.reduceNeg, Int.reduceToNat, Nat.reduceBEq, Nat.reduceEqDiff]
    refine ⟨⟨by omega, by omega⟩, ⟨by omega, by omega⟩, callR_ret c1 ?_⟩
    simp -implicitDefEqProofs (maxSteps := 99999999) (disch := first | omega | (simp only [AHeap.set_length, killO_length, List.length_cons, List.length_nil]; first | done | omega)) only [vu, hw, va, vg, vs, vw, Nat.reduceMul, ite_true, ite_false, eq_self, forall_const, implies_true, Nat.reduceAdd, Nat.reduceSub, Nat.reduceLT, Nat.reduceLeDiff, ↓reduceIte, reduceCtorEq, Int.reduceEq, Int.reduceLT, Int.reduceLE, Int.reduceGT, Int.reduceGE, Int.reduceAdd, Int.reduceSub, Int.reduceNeg, Int.reduceToNat, Nat.reduceBEq, Nat.reduceEqDiff]
    exact weak_over .refl (.same trivial)
  · rw [if_neg e] at hst
    rw [hst]
    simp -implicitDefEqProofs (maxSteps := 99999999) (disch := first | omega | (simp only [AHeap.set_length, killO_length, List.length_cons, List.length_nil]; first | done | omega)) only [vu, ic67, ha, hb, hc, strs_length, strs_get hi, strs_get hj, e, va, vg, vs, vw, Nat.reduceMul, ite_true, ite_false, eq_self, forall_const, implies_true, Nat.reduceAdd, Nat.reduceSub, Nat.reduceLT, Nat.reduceLeDiff, ↓reduceIte, reduceCtorEq, Int.reduceEq, Int.reduceLT, Int.reduceLE, Int.reduceGT, Int.reduceGE, Int.reduceAdd, Int.reduceSub, Int.reduceNeg, Int.reduceToNat, Nat.reduceBEq, Nat.reduceEqDiff]
    refine ⟨⟨by omega, by omega⟩, ⟨by omega, by omega⟩, callD_same c2 ?_⟩
    simp -implicitDefEqProofs (maxSteps := 99999999) (disch := first | omega | (simp only [AHeap.set_length, killO_length, List.length_cons, List.length_nil]; first | done | omega)) only [vu, hc, va, vg, vs, vw, Nat.reduceMul, ite_true, ite_false, eq_self, forall_const, implies_true, Nat.reduceAdd, Nat.reduceSub, Nat.reduceLT, Nat.reduceLeDiff, ↓reduceIte, reduceCtorEq, Int.reduceEq, Int.reduceLT, Int.reduceLE, Int.reduceGT, Int.reduceGE, Int.reduceAdd, Int.reduceSub, Int.reduceNeg, Int.reduceToNat, Nat.reduceBEq, Nat.reduceEqDiff]
    refine callD_same c3 ?_
    simp -implicitDefEqProofs (maxSteps := 99999999) (disch := first | omega | (simp only [AHeap.set_length, killO_length, List.length_cons, List.length_nil]; first | done | omega)) only [vu, hmx, va, vg, vs, vw, Nat.reduceMul, ite_true, ite_false, eq_self, forall_const, implies_true, Nat.reduceAdd, Nat.reduceSub, Nat.reduceLT, Nat.reduceLeDiff, ↓reduceIte, reduceCtorEq, Int.reduceEq, Int.reduceLT, Int.reduceLE, Int.reduceGT, Int.reduceGE, Int.reduceAdd, Int.reduceSub, Int.reduceNeg, Int.reduceToNat, Nat.reduceBEq, Nat.reduceEqDiff]
    exact weak_over .refl (.same trivial)
end Go.Proofs.Ytigmpablpmanpaa
