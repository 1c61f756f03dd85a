/- StateKeeps: files with the texts that are wanted. -/
import Derived.Test.YtnjcbphapcbofaaS111
import Derived.Test.YtnjcbphapcbofaaS115
namespace Go.Proofs.Ytnjcbphapcbofaa
open Go.RowKit
set_option maxRecDepth 100000
set_option linter.unusedVariables false
set_option linter.unusedSimpArgs false

def tx (t : ByteArray) : AV := .sc (.string t)
abbrev mpB (M : List Dc) : Option ABlk := some ⟨0, mE tx M, true, 0⟩
theorem mVal_tx {k : ByteArray} {M : List Dc} : mVal (.string k) (.sc (.string ⟨#[]⟩)) (mE tx M) = .sc (.string ((mGet k M).getD ⟨#[]⟩)) := by
  rw [mVal_mE]
  cases mGet k M <;> rfl
theorem mPut_tx {k t : ByteArray} {M : List Dc} : mPut (.string k) (.sc (.string t)) (mE tx M) = mE tx (mSetL k t M) := mPut_mE (f := tx)
theorem mHas_tx {k : ByteArray} {M : List Dc} : (decide (mIdx (.string k) (mE tx M) < M.length)) = (mGet k M).isSome := by rw [mIdx_mE]; exact kIdx_lt
theorem mE_tx_ok (M : List Dc) : entsOk none (mE tx M) = True := mE_okT tx M

set_option maxHeartbeats 0 in
theorem again_d (T M : List Dc) (tid id : Nat) (H : AHeap) (hf : T ≠ [] → AHeap.find H tid = DocB T) (hm : AHeap.find H id = mpB M) (hg : ∀ d ∈ T, mGet d.1 M = some d.2) (hl : T.length ≤ 1000000) :
    D Try.prog 16 [DocV T tid, .ptr 0 id 0 0] H (.ret (DocV T H.length)) (DocB T :: H) := by
  refine D_of_DK (by simp) (dk16 (E_of_ES ?_))
  simp only [ic16, ux]
  have hml := AHeap.find_lt hm
  by_cases hT : T = []
  · subst hT
    have eV : DocV [] tid = .lst 0 [] (some []) := rfl
    rw [eV]
    simp -implicitDefEqProofs (maxSteps := 99999999) (disch := first | omega | (simp only [AHeap.set_length, killO_length, List.length_cons, List.length_nil]; first | done | omega)) only [va, vg, vs, vw, Nat.reduceMul, ite_true, ite_false, eq_self, forall_const, implies_true, Nat.reduceAdd, Nat.reduceSub, Nat.reduceLT, Nat.reduceLeDiff, ↓reduceIte, reduceCtorEq, Int.reduceEq, Int.reduceLT, Int.reduceLE, Int.reduceGT, Int.reduceGE, Int.reduceAdd, Int.reduceSub, Int.reduceNeg, Int.reduceToNat, Nat.reduceBEq, Nat.reduceEqDiff]
    refine ES_unroll (.s .o) (Lp_next fun L3 hL3 => ?_)
    simp -implicitDefEqProofs (maxSteps := 99999999) (disch := first | omega | (simp only [AHeap.set_length, killO_length, List.length_cons, List.length_nil]; first | done | omega)) only [va, vg, vs, vw, Nat.reduceMul, ite_true, ite_false, eq_self, forall_const, implies_true, Nat.reduceAdd, Nat.reduceSub, Nat.reduceLT, Nat.reduceLeDiff, ↓reduceIte, reduceCtorEq, Int.reduceEq, Int.reduceLT, Int.reduceLE, Int.reduceGT, Int.reduceGE, Int.reduceAdd, Int.reduceSub, Int.reduceNeg, Int.reduceToNat, Nat.reduceBEq, Nat.reduceEqDiff]
    exact weak_rowD (xs := docs []) (s := H.length) (Nat.le_refl _) (fun _ _ => rfl) (fun h => (h rfl).elim) docs_gz nil_gzD
  have ft : AHeap.find H tid = some ⟨2, docs T, false, 32⟩ := by rw [hf hT, DocB_ne hT]
  have htl := AHeap.find_lt ft
  rw [DocV_ne (id := tid) hT]
  refine ES_seq_gen fun L hL => ?_
  simp -implicitDefEqProofs (maxSteps := 99999999) (disch := first | omega | (simp only [AHeap.set_length, killO_length, List.length_cons, List.length_nil]; first | done | omega)) only [va, vg, vs, vw, Nat.reduceMul, ite_true, ite_false, eq_self, forall_const, implies_true, Nat.reduceAdd, Nat.reduceSub, Nat.reduceLT, Nat.reduceLeDiff, ↓reduceIte, reduceCtorEq, Int.reduceEq, Int.reduceLT, Int.reduceLE, Int.reduceGT, Int.reduceGE, Int.reduceAdd, Int.reduceSub, Int.reduceNeg, Int.reduceToNat, Nat.reduceBEq, Nat.reduceEqDiff]
  refine hL _ _ ?_
  clear hL
  refine ES_seq_gen fun L hL => ?_
  simp -implicitDefEqProofs (maxSteps := 99999999) (disch := first | omega | (simp only [AHeap.set_length, killO_length, List.length_cons, List.length_nil]; first | done | omega)) only [va, vg, vs, vw, Nat.reduceMul, ite_true, ite_false, eq_self, forall_const, implies_true, Nat.reduceAdd, Nat.reduceSub, Nat.reduceLT, Nat.reduceLeDiff, ↓reduceIte, reduceCtorEq, Int.reduceEq, Int.reduceLT, Int.reduceLE, Int.reduceGT, Int.reduceGE, Int.reduceAdd, Int.reduceSub, Int.reduceNeg, Int.reduceToNat, Nat.reduceBEq, Nat.reduceEqDiff]
  refine hL _ _ ?_
  clear hL
  refine ES_seq_gen fun L hL => ?_
  simp -implicitDefEqProofs (maxSteps := 99999999) (disch := first | omega | (simp only [AHeap.set_length, killO_length, List.length_cons, List.length_nil]; first | done | omega)) only [va, vg, vs, vw, Nat.reduceMul, ite_true, ite_false, eq_self, forall_const, implies_true, Nat.reduceAdd, Nat.reduceSub, Nat.reduceLT, Nat.reduceLeDiff, ↓reduceIte, reduceCtorEq, Int.reduceEq, Int.reduceLT, Int.reduceLE, Int.reduceGT, Int.reduceGE, Int.reduceAdd, Int.reduceSub, Int.reduceNeg, Int.reduceToNat, Nat.reduceBEq, Nat.reduceEqDiff]
  refine ES_loopL (fun ts F => ∃ (k oid : Nat) (out : List Dc), (k ≤ T.length ∧ out = T.take k) ∧ (H.length ≤ F.length ∧ H.length ≤ oid ∧ (out ≠ [] → AHeap.find F oid = DocB out)) ∧ (∀ id, id < H.length → AHeap.find F id = AHeap.find H id) ∧
      Fr [some (.vec 2 tid 0 T.length none), some (.ptr 0 id 0 0), none, none, none, some (DocV out oid), some (.sc (.int .i64 k)), none, none, none, none, none, none, none, none, none, none, none, none, none, none, none, none, none, none, none, none, none, none, none] ts) (fun ts _ => T.length - (intV (ts.getD 6 .top)).toNat) ?_ ?_
  · exact ⟨0, H.length, [], ⟨Nat.zero_le _, rfl⟩, ⟨Nat.le_refl _, Nat.le_refl _, fun h => (h rfl).elim⟩, fun id hid => rfl, by simp [Fr]; rfl⟩
  rintro ts F ⟨k, oid, out, ⟨hk, ho⟩, ⟨f1, f2, f3⟩, g1, hfr⟩ L2 hL2
  obtain ⟨js, rfl⟩ := hfr.opened
  clear hfr
  have hol : out.length = k := by rw [ho, List.length_take]; omega
  have t1 := (g1 tid htl).trans ft
  have m1 := (g1 id hml).trans hm
  simp -implicitDefEqProofs (maxSteps := 99999999) (disch := first | omega | (simp only [AHeap.set_length, killO_length, List.length_cons, List.length_nil]; first | done | omega)) only [mk, va, vg, vs, vw, Nat.reduceMul, ite_true, ite_false, eq_self, forall_const, implies_true, Nat.reduceAdd, Nat.reduceSub, Nat.reduceLT, Nat.reduceLeDiff, ↓reduceIte, reduceCtorEq, Int.reduceEq, Int.reduceLT, Int.reduceLE, Int.reduceGT, Int.reduceGE, Int.reduceAdd, Int.reduceSub, Int.reduceNeg, Int.reduceToNat, Nat.reduceBEq, Nat.reduceEqDiff]
  refine condR_if (fun h => ?_) (fun h => ?_)
  · have h1 : k < T.length := by omega
    have k0 : (0 : Int) ≤ (k : Int) := by omega
    have k1 : (k : Int) < T.length := by omega
    have hgd := docs_get h1
    have hw : mGet (nthD T k).1 M = some (nthD T k).2 := hg _ (by rw [nthD_eq h1]; exact List.getElem_mem h1)
    have hp : T.take (k + 1) = out ++ [nthD T k] := by rw [List.take_succ_eq_append_getElem h1, ← nthD_eq h1, ← ho]
    by_cases e0 : out = []
    · subst e0
      have eV : DocV [] oid = .lst 0 [] (some []) := rfl
      rw [eV]
      simp -implicitDefEqProofs (maxSteps := 99999999) (disch := first | omega | (simp only [AHeap.set_length, killO_length, List.length_cons, List.length_nil]; first | done | omega)) only [docs_length, t1, m1, hgd, k0, k1, h1, mE_tx_ok, mVal_tx, hw, va, vg, vs, vw, Nat.reduceMul, ite_true, ite_false, eq_self, forall_const, implies_true, Nat.reduceAdd, Nat.reduceSub, Nat.reduceLT, Nat.reduceLeDiff, ↓reduceIte, reduceCtorEq, Int.reduceEq, Int.reduceLT, Int.reduceLE, Int.reduceGT, Int.reduceGE, Int.reduceAdd, Int.reduceSub, Int.reduceNeg, Int.reduceToNat, Nat.reduceBEq, Nat.reduceEqDiff]
      refine hL2 _ _ ⟨k + 1, F.length, [] ++ [nthD T k], ⟨by omega, hp.symm⟩, ⟨by simp; omega, by omega, fun _ => find_top rfl⟩, fun i hi => by simp -implicitDefEqProofs (maxSteps := 99999999) (disch := first | omega | (simp only [AHeap.set_length, killO_length, List.length_cons, List.length_nil]; first | done | omega)) only [g1 i hi, va, vg, vs, vw, Nat.reduceMul, ite_true, ite_false, eq_self, forall_const, implies_true, Nat.reduceAdd, Nat.reduceSub, Nat.reduceLT, Nat.reduceLeDiff, ↓reduceIte, reduceCtorEq, Int.reduceEq, Int.reduceLT, Int.reduceLE, Int.reduceGT, Int.reduceGE, Int.reduceAdd, Int.reduceSub, Int.reduceNeg, Int.reduceToNat, Nat.reduceBEq, Nat.reduceEqDiff], by simp [Fr]; rfl⟩ (by simp only [List.getD_cons_succ, List.getD_cons_zero, intV, mk]; omega)
    · have fo : AHeap.find F oid = some ⟨2, docs out, false, 32⟩ := by rw [f3 e0, DocB_ne e0]
      have ea : docs out ++ [.agg [.sc (.string (nthD T k).1), .sc (.string (nthD T k).2)]] = docs (out ++ [nthD T k]) := docs_app
      have hlo := AHeap.find_lt fo
      rw [DocV_ne e0]
      simp -implicitDefEqProofs (maxSteps := 99999999) (disch := first | omega | (simp only [AHeap.set_length, killO_length, List.length_cons, List.length_nil]; first | done | omega)) only [docs_length, t1, m1, hgd, k0, k1, h1, mE_tx_ok, mVal_tx, hw, fo, ea, va, vg, vs, vw, Nat.reduceMul, ite_true, ite_false, eq_self, forall_const, implies_true, Nat.reduceAdd, Nat.reduceSub, Nat.reduceLT, Nat.reduceLeDiff, ↓reduceIte, reduceCtorEq, Int.reduceEq, Int.reduceLT, Int.reduceLE, Int.reduceGT, Int.reduceGE, Int.reduceAdd, Int.reduceSub, Int.reduceNeg, Int.reduceToNat, Nat.reduceBEq, Nat.reduceEqDiff]
      have eV : AV.vec 2 F.length 0 (out.length + 1) none = DocV (out ++ [nthD T k]) F.length := by rw [DocV_ne (by simp), List.length_append]; rfl
      rw [eV]
      refine ⟨by omega, hL2 _ _ ⟨k + 1, F.length, out ++ [nthD T k], ⟨by omega, hp.symm⟩, ⟨by simp [AHeap.set_length]; omega, by omega, fun _ => by rw [DocB_ne (by simp)]; exact find_top (by simp [AHeap.set_length])⟩, fun i hi => ?_, by simp [Fr]⟩ (by simp only [List.getD_cons_succ, List.getD_cons_zero, intV, mk]; omega)⟩
      have n1 : i ≠ oid := by omega
      simp -implicitDefEqProofs (maxSteps := 99999999) (disch := first | omega | (simp only [AHeap.set_length, killO_length, List.length_cons, List.length_nil]; first | done | omega)) only [g1 i hi, va, vg, vs, vw, Nat.reduceMul, ite_true, ite_false, eq_self, forall_const, implies_true, Nat.reduceAdd, Nat.reduceSub, Nat.reduceLT, Nat.reduceLeDiff, ↓reduceIte, reduceCtorEq, Int.reduceEq, Int.reduceLT, Int.reduceLE, Int.reduceGT, Int.reduceGE, Int.reduceAdd, Int.reduceSub, Int.reduceNeg, Int.reduceToNat, Nat.reduceBEq, Nat.reduceEqDiff]
  · have hk2 : k = T.length := by omega
    have he : out = T := by rw [ho, hk2, List.take_length]
    clear hL2
    simp -implicitDefEqProofs (maxSteps := 99999999) (disch := first | omega | (simp only [AHeap.set_length, killO_length, List.length_cons, List.length_nil]; first | done | omega)) only [va, vg, vs, vw, Nat.reduceMul, ite_true, ite_false, eq_self, forall_const, implies_true, Nat.reduceAdd, Nat.reduceSub, Nat.reduceLT, Nat.reduceLeDiff, ↓reduceIte, reduceCtorEq, Int.reduceEq, Int.reduceLT, Int.reduceLE, Int.reduceGT, Int.reduceGE, Int.reduceAdd, Int.reduceSub, Int.reduceNeg, Int.reduceToNat, Nat.reduceBEq, Nat.reduceEqDiff]
    refine hL _ _ ?_
    clear hL
    simp -implicitDefEqProofs (maxSteps := 99999999) (disch := first | omega | (simp only [AHeap.set_length, killO_length, List.length_cons, List.length_nil]; first | done | omega)) only [OwnV_top, OwnV_ncells, OwnV_isAgg, OwnV_cells, va, vg, vs, vw, Nat.reduceMul, ite_true, ite_false, eq_self, forall_const, implies_true, Nat.reduceAdd, Nat.reduceSub, Nat.reduceLT, Nat.reduceLeDiff, ↓reduceIte, reduceCtorEq, Int.reduceEq, Int.reduceLT, Int.reduceLE, Int.reduceGT, Int.reduceGE, Int.reduceAdd, Int.reduceSub, Int.reduceNeg, Int.reduceToNat, Nat.reduceBEq, Nat.reduceEqDiff]
    rw [he] at f3 ⊢
    exact weak_rowD (by omega) g1 (fun h => f3 fun e => h (by rw [e]; rfl)) docs_gz (row_gzD (by omega))
end Go.Proofs.Ytnjcbphapcbofaa
