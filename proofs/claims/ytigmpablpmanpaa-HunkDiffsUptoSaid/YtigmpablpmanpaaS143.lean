/- diff.Common. -/
import Derived.Test.YtigmpablpmanpaaS142
import Derived.Test.YtigmpablpmanpaaV34
namespace Go.Proofs.Ytigmpablpmanpaa
open Go.RowKit
set_option maxRecDepth 100000
set_option linter.unusedVariables false
set_option linter.unusedSimpArgs false

/-- The pairs from two places on. -/
def cmn (a b : List ByteArray) (i j : Nat) : List (Nat × Nat) :=
  if h : i < a.length ∧ j < b.length then
    if nthS a i = nthS b j then (i, j) :: cmn a b (i + 1) (j + 1)
    else if lcd a b (i + 1) j ≥ lcd a b i (j + 1) then cmn a b (i + 1) j else cmn a b i (j + 1)
  else []
termination_by (a.length - i) + (b.length - j)
theorem cmn_end {a b : List ByteArray} {i j : Nat} (h : ¬ (i < a.length ∧ j < b.length)) : cmn a b i j = [] := by rw [cmn, dif_neg h]
theorem cmn_eq {a b : List ByteArray} {i j : Nat} (h1 : i < a.length) (h2 : j < b.length) (e : nthS a i = nthS b j) : cmn a b i j = (i, j) :: cmn a b (i + 1) (j + 1) := by rw [cmn, dif_pos ⟨h1, h2⟩, if_pos e]
theorem cmn_i {a b : List ByteArray} {i j : Nat} (h1 : i < a.length) (h2 : j < b.length) (e : ¬ nthS a i = nthS b j) (h : lcd a b (i + 1) j ≥ lcd a b i (j + 1)) : cmn a b i j = cmn a b (i + 1) j := by rw [cmn, dif_pos ⟨h1, h2⟩, if_neg e, if_pos h]
theorem cmn_j {a b : List ByteArray} {i j : Nat} (h1 : i < a.length) (h2 : j < b.length) (e : ¬ nthS a i = nthS b j) (h : ¬ lcd a b (i + 1) j ≥ lcd a b i (j + 1)) : cmn a b i j = cmn a b i (j + 1) := by rw [cmn, dif_pos ⟨h1, h2⟩, if_neg e, if_neg h]
def prs (l : List (Nat × Nat)) : List AV := l.map fun p => .agg [.sc (.int .i64 (p.1 : Nat)), .sc (.int .i64 (p.2 : Nat))]
theorem prs_gz {H1 : AHeap} {n0 : Nat} {src : List Nat} : ∀ {l : List (Nat × Nat)}, GzL H1 n0 src (prs l) (prs l)
  | [] => .nil
  | _ :: _ => .cons (.same ⟨trivial, trivial, trivial⟩) prs_gz
theorem prs_length (l : List (Nat × Nat)) : (prs l).length = l.length := by simp [prs]
/-- A row that a function made and hands out. -/
theorem weak_own {H F : AHeap} {k io : Nat} {ty : TypeId} {xs : List AV} (ho : ∀ id, id < H.length → AHeap.find F id = AHeap.find H id) (hf : xs ≠ [] → AHeap.find F io = OwnB k ty xs ∧ H.length ≤ io) (hz : ∀ s, GzL F H.length [s] xs xs) :
    Weak H (.ret (OwnV k xs io)) F (.ret (OwnV k xs H.length)) (OwnB k ty xs :: H) := by
  by_cases e : xs = []
  · subst e
    refine weak_gen [H.length] (by simp) (by simp) (by simp) (fun id k hid hk => .inl ?_) (fun i s k hs hk => ?_) (.same (by simp [OwnV]; trivial))
    · rw [find_past (by omega)] at hk
      exact ⟨hk, by rw [ho id hid]; exact hk⟩
    · rcases i with _ | i
      · rw [Nat.add_zero, find_top rfl] at hk
        simp [OwnB] at hk
      · simp at hs
  · obtain ⟨h1, h2⟩ := hf e
    rw [OwnV_ne e, OwnV_ne e]
    rw [OwnB_ne e] at h1 ⊢
    refine weak_gen [io] (by simp) (by simp) (by simpa using h2) (fun id k hid hk => .inl ?_) (fun i s k hs hk => ?_) (.vecR (newId_one h2) (.inl rfl))
    · rw [find_past (by omega)] at hk
      exact ⟨hk, by rw [ho id hid]; exact hk⟩
    · rcases i with _ | i
      · simp at hs
        subst hs
        rw [Nat.add_zero, find_top rfl] at hk
        cases hk
        exact ⟨_, h1, rfl, rfl, fun h => h, hz _⟩
      · simp at hs
theorem common_o (a b : List ByteArray) (hla : a.length ≤ 4096) (hlb : b.length ≤ 4096) (H : AHeap) :
    D Try.prog 50 [.lst 1 (strs a) none, .lst 1 (strs b) none] H (.ret (OwnV 2 (prs (cmn a b 0 0)) H.length)) (OwnB 2 89 (prs (cmn a b 0 0)) :: H) := by
  have hN : (a.length + 1) * (b.length + 1) ≤ 4097 * 4097 := Nat.mul_le_mul (by omega) (by omega)
  have c1 : ¬ (a.length : Int) > 4096 := by omega
  have c2 : ¬ (b.length : Int) > 4096 := by omega
  refine D_of_DK (by simp) (dk50 (E_of_ES ?_))
  simp -implicitDefEqProofs (maxSteps := 99999999) (disch := omega) only [vu, ic50, strs_length, c1, c2, va, vg, vs, vh, Nat.reduceMul, ite_true, ite_false, eq_self, forall_const, implies_true, Nat.reduceAdd, Nat.reduceSub, Nat.reduceLT, Nat.reduceLeDiff, ↓reduceIte, reduceCtorEq, Int.reduceEq, Int.reduceLT, Int.reduceLE, Int.reduceGT, Int.reduceGE, Int.reduceAdd, Int.reduceSub, Int.reduceNeg, Int.reduceToNat, Nat.reduceBEq, Nat.reduceEqDiff]
  refine callR_ret (fill_d a b hla hlb _) ?_
  simp -implicitDefEqProofs (maxSteps := 99999999) (disch := omega) only [vu, va, vg, vs, vh, Nat.reduceMul, ite_true, ite_false, eq_self, forall_const, implies_true, Nat.reduceAdd, Nat.reduceSub, Nat.reduceLT, Nat.reduceLeDiff, ↓reduceIte, reduceCtorEq, Int.reduceEq, Int.reduceLT, Int.reduceLE, Int.reduceGT, Int.reduceGE, Int.reduceAdd, Int.reduceSub, Int.reduceNeg, Int.reduceToNat, Nat.reduceBEq, Nat.reduceEqDiff]
  refine ES_gen fun K hK => ?_
  refine ES_loopL (fun ts F => ∃ (i j io : Nat) (out : List (Nat × Nat)), (i ≤ a.length ∧ j ≤ b.length ∧ out ++ cmn a b i j = cmn a b 0 0 ∧ out.length ≤ i) ∧
      (AHeap.find F (H.length + 1) = some (tblB (b.length + 1) H.length ((a.length + 1) * (b.length + 1))) ∧ AHeap.find F H.length = some ⟨1, tabL ((a.length + 1) * (b.length + 1)) (tabF a b 0), true, 99⟩ ∧ H.length + 2 ≤ F.length) ∧
      ((prs out ≠ [] → AHeap.find F io = OwnB 2 89 (prs out) ∧ H.length + 2 ≤ io) ∧ ∀ id, id < H.length → AHeap.find F id = AHeap.find H id) ∧
      Fr [some (.lst 1 (strs a) none), some (.lst 1 (strs b) none), none, none, none, some (.ptr 2 (H.length + 1) 0 0), some (OwnV 2 (prs out) io), some (.sc (.int .i64 i)), some (.sc (.int .i64 j)), none, none, none, none, none, none, none, none, none, none, none, none, none, none, none, none, none, none, none, none, none, none, none, none, none, none, none, none, none, none, none, none, none, none, none, none, none, none, none, none, none, none, none, none, none, none, none, none, none, none, none, none, none, none, none, none, none, none] ts) (fun ts _ => (a.length - (intV (ts.getD 7 .top)).toNat) + (b.length - (intV (ts.getD 8 .top)).toNat)) ?_ ?_
  · exact ⟨0, 0, 0, [], ⟨Nat.zero_le _, Nat.zero_le _, rfl, Nat.zero_le _⟩, ⟨find_top (by simp), by rw [find_past (by simp)]; exact find_top rfl, by simp⟩, ⟨fun h => (h rfl).elim, fun id hid => by rw [find_past (by simp; omega), find_past hid]⟩, by simp [Fr]; rfl⟩
  · rintro ts F ⟨i, j, io, out, ⟨hi, hj, ho, hlo⟩, ⟨ht, hn, hFl⟩, ⟨m1, m2⟩, hfr⟩ L1 hL1
    obtain ⟨js, rfl⟩ := hfr.opened
    clear hfr
    by_cases hd : i < a.length ∧ j < b.length
    · obtain ⟨h1, h2⟩ := hd
      have h1' : (i : Int) < a.length := by omega
      have h2' : (j : Int) < b.length := by omega
      by_cases e : nthS a i = nthS b j
      · obtain ⟨io1, G1, p1, p2, p3, p4, p5, p6⟩ := apAny (k := 2) (ty := 89) (xs := prs out) (ys := [.agg [.sc (.int .i64 i), .sc (.int .i64 j)]]) (fun h => (m1 h).1) (by rw [prs_length]; simp; omega)
        have hap : prs out ++ [AV.agg [.sc (.int .i64 i), .sc (.int .i64 j)]] = prs (out ++ [(i, j)]) := by simp [prs]
        rw [hap] at p2 p4
        simp -implicitDefEqProofs (maxSteps := 99999999) (disch := first | omega | (simp only [AHeap.set_length, killO_length, List.length_cons, List.length_nil]; first | done | omega)) only [vu, mk, h1', h2', strs_length, strs_get h1, strs_get h2, e, p1, p2, p3, va, vg, vs, vw, Nat.reduceMul, ite_true, ite_false, eq_self, forall_const, implies_true, Nat.reduceAdd, Nat.reduceSub, Nat.reduceLT, Nat.reduceLeDiff, ↓reduceIte, reduceCtorEq, Int.reduceEq, Int.reduceLT, Int.reduceLE, Int.reduceGT, Int.reduceGE, Int.reduceAdd, Int.reduceSub, Int.reduceNeg, Int.reduceToNat, Nat.reduceBEq, Nat.reduceEqDiff]
        refine ⟨by omega, by omega, hL1 _ _ ⟨i + 1, j + 1, io1, out ++ [(i, j)], ⟨by omega, by omega, by rw [← ho, cmn_eq h1 h2 e]; simp, by simp; omega⟩,
          ⟨by rw [p6 _ (by omega) (fun h => by have := (m1 h).2; omega)]; exact ht, by rw [p6 _ (by omega) (fun h => by have := (m1 h).2; omega)]; exact hn, by omega⟩,
          ⟨fun h => ⟨(p4 h).1, by have := (p4 h).2; omega⟩, fun id hid => by rw [p6 _ (by omega) (fun h => by have := (m1 h).2; omega)]; exact m2 id hid⟩, by simp [Fr]⟩ ?_⟩
        simp [mk, intV]
        omega
      · have w1 : (i + 1) * (b.length + 1) = i * (b.length + 1) + (b.length + 1) := by rw [Nat.add_mul]; omega
        have w2 : (i + 1) * (b.length + 1) ≤ a.length * (b.length + 1) := Nat.mul_le_mul_right _ (by omega)
        have w3 : (a.length + 1) * (b.length + 1) = a.length * (b.length + 1) + (b.length + 1) := by rw [Nat.add_mul]; omega
        have f2 : tabF a b 0 ((i + 1) * (b.length + 1) + j) = lcd a b (i + 1) j := tabF_at (by omega) (by omega)
        have f3 : tabF a b 0 (i * (b.length + 1) + (j + 1)) = lcd a b i (j + 1) := tabF_at (by omega) (by omega)
        have t2 := tat_d ht hn (i := i + 1) (j := j) (by omega) (by omega) (by omega) (by omega) (by omega)
        have t3 := tat_d ht hn (i := i) (j := j + 1) (by omega) (by omega) (by omega) (by omega) (by omega)
        rw [f2] at t2
        rw [f3] at t3
        have e1 : ((i + 1 : Nat) : Int) = (i : Int) + 1 := by omega
        have e2 : ((j + 1 : Nat) : Int) = (j : Int) + 1 := by omega
        simp only [e1] at t2
        simp only [e2] at t3
        simp -implicitDefEqProofs (maxSteps := 99999999) (disch := first | omega | (simp only [AHeap.set_length, killO_length, List.length_cons, List.length_nil]; first | done | omega)) only [vu, mk, h1', h2', strs_length, strs_get h1, strs_get h2, e, va, vg, vs, vw, Nat.reduceMul, ite_true, ite_false, eq_self, forall_const, implies_true, Nat.reduceAdd, Nat.reduceSub, Nat.reduceLT, Nat.reduceLeDiff, ↓reduceIte, reduceCtorEq, Int.reduceEq, Int.reduceLT, Int.reduceLE, Int.reduceGT, Int.reduceGE, Int.reduceAdd, Int.reduceSub, Int.reduceNeg, Int.reduceToNat, Nat.reduceBEq, Nat.reduceEqDiff]
        refine ⟨by omega, by omega, callR_ret t2 ?_⟩
        simp -implicitDefEqProofs (maxSteps := 99999999) (disch := first | omega | (simp only [AHeap.set_length, killO_length, List.length_cons, List.length_nil]; first | done | omega)) only [vu, va, vg, vs, vw, Nat.reduceMul, ite_true, ite_false, eq_self, forall_const, implies_true, Nat.reduceAdd, Nat.reduceSub, Nat.reduceLT, Nat.reduceLeDiff, ↓reduceIte, reduceCtorEq, Int.reduceEq, Int.reduceLT, Int.reduceLE, Int.reduceGT, Int.reduceGE, Int.reduceAdd, Int.reduceSub, Int.reduceNeg, Int.reduceToNat, Nat.reduceBEq, Nat.reduceEqDiff]
        refine callR_ret t3 ?_
        by_cases g : lcd a b (i + 1) j ≥ lcd a b i (j + 1)
        · have g' : ((lcd a b (i + 1) j : Nat) : Int) ≥ ((lcd a b i (j + 1) : Nat) : Int) := by omega
          simp -implicitDefEqProofs (maxSteps := 99999999) (disch := first | omega | (simp only [AHeap.set_length, killO_length, List.length_cons, List.length_nil]; first | done | omega)) only [vu, g', va, vg, vs, vw, Nat.reduceMul, ite_true, ite_false, eq_self, forall_const, implies_true, Nat.reduceAdd, Nat.reduceSub, Nat.reduceLT, Nat.reduceLeDiff, ↓reduceIte, reduceCtorEq, Int.reduceEq, Int.reduceLT, Int.reduceLE, Int.reduceGT, Int.reduceGE, Int.reduceAdd, Int.reduceSub, Int.reduceNeg, Int.reduceToNat, Nat.reduceBEq, Nat.reduceEqDiff]
          refine hL1 _ _ ⟨i + 1, j, io, out, ⟨by omega, by omega, by rw [← ho, cmn_i h1 h2 e g], by omega⟩, ⟨ht, hn, hFl⟩, ⟨m1, m2⟩, by simp [Fr]⟩ ?_
          simp [mk, intV]
          omega
        · have g' : ¬ ((lcd a b (i + 1) j : Nat) : Int) ≥ ((lcd a b i (j + 1) : Nat) : Int) := by omega
          simp -implicitDefEqProofs (maxSteps := 99999999) (disch := first | omega | (simp only [AHeap.set_length, killO_length, List.length_cons, List.length_nil]; first | done | omega)) only [vu, g', va, vg, vs, vw, Nat.reduceMul, ite_true, ite_false, eq_self, forall_const, implies_true, Nat.reduceAdd, Nat.reduceSub, Nat.reduceLT, Nat.reduceLeDiff, ↓reduceIte, reduceCtorEq, Int.reduceEq, Int.reduceLT, Int.reduceLE, Int.reduceGT, Int.reduceGE, Int.reduceAdd, Int.reduceSub, Int.reduceNeg, Int.reduceToNat, Nat.reduceBEq, Nat.reduceEqDiff]
          refine hL1 _ _ ⟨i, j + 1, io, out, ⟨by omega, by omega, by rw [← ho, cmn_j h1 h2 e g], by omega⟩, ⟨ht, hn, hFl⟩, ⟨m1, m2⟩, by simp [Fr]⟩ ?_
          simp [mk, intV]
          omega
    · by_cases h1 : i < a.length
      · have h1' : (i : Int) < a.length := by omega
        have h2' : ¬ (j : Int) < b.length := by omega
        simp -implicitDefEqProofs (maxSteps := 99999999) (disch := first | omega | (simp only [AHeap.set_length, killO_length, List.length_cons, List.length_nil]; first | done | omega)) only [vu, mk, h1', h2', strs_length, va, vg, vs, vw, Nat.reduceMul, ite_true, ite_false, eq_self, forall_const, implies_true, Nat.reduceAdd, Nat.reduceSub, Nat.reduceLT, Nat.reduceLeDiff, ↓reduceIte, reduceCtorEq, Int.reduceEq, Int.reduceLT, Int.reduceLE, Int.reduceGT, Int.reduceGE, Int.reduceAdd, Int.reduceSub, Int.reduceNeg, Int.reduceToNat, Nat.reduceBEq, Nat.reduceEqDiff]
        clear hL1
        refine hK _ _ _ ?_
        clear hK
        rw [cmn_end hd, List.append_nil] at ho
        subst ho
        simp -implicitDefEqProofs (maxSteps := 99999999) (disch := first | omega | (simp only [AHeap.set_length, killO_length, List.length_cons, List.length_nil]; first | done | omega)) only [vu, va, vg, vs, vw, Nat.reduceMul, ite_true, ite_false, eq_self, forall_const, implies_true, Nat.reduceAdd, Nat.reduceSub, Nat.reduceLT, Nat.reduceLeDiff, ↓reduceIte, reduceCtorEq, Int.reduceEq, Int.reduceLT, Int.reduceLE, Int.reduceGT, Int.reduceGE, Int.reduceAdd, Int.reduceSub, Int.reduceNeg, Int.reduceToNat, Nat.reduceBEq, Nat.reduceEqDiff]
        exact weak_own m2 (fun h => ⟨(m1 h).1, by have := (m1 h).2; omega⟩) fun s => prs_gz
      · have h1' : ¬ (i : Int) < a.length := by omega
        simp -implicitDefEqProofs (maxSteps := 99999999) (disch := first | omega | (simp only [AHeap.set_length, killO_length, List.length_cons, List.length_nil]; first | done | omega)) only [vu, mk, h1', strs_length, va, vg, vs, vw, Nat.reduceMul, ite_true, ite_false, eq_self, forall_const, implies_true, Nat.reduceAdd, Nat.reduceSub, Nat.reduceLT, Nat.reduceLeDiff, ↓reduceIte, reduceCtorEq, Int.reduceEq, Int.reduceLT, Int.reduceLE, Int.reduceGT, Int.reduceGE, Int.reduceAdd, Int.reduceSub, Int.reduceNeg, Int.reduceToNat, Nat.reduceBEq, Nat.reduceEqDiff]
        clear hL1
        refine hK _ _ _ ?_
        clear hK
        rw [cmn_end hd, List.append_nil] at ho
        subst ho
        simp -implicitDefEqProofs (maxSteps := 99999999) (disch := first | omega | (simp only [AHeap.set_length, killO_length, List.length_cons, List.length_nil]; first | done | omega)) only [vu, va, vg, vs, vw, Nat.reduceMul, ite_true, ite_false, eq_self, forall_const, implies_true, Nat.reduceAdd, Nat.reduceSub, Nat.reduceLT, Nat.reduceLeDiff, ↓reduceIte, reduceCtorEq, Int.reduceEq, Int.reduceLT, Int.reduceLE, Int.reduceGT, Int.reduceGE, Int.reduceAdd, Int.reduceSub, Int.reduceNeg, Int.reduceToNat, Nat.reduceBEq, Nat.reduceEqDiff]
        exact weak_own m2 (fun h => ⟨(m1 h).1, by have := (m1 h).2; omega⟩) fun s => prs_gz
end Go.Proofs.Ytigmpablpmanpaa
