/- diff.fill. -/
import Derived.Test.YtigmpablpmanpaaS141
namespace Go.Proofs.Ytigmpablpmanpaa
open Go.RowKit
set_option maxRecDepth 100000
set_option linter.unusedVariables false
set_option linter.unusedSimpArgs false

structure FillI (a b : List ByteArray) (N : Nat) (H F : AHeap) (q : Nat) : Prop where
  len : F.length = H.length + 5
  fa : AHeap.find F H.length = some ⟨1, [.lst 1 (strs a) none], true, 22⟩
  fb : AHeap.find F (H.length + 1) = some ⟨1, [.lst 1 (strs b) none], true, 22⟩
  fn : AHeap.find F (H.length + 2) = some ⟨1, tabL N (tabF a b q), true, 99⟩
  ft : AHeap.find F (H.length + 3) = some (tblB (b.length + 1) (H.length + 2) N)
  fc : AHeap.find F (H.length + 4) = some ⟨1, [.ptr 2 (H.length + 3) 0 0], true, 97⟩
  old : ∀ id, id < H.length → AHeap.find F id = AHeap.find H id
theorem FillI.step {a b : List ByteArray} {N q : Nat} {H F : AHeap} (h : FillI a b N H F q) (q' : Nat) : FillI a b N H (AHeap.set F (H.length + 2) (some ⟨1, tabL N (tabF a b q'), true, 99⟩)) q' := by
  have hl := h.len
  refine ⟨by rw [AHeap.set_length, hl], ?_, ?_, AHeap.find_set_same (by omega), ?_, ?_, fun id hid => ?_⟩
  · rw [find_set_other (by omega)]; exact h.fa
  · rw [find_set_other (by omega)]; exact h.fb
  · rw [find_set_other (by omega)]; exact h.ft
  · rw [find_set_other (by omega)]; exact h.fc
  · rw [find_set_other (by omega)]; exact h.old id hid
theorem gzL_map {H1 : AHeap} {n0 : Nat} {src : List Nat} {α : Type} (f : α → Value) : ∀ {l : List α}, GzL H1 n0 src (l.map fun x => .sc (f x)) (l.map fun x => .sc (f x))
  | [] => .nil
  | _ :: _ => .cons (.same trivial) (gzL_map f)
theorem tab_gz {H1 : AHeap} {n0 : Nat} {src : List Nat} {N : Nat} {f : Nat → Nat} : GzL H1 n0 src (tabL N f) (tabL N f) := gzL_map (fun k => .int .u16 (f k))
theorem fill_d (a b : List ByteArray) (hla : a.length ≤ 4096) (hlb : b.length ≤ 4096) (H : AHeap) :
    D Try.prog 62 [.lst 1 (strs a) none, .lst 1 (strs b) none] H (.ret (.ptr 2 (H.length + 1) 0 0)) (some (tblB (b.length + 1) H.length ((a.length + 1) * (b.length + 1))) :: some ⟨1, tabL ((a.length + 1) * (b.length + 1)) (tabF a b 0), true, 99⟩ :: H) := by
  have hN : (a.length + 1) * (b.length + 1) ≤ 4097 * 4097 := Nat.mul_le_mul (by omega) (by omega)
  have m3 : (a.length + 1) * (b.length + 1) = a.length * (b.length + 1) + (b.length + 1) := by rw [Nat.add_mul]; omega
  have e3 : ((a.length : Int) + 1) * ((b.length : Int) + 1) = (((a.length + 1) * (b.length + 1) : Nat) : Int) := by rw [Int.natCast_mul]; simp
  have e4 : ((b.length : Int) + 1) = ((b.length + 1 : Nat) : Int) := by omega
  refine D_of_DK (by simp; omega) (dk62 (E_of_ES ?_))
  have hst := tabF_start (a := a) (b := b)
  rw [tabL_zero] at hst
  obtain ⟨N, hNe⟩ : ∃ N, N = (a.length + 1) * (b.length + 1) := ⟨_, rfl⟩
  rw [← hNe] at hN m3 e3 hst ⊢
  simp -implicitDefEqProofs (maxSteps := 99999999) (disch := omega) only [vu, ic62, strs_length, e3, Int.toNat_natCast, hst, va, vg, vs, vh, Nat.reduceMul, ite_true, ite_false, eq_self, forall_const, implies_true, Nat.reduceAdd, Nat.reduceSub, Nat.reduceLT, Nat.reduceLeDiff, ↓reduceIte, reduceCtorEq, Int.reduceEq, Int.reduceLT, Int.reduceLE, Int.reduceGT, Int.reduceGE, Int.reduceAdd, Int.reduceSub, Int.reduceNeg, Int.reduceToNat, Nat.reduceBEq, Nat.reduceEqDiff]
  refine ⟨⟨by omega, Int.le_refl _, by omega⟩, ?_⟩
  refine ES_gen fun K hK => ?_
  refine ES_loopL (fun ts F => ∃ (k : Nat), FillI a b N H F (k * (b.length + 1)) ∧ k ≤ a.length ∧
      Fr [none, none, some (.ptr 1 H.length 0 0), some (.ptr 1 (H.length + 1) 0 0), none, some (.ptr 1 (H.length + 4) 0 0), some (.fn (.func 67) [] [.ptr 1 H.length 0 0, .ptr 1 (H.length + 1) 0 0, .ptr 1 (H.length + 4) 0 0]), some (.sc (.int .i64 (k - 1))), none, none, none, none, none, none, none, none, none, none, none, none, none, none, none, none, none, none, none, none, none, none, none, none, none, none, none, none, none, none, none, none, none, none, none, none, none, none, none, none, none, none, none, none, none, none, none] ts) (fun ts _ => (intV (ts.getD 7 .top) + 1).toNat) ?_ ?_
  · refine ⟨a.length, ⟨by simp, ?_, ?_, ?_, ?_, ?_, fun id hid => ?_⟩, Nat.le_refl _, by simp [Fr]⟩
    · rw [find_past (by simp; omega), find_past (by simp; omega), find_past (by simp; omega), find_past (by simp)]; exact find_top rfl
    · rw [find_past (by simp), find_past (by simp), find_past (by simp)]; exact find_top rfl
    · rw [find_past (by simp), find_past (by simp)]; exact find_top rfl
    · rw [find_past (by simp)]; exact find_top rfl
    · exact find_top rfl
    · rw [find_past (by simp; omega), find_past (by simp; omega), find_past (by simp; omega), find_past (by simp; omega), find_past hid]
  · rintro ts F ⟨k, hI, hk, hfr⟩ L1 hL1
    obtain ⟨js, rfl⟩ := hfr.opened
    clear hfr
    obtain ⟨g1, g2, g3, g4, g5, g6, g7⟩ := id hI
    cases k with
    | zero =>
      have h1 : ¬ ((0 : Nat) : Int) - 1 ≥ 0 := by omega
      simp -implicitDefEqProofs (maxSteps := 99999999) (disch := first | omega | (simp only [AHeap.set_length, killO_length, List.length_cons, List.length_nil]; first | done | omega)) only [vu, mk, h1, va, vg, vs, vw, Nat.reduceMul, ite_true, ite_false, eq_self, forall_const, implies_true, Nat.reduceAdd, Nat.reduceSub, Nat.reduceLT, Nat.reduceLeDiff, ↓reduceIte, reduceCtorEq, Int.reduceEq, Int.reduceLT, Int.reduceLE, Int.reduceGT, Int.reduceGE, Int.reduceAdd, Int.reduceSub, Int.reduceNeg, Int.reduceToNat, Nat.reduceBEq, Nat.reduceEqDiff]
      clear hL1
      refine hK _ _ _ ?_
      clear hK
      simp -implicitDefEqProofs (maxSteps := 99999999) (disch := first | omega | (simp only [AHeap.set_length, killO_length, List.length_cons, List.length_nil]; first | done | omega)) only [vu, g6, va, vg, vs, vw, Nat.reduceMul, ite_true, ite_false, eq_self, forall_const, implies_true, Nat.reduceAdd, Nat.reduceSub, Nat.reduceLT, Nat.reduceLeDiff, ↓reduceIte, reduceCtorEq, Int.reduceEq, Int.reduceLT, Int.reduceLE, Int.reduceGT, Int.reduceGE, Int.reduceAdd, Int.reduceSub, Int.reduceNeg, Int.reduceToNat, Nat.reduceBEq, Nat.reduceEqDiff]
      have n1 : newId H.length [H.length + 2, H.length + 3] (H.length + 2) = some H.length := by
        unfold newId
        rw [if_neg (by omega)]
        simp [List.idxOf?, List.findIdx?_cons]
      have n2 : newId H.length [H.length + 2, H.length + 3] (H.length + 3) = some (H.length + 1) := by
        unfold newId
        rw [if_neg (by omega)]
        simp [List.idxOf?, List.findIdx?_cons]
      rw [Nat.zero_mul] at g4
      refine weak_gen [H.length + 2, H.length + 3] (by simp) (by simp) (by simp) (fun id k hid hk => .inl ⟨by rwa [find_past (by simp; omega), find_past hid] at hk, by rw [g7 id hid]; rwa [find_past (by simp; omega), find_past hid] at hk⟩) (fun i s k hs hk => ?_) (.ptrR n2)
      match i, hs with
      | 0, hs =>
        simp at hs
        subst hs
        rw [find_past (by simp), find_top (by simp)] at hk
        cases hk
        exact ⟨_, g4, rfl, rfl, fun h => h, tab_gz⟩
      | 1, hs =>
        simp at hs
        subst hs
        rw [find_top (by simp)] at hk
        cases hk
        exact ⟨_, g5, rfl, rfl, fun h => h, .cons (.agg (.cons (.same trivial) (.cons (.vecR n1 (.inl rfl)) .nil))) .nil⟩
      | i + 2, hs => simp at hs
    | succ i =>
      have e1 : ((i + 1 : Nat) : Int) - 1 = (i : Int) := by omega
      have h1 : (i : Int) ≥ 0 := by omega
      simp -implicitDefEqProofs (maxSteps := 99999999) (disch := first | omega | (simp only [AHeap.set_length, killO_length, List.length_cons, List.length_nil]; first | done | omega)) only [vu, mk, e1, h1, g3, strs_length, va, vg, vs, vw, Nat.reduceMul, ite_true, ite_false, eq_self, forall_const, implies_true, Nat.reduceAdd, Nat.reduceSub, Nat.reduceLT, Nat.reduceLeDiff, ↓reduceIte, reduceCtorEq, Int.reduceEq, Int.reduceLT, Int.reduceLE, Int.reduceGT, Int.reduceGE, Int.reduceAdd, Int.reduceSub, Int.reduceNeg, Int.reduceToNat, Nat.reduceBEq, Nat.reduceEqDiff]
      have m1 : (i + 1) * (b.length + 1) = i * (b.length + 1) + (b.length + 1) := by rw [Nat.add_mul]; omega
      have m2 : (i + 1) * (b.length + 1) ≤ a.length * (b.length + 1) := Nat.mul_le_mul_right _ (by omega)
      have e5 : (i : Int) * ((b.length + 1 : Nat) : Int) = ((i * (b.length + 1) : Nat) : Int) := by rw [Int.natCast_mul]
      refine ES_gen fun K2 hK2 => ?_
      refine ES_loopL (fun ts F => ∃ (m : Nat), FillI a b N H F (i * (b.length + 1) + m) ∧ m ≤ b.length ∧
        Fr [none, none, some (.ptr 1 H.length 0 0), some (.ptr 1 (H.length + 1) 0 0), none, some (.ptr 1 (H.length + 4) 0 0), some (.fn (.func 67) [] [.ptr 1 H.length 0 0, .ptr 1 (H.length + 1) 0 0, .ptr 1 (H.length + 4) 0 0]), some (.sc (.int .i64 i)), some (.sc (.int .i64 (m - 1))), none, none, none, none, none, none, none, none, none, none, none, none, none, none, none, none, none, none, none, none, none, none, none, none, none, none, none, none, none, none, none, none, none, none, none, none, none, none, none, none, none, none, none, none, none, none] ts) (fun ts _ => (intV (ts.getD 8 .top) + 1).toNat) ?_ ?_
      · exact ⟨b.length, ⟨g1, g2, g3, by rw [← tabF_edge]; exact g4, g5, g6, g7⟩, Nat.le_refl _, by simp [Fr]⟩
      clear g1 g2 g3 g4 g5 g6 g7 hI
      rintro ts F2 ⟨m, hI, hm, hfr⟩ L2 hL2
      obtain ⟨js2, rfl⟩ := hfr.opened
      clear hfr
      obtain ⟨g1, g2, g3, g4, g5, g6, g7⟩ := id hI
      cases m with
      | zero =>
        have h2 : ¬ ((0 : Nat) : Int) - 1 ≥ 0 := by omega
        simp -implicitDefEqProofs (maxSteps := 99999999) (disch := first | omega | (simp only [AHeap.set_length, killO_length, List.length_cons, List.length_nil]; first | done | omega)) only [vu, mk, h2, va, vg, vs, vw, Nat.reduceMul, ite_true, ite_false, eq_self, forall_const, implies_true, Nat.reduceAdd, Nat.reduceSub, Nat.reduceLT, Nat.reduceLeDiff, ↓reduceIte, reduceCtorEq, Int.reduceEq, Int.reduceLT, Int.reduceLE, Int.reduceGT, Int.reduceGE, Int.reduceAdd, Int.reduceSub, Int.reduceNeg, Int.reduceToNat, Nat.reduceBEq, Nat.reduceEqDiff]
        clear hL2
        refine hK2 _ _ _ ?_
        clear hK2
        simp -implicitDefEqProofs (maxSteps := 99999999) (disch := first | omega | (simp only [AHeap.set_length, killO_length, List.length_cons, List.length_nil]; first | done | omega)) only [vu, va, vg, vs, vw, Nat.reduceMul, ite_true, ite_false, eq_self, forall_const, implies_true, Nat.reduceAdd, Nat.reduceSub, Nat.reduceLT, Nat.reduceLeDiff, ↓reduceIte, reduceCtorEq, Int.reduceEq, Int.reduceLT, Int.reduceLE, Int.reduceGT, Int.reduceGE, Int.reduceAdd, Int.reduceSub, Int.reduceNeg, Int.reduceToNat, Nat.reduceBEq, Nat.reduceEqDiff]
        refine hL1 _ _ ⟨i, hI, by omega, by simp [Fr]⟩ ?_
        simp [mk, intV]
      | succ j =>
        have e6 : ((j + 1 : Nat) : Int) - 1 = (j : Int) := by omega
        have h2 : (j : Int) ≥ 0 := by omega
        have e7 : ((i * (b.length + 1) : Nat) : Int) + (j : Int) = ((i * (b.length + 1) + j : Nat) : Int) := by omega
        have hbest := best_d (p := i * (b.length + 1) + (j + 1)) g2 g3 g6 (by rw [← hNe]; exact g5) (by rw [← hNe]; exact g4) hla hlb (i := i) (j := j) (by omega) (by omega) (by omega)
        unfold tblB at g5
        simp -implicitDefEqProofs (maxSteps := 99999999) (disch := first | omega | (simp only [AHeap.set_length, killO_length, List.length_cons, List.length_nil]; first | done | omega)) only [vu, mk, e6, h2, g4, g5, g6, e5, e7, tabL_length, va, vg, vs, vw, Nat.reduceMul, ite_true, ite_false, eq_self, forall_const, implies_true, Nat.reduceAdd, Nat.reduceSub, Nat.reduceLT, Nat.reduceLeDiff, ↓reduceIte, reduceCtorEq, Int.reduceEq, Int.reduceLT, Int.reduceLE, Int.reduceGT, Int.reduceGE, Int.reduceAdd, Int.reduceSub, Int.reduceNeg, Int.reduceToNat, Nat.reduceBEq, Nat.reduceEqDiff]
        refine ⟨by kernel_rfl, callD_same hbest ?_⟩
        have hlt : i * (b.length + 1) + j < N := by omega
        have e8 : ((i * (b.length + 1) + j : Nat) : Int).toNat = i * (b.length + 1) + j := Int.toNat_natCast _
        have eq : (i * (b.length + 1) + j) / (b.length + 1) = i := by
          rw [Nat.add_comm, Nat.add_mul_div_right _ _ (by omega), Nat.div_eq_of_lt (by omega), Nat.zero_add]
        have er : (i * (b.length + 1) + j) % (b.length + 1) = j := by
          rw [Nat.add_comm, Nat.add_mul_mod_self_right, Nat.mod_eq_of_lt (by omega)]
        have hT : (tabL N (tabF a b (i * (b.length + 1) + (j + 1)))).set (i * (b.length + 1) + j) (.sc (.int .u16 (lcd a b i j))) = tabL N (tabF a b (i * (b.length + 1) + j)) := by
          rw [tabL_set, ← tabF_step N, eq, er]
          rfl
        have hg := tabL_get (f := tabF a b (i * (b.length + 1) + (j + 1))) hlt
        simp -implicitDefEqProofs (maxSteps := 99999999) (disch := first | omega | (simp only [AHeap.set_length, killO_length, List.length_cons, List.length_nil]; first | done | omega)) only [vu, g4, g5, g6, tabL_length, e8, hg, hT, va, vg, vs, vw, Nat.reduceMul, ite_true, ite_false, eq_self, forall_const, implies_true, Nat.reduceAdd, Nat.reduceSub, Nat.reduceLT, Nat.reduceLeDiff, ↓reduceIte, reduceCtorEq, Int.reduceEq, Int.reduceLT, Int.reduceLE, Int.reduceGT, Int.reduceGE, Int.reduceAdd, Int.reduceSub, Int.reduceNeg, Int.reduceToNat, Nat.reduceBEq, Nat.reduceEqDiff]
        refine ⟨⟨by omega, by omega⟩, hlt, hL2 _ _ ⟨j, hI.step _, by omega, by simp [Fr]⟩ ?_⟩
        simp [mk, intV]
end Go.Proofs.Ytigmpablpmanpaa
