/- The document's Split. -/
import Derived.Test.YtigmpablpmanpaaS126
import Derived.Test.YtigmpablpmanpaaV34
namespace Go.Proofs.Ytigmpablpmanpaa
open Go.RowKit
set_option maxRecDepth 100000
set_option linter.unusedVariables false
set_option linter.unusedSimpArgs false

theorem byte_line (s : ByteArray) {k j : Nat} (h : k < (lns s).length) (hj : j < (nthS (lns s) k).size) : (nthS (lns s) k).data.toList[j]? = some (s.data.getD (atS s k + j) 0) := by
  have hst := atS_step s h
  have hle := atS_le s (k := k + 1) (by omega)
  have h1 : (s.data.toList.drop (atS s k))[j]? = s.data.toList[atS s k + j]? := List.getElem?_drop
  rw [drop_at s h, List.getElem?_append_left (by rw [bytes_len]; exact hj), nthL s (by omega)] at h1
  exact h1
theorem byte_in (s : ByteArray) {k i : Nat} (h : k < (lns s).length) (h1 : atS s k ≤ i) (h2 : i + 1 < atS s (k + 1)) : s.data.getD i 0 ≠ 10 := by
  have hst := atS_step s h
  have hb := byte_line s h (j := i - atS s k) (by omega)
  rw [show atS s k + (i - atS s k) = i from by omega] at hb
  rcases line_shape s h with ⟨b, h3, h4⟩ | ⟨h3, _⟩
  · have hl := congrArg List.length h3
    rw [bytes_len] at hl
    simp at hl
    rw [h3, List.getElem?_append_left (by omega)] at hb
    exact h4 _ (List.mem_of_getElem? hb)
  · exact h3 _ (List.mem_of_getElem? hb)
theorem byte_end (s : ByteArray) {k i : Nat} (h : k < (lns s).length) (h2 : i + 1 = atS s (k + 1)) : s.data.getD i 0 = 10 ∨ k + 1 = (lns s).length := by
  have hst := atS_step s h
  have hb := byte_line s h (j := i - atS s k) (by omega)
  rw [show atS s k + (i - atS s k) = i from by omega] at hb
  rcases line_shape s h with ⟨b, h3, h4⟩ | ⟨_, h3⟩
  · left
    have hl := congrArg List.length h3
    rw [bytes_len] at hl
    simp at hl
    rw [h3, List.getElem?_append_right (by omega), show i - atS s k - b.length = 0 from by omega] at hb
    simpa using hb.symm
  · exact .inr h3
theorem ext_app (s : ByteArray) {a i j : Nat} (h1 : a ≤ i) (h2 : i ≤ j) : s.extract a i ++ s.extract i j = s.extract a j := by
  apply ByteArray.ext
  rw [ByteArray.data_append, ByteArray.data_extract, ByteArray.data_extract, ByteArray.data_extract, Array.extract_append_extract, Nat.min_eq_left h1, Nat.max_eq_right h2]
theorem ext_nil (s : ByteArray) (a : Nat) : s.extract a a = ⟨#[]⟩ := by
  apply ByteArray.ext
  rw [ByteArray.data_extract]
  simp
  omega
theorem nth_ext (s : ByteArray) {k : Nat} (h : k < (lns s).length) : nthS (lns s) k = s.extract (atS s k) (atS s (k + 1)) := by
  obtain ⟨_, c, _, _, h4, h5, _⟩ := line_at s h
  rw [h5, h4]

theorem refSplit_d (s : ByteArray) (hs : s.size ≤ 10000000) (H : AHeap) : D Try.prog 23 [.sc (.string s)] H (.ret (.lst 1 (strs (lns s)) none)) H := by
  refine D_of_DK (Nat.le_refl _) (dk23 (E_of_ES ?_))
  simp -implicitDefEqProofs (maxSteps := 99999999) (disch := omega) only [vu, ic23, va, vg, vs, vh, Nat.reduceMul, ite_true, ite_false, eq_self, forall_const, implies_true, Nat.reduceAdd, Nat.reduceSub, Nat.reduceLT, Nat.reduceLeDiff, ↓reduceIte, reduceCtorEq, Int.reduceEq, Int.reduceLT, Int.reduceLE, Int.reduceGT, Int.reduceGE, Int.reduceAdd, Int.reduceSub, Int.reduceNeg, Int.reduceToNat, Nat.reduceBEq, Nat.reduceEqDiff]
  have hll := lns_le s
  refine ES_gen fun K hK => ?_
  refine ES_loopL (fun ts F => ∃ (k i io : Nat), (k ≤ (lns s).length ∧ atS s k ≤ i ∧ i ≤ s.size ∧ (k < (lns s).length → i < atS s (k + 1) ∨ (i = s.size ∧ k + 1 = (lns s).length)) ∧ (k = (lns s).length → i = s.size)) ∧
      ((strs ((lns s).take k) ≠ [] → AHeap.find F io = OwnB 1 9 (strs ((lns s).take k)) ∧ H.length ≤ io) ∧ (∀ id, id < H.length → AHeap.find F id = AHeap.find H id) ∧ H.length ≤ F.length) ∧
      Fr [some (.sc (.string s)), none, none, some (OwnV 1 (strs ((lns s).take k)) io), some (.sc (.string (s.extract (atS s k) i))), some (.sc (.int .i64 i)), none, none, none, none, none, none, none, none, none, none, none, none, none, none, none, none, none, none, none, none, none, none, none, none, none, none, none, none] ts) (fun ts _ => s.size - (intV (ts.getD 5 .top)).toNat) ?_ ?_
  · refine ⟨0, 0, 0, ⟨Nat.zero_le _, by rw [atS_zero]; exact Nat.le_refl _, Nat.zero_le _, fun h => ?_, fun h => ?_⟩, ⟨fun h => (h rfl).elim, fun _ _ => rfl, Nat.le_refl _⟩, by simp [Fr, atS_zero, ext_nil, strs_nil, OwnV_nil]; rfl⟩
    · have := atS_step s h; left; omega
    · have := atS_end s; rw [← h, atS_zero] at this; exact this
  · rintro ts F ⟨k, i, io, ⟨hk, hi0, hi1, hi2, hi3⟩, ⟨m1, m2, m3⟩, hfr⟩ L hL
    obtain ⟨js, rfl⟩ := hfr.opened
    clear hfr
    have fo : strs ((lns s).take k) ≠ [] → AHeap.find F io = OwnB 1 9 (strs ((lns s).take k)) := fun e => (m1 e).1
    have lo : (strs ((lns s).take k)).length = k := by rw [strs_length, List.length_take]; omega
    by_cases h1 : i < s.size
    · have h1' : (i : Int) < s.size := by omega
      have hkn : k < (lns s).length := by
        rcases Nat.lt_or_ge k (lns s).length with h | h
        · exact h
        · have := hi3 (by omega); omega
      have hlt : i < atS s (k + 1) := by rcases hi2 hkn with h | h <;> omega
      have hle := atS_le s (k := k + 1) (by omega)
      have hea := ext_app s (a := atS s k) (i := i) (j := i + 1) hi0 (by omega)
      have e1t : ((i : Int) + 1).toNat = i + 1 := by omega
      have hfit : fits ((s.extract (atS s k) i).size + (s.extract i (i + 1)).size) = true := by
        rw [ByteArray.size_extract, ByteArray.size_extract]
        have : (min i s.size - atS s k + (min (i + 1) s.size - i)) ≤ 100000000 := by omega
        exact fits_le (by omega)
      by_cases hb : s.data.getD i 0 = 10
      · have hb' : (((s.data.getD i 0).toNat : Nat) : Int) = 10 := (byte10 _).2 hb
        have hen : i + 1 = atS s (k + 1) := by
          rcases Nat.lt_or_ge (i + 1) (atS s (k + 1)) with h | h
          · exact absurd hb (byte_in s hkn hi0 h)
          · omega
        obtain ⟨io1, G1, p1, p2, p3, p4, p5, p6⟩ := apAny (k := 1) (ty := 9) (ys := [AV.sc (.string (s.extract (atS s k) (i + 1)))]) fo (by rw [lo]; simp; omega)
        have hap : strs ((lns s).take k) ++ [AV.sc (.string (s.extract (atS s k) (i + 1)))] = strs ((lns s).take (k + 1)) := by
          rw [hen, ← nth_ext s hkn, ← take_nth hkn]
          simp [strs]
        rw [hap] at p2 p4
        simp -implicitDefEqProofs (maxSteps := 99999999) (disch := first | omega | (simp only [AHeap.set_length, killO_length, List.length_cons, List.length_nil]; first | done | omega)) only [vu, mk, h1', e1t, hfit, hea, hb', p1, p2, p3, va, vg, vs, vw, Nat.reduceMul, ite_true, ite_false, eq_self, forall_const, implies_true, Nat.reduceAdd, Nat.reduceSub, Nat.reduceLT, Nat.reduceLeDiff, ↓reduceIte, reduceCtorEq, Int.reduceEq, Int.reduceLT, Int.reduceLE, Int.reduceGT, Int.reduceGE, Int.reduceAdd, Int.reduceSub, Int.reduceNeg, Int.reduceToNat, Nat.reduceBEq, Nat.reduceEqDiff]
        refine ⟨⟨by omega, by omega, by omega, by omega⟩, by omega, hL _ _ ⟨k + 1, i + 1, io1, ⟨by omega, by omega, by omega, fun h => ?_, fun h => ?_⟩, ⟨fun h => ⟨(p4 h).1, by have := (p4 h).2; omega⟩, fun id hid => ?_, by omega⟩, by simp [Fr, ← hen, ext_nil]; rfl⟩ (by simp [mk, intV]; omega)⟩
        · have := atS_step s h
          left; omega
        · have := atS_end s
          rw [← h] at this
          omega
        · rw [p6 id (by omega) (fun e => by have := (m1 e).2; omega)]
          exact m2 id hid
      · have hb' : ¬ (((s.data.getD i 0).toNat : Nat) : Int) = 10 := fun h => hb ((byte10 _).1 h)
        simp -implicitDefEqProofs (maxSteps := 99999999) (disch := first | omega | (simp only [AHeap.set_length, killO_length, List.length_cons, List.length_nil]; first | done | omega)) only [vu, mk, h1', e1t, hfit, hea, hb', va, vg, vs, vw, Nat.reduceMul, ite_true, ite_false, eq_self, forall_const, implies_true, Nat.reduceAdd, Nat.reduceSub, Nat.reduceLT, Nat.reduceLeDiff, ↓reduceIte, reduceCtorEq, Int.reduceEq, Int.reduceLT, Int.reduceLE, Int.reduceGT, Int.reduceGE, Int.reduceAdd, Int.reduceSub, Int.reduceNeg, Int.reduceToNat, Nat.reduceBEq, Nat.reduceEqDiff]
        refine ⟨⟨by omega, by omega, by omega, by omega⟩, by omega, hL _ _ ⟨k, i + 1, io, ⟨by omega, by omega, by omega, fun h => ?_, fun h => by omega⟩, ⟨m1, m2, m3⟩, by simp [Fr]⟩ (by simp [mk, intV]; omega)⟩
        rcases Nat.lt_or_ge (i + 1) (atS s (k + 1)) with h2 | h2
        · exact .inl h2
        · rcases byte_end s hkn (i := i) (by omega) with h3 | h3
          · exact absurd h3 hb
          · refine .inr ⟨?_, h3⟩
            have := atS_end s
            rw [← h3] at this
            omega
    · have : i = s.size := by omega
      subst this
      have h1' : ¬ (s.size : Int) < s.size := by omega
      simp -implicitDefEqProofs (maxSteps := 99999999) (disch := first | omega | (simp only [AHeap.set_length, killO_length, List.length_cons, List.length_nil]; first | done | omega)) only [vu, mk, h1', va, vg, vs, vw, Nat.reduceMul, ite_true, ite_false, eq_self, forall_const, implies_true, Nat.reduceAdd, Nat.reduceSub, Nat.reduceLT, Nat.reduceLeDiff, ↓reduceIte, reduceCtorEq, Int.reduceEq, Int.reduceLT, Int.reduceLE, Int.reduceGT, Int.reduceGE, Int.reduceAdd, Int.reduceSub, Int.reduceNeg, Int.reduceToNat, Nat.reduceBEq, Nat.reduceEqDiff]
      clear hL
      refine hK _ _ _ ?_
      clear hK
      rcases Nat.lt_or_ge k (lns s).length with hkn | hkn
      · have hk1 : k + 1 = (lns s).length := by
          have := atS_le s (k := k + 1) (by omega)
          rcases hi2 hkn with h | h
          · omega
          · exact h.2
        have hen : atS s (k + 1) = s.size := by rw [hk1, atS_end]
        have hnt := nth_ext s hkn
        rw [hen] at hnt
        have hst := atS_step s hkn
        have hne : ¬ s.extract (atS s k) s.size = ⟨#[]⟩ := fun e => by
          rw [← hnt] at e
          rw [e] at hst
          have := hst.2
          exact absurd this (by decide)
        obtain ⟨io1, G1, p1, p2, p3, p4, p5, p6⟩ := apAny (k := 1) (ty := 9) (ys := [AV.sc (.string (s.extract (atS s k) s.size))]) fo (by rw [lo]; simp; omega)
        have hap : strs ((lns s).take k) ++ [AV.sc (.string (s.extract (atS s k) s.size))] = strs (lns s) := by
          rw [← hnt, show strs ((lns s).take k) ++ [AV.sc (.string (nthS (lns s) k))] = strs ((lns s).take k ++ [nthS (lns s) k]) from by simp [strs], take_nth hkn, hk1, List.take_length]
        rw [hap] at p2 p4
        simp -implicitDefEqProofs (maxSteps := 99999999) (disch := first | omega | (simp only [AHeap.set_length, killO_length, List.length_cons, List.length_nil]; first | done | omega)) only [vu, hne, p1, p2, p3, va, vg, vs, vw, Nat.reduceMul, ite_true, ite_false, eq_self, forall_const, implies_true, Nat.reduceAdd, Nat.reduceSub, Nat.reduceLT, Nat.reduceLeDiff, ↓reduceIte, reduceCtorEq, Int.reduceEq, Int.reduceLT, Int.reduceLE, Int.reduceGT, Int.reduceGE, Int.reduceAdd, Int.reduceSub, Int.reduceNeg, Int.reduceToNat, Nat.reduceBEq, Nat.reduceEqDiff]
        refine weak_frz (fun id hid => ?_) (OwnV_fz (ty := 9) (fun h => by have := (p4 h).2; unfold newId; rw [if_neg (by omega)]; rfl) (fun h => (p4 h).1) strs_gzL)
        rw [p6 id (by omega) (fun e => by have := (m1 e).2; omega)]
        exact m2 id hid
      · have hk1 : k = (lns s).length := by omega
        subst hk1
        rw [List.take_length] at *
        rw [atS_end, ext_nil]
        simp -implicitDefEqProofs (maxSteps := 99999999) (disch := first | omega | (simp only [AHeap.set_length, killO_length, List.length_cons, List.length_nil]; first | done | omega)) only [vu, va, vg, vs, vw, Nat.reduceMul, ite_true, ite_false, eq_self, forall_const, implies_true, Nat.reduceAdd, Nat.reduceSub, Nat.reduceLT, Nat.reduceLeDiff, ↓reduceIte, reduceCtorEq, Int.reduceEq, Int.reduceLT, Int.reduceLE, Int.reduceGT, Int.reduceGE, Int.reduceAdd, Int.reduceSub, Int.reduceNeg, Int.reduceToNat, Nat.reduceBEq, Nat.reduceEqDiff]
        exact weak_frz m2 (OwnV_fz (ty := 9) (fun h => by have := (m1 h).2; unfold newId; rw [if_neg (by omega)]; rfl) (fun h => (m1 h).1) strs_gzL)
end Go.Proofs.Ytigmpablpmanpaa
