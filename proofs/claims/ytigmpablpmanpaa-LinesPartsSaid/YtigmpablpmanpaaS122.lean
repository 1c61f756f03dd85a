/- strings.Count, strings.LastIndexByte; lines.Place; the document's Place. -/
import Derived.Test.YtigmpablpmanpaaS121
namespace Go.Proofs.Ytigmpablpmanpaa
open Go.RowKit
set_option maxRecDepth 100000
set_option linter.unusedVariables false
set_option linter.unusedSimpArgs false

theorem sz_nl : (⟨#[10]⟩ : ByteArray).size = 1 := rfl
theorem count_d (s : ByteArray) (H : AHeap) : D Try.prog 39 [.sc (.string s), .sc (.string ⟨#[10]⟩)] H (.ret (.sc (.int .i64 (s.data.toList.count 10 : Nat)))) H := by
  refine D_of_DK (Nat.le_refl _) (dk39 (E_of_ES ?_))
  simp -implicitDefEqProofs (maxSteps := 99999999) (disch := omega) only [vu, sz_nl, ic39, va, vg, vs, vh, Nat.reduceMul, ite_true, ite_false, eq_self, forall_const, implies_true, Nat.reduceAdd, Nat.reduceSub, Nat.reduceLT, Nat.reduceLeDiff, ↓reduceIte, reduceCtorEq, Int.reduceEq, Int.reduceLT, Int.reduceLE, Int.reduceGT, Int.reduceGE, Int.reduceAdd, Int.reduceSub, Int.reduceNeg, Int.reduceToNat, Nat.reduceBEq, Nat.reduceEqDiff]
  exact weak_sc .refl

/-- Line and column behind some bytes. -/
def plc (l : List UInt8) : Nat × Nat := l.foldl (fun p b => if b = 10 then (p.1 + 1, 0) else (p.1, p.2 + 1)) (0, 0)
theorem plc_nil : plc [] = (0, 0) := rfl
theorem plc_snoc (l : List UInt8) (b : UInt8) : plc (l ++ [b]) = if b = 10 then ((plc l).1 + 1, 0) else ((plc l).1, (plc l).2 + 1) := by
  unfold plc
  rw [List.foldl_append]
  rfl
theorem plc_count (l : List UInt8) : (plc l).1 = l.count 10 := by
  have key : ∀ (l : List UInt8) (p : Nat × Nat), (l.foldl (fun p b => if b = 10 then (p.1 + 1, 0) else (p.1, p.2 + 1)) p).1 = p.1 + l.count 10 := by
    intro l
    induction l with
    | nil => intro p; simp
    | cons b r ih =>
      intro p
      rw [List.foldl_cons, ih, List.count_cons]
      by_cases h : b = 10
      · simp [h]; omega
      · simp [h]
  have := key l (0, 0)
  simpa [plc] using this
theorem plc_free (l : List UInt8) (h : ∀ b ∈ l, b ≠ 10) (p : Nat × Nat) : l.foldl (fun p b => if b = 10 then (p.1 + 1, 0) else (p.1, p.2 + 1)) p = (p.1, p.2 + l.length) := by
  induction l generalizing p with
  | nil => simp
  | cons b r ih =>
    rw [List.foldl_cons, if_neg (h b (by simp)), ih (fun c hc => h c (by simp [hc]))]
    simp
    omega
theorem col_none {l : List UInt8} (h : ∀ b ∈ l, b ≠ 10) : (plc l).2 = l.length := by
  unfold plc
  rw [plc_free l h]
  simp
theorem col_hit {l : List UInt8} {i : Nat} (hi : l[i]? = some 10) (h : ∀ b ∈ l.drop (i + 1), b ≠ 10) : (plc l).2 = l.length - 1 - i := by
  have hl := (List.getElem?_eq_some_iff.1 hi).1
  have e : l = (l.take i ++ [10]) ++ l.drop (i + 1) := by
    have h1 : l.drop i = l[i] :: l.drop (i + 1) := List.drop_eq_getElem_cons hl
    have h2 : l[i] = 10 := by rw [List.getElem?_eq_getElem hl] at hi; exact Option.some.inj hi
    rw [List.append_assoc, List.singleton_append, ← h2, ← h1, List.take_append_drop]
  have h3 : plc l = ((plc (l.take i ++ [10])).1, (plc (l.take i ++ [10])).2 + (l.drop (i + 1)).length) := by
    conv => lhs; rw [e]
    unfold plc
    rw [List.foldl_append]
    exact plc_free _ h _
  rw [h3, plc_snoc, if_pos rfl]
  simp
  omega
theorem nthL (s : ByteArray) {k : Nat} (h : k < s.size) : s.data.toList[k]? = some (s.data.getD k 0) := by
  have hk : k < s.data.size := h
  rw [Array.getElem?_toList, Array.getD_eq_getD_getElem?, Array.getElem?_eq_getElem hk]
  rfl
theorem byte10 (b : UInt8) : ((b.toNat : Nat) : Int) = 10 ↔ b = 10 := by
  constructor
  · intro h
    apply UInt8.toNat_inj.1
    show b.toNat = 10
    omega
  · intro h; subst h; rfl

theorem lastB_d (s : ByteArray) (hs : s.size ≤ 100000000) (H : AHeap) : D Try.prog 56 [.sc (.string s), .sc (.int .u8 10)] H (.ret (.sc (.int .i64 ((s.size : Int) - 1 - (plc s.data.toList).2)))) H := by
  refine D_of_DK (Nat.le_refl _) (dk56 (E_of_ES ?_))
  simp -implicitDefEqProofs (maxSteps := 99999999) (disch := omega) only [vu, ic56, va, vg, vs, vh, Nat.reduceMul, ite_true, ite_false, eq_self, forall_const, implies_true, Nat.reduceAdd, Nat.reduceSub, Nat.reduceLT, Nat.reduceLeDiff, ↓reduceIte, reduceCtorEq, Int.reduceEq, Int.reduceLT, Int.reduceLE, Int.reduceGT, Int.reduceGE, Int.reduceAdd, Int.reduceSub, Int.reduceNeg, Int.reduceToNat, Nat.reduceBEq, Nat.reduceEqDiff]
  refine ES_loop (fun ts H' => H' = H ∧ ∃ k : Nat, (k ≤ s.size ∧ ∀ b ∈ s.data.toList.drop k, b ≠ 10) ∧ Fr [some (.sc (.string s)), some (.sc (.int .u8 10)), none, none, none, some (.sc (.int .i64 ((k : Int) - 1))), none, none, none, none, none, none, none, none, none, none, none, none, none] ts) (fun ts _ => (intV (ts.getD 5 .top) + 1).toNat) ?_ ?_
  · exact ⟨rfl, s.size, ⟨Nat.le_refl _, fun b hb => by rw [List.drop_of_length_le (by rw [bytes_len]; exact Nat.le_refl _)] at hb; simp at hb⟩, by simp [Fr]⟩
  rintro ts _ ⟨rfl, k, ⟨hk, hp⟩, hfr⟩
  obtain ⟨js, rfl⟩ := hfr.opened
  clear hfr
  simp -implicitDefEqProofs (maxSteps := 99999999) (disch := omega) only [vu, mk, va, vg, vs, vh, Nat.reduceMul, ite_true, ite_false, eq_self, forall_const, implies_true, Nat.reduceAdd, Nat.reduceSub, Nat.reduceLT, Nat.reduceLeDiff, ↓reduceIte, reduceCtorEq, Int.reduceEq, Int.reduceLT, Int.reduceLE, Int.reduceGT, Int.reduceGE, Int.reduceAdd, Int.reduceSub, Int.reduceNeg, Int.reduceToNat, Nat.reduceBEq, Nat.reduceEqDiff]
  refine condR_if (fun h => ?_) (fun h => ?_)
  · simp -implicitDefEqProofs (maxSteps := 99999999) (disch := omega) only [vu, va, vg, vs, vh, Nat.reduceMul, ite_true, ite_false, eq_self, forall_const, implies_true, Nat.reduceAdd, Nat.reduceSub, Nat.reduceLT, Nat.reduceLeDiff, ↓reduceIte, reduceCtorEq, Int.reduceEq, Int.reduceLT, Int.reduceLE, Int.reduceGT, Int.reduceGE, Int.reduceAdd, Int.reduceSub, Int.reduceNeg, Int.reduceToNat, Nat.reduceBEq, Nat.reduceEqDiff]
    refine ⟨⟨by omega, by omega⟩, condR_if (fun h1 => ?_) (fun h1 => ?_)⟩
    · simp -implicitDefEqProofs (maxSteps := 99999999) (disch := omega) only [vu, va, vg, vs, vh, Nat.reduceMul, ite_true, ite_false, eq_self, forall_const, implies_true, Nat.reduceAdd, Nat.reduceSub, Nat.reduceLT, Nat.reduceLeDiff, ↓reduceIte, reduceCtorEq, Int.reduceEq, Int.reduceLT, Int.reduceLE, Int.reduceGT, Int.reduceGE, Int.reduceAdd, Int.reduceSub, Int.reduceNeg, Int.reduceToNat, Nat.reduceBEq, Nat.reduceEqDiff]
      have hi := nthL s (show ((k : Int) - 1).toNat < s.size by omega)
      rw [(byte10 _).1 h1] at hi
      have hk1 : ((k : Int) - 1).toNat + 1 = k := by omega
      have := col_hit hi (by rw [hk1]; exact hp)
      rw [bytes_len] at this
      rw [this, show (s.size : Int) - 1 - ((s.size - 1 - ((k : Int) - 1).toNat : Nat) : Int) = (k : Int) - 1 from by omega]
      exact weak_sc .refl
    · simp -implicitDefEqProofs (maxSteps := 99999999) (disch := omega) only [vu, va, vg, vs, vh, Nat.reduceMul, ite_true, ite_false, eq_self, forall_const, implies_true, Nat.reduceAdd, Nat.reduceSub, Nat.reduceLT, Nat.reduceLeDiff, ↓reduceIte, reduceCtorEq, Int.reduceEq, Int.reduceLT, Int.reduceLE, Int.reduceGT, Int.reduceGE, Int.reduceAdd, Int.reduceSub, Int.reduceNeg, Int.reduceToNat, Nat.reduceBEq, Nat.reduceEqDiff]
      have hi := nthL s (show ((k : Int) - 1).toNat < s.size by omega)
      have hk1 : ((k : Int) - 1).toNat + 1 = k := by omega
      refine ⟨⟨k - 1, ⟨by omega, fun b hb => ?_⟩, by simp [Fr]; omega⟩, by omega⟩
      have hl := (List.getElem?_eq_some_iff.1 hi)
      obtain ⟨hl1, hl2⟩ := hl
      have hkk : k - 1 = ((k : Int) - 1).toNat := by omega
      rw [hkk, List.drop_eq_getElem_cons hl1, hk1] at hb
      rcases List.mem_cons.1 hb with rfl | hb
      · rw [hl2]
        exact fun e => h1 ((byte10 _).2 e)
      · exact hp b hb
  · have hk0 : k = 0 := by omega
    subst hk0
    simp -implicitDefEqProofs (maxSteps := 99999999) (disch := omega) only [vu, va, vg, vs, vh, Nat.reduceMul, ite_true, ite_false, eq_self, forall_const, implies_true, Nat.reduceAdd, Nat.reduceSub, Nat.reduceLT, Nat.reduceLeDiff, ↓reduceIte, reduceCtorEq, Int.reduceEq, Int.reduceLT, Int.reduceLE, Int.reduceGT, Int.reduceGE, Int.reduceAdd, Int.reduceSub, Int.reduceNeg, Int.reduceToNat, Nat.reduceBEq, Nat.reduceEqDiff]
    have := col_none hp
    rw [List.drop_zero, bytes_len] at this
    rw [this, show (s.size : Int) - 1 - s.size = -1 from by omega]
    exact weak_sc .refl

theorem lastI_d (s : ByteArray) (hs : s.size ≤ 100000000) (H : AHeap) : D Try.prog 40 [.sc (.string s), .sc (.int .u8 10)] H (.ret (.sc (.int .i64 ((s.size : Int) - 1 - (plc s.data.toList).2)))) H := by
  refine D_of_DK (Nat.le_refl _) (dk40 (E_of_ES ?_))
  simp -implicitDefEqProofs (maxSteps := 99999999) (disch := omega) only [vu, ic40, va, vg, vs, vh, Nat.reduceMul, ite_true, ite_false, eq_self, forall_const, implies_true, Nat.reduceAdd, Nat.reduceSub, Nat.reduceLT, Nat.reduceLeDiff, ↓reduceIte, reduceCtorEq, Int.reduceEq, Int.reduceLT, Int.reduceLE, Int.reduceGT, Int.reduceGE, Int.reduceAdd, Int.reduceSub, Int.reduceNeg, Int.reduceToNat, Nat.reduceBEq, Nat.reduceEqDiff]
  refine callR_ret (lastB_d s hs _) ?_
  simp -implicitDefEqProofs (maxSteps := 99999999) (disch := omega) only [vu, va, vg, vs, vh, Nat.reduceMul, ite_true, ite_false, eq_self, forall_const, implies_true, Nat.reduceAdd, Nat.reduceSub, Nat.reduceLT, Nat.reduceLeDiff, ↓reduceIte, reduceCtorEq, Int.reduceEq, Int.reduceLT, Int.reduceLE, Int.reduceGT, Int.reduceGE, Int.reduceAdd, Int.reduceSub, Int.reduceNeg, Int.reduceToNat, Nat.reduceBEq, Nat.reduceEqDiff]
  exact weak_sc .refl
theorem plc_le (l : List UInt8) : (plc l).1 ≤ l.length ∧ (plc l).2 ≤ l.length := by
  have key : ∀ (l : List UInt8) (p : Nat × Nat), (l.foldl (fun p b => if b = 10 then (p.1 + 1, 0) else (p.1, p.2 + 1)) p).1 ≤ p.1 + l.length ∧ (l.foldl (fun p b => if b = 10 then (p.1 + 1, 0) else (p.1, p.2 + 1)) p).2 ≤ p.2 + l.length := by
    intro l
    induction l with
    | nil => intro p; simp
    | cons b r ih =>
      intro p
      rw [List.foldl_cons]
      obtain ⟨h1, h2⟩ := ih (if b = 10 then (p.1 + 1, 0) else (p.1, p.2 + 1))
      by_cases h : b = 10
      · rw [if_pos h] at h1 h2 ⊢
        simp at h1 h2 ⊢
        omega
      · rw [if_neg h] at h1 h2 ⊢
        simp at h1 h2 ⊢
        omega
  have := key l (0, 0)
  simpa [plc] using this
/-- How far a place reaches. -/
def clampN (n : Nat) (at_ : Int) : Nat := (if (n : Int) < if 0 > at_ then 0 else at_ then (n : Int) else if 0 > at_ then 0 else at_).toNat
theorem clamp_eq (n : Nat) (at_ : Int) : (if (n : Int) < if 0 > at_ then 0 else at_ then (n : Int) else if 0 > at_ then 0 else at_) = ((clampN n at_ : Nat) : Int) := by
  unfold clampN
  split <;> split <;> omega
theorem clamp_le (n : Nat) (at_ : Int) : clampN n at_ ≤ n := by
  unfold clampN
  split <;> split <;> omega
theorem clamp_at {n k : Nat} (h : k ≤ n) : clampN n (k : Int) = k := by
  unfold clampN
  split <;> split <;> omega
def plcS (s : ByteArray) (at_ : Int) : Nat × Nat := plc (s.data.toList.take (clampN s.size at_))
theorem extract0_list (s : ByteArray) (b : Nat) : (s.extract 0 b).data.toList = s.data.toList.take b := by rw [extract_list]; simp
theorem place_d (s : ByteArray) (hs : s.size ≤ 100000000) (at_ : Int) (H : AHeap) : D Try.prog 16 [.sc (.string s), .sc (.int .i64 at_)] H (.ret (.tup [.sc (.int .i64 (plcS s at_).1), .sc (.int .i64 (plcS s at_).2)])) H := by
  refine D_of_DK (Nat.le_refl _) (dk16 (E_of_ES ?_))
  simp -implicitDefEqProofs (maxSteps := 99999999) (disch := omega) only [vu, clamp_eq, ic16, va, vg, vs, vh, Nat.reduceMul, ite_true, ite_false, eq_self, forall_const, implies_true, Nat.reduceAdd, Nat.reduceSub, Nat.reduceLT, Nat.reduceLeDiff, ↓reduceIte, reduceCtorEq, Int.reduceEq, Int.reduceLT, Int.reduceLE, Int.reduceGT, Int.reduceGE, Int.reduceAdd, Int.reduceSub, Int.reduceNeg, Int.reduceToNat, Nat.reduceBEq, Nat.reduceEqDiff]
  have hle := clamp_le s.size at_
  obtain ⟨t, ht⟩ : ∃ t, t = s.extract 0 (clampN s.size at_) := ⟨_, rfl⟩
  have htl : t.data.toList = s.data.toList.take (clampN s.size at_) := by rw [ht]; exact extract0_list _ _
  have hts : t.size ≤ s.size := by rw [ht, ByteArray.size_extract]; omega
  rw [← ht]
  have hp := plc_le t.data.toList
  rw [bytes_len] at hp
  refine ⟨⟨by omega, by omega, by omega⟩, callR_ret (count_d t _) ?_⟩
  simp -implicitDefEqProofs (maxSteps := 99999999) (disch := omega) only [vu, va, vg, vs, vh, Nat.reduceMul, ite_true, ite_false, eq_self, forall_const, implies_true, Nat.reduceAdd, Nat.reduceSub, Nat.reduceLT, Nat.reduceLeDiff, ↓reduceIte, reduceCtorEq, Int.reduceEq, Int.reduceLT, Int.reduceLE, Int.reduceGT, Int.reduceGE, Int.reduceAdd, Int.reduceSub, Int.reduceNeg, Int.reduceToNat, Nat.reduceBEq, Nat.reduceEqDiff]
  refine callR_ret (lastI_d t (by omega) _) ?_
  simp -implicitDefEqProofs (maxSteps := 99999999) (disch := omega) only [vu, va, vg, vs, vh, Nat.reduceMul, ite_true, ite_false, eq_self, forall_const, implies_true, Nat.reduceAdd, Nat.reduceSub, Nat.reduceLT, Nat.reduceLeDiff, ↓reduceIte, reduceCtorEq, Int.reduceEq, Int.reduceLT, Int.reduceLE, Int.reduceGT, Int.reduceGE, Int.reduceAdd, Int.reduceSub, Int.reduceNeg, Int.reduceToNat, Nat.reduceBEq, Nat.reduceEqDiff]
  rw [show (t.size : Int) - (t.size - 1 - (plc t.data.toList).2) - 1 = ((plc t.data.toList).2 : Nat) from by omega, ← plc_count]
  unfold plcS
  rw [← htl]
  exact weak_over .refl (.same ⟨trivial, trivial, trivial⟩)

theorem refPlace_d (s : ByteArray) (hs : s.size ≤ 100000000) (at_ : Int) (H : AHeap) : D Try.prog 17 [.sc (.string s), .sc (.int .i64 at_)] H (.ret (.tup [.sc (.int .i64 (plcS s at_).1), .sc (.int .i64 (plcS s at_).2)])) H := by
  refine D_of_DK (Nat.le_refl _) (dk17 (E_of_ES ?_))
  have hle := clamp_le s.size at_
  simp -implicitDefEqProofs (maxSteps := 99999999) (disch := omega) only [vu, clamp_eq, ic17, va, vg, vs, vh, Nat.reduceMul, ite_true, ite_false, eq_self, forall_const, implies_true, Nat.reduceAdd, Nat.reduceSub, Nat.reduceLT, Nat.reduceLeDiff, ↓reduceIte, reduceCtorEq, Int.reduceEq, Int.reduceLT, Int.reduceLE, Int.reduceGT, Int.reduceGE, Int.reduceAdd, Int.reduceSub, Int.reduceNeg, Int.reduceToNat, Nat.reduceBEq, Nat.reduceEqDiff]
  refine ES_loop (fun ts H' => H' = H ∧ ∃ k : Nat, k ≤ clampN s.size at_ ∧ Fr [some (.sc (.string s)), some (.sc (.int .i64 (clampN s.size at_ : Nat))), none, none, none, none, some (.sc (.int .i64 (plc (s.data.toList.take k)).1)), some (.sc (.int .i64 (plc (s.data.toList.take k)).2)), some (.sc (.int .i64 k)), none, none, none, none, none, none, none, none, none, none, none, none, none, none, none, none, none, none, none, none] ts) (fun ts _ => clampN s.size at_ - (intV (ts.getD 8 .top)).toNat) ?_ ?_
  · exact ⟨rfl, 0, Nat.zero_le _, by simp [Fr, plc_nil]⟩
  rintro ts _ ⟨rfl, k, hk, hfr⟩
  obtain ⟨js, rfl⟩ := hfr.opened
  clear hfr
  have hpl := plc_le (s.data.toList.take k)
  have htl : (s.data.toList.take k).length ≤ k := List.length_take_le _ _
  simp -implicitDefEqProofs (maxSteps := 99999999) (disch := omega) only [vu, mk, va, vg, vs, vh, Nat.reduceMul, ite_true, ite_false, eq_self, forall_const, implies_true, Nat.reduceAdd, Nat.reduceSub, Nat.reduceLT, Nat.reduceLeDiff, ↓reduceIte, reduceCtorEq, Int.reduceEq, Int.reduceLT, Int.reduceLE, Int.reduceGT, Int.reduceGE, Int.reduceAdd, Int.reduceSub, Int.reduceNeg, Int.reduceToNat, Nat.reduceBEq, Nat.reduceEqDiff]
  refine condR_if (fun h => ?_) (fun h => ?_)
  · have hi := nthL s (show k < s.size by omega)
    have hsn : s.data.toList.take (k + 1) = s.data.toList.take k ++ [s.data.getD k 0] := by rw [List.take_add_one, hi]; rfl
    simp -implicitDefEqProofs (maxSteps := 99999999) (disch := omega) only [vu, va, vg, vs, vh, Nat.reduceMul, ite_true, ite_false, eq_self, forall_const, implies_true, Nat.reduceAdd, Nat.reduceSub, Nat.reduceLT, Nat.reduceLeDiff, ↓reduceIte, reduceCtorEq, Int.reduceEq, Int.reduceLT, Int.reduceLE, Int.reduceGT, Int.reduceGE, Int.reduceAdd, Int.reduceSub, Int.reduceNeg, Int.reduceToNat, Nat.reduceBEq, Nat.reduceEqDiff]
    refine ⟨⟨by omega, by omega⟩, condR_if (fun h1 => ?_) (fun h1 => ?_)⟩
    · simp -implicitDefEqProofs (maxSteps := 99999999) (disch := omega) only [vu, va, vg, vs, vh, Nat.reduceMul, ite_true, ite_false, eq_self, forall_const, implies_true, Nat.reduceAdd, Nat.reduceSub, Nat.reduceLT, Nat.reduceLeDiff, ↓reduceIte, reduceCtorEq, Int.reduceEq, Int.reduceLT, Int.reduceLE, Int.reduceGT, Int.reduceGE, Int.reduceAdd, Int.reduceSub, Int.reduceNeg, Int.reduceToNat, Nat.reduceBEq, Nat.reduceEqDiff]
      exact ⟨⟨k + 1, by omega, by simp [Fr, hsn, plc_snoc, (byte10 _).1 h1]⟩, by omega⟩
    · simp -implicitDefEqProofs (maxSteps := 99999999) (disch := omega) only [vu, va, vg, vs, vh, Nat.reduceMul, ite_true, ite_false, eq_self, forall_const, implies_true, Nat.reduceAdd, Nat.reduceSub, Nat.reduceLT, Nat.reduceLeDiff, ↓reduceIte, reduceCtorEq, Int.reduceEq, Int.reduceLT, Int.reduceLE, Int.reduceGT, Int.reduceGE, Int.reduceAdd, Int.reduceSub, Int.reduceNeg, Int.reduceToNat, Nat.reduceBEq, Nat.reduceEqDiff]
      have h2 : ¬ s.data.getD k 0 = 10 := fun e => h1 ((byte10 _).2 e)
      exact ⟨⟨k + 1, by omega, by rw [hsn, plc_snoc, if_neg h2]; simp [Fr]⟩, by omega⟩
  · have hkk : k = clampN s.size at_ := by omega
    simp -implicitDefEqProofs (maxSteps := 99999999) (disch := omega) only [vu, va, vg, vs, vh, Nat.reduceMul, ite_true, ite_false, eq_self, forall_const, implies_true, Nat.reduceAdd, Nat.reduceSub, Nat.reduceLT, Nat.reduceLeDiff, ↓reduceIte, reduceCtorEq, Int.reduceEq, Int.reduceLT, Int.reduceLE, Int.reduceGT, Int.reduceGE, Int.reduceAdd, Int.reduceSub, Int.reduceNeg, Int.reduceToNat, Nat.reduceBEq, Nat.reduceEqDiff]
    rw [hkk]
    exact weak_over .refl (.same ⟨trivial, trivial, trivial⟩)
end Go.Proofs.Ytigmpablpmanpaa
