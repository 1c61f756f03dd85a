/- lines.At; the document's At. -/
import Derived.Test.YtigmpablpmanpaaS123
namespace Go.Proofs.Ytigmpablpmanpaa
open Go.RowKit
set_option maxRecDepth 100000
set_option linter.unusedVariables false
set_option linter.unusedSimpArgs false

theorem refAt_d (s : ByteArray) (hs : s.size ≤ 10000000) (line col : Int) (H : AHeap) : D Try.prog 19 [.sc (.string s), .sc (.int .i64 line), .sc (.int .i64 col)] H (.ret (.tup [.sc (.int .i64 (atR s line col).1), .sc (.int .i64 (atR s line col).2)])) H := by
  refine D_of_DK (Nat.le_refl _) (dk19 (E_of_ES ?_))
  simp -implicitDefEqProofs (maxSteps := 99999999) (disch := omega) only [vu, ic19, va, vg, vs, vh, Nat.reduceMul, ite_true, ite_false, eq_self, forall_const, implies_true, Nat.reduceAdd, Nat.reduceSub, Nat.reduceLT, Nat.reduceLeDiff, ↓reduceIte, reduceCtorEq, Int.reduceEq, Int.reduceLT, Int.reduceLE, Int.reduceGT, Int.reduceGE, Int.reduceAdd, Int.reduceSub, Int.reduceNeg, Int.reduceToNat, Nat.reduceBEq, Nat.reduceEqDiff]
  refine ES_loop (fun ts H' => H' = H ∧ ∃ k : Nat, (k ≤ s.size + 1 ∧ ∀ j, j < k → ¬ (((plc (s.data.toList.take j)).1 : Int) = line ∧ ((plc (s.data.toList.take j)).2 : Int) = col)) ∧ Fr [some (.sc (.string s)), some (.sc (.int .i64 line)), some (.sc (.int .i64 col)), none, none, none, none, none, some (.sc (.int .i64 k)), none, none, none, none, none, none, none, none, none, none, none, none, none, none, none, none, none, none, none, none, none, none, none] ts) (fun ts _ => s.size + 1 - (intV (ts.getD 8 .top)).toNat) ?_ ?_
  · exact ⟨rfl, 0, ⟨Nat.zero_le _, fun j hj => by omega⟩, by simp [Fr]⟩
  rintro ts _ ⟨rfl, k, ⟨hk, hp⟩, hfr⟩
  obtain ⟨js, rfl⟩ := hfr.opened
  clear hfr
  simp -implicitDefEqProofs (maxSteps := 99999999) (disch := omega) only [vu, mk, va, vg, vs, vh, Nat.reduceMul, ite_true, ite_false, eq_self, forall_const, implies_true, Nat.reduceAdd, Nat.reduceSub, Nat.reduceLT, Nat.reduceLeDiff, ↓reduceIte, reduceCtorEq, Int.reduceEq, Int.reduceLT, Int.reduceLE, Int.reduceGT, Int.reduceGE, Int.reduceAdd, Int.reduceSub, Int.reduceNeg, Int.reduceToNat, Nat.reduceBEq, Nat.reduceEqDiff]
  refine condR_if (fun h => ?_) (fun h => ?_)
  · simp -implicitDefEqProofs (maxSteps := 99999999) (disch := omega) only [vu, va, vg, vs, vh, Nat.reduceMul, ite_true, ite_false, eq_self, forall_const, implies_true, Nat.reduceAdd, Nat.reduceSub, Nat.reduceLT, Nat.reduceLeDiff, ↓reduceIte, reduceCtorEq, Int.reduceEq, Int.reduceLT, Int.reduceLE, Int.reduceGT, Int.reduceGE, Int.reduceAdd, Int.reduceSub, Int.reduceNeg, Int.reduceToNat, Nat.reduceBEq, Nat.reduceEqDiff]
    refine callR_ret (refPlace_d s (by omega) k _) ?_
    have hpc : plcS s k = plc (s.data.toList.take k) := by unfold plcS; rw [clamp_at (by omega)]
    rw [hpc]
    by_cases e1 : ((plc (s.data.toList.take k)).1 : Int) = line
    · by_cases e2 : ((plc (s.data.toList.take k)).2 : Int) = col
      · rw [atR_hit (show k ≤ s.size by omega) e1.symm e2.symm]
        rw [e1, e2]
        simp -implicitDefEqProofs (maxSteps := 99999999) (disch := omega) only [vu, va, vg, vs, vh, Nat.reduceMul, ite_true, ite_false, eq_self, forall_const, implies_true, Nat.reduceAdd, Nat.reduceSub, Nat.reduceLT, Nat.reduceLeDiff, ↓reduceIte, reduceCtorEq, Int.reduceEq, Int.reduceLT, Int.reduceLE, Int.reduceGT, Int.reduceGE, Int.reduceAdd, Int.reduceSub, Int.reduceNeg, Int.reduceToNat, Nat.reduceBEq, Nat.reduceEqDiff]
        exact weak_over .refl (.same ⟨trivial, trivial, trivial⟩)
      · rw [e1]
        simp -implicitDefEqProofs (maxSteps := 99999999) (disch := omega) only [vu, e2, va, vg, vs, vh, Nat.reduceMul, ite_true, ite_false, eq_self, forall_const, implies_true, Nat.reduceAdd, Nat.reduceSub, Nat.reduceLT, Nat.reduceLeDiff, ↓reduceIte, reduceCtorEq, Int.reduceEq, Int.reduceLT, Int.reduceLE, Int.reduceGT, Int.reduceGE, Int.reduceAdd, Int.reduceSub, Int.reduceNeg, Int.reduceToNat, Nat.reduceBEq, Nat.reduceEqDiff]
        refine ⟨⟨k + 1, ⟨by omega, fun j hj => ?_⟩, by simp [Fr]⟩, by omega⟩
        rcases Nat.lt_succ_iff_lt_or_eq.1 hj with h' | rfl
        · exact hp j h'
        · exact fun e => e2 e.2
    · simp -implicitDefEqProofs (maxSteps := 99999999) (disch := omega) only [vu, e1, va, vg, vs, vh, Nat.reduceMul, ite_true, ite_false, eq_self, forall_const, implies_true, Nat.reduceAdd, Nat.reduceSub, Nat.reduceLT, Nat.reduceLeDiff, ↓reduceIte, reduceCtorEq, Int.reduceEq, Int.reduceLT, Int.reduceLE, Int.reduceGT, Int.reduceGE, Int.reduceAdd, Int.reduceSub, Int.reduceNeg, Int.reduceToNat, Nat.reduceBEq, Nat.reduceEqDiff]
      refine ⟨⟨k + 1, ⟨by omega, fun j hj => ?_⟩, by simp [Fr]⟩, by omega⟩
      rcases Nat.lt_succ_iff_lt_or_eq.1 hj with h' | rfl
      · exact hp j h'
      · exact fun e => e1 e.1
  · simp -implicitDefEqProofs (maxSteps := 99999999) (disch := omega) only [vu, va, vg, vs, vh, Nat.reduceMul, ite_true, ite_false, eq_self, forall_const, implies_true, Nat.reduceAdd, Nat.reduceSub, Nat.reduceLT, Nat.reduceLeDiff, ↓reduceIte, reduceCtorEq, Int.reduceEq, Int.reduceLT, Int.reduceLE, Int.reduceGT, Int.reduceGE, Int.reduceAdd, Int.reduceSub, Int.reduceNeg, Int.reduceToNat, Nat.reduceBEq, Nat.reduceEqDiff]
    rw [atR_none (fun j hj => hp j (by omega))]
    exact weak_over .refl (.same ⟨trivial, trivial, trivial⟩)

/-- Own memory in At. -/
abbrev atH (R : ABlk) (s : ByteArray) (k line col a e : Int) (H : AHeap) : AHeap := some R :: some ⟨1, [.sc (.string s)], true, 9⟩ :: some ⟨1, [.sc (.int .i64 k)], true, 3⟩ :: some ⟨1, [.sc (.int .i64 e)], true, 25⟩ :: some ⟨1, [.sc (.int .i64 a)], true, 3⟩ :: some ⟨1, [.sc (.int .i64 col)], true, 3⟩ :: some ⟨1, [.sc (.int .i64 line)], true, 3⟩ :: H
theorem at_dy {H : AHeap} {fn db : Nat} {ts0 : List AV} {js : Nat → AV} {s x : ByteArray} {line col n : Int} {k : Nat} (hts : ts0 = mk [none, none, none, none, some (.ptr 1 H.length 0 0), some (.ptr 1 (H.length + 1) 0 0), some (.ptr 1 (H.length + 2) 0 0), some (.ptr 1 (H.length + 3) 0 0), some (.ptr 1 (H.length + 4) 0 0), none, none, none, none, none, none, none, none, none, none, none, none, none, none, none, none, none, none, none, none, none, none, none, none, none, none, none, none, none, none, none, none, none, none, none, none, none, none, none, none, none, none, none, none, none] js)
    (hn : ¬ ((k : Int) = line ∧ col < x.size)) (hk : k ≤ 100000000) (hx : x.size ≤ 100000000) :
    DY Try.prog (H.length + 6) [.sc (.int .i64 n), .sc (.string x)] (atH (lpB (recB fn db #[21, 22] (rcA Try.f18 0) (rcB Try.f18 0)) ts0) s k line col 0 0 H) (.ret (.sc (.bool true))) (atH (lpB (recB fn db #[21, 22] (rcA Try.f18 0) (rcB Try.f18 0)) ts0) s (k + 1 : Nat) line col 0 0 H) := by
  have hr : AHeap.find (atH (lpB (recB fn db #[21, 22] (rcA Try.f18 0) (rcB Try.f18 0)) ts0) s k line col 0 0 H) (H.length + 6) = some (lpB (recB fn db #[21, 22] (rcA Try.f18 0) (rcB Try.f18 0)) ts0) := find_top (by simp)
  refine DY_of_DKY (by simp) (DKY_of_ES rca18_0 rcb18_0 hr rfl rfl ?_)
  obtain ⟨tp, htp⟩ : ∃ tp, putPs [21, 22] [.sc (.int .i64 n), .sc (.string x)] ts0 = tp := ⟨_, rfl⟩
  show ES _ _ _ (putPs [21, 22] _ ts0) _
  rw [htp]
  rw [hts] at htp
  simp only [mk, putPs, List.set_cons_succ, List.set_cons_zero] at htp
  subst htp
  clear hts
  simp -implicitDefEqProofs (maxSteps := 99999999) (disch := omega) only [vu, ic18a0, asgS_n, va, vg, vs, vh, Nat.reduceMul, ite_true, ite_false, eq_self, forall_const, implies_true, Nat.reduceAdd, Nat.reduceSub, Nat.reduceLT, Nat.reduceLeDiff, ↓reduceIte, reduceCtorEq, Int.reduceEq, Int.reduceLT, Int.reduceLE, Int.reduceGT, Int.reduceGE, Int.reduceAdd, Int.reduceSub, Int.reduceNeg, Int.reduceToNat, Nat.reduceBEq, Nat.reduceEqDiff]
  generalize hB : lpB { recB fn db #[21, 22] (rcA Try.f18 0) (rcB Try.f18 0) with state := .busy } ts0 = B
  have fin : ∀ ts : List AV, rndK (H.length + 6) (fun e1 H1 => Weak (atH (lpB (recB fn db #[21, 22] (rcA Try.f18 0) (rcB Try.f18 0)) ts0) s k line col 0 0 H) e1 H1 (.ret (.sc (.bool true))) (atH (lpB (recB fn db #[21, 22] (rcA Try.f18 0) (rcB Try.f18 0)) ts0) s (k + 1 : Nat) line col 0 0 H)) .normal ts (atH B s ((k : Int) + 1) line col 0 0 H) := by
    intro ts
    rw [rndK_n]
    refine ⟨_, ts0, by rw [← hB]; exact find_top (by simp), ?_⟩
    rw [set_top (by simp)]
    exact Weak.refl _ _ _
  by_cases e1 : (k : Int) = line
  · have e2 : ¬ col < x.size := fun h => hn ⟨e1, h⟩
    subst e1
    simp -implicitDefEqProofs (maxSteps := 99999999) (disch := omega) only [vu, ic18b0, e2, va, vg, vs, vh, Nat.reduceMul, ite_true, ite_false, eq_self, forall_const, implies_true, Nat.reduceAdd, Nat.reduceSub, Nat.reduceLT, Nat.reduceLeDiff, ↓reduceIte, reduceCtorEq, Int.reduceEq, Int.reduceLT, Int.reduceLE, Int.reduceGT, Int.reduceGE, Int.reduceAdd, Int.reduceSub, Int.reduceNeg, Int.reduceToNat, Nat.reduceBEq, Nat.reduceEqDiff]
    exact fin _
  · simp -implicitDefEqProofs (maxSteps := 99999999) (disch := omega) only [vu, ic18b0, e1, va, vg, vs, vh, Nat.reduceMul, ite_true, ite_false, eq_self, forall_const, implies_true, Nat.reduceAdd, Nat.reduceSub, Nat.reduceLT, Nat.reduceLeDiff, ↓reduceIte, reduceCtorEq, Int.reduceEq, Int.reduceLT, Int.reduceLE, Int.reduceGT, Int.reduceGE, Int.reduceAdd, Int.reduceSub, Int.reduceNeg, Int.reduceToNat, Nat.reduceBEq, Nat.reduceEqDiff]
    exact fin _
theorem at_dyS {H : AHeap} {fn db : Nat} {ts0 : List AV} {js : Nat → AV} {s x : ByteArray} {col n : Int} {k : Nat} (hts : ts0 = mk [none, none, none, none, some (.ptr 1 H.length 0 0), some (.ptr 1 (H.length + 1) 0 0), some (.ptr 1 (H.length + 2) 0 0), some (.ptr 1 (H.length + 3) 0 0), some (.ptr 1 (H.length + 4) 0 0), none, none, none, none, none, none, none, none, none, none, none, none, none, none, none, none, none, none, none, none, none, none, none, none, none, none, none, none, none, none, none, none, none, none, none, none, none, none, none, none, none, none, none, none, none] js)
    (hc0 : 0 ≤ col) (hc : col < x.size) (hk : k ≤ 100000000) (hx : x.size ≤ 100000000) (hn : 0 ≤ n ∧ n ≤ 100000000) :
    DY Try.prog (H.length + 6) [.sc (.int .i64 n), .sc (.string x)] (atH (lpB (recB fn db #[21, 22] (rcA Try.f18 0) (rcB Try.f18 0)) ts0) s k k col 0 0 H) (.ret (.sc (.bool false))) (atH (lpB { recB fn db #[21, 22] (rcA Try.f18 0) (rcB Try.f18 0) with state := .done, pending := some .ret } ts0) s k k col (n + col) 0 H) := by
  have hr : AHeap.find (atH (lpB (recB fn db #[21, 22] (rcA Try.f18 0) (rcB Try.f18 0)) ts0) s k k col 0 0 H) (H.length + 6) = some (lpB (recB fn db #[21, 22] (rcA Try.f18 0) (rcB Try.f18 0)) ts0) := find_top (by simp)
  refine DY_of_DKY (by simp) (DKY_of_ES rca18_0 rcb18_0 hr rfl rfl ?_)
  obtain ⟨tp, htp⟩ : ∃ tp, putPs [21, 22] [.sc (.int .i64 n), .sc (.string x)] ts0 = tp := ⟨_, rfl⟩
  show ES _ _ _ (putPs [21, 22] _ ts0) _
  rw [htp]
  rw [hts] at htp
  simp only [mk, putPs, List.set_cons_succ, List.set_cons_zero] at htp
  subst htp
  clear hts
  simp -implicitDefEqProofs (maxSteps := 99999999) (disch := omega) only [vu, ic18a0, asgS_n, va, vg, vs, vh, Nat.reduceMul, ite_true, ite_false, eq_self, forall_const, implies_true, Nat.reduceAdd, Nat.reduceSub, Nat.reduceLT, Nat.reduceLeDiff, ↓reduceIte, reduceCtorEq, Int.reduceEq, Int.reduceLT, Int.reduceLE, Int.reduceGT, Int.reduceGE, Int.reduceAdd, Int.reduceSub, Int.reduceNeg, Int.reduceToNat, Nat.reduceBEq, Nat.reduceEqDiff]
  generalize hB : lpB { recB fn db #[21, 22] (rcA Try.f18 0) (rcB Try.f18 0) with state := .busy } ts0 = B
  have fin : ∀ ts : List AV, rndK (H.length + 6) (fun e1 H1 => Weak (atH (lpB (recB fn db #[21, 22] (rcA Try.f18 0) (rcB Try.f18 0)) ts0) s k k col 0 0 H) e1 H1 (.ret (.sc (.bool false))) (atH (lpB { recB fn db #[21, 22] (rcA Try.f18 0) (rcB Try.f18 0) with state := .done, pending := some .ret } ts0) s k k col (n + col) 0 H)) .ret ts (atH B s k k col (n + col) 0 H) := by
    intro ts
    rw [rndK_r]
    refine ⟨_, ts0, by rw [← hB]; exact find_top (by simp), ?_⟩
    rw [set_top (by simp)]
    exact Weak.refl _ _ _
  simp -implicitDefEqProofs (maxSteps := 99999999) (disch := omega) only [vu, ic18b0, hc, va, vg, vs, vh, Nat.reduceMul, ite_true, ite_false, eq_self, forall_const, implies_true, Nat.reduceAdd, Nat.reduceSub, Nat.reduceLT, Nat.reduceLeDiff, ↓reduceIte, reduceCtorEq, Int.reduceEq, Int.reduceLT, Int.reduceLE, Int.reduceGT, Int.reduceGE, Int.reduceAdd, Int.reduceSub, Int.reduceNeg, Int.reduceToNat, Nat.reduceBEq, Nat.reduceEqDiff]
  exact fin _

/-- Own memory in At, but the record. -/
abbrev atT (s : ByteArray) (k line col a e : Int) (H : AHeap) : AHeap := some ⟨1, [.sc (.string s)], true, 9⟩ :: some ⟨1, [.sc (.int .i64 k)], true, 3⟩ :: some ⟨1, [.sc (.int .i64 e)], true, 25⟩ :: some ⟨1, [.sc (.int .i64 a)], true, 3⟩ :: some ⟨1, [.sc (.int .i64 col)], true, 3⟩ :: some ⟨1, [.sc (.int .i64 line)], true, 3⟩ :: H
theorem at_rng {s : ByteArray} (hs : s.size ≤ 10000000) {line col : Int} (h1 : ¬ line < 0) (h2 : ¬ col < 0) {ts0 : List AV} {K : Post} {H : AHeap} (hF : Fr [none, none, none, none, some (.ptr 1 H.length 0 0), some (.ptr 1 (H.length + 1) 0 0), some (.ptr 1 (H.length + 2) 0 0), some (.ptr 1 (H.length + 3) 0 0), some (.ptr 1 (H.length + 4) 0 0), none, none, none, none, none, none, none, none, none, none, none, none, none, none, none, none, none, none, none, none, none, none, none, none, none, none, none, none, none, none, none, none, none, none, none, none, none, none, none, none, none, none, none, none, none] ts0)
    (hhit : line.toNat < (lns s).length ∧ col < (nthS (lns s) line.toNat).size → K .ret ts0 (none :: atT s line line col (atS s line.toNat + col) 0 H))
    (hno : ¬ (line.toNat < (lns s).length ∧ col < (nthS (lns s) line.toNat).size) → K .normal ts0 (none :: atT s (lns s).length line col 0 0 H)) :
    rngK Try.prog #[21, 22] (rcA Try.f18 0) (rcB Try.f18 0) K ts0 (atT s 0 line col 0 0 H) (.fn (.func 57) [] [.ptr 1 (H.length + 5) 0 0]) := by
  obtain ⟨js, hjs⟩ := hF.opened
  have hll := lns_le s
  refine rngK_of (by kernel_rfl) fun fn db => ?_
  have hsid : ∀ (R : ABlk) (k l c a e : Int), AHeap.find (atH R s k l c a e H) (H.length + 5) = some ⟨1, [.sc (.string s)], true, 9⟩ := fun R k l c a e => by
    rw [find_past (by simp)]
    exact find_top (by simp)
  by_cases hc : line.toNat < (lns s).length ∧ col < (nthS (lns s) line.toNat).size
  · have hl : ((line.toNat : Nat) : Int) = line := by omega
    have hat := atS_le s (k := line.toNat) (by omega)
    refine ⟨.tup [], atH (lpB { recB fn db #[21, 22] (rcA Try.f18 0) (rcB Try.f18 0) with state := .done, pending := some .ret } ts0) s line line col (atS s line.toNat + col) 0 H, { recB fn db #[21, 22] (rcA Try.f18 0) (rcB Try.f18 0) with state := .done, pending := some .ret }, ts0, ?_, find_top (by simp), by simp, ?_⟩
    · refine each1_d s (by omega) (H.length + 6) (H.length + 5) line.toNat (fun k => atH (lpB (recB fn db #[21, 22] (rcA Try.f18 0) (rcB Try.f18 0)) ts0) s k line col 0 0 H) _ (by omega) (fun k _ => hsid _ _ _ _ _ _) (by simp) (fun k hk => ?_) (.inr ⟨hc.1, ?_⟩)
      · have hsh := lns_short (s := s) (k := k) (by omega)
        exact at_dy hjs (by rintro ⟨e, _⟩; omega) (by omega) (by omega)
      · have hsh := lns_short hc.1
        have := at_dyS (fn := fn) (db := db) (s := s) (x := nthS (lns s) line.toNat) (col := col) (n := (atS s line.toNat : Nat)) (k := line.toNat) hjs (by omega) hc.2 (by omega) (by omega) (by omega)
        rw [hl] at this
        simp only [hl]
        exact this
    · show jmpK K ts0 _ (some .ret)
      rw [set_top (by simp)]
      exact hhit hc
  · refine ⟨.tup [], atH (lpB (recB fn db #[21, 22] (rcA Try.f18 0) (rcB Try.f18 0)) ts0) s (lns s).length line col 0 0 H, recB fn db #[21, 22] (rcA Try.f18 0) (rcB Try.f18 0), ts0, ?_, find_top (by simp), by simp [recB], ?_⟩
    · refine each1_d s (by omega) (H.length + 6) (H.length + 5) (lns s).length (fun k => atH (lpB (recB fn db #[21, 22] (rcA Try.f18 0) (rcB Try.f18 0)) ts0) s k line col 0 0 H) _ (by omega) (fun k _ => hsid _ _ _ _ _ _) (by simp) (fun k hk => ?_) (.inl ⟨rfl, rfl⟩)
      have hsh := lns_short hk
      refine at_dy hjs ?_ (by omega) (by omega)
      rintro ⟨e, h⟩
      have : line.toNat = k := by omega
      exact hc ⟨by omega, by rw [this]; exact h⟩
    · show jmpK K ts0 _ none
      rw [set_top (by simp)]
      exact hno hc

theorem at_d (s : ByteArray) (hs : s.size ≤ 10000000) (line col : Int) (H : AHeap) : D Try.prog 18 [.sc (.string s), .sc (.int .i64 line), .sc (.int .i64 col)] H (.ret (.tup [.sc (.int .i64 (atR s line col).1), .sc (.int .i64 (atR s line col).2)])) H := by
  refine D_of_DK (Nat.le_refl _) (dk18 (E_of_ES ?_))
  by_cases e1 : line < 0
  · have hA : atR s line col = (0, 6) := by unfold atR; rw [if_pos (.inl e1)]
    rw [hA]
    simp -implicitDefEqProofs (maxSteps := 99999999) (disch := omega) only [vu, e1, ic18, va, vg, vs, vh, Nat.reduceMul, ite_true, ite_false, eq_self, forall_const, implies_true, Nat.reduceAdd, Nat.reduceSub, Nat.reduceLT, Nat.reduceLeDiff, ↓reduceIte, reduceCtorEq, Int.reduceEq, Int.reduceLT, Int.reduceLE, Int.reduceGT, Int.reduceGE, Int.reduceAdd, Int.reduceSub, Int.reduceNeg, Int.reduceToNat, Nat.reduceBEq, Nat.reduceEqDiff]
    exact weak_over (by repeat constructor) (.same ⟨trivial, trivial, trivial⟩)
  by_cases e2 : col < 0
  · have hA : atR s line col = (0, 6) := by unfold atR; rw [if_pos (.inr e2)]
    rw [hA]
    simp -implicitDefEqProofs (maxSteps := 99999999) (disch := omega) only [vu, e1, e2, ic18, va, vg, vs, vh, Nat.reduceMul, ite_true, ite_false, eq_self, forall_const, implies_true, Nat.reduceAdd, Nat.reduceSub, Nat.reduceLT, Nat.reduceLeDiff, ↓reduceIte, reduceCtorEq, Int.reduceEq, Int.reduceLT, Int.reduceLE, Int.reduceGT, Int.reduceGE, Int.reduceAdd, Int.reduceSub, Int.reduceNeg, Int.reduceToNat, Nat.reduceBEq, Nat.reduceEqDiff]
    exact weak_over (by repeat constructor) (.same ⟨trivial, trivial, trivial⟩)
  simp -implicitDefEqProofs (maxSteps := 99999999) (disch := omega) only [vu, e1, e2, ic18, va, vg, vs, vh, Nat.reduceMul, ite_true, ite_false, eq_self, forall_const, implies_true, Nat.reduceAdd, Nat.reduceSub, Nat.reduceLT, Nat.reduceLeDiff, ↓reduceIte, reduceCtorEq, Int.reduceEq, Int.reduceLT, Int.reduceLE, Int.reduceGT, Int.reduceGE, Int.reduceAdd, Int.reduceSub, Int.reduceNeg, Int.reduceToNat, Nat.reduceBEq, Nat.reduceEqDiff]
  refine callR_ret (each_d s _) ?_
  simp -implicitDefEqProofs (maxSteps := 99999999) (disch := omega) only [vu, ES_rng, va, vg, vs, vh, Nat.reduceMul, ite_true, ite_false, eq_self, forall_const, implies_true, Nat.reduceAdd, Nat.reduceSub, Nat.reduceLT, Nat.reduceLeDiff, ↓reduceIte, reduceCtorEq, Int.reduceEq, Int.reduceLT, Int.reduceLE, Int.reduceGT, Int.reduceGE, Int.reduceAdd, Int.reduceSub, Int.reduceNeg, Int.reduceToNat, Nat.reduceBEq, Nat.reduceEqDiff]
  refine at_rng hs e1 e2 (by simp [Fr]) (fun hc => ?_) (fun hc => ?_)
  · have hA : atR s line col = ((atS s line.toNat : Int) + col, 0) := by unfold atR; rw [if_neg (by omega), if_pos hc]
    rw [hA]
    simp -implicitDefEqProofs (maxSteps := 99999999) (disch := omega) only [vu, va, vg, vs, vh, Nat.reduceMul, ite_true, ite_false, eq_self, forall_const, implies_true, Nat.reduceAdd, Nat.reduceSub, Nat.reduceLT, Nat.reduceLeDiff, ↓reduceIte, reduceCtorEq, Int.reduceEq, Int.reduceLT, Int.reduceLE, Int.reduceGT, Int.reduceGE, Int.reduceAdd, Int.reduceSub, Int.reduceNeg, Int.reduceToNat, Nat.reduceBEq, Nat.reduceEqDiff]
    exact weak_over (by repeat constructor) (.same ⟨trivial, trivial, trivial⟩)
  · simp -implicitDefEqProofs (maxSteps := 99999999) (disch := omega) only [vu, va, vg, vs, vh, Nat.reduceMul, ite_true, ite_false, eq_self, forall_const, implies_true, Nat.reduceAdd, Nat.reduceSub, Nat.reduceLT, Nat.reduceLeDiff, ↓reduceIte, reduceCtorEq, Int.reduceEq, Int.reduceLT, Int.reduceLE, Int.reduceGT, Int.reduceGE, Int.reduceAdd, Int.reduceSub, Int.reduceNeg, Int.reduceToNat, Nat.reduceBEq, Nat.reduceEqDiff]
    refine callR_ret (place_d s (by omega) s.size _) ?_
    have hpl : plcS s s.size = plc s.data.toList := by
      unfold plcS
      rw [clamp_at (Nat.le_refl _), List.take_of_length_le (by rw [bytes_len]; exact Nat.le_refl _)]
    rw [hpl]
    by_cases e3 : ((plc s.data.toList).1 : Int) = line
    · by_cases e4 : ((plc s.data.toList).2 : Int) = col
      · have hA : atR s line col = ((s.size : Int), 0) := by unfold atR; rw [if_neg (by omega), if_neg hc, if_pos ⟨e3.symm, e4.symm⟩]
        rw [hA]
        rw [e3, e4]
        simp -implicitDefEqProofs (maxSteps := 99999999) (disch := omega) only [vu, va, vg, vs, vh, Nat.reduceMul, ite_true, ite_false, eq_self, forall_const, implies_true, Nat.reduceAdd, Nat.reduceSub, Nat.reduceLT, Nat.reduceLeDiff, ↓reduceIte, reduceCtorEq, Int.reduceEq, Int.reduceLT, Int.reduceLE, Int.reduceGT, Int.reduceGE, Int.reduceAdd, Int.reduceSub, Int.reduceNeg, Int.reduceToNat, Nat.reduceBEq, Nat.reduceEqDiff]
        exact weak_over (by repeat constructor) (.same ⟨trivial, trivial, trivial⟩)
      · have hA : atR s line col = (0, 6) := by unfold atR; rw [if_neg (by omega), if_neg hc, if_neg (fun h => e4 h.2.symm)]
        rw [hA]
        rw [e3]
        simp -implicitDefEqProofs (maxSteps := 99999999) (disch := omega) only [vu, e4, va, vg, vs, vh, Nat.reduceMul, ite_true, ite_false, eq_self, forall_const, implies_true, Nat.reduceAdd, Nat.reduceSub, Nat.reduceLT, Nat.reduceLeDiff, ↓reduceIte, reduceCtorEq, Int.reduceEq, Int.reduceLT, Int.reduceLE, Int.reduceGT, Int.reduceGE, Int.reduceAdd, Int.reduceSub, Int.reduceNeg, Int.reduceToNat, Nat.reduceBEq, Nat.reduceEqDiff]
        exact weak_over (by repeat constructor) (.same ⟨trivial, trivial, trivial⟩)
    · have hA : atR s line col = (0, 6) := by unfold atR; rw [if_neg (by omega), if_neg hc, if_neg (fun h => e3 h.1.symm)]
      rw [hA]
      simp -implicitDefEqProofs (maxSteps := 99999999) (disch := omega) only [vu, e3, va, vg, vs, vh, Nat.reduceMul, ite_true, ite_false, eq_self, forall_const, implies_true, Nat.reduceAdd, Nat.reduceSub, Nat.reduceLT, Nat.reduceLeDiff, ↓reduceIte, reduceCtorEq, Int.reduceEq, Int.reduceLT, Int.reduceLE, Int.reduceGT, Int.reduceGE, Int.reduceAdd, Int.reduceSub, Int.reduceNeg, Int.reduceToNat, Nat.reduceBEq, Nat.reduceEqDiff]
      exact weak_over (by repeat constructor) (.same ⟨trivial, trivial, trivial⟩)
end Go.Proofs.Ytigmpablpmanpaa
