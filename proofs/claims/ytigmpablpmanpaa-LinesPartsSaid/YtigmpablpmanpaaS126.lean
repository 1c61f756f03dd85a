/- lines.Span. -/
import Derived.Test.YtigmpablpmanpaaS125
namespace Go.Proofs.Ytigmpablpmanpaa
open Go.RowKit
set_option maxRecDepth 100000
set_option linter.unusedVariables false
set_option linter.unusedSimpArgs false

def OwnJ (xs : List AV) (id : Nat) : AV := match xs with
  | [] => .lst 1 [] (some [])
  | _ => .vec 1 id 0 xs.length none
theorem OwnJ_nil (id : Nat) : OwnJ [] id = .lst 1 [] (some []) := rfl
theorem OwnJ_cells (xs : List AV) (id : Nat) : (OwnJ xs id).cells = [OwnJ xs id] := by cases xs <;> rfl
theorem OwnJ_top (xs : List AV) (id : Nat) : (OwnJ xs id).isTop = false := by cases xs <;> rfl
theorem OwnJ_n (xs : List AV) (id : Nat) : (OwnJ xs id).ncells = 1 := by cases xs <;> rfl
theorem OwnJ_upd (xs : List AV) (id : Nat) (v : AV) : (OwnJ xs id).upd 0 v = v := by cases xs <;> rfl
theorem intA_nil : intA [] = [] := rfl

theorem span_dy {F : AHeap} {rid oid vid fn db : Nat} {ts0 : List AV} {js : Nat → AV} {xs : List Int} {x : AV} {n : Int} (hts : ts0 = mk [none, none, none, none, none, none, none, none, some (.ptr 1 oid 0 0), none, none, none, none, none, none, none, none, none, none, none, none, none, none, none, none, none, none, none, none, none, none, none, none, none, none, none, none, none, none, none, none, none, none, none, none, none, none, none] js)
    (hr : AHeap.find F rid = some (lpB (recB fn db #[13, 14] (rcA Try.f20 0) (rcB Try.f20 0)) ts0)) (ho : AHeap.find F oid = some ⟨1, [OwnJ (intA xs) vid], true, 72⟩) (hv : xs ≠ [] → AHeap.find F vid = some ⟨1, intA xs, false, 3⟩)
    (d1 : rid ≠ oid) (d2 : xs ≠ [] → vid ≠ oid ∧ vid ≠ rid) (hl : xs.length + 1 ≤ 100000000) :
    DY Try.prog rid [.sc (.int .i64 n), x] F (.ret (.sc (.bool true))) (some ⟨1, intA (xs ++ [n]), false, 3⟩ :: AHeap.set (killO (intA xs) vid F) oid (some ⟨1, [OwnJ (intA (xs ++ [n])) F.length], true, 72⟩)) := by
  have hrl := AHeap.find_lt hr
  have hol := AHeap.find_lt ho
  refine DY_of_DKY (by simp [killO_length, AHeap.set_length]) (DKY_of_ES rca20_0 rcb20_0 hr rfl rfl ?_)
  obtain ⟨tp, htp⟩ : ∃ tp, putPs [13, 14] [.sc (.int .i64 n), x] ts0 = tp := ⟨_, rfl⟩
  show ES _ _ _ (putPs [13, 14] _ ts0) _
  rw [htp]
  rw [hts] at htp
  simp only [mk, putPs, List.set_cons_succ, List.set_cons_zero] at htp
  subst htp
  clear hts
  simp -implicitDefEqProofs (maxSteps := 99999999) (disch := first | omega | (simp only [AHeap.set_length, killO_length, List.length_cons, List.length_nil]; first | done | omega)) only [vu, ic20a0, asgS_n, va, vg, vs, vw, Nat.reduceMul, ite_true, ite_false, eq_self, forall_const, implies_true, Nat.reduceAdd, Nat.reduceSub, Nat.reduceLT, Nat.reduceLeDiff, ↓reduceIte, reduceCtorEq, Int.reduceEq, Int.reduceLT, Int.reduceLE, Int.reduceGT, Int.reduceGE, Int.reduceAdd, Int.reduceSub, Int.reduceNeg, Int.reduceToNat, Nat.reduceBEq, Nat.reduceEqDiff]
  refine ⟨hr, ?_⟩
  generalize hB : lpB { recB fn db #[13, 14] (rcA Try.f20 0) (rcB Try.f20 0) with state := .busy } ts0 = B
  have hr1 : AHeap.find (AHeap.set F rid (some B)) rid = some B := AHeap.find_set_same hrl
  have ho1 : AHeap.find (AHeap.set F rid (some B)) oid = some ⟨1, [OwnJ (intA xs) vid], true, 72⟩ := by rw [find_set hrl, if_neg d1]; exact ho
  have hv1 : xs ≠ [] → AHeap.find (AHeap.set F rid (some B)) vid = some ⟨1, intA xs, false, 3⟩ := fun h => by rw [find_set hrl, if_neg (fun e => (d2 h).2 e.symm)]; exact hv h
  have hlen : (AHeap.set F rid (some B)).length = F.length := AHeap.set_length _ _ _
  obtain ⟨F1, hF1⟩ : ∃ F1, F1 = AHeap.set F rid (some B) := ⟨_, rfl⟩
  rw [← hF1] at hr1 ho1 hv1 hlen ⊢
  have hol1 : oid < F1.length := AHeap.find_lt ho1
  have hlen2 : (AHeap.set F rid (some B)).length = F.length := AHeap.set_length _ _ _
  cases xs with
  | nil =>
    simp only [intA_nil, OwnJ_nil] at ho1
    simp -implicitDefEqProofs (maxSteps := 99999999) (disch := first | omega | (simp only [AHeap.set_length, killO_length, List.length_cons, List.length_nil]; first | done | omega)) only [vu, ic20b0, ho1, intA_nil, OwnJ_nil, va, vg, vs, vw, Nat.reduceMul, ite_true, ite_false, eq_self, forall_const, implies_true, Nat.reduceAdd, Nat.reduceSub, Nat.reduceLT, Nat.reduceLeDiff, ↓reduceIte, reduceCtorEq, Int.reduceEq, Int.reduceLT, Int.reduceLE, Int.reduceGT, Int.reduceGE, Int.reduceAdd, Int.reduceSub, Int.reduceNeg, Int.reduceToNat, Nat.reduceBEq, Nat.reduceEqDiff]
    rw [rndK_n]
    refine ⟨_, ts0, by rw [find_past (by rw [AHeap.set_length, hlen]; exact hrl), find_set_other d1, hr1, ← hB], ?_⟩
    rw [hF1, hlen2]
    exact (round_heap hr d1) ▸ Weak.refl _ _ _
  | cons y ys => 
    have hv2 := hv1 (by simp)
    have hvl := AHeap.find_lt hv2
    have hlc : (intA (y :: ys)).length = ys.length + 1 := by simp [intA_length]
    have hO : OwnJ (intA (y :: ys)) vid = .vec 1 vid 0 (ys.length + 1) none := by simp [OwnJ, intA]
    rw [hO] at ho1
    have ho2 : AHeap.find (AHeap.set F1 vid none) oid = some ⟨1, [.vec 1 vid 0 (ys.length + 1) none], true, 72⟩ := by rw [find_set_other (d2 (by simp)).1.symm]; exact ho1
    simp -implicitDefEqProofs (maxSteps := 99999999) (disch := first | omega | (simp only [AHeap.set_length, killO_length, List.length_cons, List.length_nil]; first | done | omega)) only [vu, ic20b0, ho1, hv2, hlc, ho2, va, vg, vs, vw, Nat.reduceMul, ite_true, ite_false, eq_self, forall_const, implies_true, Nat.reduceAdd, Nat.reduceSub, Nat.reduceLT, Nat.reduceLeDiff, ↓reduceIte, reduceCtorEq, Int.reduceEq, Int.reduceLT, Int.reduceLE, Int.reduceGT, Int.reduceGE, Int.reduceAdd, Int.reduceSub, Int.reduceNeg, Int.reduceToNat, Nat.reduceBEq, Nat.reduceEqDiff]
    refine ⟨by simp at hl; omega, ?_⟩
    rw [rndK_n]
    refine ⟨_, ts0, by rw [find_past (by rw [AHeap.set_length, AHeap.set_length, hlen]; exact hrl), find_set_other d1, find_set_other (d2 (by simp)).2.symm, hr1, ← hB], ?_⟩
    rw [hF1, hlen2, show intA (y :: ys) ++ [AV.sc (.int .i64 n)] = intA (y :: (ys ++ [n])) from by simp [intA], show AV.vec 1 F.length 0 (ys.length + 2) none = OwnJ (intA (y :: (ys ++ [n]))) F.length from by simp [OwnJ, intA]]
    exact (round_heap2 hr d1 (d2 (by simp)).2.symm) ▸ Weak.refl _ _ _

def begL (s : ByteArray) : Nat → List Int
  | 0 => []
  | k + 1 => begL s k ++ [((atS s k : Nat) : Int)]
theorem begL_length (s : ByteArray) : ∀ k, (begL s k).length = k
  | 0 => rfl
  | k + 1 => by simp [begL, begL_length s k]
theorem begL_nth (s : ByteArray) : ∀ {k j : Nat}, j < k → (begL s k)[j]? = some ((atS s j : Nat) : Int)
  | 0, j, h => by omega
  | k + 1, j, h => by
    unfold begL
    by_cases e : j = k
    · subst e
      rw [List.getElem?_append_right (by rw [begL_length]; exact Nat.le_refl _), begL_length]
      simp
    · rw [List.getElem?_append_left (by rw [begL_length]; omega)]
      exact begL_nth s (by omega)
theorem begL_ne {s : ByteArray} {k : Nat} (h : begL s k ≠ []) : 0 < k := by
  cases k with
  | zero => exact (h rfl).elim
  | succ k => omega
/-- Own memory behind so many rounds; where the row lies then. -/
def snF (B0 : AHeap) (oid : Nat) (s : ByteArray) : Nat → AHeap × Nat
  | 0 => (B0, 0)
  | k + 1 => (some ⟨1, intA (begL s (k + 1)), false, 3⟩ :: AHeap.set (killO (intA (begL s k)) (snF B0 oid s k).2 (snF B0 oid s k).1) oid (some ⟨1, [OwnJ (intA (begL s (k + 1))) (snF B0 oid s k).1.length], true, 72⟩), (snF B0 oid s k).1.length)
theorem intA_ne {l : List Int} : intA l ≠ [] ↔ l ≠ [] := by
  cases l <;> simp [intA]
theorem snF_ok {B0 : AHeap} {oid : Nat} {s : ByteArray} (ho : AHeap.find B0 oid = some ⟨1, [.lst 1 [] (some [])], true, 72⟩) : ∀ k, (snF B0 oid s k).1.length = B0.length + k ∧ AHeap.find (snF B0 oid s k).1 oid = some ⟨1, [OwnJ (intA (begL s k)) (snF B0 oid s k).2], true, 72⟩ ∧
    (begL s k ≠ [] → AHeap.find (snF B0 oid s k).1 (snF B0 oid s k).2 = some ⟨1, intA (begL s k), false, 3⟩ ∧ B0.length ≤ (snF B0 oid s k).2) ∧ ∀ id, id < B0.length → id ≠ oid → AHeap.find (snF B0 oid s k).1 id = AHeap.find B0 id
  | 0 => ⟨rfl, ho, fun h => (h rfl).elim, fun _ _ _ => rfl⟩
  | k + 1 => by
    obtain ⟨h1, h2, h3, h4⟩ := snF_ok (s := s) ho k
    have hol := AHeap.find_lt ho
    simp only [snF]
    have hlen : (AHeap.set (killO (intA (begL s k)) (snF B0 oid s k).2 (snF B0 oid s k).1) oid (some ⟨1, [OwnJ (intA (begL s (k + 1))) (snF B0 oid s k).1.length], true, 72⟩)).length = B0.length + k := by rw [AHeap.set_length, killO_length, h1]
    refine ⟨by rw [List.length_cons, hlen]; omega, ?_, fun _ => ⟨?_, by omega⟩, fun id hid hne => ?_⟩
    · rw [find_past (by omega), AHeap.find_set_same (by rw [killO_length, h1]; omega)]
    · exact find_top (by rw [hlen, h1])
    · rw [find_past (by omega), find_set_other hne]
      by_cases e : begL s k = []
      · rw [e]; exact h4 id hid hne
      · have := (h3 e).2
        rw [find_killO (by omega)]
        exact h4 id hid hne

def spanS (s : ByteArray) (from_ to : Int) : Int × Int × Int := if from_ < 0 ∨ from_ > to ∨ to > (lns s).length then (0, 0, 2) else ((atS s from_.toNat : Nat), (atS s to.toNat : Nat), 0)
theorem span_d (s : ByteArray) (hs : s.size ≤ 900000) (from_ to : Int) (H : AHeap) : D Try.prog 20 [.sc (.string s), .sc (.int .i64 from_), .sc (.int .i64 to)] H (.ret (.tup [.agg [.sc (.int .i64 (spanS s from_ to).1), .sc (.int .i64 (spanS s from_ to).2.1)], .sc (.int .i64 (spanS s from_ to).2.2)])) H := by
  refine D_of_DK (Nat.le_refl _) (dk20 (E_of_ES ?_))
  simp -implicitDefEqProofs (maxSteps := 99999999) (disch := omega) only [vu, ES_rng, ic20, va, vg, vs, vh, Nat.reduceMul, ite_true, ite_false, eq_self, forall_const, implies_true, Nat.reduceAdd, Nat.reduceSub, Nat.reduceLT, Nat.reduceLeDiff, ↓reduceIte, reduceCtorEq, Int.reduceEq, Int.reduceLT, Int.reduceLE, Int.reduceGT, Int.reduceGE, Int.reduceAdd, Int.reduceSub, Int.reduceNeg, Int.reduceToNat, Nat.reduceBEq, Nat.reduceEqDiff]
  refine callR_ret (each_d s _) ?_
  simp -implicitDefEqProofs (maxSteps := 99999999) (disch := omega) only [vu, ES_rng, va, vg, vs, vh, Nat.reduceMul, ite_true, ite_false, eq_self, forall_const, implies_true, Nat.reduceAdd, Nat.reduceSub, Nat.reduceLT, Nat.reduceLeDiff, ↓reduceIte, reduceCtorEq, Int.reduceEq, Int.reduceLT, Int.reduceLE, Int.reduceGT, Int.reduceGE, Int.reduceAdd, Int.reduceSub, Int.reduceNeg, Int.reduceToNat, Nat.reduceBEq, Nat.reduceEqDiff]
  have hll := lns_le s
  refine rngK_of (by kernel_rfl) fun fn db => ?_
  rw [show ∀ (a b c : Option ABlk), List.length (a :: b :: c :: H) = H.length + 3 from fun _ _ _ => rfl]
  generalize hts0 : ([AV.sc (Value.string s), AV.sc (Value.int IntKind.i64 from_), AV.sc (Value.int IntKind.i64 to), AV.tup [],
                AV.tup [], AV.tup [], AV.ptr 2 (List.length H) 0 0, AV.sc (Value.int IntKind.i64 0),
                AV.ptr 1 (List.length H + 1) 0 0, AV.tup [], AV.lst 1 [] (some []), AV.sc (Value.string s),
                AV.fn (Fn.func 57) [] [AV.ptr 1 (List.length H + 2) 0 0], AV.tup [], AV.tup [], AV.tup [], AV.tup [],
                AV.tup [], AV.tup [], AV.tup [], AV.tup [], AV.tup [], AV.tup [], AV.tup [], AV.tup [], AV.tup [],
                AV.tup [], AV.tup [], AV.tup [], AV.tup [], AV.tup [], AV.tup [], AV.tup [], AV.tup [], AV.tup [],
                AV.tup [], AV.tup [], AV.tup [], AV.tup [], AV.tup [], AV.tup [], AV.tup [], AV.tup [], AV.tup [], AV.tup [], AV.tup [], AV.tup [], AV.tup []] : List AV) = ts0
  have hmk : ∃ js, ts0 = mk [none, none, none, none, none, none, none, none, some (.ptr 1 (H.length + 1) 0 0), none, none, none, none, none, none, none, none, none, none, none, none, none, none, none, none, none, none, none, none, none, none, none, none, none, none, none, none, none, none, none, none, none, none, none, none, none, none, none] js := by
    rw [← hts0]
    exact (show Fr [none, none, none, none, none, none, none, none, some (.ptr 1 (H.length + 1) 0 0), none, none, none, none, none, none, none, none, none, none, none, none, none, none, none, none, none, none, none, none, none, none, none, none, none, none, none, none, none, none, none, none, none, none, none, none, none, none, none] _ from by simp [Fr]).opened
  obtain ⟨B0, hB0⟩ : ∃ B0 : AHeap, B0 = some (lpB (recB fn db #[13, 14] (rcA Try.f20 0) (rcB Try.f20 0)) ts0) :: some ⟨1, [.sc (.string s)], true, 9⟩ :: some ⟨1, [.lst 1 [] (some [])], true, 72⟩ :: some ⟨2, [.agg [.sc (.int .i64 0), .sc (.int .i64 0)]], true, 37⟩ :: H := ⟨_, rfl⟩
  have hBl : B0.length = H.length + 4 := by rw [hB0]; simp
  have hfr : AHeap.find B0 (H.length + 3) = some (lpB (recB fn db #[13, 14] (rcA Try.f20 0) (rcB Try.f20 0)) ts0) := by rw [hB0]; exact find_top (by simp)
  have hfs : AHeap.find B0 (H.length + 2) = some ⟨1, [.sc (.string s)], true, 9⟩ := by rw [hB0, find_past (by simp)]; exact find_top (by simp)
  have hfo : AHeap.find B0 (H.length + 1) = some ⟨1, [.lst 1 [] (some [])], true, 72⟩ := by rw [hB0, find_past (by simp), find_past (by simp)]; exact find_top (by simp)
  have hfp : AHeap.find B0 H.length = some ⟨2, [.agg [.sc (.int .i64 0), .sc (.int .i64 0)]], true, 37⟩ := by rw [hB0, find_past (by simp; omega), find_past (by simp; omega), find_past (by simp)]; exact find_top (by simp)
  have hfH : ∀ id, id < H.length → AHeap.find B0 id = AHeap.find H id := fun id hid => by rw [hB0, find_past (by simp; omega), find_past (by simp; omega), find_past (by simp; omega), find_past hid]
  have ok := fun k => snF_ok (B0 := B0) (oid := H.length + 1) (s := s) hfo k
  obtain ⟨o1, o2, o3, o4⟩ := ok (lns s).length
  obtain ⟨js, hjs⟩ := hmk
  refine ⟨.tup [], (snF B0 (H.length + 1) s (lns s).length).1, recB fn db #[13, 14] (rcA Try.f20 0) (rcB Try.f20 0), ts0, ?_, ?_, by simp [recB], ?_⟩
  · rw [← hB0]
    refine each1_d s (by omega) (H.length + 3) (H.length + 2) (lns s).length (fun k => (snF B0 (H.length + 1) s k).1) _ (Nat.le_refl _) (fun k hk => ?_) (by rw [o1]; show B0.length ≤ _; omega) (fun k hk => ?_) (.inl ⟨rfl, rfl⟩)
    · obtain ⟨_, _, _, h4⟩ := ok k
      rw [h4 _ (by omega) (by omega)]
      exact hfs
    · obtain ⟨h1, h2, h3, h4⟩ := ok k
      have hk1 := begL_length s k
      exact span_dy hjs (by rw [h4 _ (by omega) (by omega)]; exact hfr) h2 (fun h => (h3 h).1) (by omega) (fun h => by have := (h3 h).2; omega) (by omega)
  · rw [o4 _ (by omega) (by omega)]
    exact hfr
  · simp only [recB, jmpK]
    obtain ⟨G, hG⟩ : ∃ G, G = AHeap.set (snF B0 (H.length + 1) s (lns s).length).1 (H.length + 3) none := ⟨_, rfl⟩
    rw [← hG]
    have hGl : G.length = B0.length + (lns s).length := by rw [hG, AHeap.set_length, o1]
    have g2 : AHeap.find G (H.length + 1) = some ⟨1, [OwnJ (intA (begL s (lns s).length)) (snF B0 (H.length + 1) s (lns s).length).2], true, 72⟩ := by rw [hG, find_set_other (by omega)]; exact o2
    have g3 : begL s (lns s).length ≠ [] → AHeap.find G (snF B0 (H.length + 1) s (lns s).length).2 = some ⟨1, intA (begL s (lns s).length), false, 3⟩ := fun h => by
      have := o3 h
      rw [hG, find_set_other (by omega)]; exact this.1
    have g4 : AHeap.find G H.length = some ⟨2, [.agg [.sc (.int .i64 0), .sc (.int .i64 0)]], true, 37⟩ := by rw [hG, find_set_other (by omega), o4 _ (by omega) (by omega)]; exact hfp
    have g5 : ∀ id, id < H.length → AHeap.find G id = AHeap.find H id := fun id hid => by rw [hG, find_set_other (by omega), o4 _ (by omega) (by omega), hfH id hid]
    have hsz : ((s.size : Nat) : Int) = (atS s (lns s).length : Nat) := by rw [atS_end]
    have hbl := begL_length s (lns s).length
    generalize (snF B0 (H.length + 1) s (lns s).length).2 = vid at g2 g3
    clear ok o1 o2 o3 o4 hG hfH hfp hfo hfs hfr hB0
    subst hts0
    clear hjs
    simp -implicitDefEqProofs (maxSteps := 99999999) (disch := first | omega | (simp only [AHeap.set_length, killO_length, List.length_cons, List.length_nil]; first | done | omega)) only [vu, g2, OwnJ_cells, OwnJ_top, OwnJ_n, va, vg, vs, vw, Nat.reduceMul, ite_true, ite_false, eq_self, forall_const, implies_true, Nat.reduceAdd, Nat.reduceSub, Nat.reduceLT, Nat.reduceLeDiff, ↓reduceIte, reduceCtorEq, Int.reduceEq, Int.reduceLT, Int.reduceLE, Int.reduceGT, Int.reduceGE, Int.reduceAdd, Int.reduceSub, Int.reduceNeg, Int.reduceToNat, Nat.reduceBEq, Nat.reduceEqDiff]
    refine callR_ret (concat_d _ (begL s (lns s).length) _ (by omega) ?_ _) ?_
    · by_cases e : begL s (lns s).length = []
      · rw [e]; exact .inl ⟨rfl, rfl⟩
      · refine .inr ⟨vid, e, ?_, g3 e⟩
        cases hb : begL s (lns s).length with
        | nil => exact (e hb).elim
        | cons y ys => simp [OwnJ, intA]
    rw [hsz, show begL s (lns s).length ++ [((atS s (lns s).length : Nat) : Int)] = begL s ((lns s).length + 1) from rfl, hbl]
    have e1l : H.length + 1 < G.length := by omega
    have e1m : ¬ H.length + 1 = G.length := by omega
    have e0m : ¬ H.length = G.length := by omega
    have e0l : H.length < G.length := by omega
    have fr : ∀ (a b : Int) (T : Option ABlk) (V : AV), ∀ id k, id < H.length → AHeap.find H id = some k → AHeap.find (T :: AHeap.set (AHeap.set G (H.length + 1) (some ⟨1, [V], true, 72⟩)) H.length (some ⟨2, [.agg [.sc (.int .i64 a), .sc (.int .i64 b)]], true, 37⟩)) id = some k := by
      intro a b T V id k hid hk
      rw [find_past (by rw [AHeap.set_length, AHeap.set_length]; omega), find_set_other (by omega), find_set_other (by omega), g5 id hid, hk]
    by_cases c1 : from_ < 0
    · have hS : spanS s from_ to = (0, 0, 2) := by unfold spanS; rw [if_pos (.inl c1)]
      rw [hS]
      simp -implicitDefEqProofs (maxSteps := 99999999) (disch := first | omega | (simp only [AHeap.set_length, killO_length, List.length_cons, List.length_nil]; first | done | omega)) only [vu, g2, g4, e1l, e1m, e0m, e0l, OwnJ_n, OwnJ_upd, c1, va, vg, vs, vw, Nat.reduceMul, ite_true, ite_false, eq_self, forall_const, implies_true, Nat.reduceAdd, Nat.reduceSub, Nat.reduceLT, Nat.reduceLeDiff, ↓reduceIte, reduceCtorEq, Int.reduceEq, Int.reduceLT, Int.reduceLE, Int.reduceGT, Int.reduceGE, Int.reduceAdd, Int.reduceSub, Int.reduceNeg, Int.reduceToNat, Nat.reduceBEq, Nat.reduceEqDiff]
      exact weak_gen [] (by simp) (by simp) (by simp) (fun id k hid hk => .inl ⟨hk, fr _ _ _ _ id k hid hk⟩) (fun i s k hs => by simp at hs) (.same ⟨⟨trivial, trivial, trivial⟩, trivial, trivial⟩)
    by_cases c2 : from_ > to
    · have hS : spanS s from_ to = (0, 0, 2) := by unfold spanS; rw [if_pos (.inr (.inl c2))]
      rw [hS]
      simp -implicitDefEqProofs (maxSteps := 99999999) (disch := first | omega | (simp only [AHeap.set_length, killO_length, List.length_cons, List.length_nil]; first | done | omega)) only [vu, g2, g4, e1l, e1m, e0m, e0l, OwnJ_n, OwnJ_upd, c1, c2, va, vg, vs, vw, Nat.reduceMul, ite_true, ite_false, eq_self, forall_const, implies_true, Nat.reduceAdd, Nat.reduceSub, Nat.reduceLT, Nat.reduceLeDiff, ↓reduceIte, reduceCtorEq, Int.reduceEq, Int.reduceLT, Int.reduceLE, Int.reduceGT, Int.reduceGE, Int.reduceAdd, Int.reduceSub, Int.reduceNeg, Int.reduceToNat, Nat.reduceBEq, Nat.reduceEqDiff]
      exact weak_gen [] (by simp) (by simp) (by simp) (fun id k hid hk => .inl ⟨hk, fr _ _ _ _ id k hid hk⟩) (fun i s k hs => by simp at hs) (.same ⟨⟨trivial, trivial, trivial⟩, trivial, trivial⟩)
    by_cases c3 : to > (lns s).length
    · have hS : spanS s from_ to = (0, 0, 2) := by unfold spanS; rw [if_pos (.inr (.inr c3))]
      have c3' : to ≥ (((lns s).length + 1 : Nat) : Int) := by omega
      rw [hS]
      simp -implicitDefEqProofs (maxSteps := 99999999) (disch := first | omega | (simp only [AHeap.set_length, killO_length, List.length_cons, List.length_nil]; first | done | omega)) only [vu, g2, g4, e1l, e1m, e0m, e0l, OwnJ_n, OwnJ_upd, c1, c2, c3', va, vg, vs, vw, Nat.reduceMul, ite_true, ite_false, eq_self, forall_const, implies_true, Nat.reduceAdd, Nat.reduceSub, Nat.reduceLT, Nat.reduceLeDiff, ↓reduceIte, reduceCtorEq, Int.reduceEq, Int.reduceLT, Int.reduceLE, Int.reduceGT, Int.reduceGE, Int.reduceAdd, Int.reduceSub, Int.reduceNeg, Int.reduceToNat, Nat.reduceBEq, Nat.reduceEqDiff]
      exact weak_gen [] (by simp) (by simp) (by simp) (fun id k hid hk => .inl ⟨hk, fr _ _ _ _ id k hid hk⟩) (fun i s k hs => by simp at hs) (.same ⟨⟨trivial, trivial, trivial⟩, trivial, trivial⟩)
    · have hS : spanS s from_ to = (((atS s from_.toNat : Nat) : Int), ((atS s to.toNat : Nat) : Int), 0) := by unfold spanS; rw [if_neg (by omega)]
      have c3' : ¬ to ≥ (((lns s).length + 1 : Nat) : Int) := by omega
      rw [hS]
      have n1 : (intA (begL s ((lns s).length + 1))).getD from_.toNat AV.top = .sc (.int .i64 ((atS s from_.toNat : Nat) : Int)) := by
        simp [intA, begL_nth s (show from_.toNat < (lns s).length + 1 by omega)]
      have n2 : (intA (begL s ((lns s).length + 1))).getD to.toNat AV.top = .sc (.int .i64 ((atS s to.toNat : Nat) : Int)) := by
        simp [intA, begL_nth s (show to.toNat < (lns s).length + 1 by omega)]
      have hil : (intA (begL s ((lns s).length + 1))).length = (lns s).length + 1 := by rw [intA_length, begL_length]
      simp -implicitDefEqProofs (maxSteps := 99999999) (disch := first | omega | (simp only [AHeap.set_length, killO_length, List.length_cons, List.length_nil]; first | done | omega)) only [vu, g2, g4, e1l, e1m, e0m, e0l, OwnJ_n, OwnJ_upd, c1, c2, c3', n1, n2, hil, va, vg, vs, vw, Nat.reduceMul, ite_true, ite_false, eq_self, forall_const, implies_true, Nat.reduceAdd, Nat.reduceSub, Nat.reduceLT, Nat.reduceLeDiff, ↓reduceIte, reduceCtorEq, Int.reduceEq, Int.reduceLT, Int.reduceLE, Int.reduceGT, Int.reduceGE, Int.reduceAdd, Int.reduceSub, Int.reduceNeg, Int.reduceToNat, Nat.reduceBEq, Nat.reduceEqDiff]
      refine ⟨⟨by omega, by omega⟩, by omega, ⟨by omega, by omega⟩, by omega, ?_⟩
      exact weak_gen [] (by simp) (by simp) (by simp) (fun id k hid hk => .inl ⟨hk, fr _ _ _ _ id k hid hk⟩) (fun i s k hs => by simp at hs) (.same ⟨⟨trivial, trivial, trivial⟩, trivial, trivial⟩)
end Go.Proofs.Ytigmpablpmanpaa
