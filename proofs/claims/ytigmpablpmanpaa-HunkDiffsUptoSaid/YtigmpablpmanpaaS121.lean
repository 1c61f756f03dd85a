/- lines.Split. -/
import Derived.Test.YtigmpablpmanpaaS120
namespace Go.Proofs.Ytigmpablpmanpaa
open Go.RowKit
set_option maxRecDepth 100000
set_option linter.unusedVariables false
set_option linter.unusedSimpArgs false

theorem heap_ext : ∀ {H G : AHeap}, H.length = G.length → (∀ i, i < H.length → AHeap.find H i = AHeap.find G i) → H = G
  | [], [], _, _ => rfl
  | b :: r, c :: s, hl, h => by
    have hl' : r.length = s.length := by simpa using hl
    have h0 := h r.length (by simp)
    rw [AHeap.find_new, hl', AHeap.find_new] at h0
    rw [h0, heap_ext hl' fun i hi => by
      have := h i (by simp; omega)
      rwa [AHeap.find_cons hi, AHeap.find_cons (by omega)] at this]
theorem find_set {H : AHeap} {i j : Nat} {x : Option ABlk} (hi : i < H.length) : AHeap.find (AHeap.set H i x) j = if i = j then x else AHeap.find H j := by
  split
  · rename_i e; subst e; exact AHeap.find_set_same hi
  · rename_i e; exact AHeap.find_set_ne (fun h => e h.symm)
theorem find_cons_if {H : AHeap} {b : Option ABlk} {i : Nat} : AHeap.find (b :: H) i = if i = H.length then b else AHeap.find H i := rfl
theorem set_comm {H : AHeap} {i j : Nat} {x y : Option ABlk} (h : i ≠ j) : AHeap.set (AHeap.set H i x) j y = AHeap.set (AHeap.set H j y) i x := by
  refine heap_ext (by simp [AHeap.set_length]) fun k hk => ?_
  by_cases h1 : k = i
  · subst h1
    rw [AHeap.find_set_ne h]
    by_cases hl : k < H.length
    · rw [AHeap.find_set_same hl, AHeap.find_set_same (by rw [AHeap.set_length]; exact hl)]
    · rw [AHeap.find_ge (by rw [AHeap.set_length]; omega), AHeap.find_ge (by rw [AHeap.set_length, AHeap.set_length]; omega)]
  · rw [AHeap.find_set_ne (i := i) (j := k) h1]
    by_cases h2 : k = j
    · subst h2
      by_cases hl : k < H.length
      · rw [AHeap.find_set_same hl, AHeap.find_set_same (by rw [AHeap.set_length]; exact hl)]
      · rw [AHeap.find_ge (by rw [AHeap.set_length, AHeap.set_length]; omega), AHeap.find_ge (by rw [AHeap.set_length]; omega)]
    · rw [AHeap.find_set_ne h2, AHeap.find_set_ne h2, AHeap.find_set_ne h1]
/-- The record behind a round is the one ahead of it. -/
theorem round_heap {F : AHeap} {rid oid : Nat} {B R : ABlk} {X T : Option ABlk} (hr : AHeap.find F rid = some R) (d : rid ≠ oid) : AHeap.set (T :: AHeap.set (AHeap.set F rid (some B)) oid X) rid (some R) = T :: AHeap.set F oid X := by
  have hl := AHeap.find_lt hr
  rw [set_past (by simp [AHeap.set_length]; exact hl), set_comm d.symm, set_set, set_self hr hl]
theorem round_heap0 {F : AHeap} {rid oid : Nat} {B R : ABlk} {X : Option ABlk} (hr : AHeap.find F rid = some R) (d : rid ≠ oid) : AHeap.set (AHeap.set (AHeap.set F rid (some B)) oid X) rid (some R) = AHeap.set F oid X := by
  have hl := AHeap.find_lt hr
  rw [set_comm d.symm, set_set, set_self hr hl]
theorem round_heap2 {F : AHeap} {rid oid vid : Nat} {B R : ABlk} {X Y T : Option ABlk} (hr : AHeap.find F rid = some R) (d : rid ≠ oid) (d2 : rid ≠ vid) : AHeap.set (T :: AHeap.set (AHeap.set (AHeap.set F rid (some B)) vid Y) oid X) rid (some R) = T :: AHeap.set (AHeap.set F vid Y) oid X := by
  have hl := AHeap.find_lt hr
  rw [set_past (by simp [AHeap.set_length]; exact hl), set_comm d.symm, set_comm (H := AHeap.set F rid (some B)) d2.symm, set_set, set_self hr hl]
section
variable {P : Program} {id : Nat} {r : Loop} {ts0 ts : List AV} {ib : IC} {Kr : AEnd → AHeap → Prop} {H : AHeap} {i : Nat}
theorem asgS_n : asgS P id r ts0 ib Kr .normal ts H = (AHeap.find H id = some (lpB r ts0) ∧ ES P ib (rndK id Kr) ts (AHeap.set H id (some (lpB { r with state := .busy } ts0)))) := rfl
theorem rndK_n : rndK id Kr .normal ts H = ∃ r ts, AHeap.find H id = some (lpB r ts) ∧ Kr (.ret (.sc (.bool true))) (AHeap.set H id (some (lpB { r with state := .ready, pending := none } ts))) := rfl
theorem rndK_r : rndK id Kr .ret ts H = ∃ r ts, AHeap.find H id = some (lpB r ts) ∧ Kr (.ret (.sc (.bool false))) (AHeap.set H id (some (lpB { r with state := .done, pending := some .ret } ts))) := rfl
theorem rndK_e : rndK id Kr (.exit i) ts H = ∃ r ts, AHeap.find H id = some (lpB r ts) ∧ Kr (.ret (.sc (.bool false))) (AHeap.set H id (some (lpB { r with state := .done, pending := some (.exit i) } ts))) := rfl
end

/-- A round of Split. -/
theorem split_dy {F : AHeap} {rid oid vid fn db : Nat} {ts0 : List AV} {js : Nat → AV} {xs : List ByteArray} {x : ByteArray} {n : Int} (hts : ts0 = mk [none, none, none, some (.ptr 1 oid 0 0), none, none, none, none, none, none, none, none, none, none, none, none] js)
    (hr : AHeap.find F rid = some (lpB (recB fn db #[8, 9] (rcA Try.f22 0) (rcB Try.f22 0)) ts0)) (ho : AHeap.find F oid = some ⟨1, [OwnV 1 (strs xs) vid], true, 22⟩) (hv : xs ≠ [] → AHeap.find F vid = some ⟨1, strs xs, false, 9⟩)
    (d1 : rid ≠ oid) (d2 : xs ≠ [] → vid ≠ oid ∧ vid ≠ rid) (hx : x.size ≤ 100000000) (hl : xs.length + 1 ≤ 100000000) :
    DY Try.prog rid [.sc (.int .i64 n), .sc (.string x)] F (.ret (.sc (.bool true))) (some ⟨1, strs (xs ++ [x]), false, 9⟩ :: AHeap.set (killO (strs xs) vid F) oid (some ⟨1, [OwnV 1 (strs (xs ++ [x])) F.length], true, 22⟩)) := by
  have hrl := AHeap.find_lt hr
  have hol := AHeap.find_lt ho
  refine DY_of_DKY (by simp [killO_length, AHeap.set_length]) (DKY_of_ES rca22_0 rcb22_0 hr rfl rfl ?_)
  obtain ⟨tp, htp⟩ : ∃ tp, putPs [8, 9] [.sc (.int .i64 n), .sc (.string x)] ts0 = tp := ⟨_, rfl⟩
  show ES _ _ _ (putPs [8, 9] _ ts0) _
  rw [htp]
  rw [hts] at htp
  simp only [mk, putPs, List.set_cons_succ, List.set_cons_zero] at htp
  subst htp
  clear hts
  simp -implicitDefEqProofs (maxSteps := 99999999) (disch := first | omega | (simp only [AHeap.set_length, killO_length, List.length_cons, List.length_nil]; first | done | omega)) only [vu, ic22a0, asgS_n, va, vg, vs, vw, Nat.reduceMul, ite_true, ite_false, eq_self, forall_const, implies_true, Nat.reduceAdd, Nat.reduceSub, Nat.reduceLT, Nat.reduceLeDiff, ↓reduceIte, reduceCtorEq, Int.reduceEq, Int.reduceLT, Int.reduceLE, Int.reduceGT, Int.reduceGE, Int.reduceAdd, Int.reduceSub, Int.reduceNeg, Int.reduceToNat, Nat.reduceBEq, Nat.reduceEqDiff]
  refine ⟨hr, ?_⟩
  generalize hB : lpB { recB fn db #[8, 9] (rcA Try.f22 0) (rcB Try.f22 0) with state := .busy } ts0 = B
  have hr1 : AHeap.find (AHeap.set F rid (some B)) rid = some B := AHeap.find_set_same hrl
  have ho1 : AHeap.find (AHeap.set F rid (some B)) oid = some ⟨1, [OwnV 1 (strs xs) vid], true, 22⟩ := by rw [find_set hrl, if_neg d1]; exact ho
  have hv1 : xs ≠ [] → AHeap.find (AHeap.set F rid (some B)) vid = some ⟨1, strs xs, false, 9⟩ := fun h => by rw [find_set hrl, if_neg (fun e => (d2 h).2 e.symm)]; exact hv h
  have hlen : (AHeap.set F rid (some B)).length = F.length := AHeap.set_length _ _ _
  obtain ⟨F1, hF1⟩ : ∃ F1, F1 = AHeap.set F rid (some B) := ⟨_, rfl⟩
  rw [← hF1] at hr1 ho1 hv1 hlen ⊢
  have hol1 : oid < F1.length := AHeap.find_lt ho1
  have hlen2 : (AHeap.set F rid (some B)).length = F.length := AHeap.set_length _ _ _
  cases xs with
  | nil =>
    simp only [strs_nil, OwnV_nil] at ho1
    simp -implicitDefEqProofs (maxSteps := 99999999) (disch := first | omega | (simp only [AHeap.set_length, killO_length, List.length_cons, List.length_nil]; first | done | omega)) only [vu, ic22b0, ho1, strs_nil, OwnV_nil, va, vg, vs, vw, Nat.reduceMul, ite_true, ite_false, eq_self, forall_const, implies_true, Nat.reduceAdd, Nat.reduceSub, Nat.reduceLT, Nat.reduceLeDiff, ↓reduceIte, reduceCtorEq, Int.reduceEq, Int.reduceLT, Int.reduceLE, Int.reduceGT, Int.reduceGE, Int.reduceAdd, Int.reduceSub, Int.reduceNeg, Int.reduceToNat, Nat.reduceBEq, Nat.reduceEqDiff]
    refine callD_same (strClone_d x _ hx) ?_
    simp -implicitDefEqProofs (maxSteps := 99999999) (disch := first | omega | (simp only [AHeap.set_length, killO_length, List.length_cons, List.length_nil]; first | done | omega)) only [vu, ho1, strs_nil, OwnV_nil, va, vg, vs, vw, Nat.reduceMul, ite_true, ite_false, eq_self, forall_const, implies_true, Nat.reduceAdd, Nat.reduceSub, Nat.reduceLT, Nat.reduceLeDiff, ↓reduceIte, reduceCtorEq, Int.reduceEq, Int.reduceLT, Int.reduceLE, Int.reduceGT, Int.reduceGE, Int.reduceAdd, Int.reduceSub, Int.reduceNeg, Int.reduceToNat, Nat.reduceBEq, Nat.reduceEqDiff]
    rw [rndK_n]
    refine ⟨_, ts0, by rw [find_past (by rw [AHeap.set_length, hlen]; exact hrl), find_set_other d1, hr1, ← hB], ?_⟩
    rw [hF1, hlen2]
    exact (round_heap hr d1) ▸ Weak.refl _ _ _
  | cons y ys => 
    have hv2 := hv1 (by simp)
    have hvl := AHeap.find_lt hv2
    have hlc : (strs (y :: ys)).length = ys.length + 1 := by simp [strs_length]
    have hO : OwnV 1 (strs (y :: ys)) vid = .vec 1 vid 0 (ys.length + 1) none := by simp [OwnV, strs, strs_length]
    rw [hO] at ho1
    simp -implicitDefEqProofs (maxSteps := 99999999) (disch := first | omega | (simp only [AHeap.set_length, killO_length, List.length_cons, List.length_nil]; first | done | omega)) only [vu, ic22b0, ho1, hv2, va, vg, vs, vw, Nat.reduceMul, ite_true, ite_false, eq_self, forall_const, implies_true, Nat.reduceAdd, Nat.reduceSub, Nat.reduceLT, Nat.reduceLeDiff, ↓reduceIte, reduceCtorEq, Int.reduceEq, Int.reduceLT, Int.reduceLE, Int.reduceGT, Int.reduceGE, Int.reduceAdd, Int.reduceSub, Int.reduceNeg, Int.reduceToNat, Nat.reduceBEq, Nat.reduceEqDiff]
    refine callD_same (strClone_d x _ hx) ?_
    have ho2 : AHeap.find (AHeap.set F1 vid none) oid = some ⟨1, [.vec 1 vid 0 (ys.length + 1) none], true, 22⟩ := by rw [find_set_other (d2 (by simp)).1.symm]; exact ho1
    simp -implicitDefEqProofs (maxSteps := 99999999) (disch := first | omega | (simp only [AHeap.set_length, killO_length, List.length_cons, List.length_nil]; first | done | omega)) only [vu, ho1, hv2, hlc, ho2, va, vg, vs, vw, Nat.reduceMul, ite_true, ite_false, eq_self, forall_const, implies_true, Nat.reduceAdd, Nat.reduceSub, Nat.reduceLT, Nat.reduceLeDiff, ↓reduceIte, reduceCtorEq, Int.reduceEq, Int.reduceLT, Int.reduceLE, Int.reduceGT, Int.reduceGE, Int.reduceAdd, Int.reduceSub, Int.reduceNeg, Int.reduceToNat, Nat.reduceBEq, Nat.reduceEqDiff]
    refine ⟨by simp at hl; omega, ?_⟩
    rw [rndK_n]
    refine ⟨_, ts0, by rw [find_past (by rw [AHeap.set_length, AHeap.set_length, hlen]; exact hrl), find_set_other d1, find_set_other (d2 (by simp)).2.symm, hr1, ← hB], ?_⟩
    rw [hF1, hlen2, show strs (y :: ys) ++ [AV.sc (.string x)] = strs (y :: (ys ++ [x])) from by simp [strs], show AV.vec 1 F.length 0 (ys.length + 2) none = OwnV 1 (strs (y :: (ys ++ [x]))) F.length from by simp [OwnV, strs]]
    exact (round_heap2 hr d1 (d2 (by simp)).2.symm) ▸ Weak.refl _ _ _

theorem strs_gzL {H : AHeap} {n : Nat} {src : List Nat} : ∀ {l : List ByteArray}, GzL H n src (strs l) (strs l)
  | [] => .nil
  | _ :: _ => .cons (.same trivial) strs_gzL
/-- Own memory behind so many rounds; where the row lies then. -/
def spF (B0 : AHeap) (oid : Nat) (L : List ByteArray) : Nat → AHeap × Nat
  | 0 => (B0, 0)
  | k + 1 => (some ⟨1, strs (L.take k ++ [nthS L k]), false, 9⟩ :: AHeap.set (killO (strs (L.take k)) (spF B0 oid L k).2 (spF B0 oid L k).1) oid (some ⟨1, [OwnV 1 (strs (L.take k ++ [nthS L k])) (spF B0 oid L k).1.length], true, 22⟩), (spF B0 oid L k).1.length)
theorem take_nth {L : List ByteArray} {k : Nat} (h : k < L.length) : L.take k ++ [nthS L k] = L.take (k + 1) := by
  rw [List.take_add_one, nthS_eq h, List.getElem?_eq_getElem h]
  rfl
theorem spF_ok {B0 : AHeap} {oid : Nat} {L : List ByteArray} (ho : AHeap.find B0 oid = some ⟨1, [.lst 0 [] (some [])], true, 22⟩) : ∀ k, k ≤ L.length → (spF B0 oid L k).1.length = B0.length + k ∧ AHeap.find (spF B0 oid L k).1 oid = some ⟨1, [OwnV 1 (strs (L.take k)) (spF B0 oid L k).2], true, 22⟩ ∧
    (L.take k ≠ [] → AHeap.find (spF B0 oid L k).1 (spF B0 oid L k).2 = some ⟨1, strs (L.take k), false, 9⟩ ∧ B0.length ≤ (spF B0 oid L k).2) ∧ ∀ id, id < B0.length → id ≠ oid → AHeap.find (spF B0 oid L k).1 id = AHeap.find B0 id
  | 0, _ => ⟨rfl, ho, fun h => (h rfl).elim, fun _ _ _ => rfl⟩
  | k + 1, hk => by
    obtain ⟨h1, h2, h3, h4⟩ := spF_ok (L := L) ho k (by omega)
    have hol := AHeap.find_lt ho
    simp only [spF]
    rw [take_nth (show k < L.length by omega)]
    have hlen : (AHeap.set (killO (strs (L.take k)) (spF B0 oid L k).2 (spF B0 oid L k).1) oid (some ⟨1, [OwnV 1 (strs (L.take (k + 1))) (spF B0 oid L k).1.length], true, 22⟩)).length = B0.length + k := by rw [AHeap.set_length, killO_length, h1]
    refine ⟨by rw [List.length_cons, hlen]; omega, ?_, fun _ => ⟨?_, by omega⟩, fun id hid hne => ?_⟩
    · rw [find_past (by omega), AHeap.find_set_same (by rw [killO_length, h1]; omega)]
    · exact find_top (by rw [hlen, h1])
    · rw [find_past (by omega), find_set_other hne]
      by_cases e : L.take k = []
      · rw [e]; exact h4 id hid hne
      · have := (h3 e).2
        rw [find_killO (by omega)]
        exact h4 id hid hne

theorem lns_short {s : ByteArray} {k : Nat} (h : k < (lns s).length) : (nthS (lns s) k).size ≤ s.size := by
  obtain ⟨_, c, _, h3, _, h5, _⟩ := line_at s h
  rw [h5, ByteArray.size_extract]
  omega
theorem lns_le (s : ByteArray) : (lns s).length ≤ s.size := by
  have key : ∀ k, k ≤ (lns s).length → k ≤ atS s k := by
    intro k
    induction k with
    | zero => intro _; exact Nat.zero_le _
    | succ k ih =>
      intro h
      obtain ⟨_, c, h2, _, h4, _⟩ := line_at s (show k < (lns s).length by omega)
      have := ih (by omega)
      omega
  have := key _ (Nat.le_refl _)
  rwa [atS_end] at this

theorem split_d (s : ByteArray) (hs : s.size ≤ 10000000) (H : AHeap) : D Try.prog 22 [.sc (.string s)] H (.ret (.lst 1 (strs (lns s)) none)) H := by
  refine D_of_DK (Nat.le_refl _) (dk22 (E_of_ES ?_))
  simp -implicitDefEqProofs (maxSteps := 99999999) (disch := omega) only [vu, ES_rng, ic22, va, vg, vs, vh, Nat.reduceMul, ite_true, ite_false, eq_self, forall_const, implies_true, Nat.reduceAdd, Nat.reduceSub, Nat.reduceLT, Nat.reduceLeDiff, ↓reduceIte, reduceCtorEq, Int.reduceEq, Int.reduceLT, Int.reduceLE, Int.reduceGT, Int.reduceGE, Int.reduceAdd, Int.reduceSub, Int.reduceNeg, Int.reduceToNat, Nat.reduceBEq, Nat.reduceEqDiff]
  refine callR_ret (each_d s _) ?_
  simp -implicitDefEqProofs (maxSteps := 99999999) (disch := omega) only [vu, ES_rng, va, vg, vs, vh, Nat.reduceMul, ite_true, ite_false, eq_self, forall_const, implies_true, Nat.reduceAdd, Nat.reduceSub, Nat.reduceLT, Nat.reduceLeDiff, ↓reduceIte, reduceCtorEq, Int.reduceEq, Int.reduceLT, Int.reduceLE, Int.reduceGT, Int.reduceGE, Int.reduceAdd, Int.reduceSub, Int.reduceNeg, Int.reduceToNat, Nat.reduceBEq, Nat.reduceEqDiff]
  have hll := lns_le s
  refine rngK_of (by kernel_rfl) fun fn db => ?_
  obtain ⟨ts0, hts0⟩ : ∃ ts0, ts0 = [AV.sc (Value.string s), AV.tup [], AV.lst 0 [] (some []), AV.ptr 1 (List.length H) 0 0, AV.tup [], AV.tup [],
      AV.sc (Value.string s), AV.fn (Fn.func 57) [] [AV.ptr 1 (List.length H + 1) 0 0], AV.tup [], AV.tup [], AV.tup [],
      AV.tup [], AV.tup [], AV.tup [], AV.tup [], AV.tup []] := ⟨_, rfl⟩
  rw [← hts0]
  have hmk : ∃ js, ts0 = mk [none, none, none, some (.ptr 1 H.length 0 0), none, none, none, none, none, none, none, none, none, none, none, none] js := by
    rw [hts0]
    exact (show Fr [none, none, none, some (.ptr 1 H.length 0 0), none, none, none, none, none, none, none, none, none, none, none, none] _ from by simp [Fr]).opened
  obtain ⟨B0, hB0⟩ : ∃ B0 : AHeap, B0 = some (lpB (recB fn db #[8, 9] (rcA Try.f22 0) (rcB Try.f22 0)) ts0) :: some ⟨1, [.sc (.string s)], true, 9⟩ :: some ⟨1, [.lst 0 [] (some [])], true, 22⟩ :: H := ⟨_, rfl⟩
  have hBl : B0.length = H.length + 3 := by rw [hB0]; simp
  have hfr : AHeap.find B0 (H.length + 2) = some (lpB (recB fn db #[8, 9] (rcA Try.f22 0) (rcB Try.f22 0)) ts0) := by rw [hB0]; exact find_top (by simp)
  have hfs : AHeap.find B0 (H.length + 1) = some ⟨1, [.sc (.string s)], true, 9⟩ := by rw [hB0, find_past (by simp)]; exact find_top (by simp)
  have hfo : AHeap.find B0 H.length = some ⟨1, [.lst 0 [] (some [])], true, 22⟩ := by rw [hB0, find_past (by simp; omega), find_past (by simp)]; exact find_top (by simp)
  have hfH : ∀ id, id < H.length → AHeap.find B0 id = AHeap.find H id := fun id hid => by rw [hB0, find_past (by simp; omega), find_past (by simp; omega), find_past hid]
  have ok := fun k hk => spF_ok (B0 := B0) (oid := H.length) (L := lns s) hfo k hk
  obtain ⟨o1, o2, o3, o4⟩ := ok (lns s).length (Nat.le_refl _)
  obtain ⟨js, hjs⟩ := hmk
  refine ⟨.tup [], (spF B0 H.length (lns s) (lns s).length).1, recB fn db #[8, 9] (rcA Try.f22 0) (rcB Try.f22 0), ts0, ?_, ?_, by simp [recB], ?_⟩
  · show D _ _ [.ptr 0 (H.length + 2) 0 1, .ptr 1 (H.length + 1) 0 0] _ _ _
    rw [← hB0]
    refine each1_d s (by omega) (H.length + 2) (H.length + 1) (lns s).length (fun k => (spF B0 H.length (lns s) k).1) _ (Nat.le_refl _) (fun k hk => ?_) (by rw [o1]; show B0.length ≤ _; omega) (fun k hk => ?_) (.inl ⟨rfl, rfl⟩)
    · obtain ⟨_, _, _, h4⟩ := ok k hk
      rw [h4 _ (by omega) (by omega)]
      exact hfs
    · obtain ⟨h1, h2, h3, h4⟩ := ok k (by omega)
      have hsh := lns_short hk
      exact split_dy hjs (by rw [h4 _ (by omega) (by omega)]; exact hfr) h2 (fun h => (h3 h).1) (by omega) (fun h => by have := (h3 h).2; omega) (by omega) (by simp; omega)
  · show AHeap.find _ (H.length + 2) = _
    rw [o4 _ (by omega) (by omega)]
    exact hfr
  · simp only [recB, jmpK, List.length_cons]
    rw [show H.length + 1 + 1 = H.length + 2 from rfl]
    rw [List.take_length] at o2 o3
    have hf2 : AHeap.find (AHeap.set (spF B0 H.length (lns s) (lns s).length).1 (H.length + 2) none) H.length = some ⟨1, [OwnV 1 (strs (lns s)) (spF B0 H.length (lns s) (lns s).length).2], true, 22⟩ := by rw [find_set_other (by omega)]; exact o2
    rw [hts0]
    simp -implicitDefEqProofs (maxSteps := 99999999) (disch := first | omega | (simp only [AHeap.set_length, killO_length, List.length_cons, List.length_nil]; first | done | omega)) only [vu, hf2, va, vg, vs, vw, Nat.reduceMul, ite_true, ite_false, eq_self, forall_const, implies_true, Nat.reduceAdd, Nat.reduceSub, Nat.reduceLT, Nat.reduceLeDiff, ↓reduceIte, reduceCtorEq, Int.reduceEq, Int.reduceLT, Int.reduceLE, Int.reduceGT, Int.reduceGE, Int.reduceAdd, Int.reduceSub, Int.reduceNeg, Int.reduceToNat, Nat.reduceBEq, Nat.reduceEqDiff]
    refine weak_gen [] (by simp) (by simp) (by simp) (fun id k hid hk => .inl ⟨hk, ?_⟩) (fun i s k hs => by simp at hs) (OwnV_fz (ty := 9) (fun h => ?_) (fun h => ?_) strs_gzL)
    · rw [find_set_other (by omega), o4 id (by omega) (by omega), hfH id hid]; exact hk
    · have h5 := (o3 (fun e => h (by rw [e]; rfl))).2
      unfold newId
      rw [if_neg (by omega)]
      rfl
    · have h5 := o3 (fun e => h (by rw [e]; rfl))
      rw [find_set_other (by omega), h5.1]
      cases hl : lns s with
      | nil => rw [hl] at h; exact (h rfl).elim
      | cons y ys => rfl
end Go.Proofs.Ytigmpablpmanpaa
