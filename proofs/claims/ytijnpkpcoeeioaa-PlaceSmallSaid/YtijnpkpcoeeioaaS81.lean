/- PlaceSmall tells true: by what PlaceTells and PlaceBack tell of all paths. -/
import Derived.Test.YtijnpkpcoeeioaaS77
import Derived.Test.YtijnpkpcoeeioaaS80
namespace Go.Proofs.Ytijnpkpcoeeioaa
open Go.RowKit
set_option maxRecDepth 100000
set_option linter.unusedVariables false
set_option linter.unusedSimpArgs false

/-- A path that was made. -/
def Made (G : AHeap) (m : Nat) (x : AV) : Prop := x = .lst 1 [] (some []) ∨ ∃ (l : List Int) (id : Nat), l ≠ [] ∧ l.length ≤ m ∧ x = .vec 1 id 0 l.length none ∧ AHeap.find G id = some ⟨1, nums l, false, 3⟩
theorem Made.view {G : AHeap} {m : Nat} {x : AV} (h : Made G m x) : ∃ l, View G x (.lst 1 (nums l) none) := by
  rcases h with rfl | ⟨l, id, h1, h2, rfl, h3⟩
  · exact ⟨[], .nil⟩
  · refine ⟨l, .vec h3 rfl (by simp [nums_length]) ?_⟩
    rw [List.drop_zero, List.take_of_length_le (by rw [nums_length]; exact Nat.le_refl _)]
    exact ViewL.scs
theorem Made.keep {G F : AHeap} {m m' : Nat} {x : AV} (h : Made G m x) (hm : m ≤ m') (hk : ∀ i, (∃ l : List Int, l ≠ [] ∧ AHeap.find G i = some ⟨1, nums l, false, 3⟩) → AHeap.find F i = AHeap.find G i) : Made F m' x := by
  rcases h with rfl | ⟨l, id, h1, h2, rfl, h3⟩
  · exact .inl rfl
  · exact .inr ⟨l, id, h1, by omega, rfl, (hk id ⟨l, h1, h3⟩).trans h3⟩
/-- All paths that were made, in a block of their own. -/
structure AllR (G : AHeap) (ia n m : Nat) : Prop where
  ex : ∃ es, AHeap.find G ia = some ⟨1, es, false, 22⟩ ∧ es.length = n ∧ ∀ x ∈ es, Made G m x

abbrev e0 : AV := .lst 1 [] (some [])
/-- All paths that were made so far. -/
def AllV (G : AHeap) (n : Nat) (v : AV) : Prop := (v = .lst 1 [e0] (some []) ∧ n = 1) ∨ ∃ ia, v = .vec 1 ia 0 n none ∧ AllR G ia n n
theorem AllV.len {G : AHeap} {n : Nat} {v : AV} (h : AllV G n v) : lenN v = n ∧ lenOk v := by
  rcases h with ⟨rfl, rfl⟩ | ⟨ia, rfl, _⟩ <;> exact ⟨rfl, trivial⟩
/-- One path more. -/
theorem AllR.more {G F : AHeap} {ib n : Nat} {es : List AV} {x : AV} (hn : es.length = n) (he : ∀ y ∈ es, Made G n y) (hx : Made F (n + 1) x) (hf : AHeap.find F ib = some ⟨1, es ++ [x], false, 22⟩)
    (hk : ∀ i, (∃ l : List Int, l ≠ [] ∧ AHeap.find G i = some ⟨1, nums l, false, 3⟩) → AHeap.find F i = AHeap.find G i) : AllR F ib (n + 1) (n + 1) :=
  ⟨es ++ [x], hf, by simp [hn], fun y hy => by
    rcases List.mem_append.1 hy with hy | hy
    · exact (he y hy).keep (by omega) hk
    · simp only [List.mem_singleton] at hy
      subst hy
      exact hx⟩

set_option maxHeartbeats 0 in
theorem placeSmall_d : D Try.prog 4 [] [] (.ret (.sc (.bool true))) [] := by
  have wend : ∀ {F : AHeap} {v : Value}, Weak [] (.ret (.sc v)) F (.ret (.sc v)) [] := fun {F v} => weak_gen [] (by simp) (by simp) (by simp) (fun id k hid hk => by simp at hid) (fun i s k hs => by simp at hs) (.same trivial)
  refine D_of_DK (Nat.le_refl _) (dk4 (E_of_ES ?_))
  simp only [ic4, ux]
  refine ES_seq_gen fun L hL => ?_
  simp -implicitDefEqProofs (maxSteps := 99999999) (disch := first | omega | (simp only [AHeap.set_length, killO_length, List.length_cons, List.length_nil]; first | done | omega)) only [va, vs, vw, Nat.reduceMul, ite_true, ite_false, eq_self, forall_const, implies_true, Nat.reduceAdd, Nat.reduceSub, Nat.reduceLT, Nat.reduceLeDiff, ↓reduceIte, reduceCtorEq, Int.reduceEq, Int.reduceLT, Int.reduceLE, Int.reduceGT, Int.reduceGE, Int.reduceAdd, Int.reduceSub, Int.reduceNeg, Int.reduceToNat, Nat.reduceBEq, Nat.reduceEqDiff]
  refine hL _ _ ?_
  clear hL
  refine ES_seq_gen fun L hL => ?_
  simp -implicitDefEqProofs (maxSteps := 99999999) (disch := first | omega | (simp only [AHeap.set_length, killO_length, List.length_cons, List.length_nil]; first | done | omega)) only [va, vs, vw, Nat.reduceMul, ite_true, ite_false, eq_self, forall_const, implies_true, Nat.reduceAdd, Nat.reduceSub, Nat.reduceLT, Nat.reduceLeDiff, ↓reduceIte, reduceCtorEq, Int.reduceEq, Int.reduceLT, Int.reduceLE, Int.reduceGT, Int.reduceGE, Int.reduceAdd, Int.reduceSub, Int.reduceNeg, Int.reduceToNat, Nat.reduceBEq, Nat.reduceEqDiff]
  refine callR_ret (awakeI_d _) ?_
  simp -implicitDefEqProofs (maxSteps := 99999999) (disch := first | omega | (simp only [AHeap.set_length, killO_length, List.length_cons, List.length_nil]; first | done | omega)) only [va, vs, vw, Nat.reduceMul, ite_true, ite_false, eq_self, forall_const, implies_true, Nat.reduceAdd, Nat.reduceSub, Nat.reduceLT, Nat.reduceLeDiff, ↓reduceIte, reduceCtorEq, Int.reduceEq, Int.reduceLT, Int.reduceLE, Int.reduceGT, Int.reduceGE, Int.reduceAdd, Int.reduceSub, Int.reduceNeg, Int.reduceToNat, Nat.reduceBEq, Nat.reduceEqDiff]
  refine hL _ _ ?_
  clear hL
  refine ES_seq_gen fun L hL => ?_
  simp -implicitDefEqProofs (maxSteps := 99999999) (disch := first | omega | (simp only [AHeap.set_length, killO_length, List.length_cons, List.length_nil]; first | done | omega)) only [va, vs, vw, Nat.reduceMul, ite_true, ite_false, eq_self, forall_const, implies_true, Nat.reduceAdd, Nat.reduceSub, Nat.reduceLT, Nat.reduceLeDiff, ↓reduceIte, reduceCtorEq, Int.reduceEq, Int.reduceLT, Int.reduceLE, Int.reduceGT, Int.reduceGE, Int.reduceAdd, Int.reduceSub, Int.reduceNeg, Int.reduceToNat, Nat.reduceBEq, Nat.reduceEqDiff]
  refine hL _ _ ?_
  clear hL
  refine ES_seq_gen fun L hL => ?_
  simp -implicitDefEqProofs (maxSteps := 99999999) (disch := first | omega | (simp only [AHeap.set_length, killO_length, List.length_cons, List.length_nil]; first | done | omega)) only [va, vs, vw, Nat.reduceMul, ite_true, ite_false, eq_self, forall_const, implies_true, Nat.reduceAdd, Nat.reduceSub, Nat.reduceLT, Nat.reduceLeDiff, ↓reduceIte, reduceCtorEq, Int.reduceEq, Int.reduceLT, Int.reduceLE, Int.reduceGT, Int.reduceGE, Int.reduceAdd, Int.reduceSub, Int.reduceNeg, Int.reduceToNat, Nat.reduceBEq, Nat.reduceEqDiff]
  refine ES_loopL (fun ts G => ∃ (fr : Nat) (v : AV), (fr ≤ 13 ∧ AllV G (1 + 3 * fr) v) ∧ Fr [some (.sc (.bool false)), some (v), some (.sc (.int .i64 fr)), none, none, none, none, none, none, none, none, none, none, none, none, none, none, none, none, none, none, none, none, none, none, none, none, none, none, none, none, none, none, none, none, none, none, none, none, none, none, none, none, none, none, none, none, none, none, none, none, none, none, none, none, none, none, none, none, none, none, none, none, none, none, none, none, none, none, none, none, none, none, none, none, none, none, none, none] ts) (fun ts _ => 40 - lenN (ts.getD 1 .top)) ⟨0, _, ⟨by omega, .inl ⟨rfl, rfl⟩⟩, by simp [Fr]⟩ ?_
  rintro ts G ⟨fr, v, ⟨hfr0, hv⟩, hfr⟩ L2 hL2
  obtain ⟨js, rfl⟩ := hfr.opened
  clear hfr
  obtain ⟨v1, v2⟩ := hv.len
  simp -implicitDefEqProofs (maxSteps := 99999999) (disch := first | omega | (simp only [AHeap.set_length, killO_length, List.length_cons, List.length_nil]; first | done | omega)) only [mk, v1, v2, va, vs, vw, Nat.reduceMul, ite_true, ite_false, eq_self, forall_const, implies_true, Nat.reduceAdd, Nat.reduceSub, Nat.reduceLT, Nat.reduceLeDiff, ↓reduceIte, reduceCtorEq, Int.reduceEq, Int.reduceLT, Int.reduceLE, Int.reduceGT, Int.reduceGE, Int.reduceAdd, Int.reduceSub, Int.reduceNeg, Int.reduceToNat, Nat.reduceBEq, Nat.reduceEqDiff]
  refine condR_if (fun h => ?_) (fun h => ?_)
  · have hfr1 : fr < 13 := by omega
    simp -implicitDefEqProofs (maxSteps := 99999999) (disch := first | omega | (simp only [AHeap.set_length, killO_length, List.length_cons, List.length_nil]; first | done | omega)) only [va, vs, vw, Nat.reduceMul, ite_true, ite_false, eq_self, forall_const, implies_true, Nat.reduceAdd, Nat.reduceSub, Nat.reduceLT, Nat.reduceLeDiff, ↓reduceIte, reduceCtorEq, Int.reduceEq, Int.reduceLT, Int.reduceLE, Int.reduceGT, Int.reduceGE, Int.reduceAdd, Int.reduceSub, Int.reduceNeg, Int.reduceToNat, Nat.reduceBEq, Nat.reduceEqDiff]
    refine ES_loopL (fun ts G => ∃ (k : Nat) (v : AV), (k ≤ 3 ∧ AllV G (1 + 3 * fr + k) v) ∧ Fr [some (.sc (.bool false)), some (v), some (.sc (.int .i64 fr)), some (.sc (.int .i64 k)), none, none, none, none, none, none, none, none, none, none, none, none, none, none, none, none, none, none, none, none, none, none, none, none, none, none, none, none, none, none, none, none, none, none, none, none, none, none, none, none, none, none, none, none, none, none, none, none, none, none, none, none, none, none, none, none, none, none, none, none, none, none, none, none, none, none, none, none, none, none, none, none, none, none, none] ts) (fun ts _ => 3 - (intV (ts.getD 3 .top)).toNat) ⟨0, v, ⟨by omega, hv⟩, by simp [Fr]⟩ ?_
    clear hv v2
    rintro ts G ⟨k, v, ⟨hk, hv⟩, hfr⟩ L3 hL3
    obtain ⟨js, rfl⟩ := hfr.opened
    clear hfr
    simp -implicitDefEqProofs (maxSteps := 99999999) (disch := first | omega | (simp only [AHeap.set_length, killO_length, List.length_cons, List.length_nil]; first | done | omega)) only [mk, va, vs, vw, Nat.reduceMul, ite_true, ite_false, eq_self, forall_const, implies_true, Nat.reduceAdd, Nat.reduceSub, Nat.reduceLT, Nat.reduceLeDiff, ↓reduceIte, reduceCtorEq, Int.reduceEq, Int.reduceLT, Int.reduceLE, Int.reduceGT, Int.reduceGE, Int.reduceAdd, Int.reduceSub, Int.reduceNeg, Int.reduceToNat, Nat.reduceBEq, Nat.reduceEqDiff]
    refine condR_if (fun h => ?_) (fun h => ?_)
    · have k1 : k < 3 := by omega
      have f0 : (0 : Int) ≤ fr := by omega
      rcases hv with ⟨rfl, hn⟩ | ⟨ia, rfl, es, hf, hl, he⟩
      · have hfr2 : fr = 0 := by omega
        have hk0 : k = 0 := by omega
        subst hfr2 hk0
        simp -implicitDefEqProofs (maxSteps := 99999999) (disch := first | omega | (simp only [AHeap.set_length, killO_length, List.length_cons, List.length_nil]; first | done | omega)) only [va, vs, vw, Nat.reduceMul, ite_true, ite_false, eq_self, forall_const, implies_true, Nat.reduceAdd, Nat.reduceSub, Nat.reduceLT, Nat.reduceLeDiff, ↓reduceIte, reduceCtorEq, Int.reduceEq, Int.reduceLT, Int.reduceLE, Int.reduceGT, Int.reduceGE, Int.reduceAdd, Int.reduceSub, Int.reduceNeg, Int.reduceToNat, Nat.reduceBEq, Nat.reduceEqDiff]
        refine hL3 _ _ ⟨1, _, ⟨by omega, .inr ⟨G.length + 1, rfl, AllR.more (es := [e0]) (x := .vec 1 G.length 0 1 none) rfl (fun y hy => by simp only [List.mem_singleton] at hy; subst hy; exact .inl rfl) (.inr ⟨[0], G.length, by simp, by simp, rfl, by simp -implicitDefEqProofs (maxSteps := 99999999) (disch := first | omega | (simp only [AHeap.set_length, killO_length, List.length_cons, List.length_nil]; first | done | omega)) only [va, vs, vw, Nat.reduceMul, ite_true, ite_false, eq_self, forall_const, implies_true, Nat.reduceAdd, Nat.reduceSub, Nat.reduceLT, Nat.reduceLeDiff, ↓reduceIte, reduceCtorEq, Int.reduceEq, Int.reduceLT, Int.reduceLE, Int.reduceGT, Int.reduceGE, Int.reduceAdd, Int.reduceSub, Int.reduceNeg, Int.reduceToNat, Nat.reduceBEq, Nat.reduceEqDiff]; rfl⟩) (by simp -implicitDefEqProofs (maxSteps := 99999999) (disch := first | omega | (simp only [AHeap.set_length, killO_length, List.length_cons, List.length_nil]; first | done | omega)) only [va, vs, vw, Nat.reduceMul, ite_true, ite_false, eq_self, forall_const, implies_true, Nat.reduceAdd, Nat.reduceSub, Nat.reduceLT, Nat.reduceLeDiff, ↓reduceIte, reduceCtorEq, Int.reduceEq, Int.reduceLT, Int.reduceLE, Int.reduceGT, Int.reduceGE, Int.reduceAdd, Int.reduceSub, Int.reduceNeg, Int.reduceToNat, Nat.reduceBEq, Nat.reduceEqDiff]) (fun i hi => by
          obtain ⟨l, _, hi⟩ := hi
          have := AHeap.find_lt (H := G) hi
          rw [find_past (by simp; omega), find_past (by omega)])⟩⟩, by simp [Fr]⟩ (by simp [intV, mk])
      · obtain ⟨N, hN⟩ : ∃ N, N = 1 + 3 * fr + k := ⟨_, rfl⟩
        rw [← hN] at hl he ⊢
        have hlt := AHeap.find_lt hf
        have f1 : (fr : Int) < (N : Int) := by omega
        have f2 : fr < N := by omega
        have hM : Made G N (es.getD fr .top) := he _ (by rw [List.getD_eq_getElem?_getD, List.getElem?_eq_getElem (by omega)]; exact List.getElem_mem (by omega))
        generalize hx : es.getD fr .top = x at hM
        have big : N + 1 ≤ 100000000 := by omega
        have hNe : N + 1 = 1 + 3 * fr + (k + 1) := by omega
        rcases hM with rfl | ⟨l, id, h1, h2, rfl, h3⟩
        · simp -implicitDefEqProofs (maxSteps := 99999999) (disch := first | omega | (simp only [AHeap.set_length, killO_length, List.length_cons, List.length_nil]; first | done | omega)) only [hf, hl, f0, f1, f2, hx, big, va, vs, vw, Nat.reduceMul, ite_true, ite_false, eq_self, forall_const, implies_true, Nat.reduceAdd, Nat.reduceSub, Nat.reduceLT, Nat.reduceLeDiff, ↓reduceIte, reduceCtorEq, Int.reduceEq, Int.reduceLT, Int.reduceLE, Int.reduceGT, Int.reduceGE, Int.reduceAdd, Int.reduceSub, Int.reduceNeg, Int.reduceToNat, Nat.reduceBEq, Nat.reduceEqDiff]
          refine hL3 _ _ ⟨k + 1, _, ⟨by omega, .inr ⟨G.length + 1, rfl, hNe ▸ AllR.more (G := G) (es := es) (x := .vec 1 G.length 0 1 none) hl he (.inr ⟨[(k : Int)], G.length, by simp, by simp, rfl, by simp -implicitDefEqProofs (maxSteps := 99999999) (disch := first | omega | (simp only [AHeap.set_length, killO_length, List.length_cons, List.length_nil]; first | done | omega)) only [va, vs, vw, Nat.reduceMul, ite_true, ite_false, eq_self, forall_const, implies_true, Nat.reduceAdd, Nat.reduceSub, Nat.reduceLT, Nat.reduceLeDiff, ↓reduceIte, reduceCtorEq, Int.reduceEq, Int.reduceLT, Int.reduceLE, Int.reduceGT, Int.reduceGE, Int.reduceAdd, Int.reduceSub, Int.reduceNeg, Int.reduceToNat, Nat.reduceBEq, Nat.reduceEqDiff]; rfl⟩) (by simp -implicitDefEqProofs (maxSteps := 99999999) (disch := first | omega | (simp only [AHeap.set_length, killO_length, List.length_cons, List.length_nil]; first | done | omega)) only [va, vs, vw, Nat.reduceMul, ite_true, ite_false, eq_self, forall_const, implies_true, Nat.reduceAdd, Nat.reduceSub, Nat.reduceLT, Nat.reduceLeDiff, ↓reduceIte, reduceCtorEq, Int.reduceEq, Int.reduceLT, Int.reduceLE, Int.reduceGT, Int.reduceGE, Int.reduceAdd, Int.reduceSub, Int.reduceNeg, Int.reduceToNat, Nat.reduceBEq, Nat.reduceEqDiff]) (fun i hi => by
            obtain ⟨l, _, hi⟩ := hi
            have := AHeap.find_lt hi
            rw [find_past (by simp [AHeap.set_length]; omega), find_past (by simp [AHeap.set_length]; omega), AHeap.find_set_ne (fun e => by rw [e, hf] at hi; simp at hi)])⟩⟩, by simp [Fr]; omega⟩ (by simp [intV, mk]; omega)
        · have hlt3 := AHeap.find_lt h3
          obtain ⟨y, r, hyr⟩ : ∃ y r, nums l = y :: r := by
            cases l with
            | nil => exact (h1 rfl).elim
            | cons a b => exact ⟨_, _, rfl⟩
          have hrl : r.length + 1 = l.length := by rw [← nums_length l, hyr]; rfl
          have htk : List.take l.length (y :: r) = y :: r := List.take_of_length_le (by simp; omega)
          have hyk : y :: (r ++ [AV.sc (.int .i64 k)]) = nums (l ++ [(k : Int)]) := by rw [nums_append, hyr]; rfl
          simp -implicitDefEqProofs (maxSteps := 99999999) (disch := first | omega | (simp only [AHeap.set_length, killO_length, List.length_cons, List.length_nil]; first | done | omega)) only [hf, hl, f0, f1, f2, hx, h3, hyr, hrl, htk, big, va, vs, vw, Nat.reduceMul, ite_true, ite_false, eq_self, forall_const, implies_true, Nat.reduceAdd, Nat.reduceSub, Nat.reduceLT, Nat.reduceLeDiff, ↓reduceIte, reduceCtorEq, Int.reduceEq, Int.reduceLT, Int.reduceLE, Int.reduceGT, Int.reduceGE, Int.reduceAdd, Int.reduceSub, Int.reduceNeg, Int.reduceToNat, Nat.reduceBEq, Nat.reduceEqDiff]
          refine ⟨by omega, by omega, hL3 _ _ ⟨k + 1, _, ⟨by omega, .inr ⟨G.length + 2, rfl, hNe ▸ AllR.more (G := G) (es := es) (x := .vec 1 (G.length + 1) 0 (l.length + 1) none) hl he (.inr ⟨l ++ [(k : Int)], G.length + 1, by simp, by simp; omega, by simp, by simp -implicitDefEqProofs (maxSteps := 99999999) (disch := first | omega | (simp only [AHeap.set_length, killO_length, List.length_cons, List.length_nil]; first | done | omega)) only [va, vs, vw, Nat.reduceMul, ite_true, ite_false, eq_self, forall_const, implies_true, Nat.reduceAdd, Nat.reduceSub, Nat.reduceLT, Nat.reduceLeDiff, ↓reduceIte, reduceCtorEq, Int.reduceEq, Int.reduceLT, Int.reduceLE, Int.reduceGT, Int.reduceGE, Int.reduceAdd, Int.reduceSub, Int.reduceNeg, Int.reduceToNat, Nat.reduceBEq, Nat.reduceEqDiff]; rw [hyk]⟩) (by simp -implicitDefEqProofs (maxSteps := 99999999) (disch := first | omega | (simp only [AHeap.set_length, killO_length, List.length_cons, List.length_nil]; first | done | omega)) only [va, vs, vw, Nat.reduceMul, ite_true, ite_false, eq_self, forall_const, implies_true, Nat.reduceAdd, Nat.reduceSub, Nat.reduceLT, Nat.reduceLeDiff, ↓reduceIte, reduceCtorEq, Int.reduceEq, Int.reduceLT, Int.reduceLE, Int.reduceGT, Int.reduceGE, Int.reduceAdd, Int.reduceSub, Int.reduceNeg, Int.reduceToNat, Nat.reduceBEq, Nat.reduceEqDiff]) (fun i hi => by
            obtain ⟨l, _, hi⟩ := hi
            have := AHeap.find_lt hi
            rw [find_past (by simp [AHeap.set_length]; omega), find_past (by simp [AHeap.set_length]; omega), find_past (by simp [AHeap.set_length]; omega), AHeap.find_set_ne (fun e => by rw [e, hf] at hi; simp at hi)])⟩⟩, by simp [Fr]; omega⟩ (by simp [intV, mk]; omega)⟩
    · have hk3 : k = 3 := by omega
      subst hk3
      obtain ⟨w1, w2⟩ := hv.len
      simp -implicitDefEqProofs (maxSteps := 99999999) (disch := first | omega | (simp only [AHeap.set_length, killO_length, List.length_cons, List.length_nil]; first | done | omega)) only [va, vs, vw, Nat.reduceMul, ite_true, ite_false, eq_self, forall_const, implies_true, Nat.reduceAdd, Nat.reduceSub, Nat.reduceLT, Nat.reduceLeDiff, ↓reduceIte, reduceCtorEq, Int.reduceEq, Int.reduceLT, Int.reduceLE, Int.reduceGT, Int.reduceGE, Int.reduceAdd, Int.reduceSub, Int.reduceNeg, Int.reduceToNat, Nat.reduceBEq, Nat.reduceEqDiff]
      exact hL2 _ _ ⟨fr + 1, v, ⟨by omega, by rw [show 1 + 3 * (fr + 1) = 1 + 3 * fr + 3 from by omega]; exact hv⟩, by simp [Fr]⟩ (by simp [mk, w1]; omega)
  · have hfr2 : fr = 13 := by omega
    subst hfr2
    refine hL _ _ ?_
    clear hL hL2
    rcases hv with ⟨_, hn⟩ | ⟨ia, rfl, es, hf, hl, he⟩
    · omega
    have got : ∀ i, i < 40 → ∃ l, View G (es.getD i .top) (.lst 1 (nums l) none) := fun i hi => (he _ (by rw [List.getD_eq_getElem?_getD, List.getElem?_eq_getElem (by omega)]; exact List.getElem_mem (by omega))).view
    have one : ∀ i, i < 40 → (es.getD i .top).isAgg = false ∧ (es.getD i .top).cells = [es.getD i .top] ∧ (es.getD i .top).ncells = 1 := fun i hi => by
      rcases he _ (show es.getD i .top ∈ es by rw [List.getD_eq_getElem?_getD, List.getElem?_eq_getElem (by omega)]; exact List.getElem_mem (by omega)) with h | ⟨l, id, _, _, h, _⟩ <;> rw [h] <;> exact ⟨rfl, rfl, rfl⟩
    refine ES_seq_gen fun L hL => ?_
    simp -implicitDefEqProofs (maxSteps := 99999999) (disch := first | omega | (simp only [AHeap.set_length, killO_length, List.length_cons, List.length_nil]; first | done | omega)) only [va, vs, vw, Nat.reduceMul, ite_true, ite_false, eq_self, forall_const, implies_true, Nat.reduceAdd, Nat.reduceSub, Nat.reduceLT, Nat.reduceLeDiff, ↓reduceIte, reduceCtorEq, Int.reduceEq, Int.reduceLT, Int.reduceLE, Int.reduceGT, Int.reduceGE, Int.reduceAdd, Int.reduceSub, Int.reduceNeg, Int.reduceToNat, Nat.reduceBEq, Nat.reduceEqDiff]
    refine ES_loopL (fun ts F => G = F ∧ ∃ i : Nat, (i ≤ 40) ∧ Fr [some (.sc (.bool false)), some (.vec 1 ia 0 40 none), none, none, none, some (.sc (.int .i64 i)), none, none, none, none, none, none, none, none, none, none, none, none, none, none, none, none, none, none, none, none, none, none, none, none, none, none, none, none, none, none, none, none, none, none, none, none, none, none, none, none, none, none, none, none, none, none, none, none, none, none, none, none, none, none, none, none, none, none, none, none, none, none, none, none, none, none, none, none, none, none, none, none, none] ts) (fun ts _ => 40 - (intV (ts.getD 5 .top)).toNat) ⟨rfl, 0, Nat.zero_le _, by simp [Fr]⟩ ?_
    rintro ts _ ⟨rfl, i, hi, hfr⟩ L2 hL2
    obtain ⟨js, rfl⟩ := hfr.opened
    clear hfr
    simp -implicitDefEqProofs (maxSteps := 99999999) (disch := first | omega | (simp only [AHeap.set_length, killO_length, List.length_cons, List.length_nil]; first | done | omega)) only [mk, va, vs, vw, Nat.reduceMul, ite_true, ite_false, eq_self, forall_const, implies_true, Nat.reduceAdd, Nat.reduceSub, Nat.reduceLT, Nat.reduceLeDiff, ↓reduceIte, reduceCtorEq, Int.reduceEq, Int.reduceLT, Int.reduceLE, Int.reduceGT, Int.reduceGE, Int.reduceAdd, Int.reduceSub, Int.reduceNeg, Int.reduceToNat, Nat.reduceBEq, Nat.reduceEqDiff]
    refine condR_if (fun h => ?_) (fun h => ?_)
    · have i1 : i < 40 := by omega
      simp -implicitDefEqProofs (maxSteps := 99999999) (disch := first | omega | (simp only [AHeap.set_length, killO_length, List.length_cons, List.length_nil]; first | done | omega)) only [va, vs, vw, Nat.reduceMul, ite_true, ite_false, eq_self, forall_const, implies_true, Nat.reduceAdd, Nat.reduceSub, Nat.reduceLT, Nat.reduceLeDiff, ↓reduceIte, reduceCtorEq, Int.reduceEq, Int.reduceLT, Int.reduceLE, Int.reduceGT, Int.reduceGE, Int.reduceAdd, Int.reduceSub, Int.reduceNeg, Int.reduceToNat, Nat.reduceBEq, Nat.reduceEqDiff]
      refine ES_loopL (fun ts F => G = F ∧ ∃ k : Nat, (k ≤ 13) ∧ Fr [some (.sc (.bool false)), some (.vec 1 ia 0 40 none), none, none, none, some (.sc (.int .i64 i)), some (.sc (.int .i64 k)), none, none, none, none, none, none, none, none, none, none, none, none, none, none, none, none, none, none, none, none, none, none, none, none, none, none, none, none, none, none, none, none, none, none, none, none, none, none, none, none, none, none, none, none, none, none, none, none, none, none, none, none, none, none, none, none, none, none, none, none, none, none, none, none, none, none, none, none, none, none, none, none] ts) (fun ts _ => 13 - (intV (ts.getD 6 .top)).toNat) ⟨rfl, 0, Nat.zero_le _, by simp [Fr]⟩ ?_
      rintro ts _ ⟨rfl, k, hk, hfr⟩ L3 hL3
      obtain ⟨js, rfl⟩ := hfr.opened
      clear hfr
      simp -implicitDefEqProofs (maxSteps := 99999999) (disch := first | omega | (simp only [AHeap.set_length, killO_length, List.length_cons, List.length_nil]; first | done | omega)) only [mk, va, vs, vw, Nat.reduceMul, ite_true, ite_false, eq_self, forall_const, implies_true, Nat.reduceAdd, Nat.reduceSub, Nat.reduceLT, Nat.reduceLeDiff, ↓reduceIte, reduceCtorEq, Int.reduceEq, Int.reduceLT, Int.reduceLE, Int.reduceGT, Int.reduceGE, Int.reduceAdd, Int.reduceSub, Int.reduceNeg, Int.reduceToNat, Nat.reduceBEq, Nat.reduceEqDiff]
      refine condR_if (fun h => ?_) (fun h => ?_)
      · have k1 : k < 13 := by omega
        simp -implicitDefEqProofs (maxSteps := 99999999) (disch := first | omega | (simp only [AHeap.set_length, killO_length, List.length_cons, List.length_nil]; first | done | omega)) only [va, vs, vw, Nat.reduceMul, ite_true, ite_false, eq_self, forall_const, implies_true, Nat.reduceAdd, Nat.reduceSub, Nat.reduceLT, Nat.reduceLeDiff, ↓reduceIte, reduceCtorEq, Int.reduceEq, Int.reduceLT, Int.reduceLE, Int.reduceGT, Int.reduceGE, Int.reduceAdd, Int.reduceSub, Int.reduceNeg, Int.reduceToNat, Nat.reduceBEq, Nat.reduceEqDiff]
        refine ES_loopL (fun ts F => G = F ∧ ∃ a : Nat, (a ≤ 4) ∧ Fr [some (.sc (.bool false)), some (.vec 1 ia 0 40 none), none, none, none, some (.sc (.int .i64 i)), some (.sc (.int .i64 k)), some (.sc (.int .i64 a)), none, none, none, none, none, none, none, none, none, none, none, none, none, none, none, none, none, none, none, none, none, none, none, none, none, none, none, none, none, none, none, none, none, none, none, none, none, none, none, none, none, none, none, none, none, none, none, none, none, none, none, none, none, none, none, none, none, none, none, none, none, none, none, none, none, none, none, none, none, none, none] ts) (fun ts _ => 4 - (intV (ts.getD 7 .top)).toNat) ⟨rfl, 0, Nat.zero_le _, by simp [Fr]⟩ ?_
        rintro ts _ ⟨rfl, a, ha, hfr⟩ L4 hL4
        obtain ⟨js, rfl⟩ := hfr.opened
        clear hfr
        simp -implicitDefEqProofs (maxSteps := 99999999) (disch := first | omega | (simp only [AHeap.set_length, killO_length, List.length_cons, List.length_nil]; first | done | omega)) only [mk, va, vs, vw, Nat.reduceMul, ite_true, ite_false, eq_self, forall_const, implies_true, Nat.reduceAdd, Nat.reduceSub, Nat.reduceLT, Nat.reduceLeDiff, ↓reduceIte, reduceCtorEq, Int.reduceEq, Int.reduceLT, Int.reduceLE, Int.reduceGT, Int.reduceGE, Int.reduceAdd, Int.reduceSub, Int.reduceNeg, Int.reduceToNat, Nat.reduceBEq, Nat.reduceEqDiff]
        refine condR_if (fun h => ?_) (fun h => ?_)
        · have a1 : a < 4 := by omega
          simp -implicitDefEqProofs (maxSteps := 99999999) (disch := first | omega | (simp only [AHeap.set_length, killO_length, List.length_cons, List.length_nil]; first | done | omega)) only [va, vs, vw, Nat.reduceMul, ite_true, ite_false, eq_self, forall_const, implies_true, Nat.reduceAdd, Nat.reduceSub, Nat.reduceLT, Nat.reduceLeDiff, ↓reduceIte, reduceCtorEq, Int.reduceEq, Int.reduceLT, Int.reduceLE, Int.reduceGT, Int.reduceGE, Int.reduceAdd, Int.reduceSub, Int.reduceNeg, Int.reduceToNat, Nat.reduceBEq, Nat.reduceEqDiff]
          refine ES_loopL (fun ts F => G = F ∧ ∃ t : Nat, (t ≤ 4) ∧ Fr [some (.sc (.bool false)), some (.vec 1 ia 0 40 none), none, none, none, some (.sc (.int .i64 i)), some (.sc (.int .i64 k)), some (.sc (.int .i64 a)), some (.sc (.int .i64 t)), none, none, none, none, none, none, none, none, none, none, none, none, none, none, none, none, none, none, none, none, none, none, none, none, none, none, none, none, none, none, none, none, none, none, none, none, none, none, none, none, none, none, none, none, none, none, none, none, none, none, none, none, none, none, none, none, none, none, none, none, none, none, none, none, none, none, none, none, none, none] ts) (fun ts _ => 4 - (intV (ts.getD 8 .top)).toNat) ⟨rfl, 0, Nat.zero_le _, by simp [Fr]⟩ ?_
          rintro ts _ ⟨rfl, t, ht, hfr⟩ L5 hL5
          obtain ⟨js, rfl⟩ := hfr.opened
          clear hfr
          simp -implicitDefEqProofs (maxSteps := 99999999) (disch := first | omega | (simp only [AHeap.set_length, killO_length, List.length_cons, List.length_nil]; first | done | omega)) only [mk, va, vs, vw, Nat.reduceMul, ite_true, ite_false, eq_self, forall_const, implies_true, Nat.reduceAdd, Nat.reduceSub, Nat.reduceLT, Nat.reduceLeDiff, ↓reduceIte, reduceCtorEq, Int.reduceEq, Int.reduceLT, Int.reduceLE, Int.reduceGT, Int.reduceGE, Int.reduceAdd, Int.reduceSub, Int.reduceNeg, Int.reduceToNat, Nat.reduceBEq, Nat.reduceEqDiff]
          refine condR_if (fun h => ?_) (fun h => ?_)
          · have t1 : t < 4 := by omega
            have i0 : (0 : Int) ≤ i := by omega
            have i2 : (i : Int) < 40 := by omega
            have k0 : (0 : Int) ≤ k := by omega
            have k2 : (k : Int) < 40 := by omega
            have k3 : k < 40 := by omega
            obtain ⟨p, vp⟩ := got i i1
            obtain ⟨l, vl⟩ := got k k3
            have dT := D_view (H := G) (.cons vp (.cons vl (.cons (.sc (v := .int .i64 a)) (.cons (.sc (v := .int .i64 t)) .nil)))) .sc (placeTells_d p l a t)
            have dB := D_view (H := G) (.cons vp (.cons vl (.cons (.sc (v := .int .i64 a)) (.cons (.sc (v := .int .i64 t)) .nil)))) .sc (placeBack_d p l a t)
            obtain ⟨m1, m2, m3⟩ := one i i1
            obtain ⟨m4, m5, m6⟩ := one k k3
            obtain ⟨x, hx⟩ : ∃ x, es.getD i .top = x := ⟨_, rfl⟩
            obtain ⟨y, hy⟩ : ∃ y, es.getD k .top = y := ⟨_, rfl⟩
            rw [hx] at dT dB m1 m2 m3
            rw [hy] at dT dB m4 m5 m6
            have c40 : ((40 : Nat) : Int) = 40 := rfl
            simp -implicitDefEqProofs (maxSteps := 99999999) (disch := first | omega | (simp only [AHeap.set_length, killO_length, List.length_cons, List.length_nil]; first | done | omega)) only [hf, hl, i0, i1, i2, k0, k2, k3, hx, hy, m1, m2, m3, m4, m5, m6, c40, va, vs, vw, Nat.reduceMul, ite_true, ite_false, eq_self, forall_const, implies_true, Nat.reduceAdd, Nat.reduceSub, Nat.reduceLT, Nat.reduceLeDiff, ↓reduceIte, reduceCtorEq, Int.reduceEq, Int.reduceLT, Int.reduceLE, Int.reduceGT, Int.reduceGE, Int.reduceAdd, Int.reduceSub, Int.reduceNeg, Int.reduceToNat, Nat.reduceBEq, Nat.reduceEqDiff]
            refine callD_same dT ?_
            simp -implicitDefEqProofs (maxSteps := 99999999) (disch := first | omega | (simp only [AHeap.set_length, killO_length, List.length_cons, List.length_nil]; first | done | omega)) only [hf, hl, i0, i1, i2, k0, k2, k3, hx, hy, m1, m2, m3, m4, m5, m6, c40, va, vs, vw, Nat.reduceMul, ite_true, ite_false, eq_self, forall_const, implies_true, Nat.reduceAdd, Nat.reduceSub, Nat.reduceLT, Nat.reduceLeDiff, ↓reduceIte, reduceCtorEq, Int.reduceEq, Int.reduceLT, Int.reduceLE, Int.reduceGT, Int.reduceGE, Int.reduceAdd, Int.reduceSub, Int.reduceNeg, Int.reduceToNat, Nat.reduceBEq, Nat.reduceEqDiff]
            refine callD_same dB ?_
            simp -implicitDefEqProofs (maxSteps := 99999999) (disch := first | omega | (simp only [AHeap.set_length, killO_length, List.length_cons, List.length_nil]; first | done | omega)) only [va, vs, vw, Nat.reduceMul, ite_true, ite_false, eq_self, forall_const, implies_true, Nat.reduceAdd, Nat.reduceSub, Nat.reduceLT, Nat.reduceLeDiff, ↓reduceIte, reduceCtorEq, Int.reduceEq, Int.reduceLT, Int.reduceLE, Int.reduceGT, Int.reduceGE, Int.reduceAdd, Int.reduceSub, Int.reduceNeg, Int.reduceToNat, Nat.reduceBEq, Nat.reduceEqDiff]
            exact hL5 _ _ ⟨rfl, t + 1, by omega, by simp [Fr]⟩ (by simp [intV, mk]; omega)
          · simp -implicitDefEqProofs (maxSteps := 99999999) (disch := first | omega | (simp only [AHeap.set_length, killO_length, List.length_cons, List.length_nil]; first | done | omega)) only [va, vs, vw, Nat.reduceMul, ite_true, ite_false, eq_self, forall_const, implies_true, Nat.reduceAdd, Nat.reduceSub, Nat.reduceLT, Nat.reduceLeDiff, ↓reduceIte, reduceCtorEq, Int.reduceEq, Int.reduceLT, Int.reduceLE, Int.reduceGT, Int.reduceGE, Int.reduceAdd, Int.reduceSub, Int.reduceNeg, Int.reduceToNat, Nat.reduceBEq, Nat.reduceEqDiff]
            exact hL4 _ _ ⟨rfl, a + 1, by omega, by simp [Fr]⟩ (by simp [intV, mk]; omega)
        · simp -implicitDefEqProofs (maxSteps := 99999999) (disch := first | omega | (simp only [AHeap.set_length, killO_length, List.length_cons, List.length_nil]; first | done | omega)) only [va, vs, vw, Nat.reduceMul, ite_true, ite_false, eq_self, forall_const, implies_true, Nat.reduceAdd, Nat.reduceSub, Nat.reduceLT, Nat.reduceLeDiff, ↓reduceIte, reduceCtorEq, Int.reduceEq, Int.reduceLT, Int.reduceLE, Int.reduceGT, Int.reduceGE, Int.reduceAdd, Int.reduceSub, Int.reduceNeg, Int.reduceToNat, Nat.reduceBEq, Nat.reduceEqDiff]
          exact hL3 _ _ ⟨rfl, k + 1, by omega, by simp [Fr]⟩ (by simp [intV, mk]; omega)
      · simp -implicitDefEqProofs (maxSteps := 99999999) (disch := first | omega | (simp only [AHeap.set_length, killO_length, List.length_cons, List.length_nil]; first | done | omega)) only [va, vs, vw, Nat.reduceMul, ite_true, ite_false, eq_self, forall_const, implies_true, Nat.reduceAdd, Nat.reduceSub, Nat.reduceLT, Nat.reduceLeDiff, ↓reduceIte, reduceCtorEq, Int.reduceEq, Int.reduceLT, Int.reduceLE, Int.reduceGT, Int.reduceGE, Int.reduceAdd, Int.reduceSub, Int.reduceNeg, Int.reduceToNat, Nat.reduceBEq, Nat.reduceEqDiff]
        exact hL2 _ _ ⟨rfl, i + 1, by omega, by simp [Fr]⟩ (by simp [intV, mk]; omega)
    · refine hL _ _ ?_
      clear hL hL2
      refine ES_seq_gen fun L hL => ?_
      simp -implicitDefEqProofs (maxSteps := 99999999) (disch := first | omega | (simp only [AHeap.set_length, killO_length, List.length_cons, List.length_nil]; first | done | omega)) only [va, vs, vw, Nat.reduceMul, ite_true, ite_false, eq_self, forall_const, implies_true, Nat.reduceAdd, Nat.reduceSub, Nat.reduceLT, Nat.reduceLeDiff, ↓reduceIte, reduceCtorEq, Int.reduceEq, Int.reduceLT, Int.reduceLE, Int.reduceGT, Int.reduceGE, Int.reduceAdd, Int.reduceSub, Int.reduceNeg, Int.reduceToNat, Nat.reduceBEq, Nat.reduceEqDiff]
      refine hL _ _ ?_
      clear hL
      simp -implicitDefEqProofs (maxSteps := 99999999) (disch := first | omega | (simp only [AHeap.set_length, killO_length, List.length_cons, List.length_nil]; first | done | omega)) only [va, vs, vw, Nat.reduceMul, ite_true, ite_false, eq_self, forall_const, implies_true, Nat.reduceAdd, Nat.reduceSub, Nat.reduceLT, Nat.reduceLeDiff, ↓reduceIte, reduceCtorEq, Int.reduceEq, Int.reduceLT, Int.reduceLE, Int.reduceGT, Int.reduceGE, Int.reduceAdd, Int.reduceSub, Int.reduceNeg, Int.reduceToNat, Nat.reduceBEq, Nat.reduceEqDiff]
      exact wend
end Go.Proofs.Ytijnpkpcoeeioaa
