/- Paths that lie in own memory; great, awake. -/
import Derived.Test.YtijnpkpcoeeioaaS75
import Derived.Test.YtijnpkpcoeeioaaIc14
namespace Go.Proofs.Ytijnpkpcoeeioaa
open Go.RowKit
set_option maxRecDepth 100000
set_option linter.unusedVariables false
set_option linter.unusedSimpArgs false

abbrev rowV (l : List Int) (i : Nat) : AV := OwnV 1 (nums l) i
abbrev rowB (l : List Int) : Option ABlk := OwnB 1 3 (nums l)
theorem row_view {H : AHeap} {l : List Int} {i : Nat} (hf : l ≠ [] → AHeap.find H i = rowB l) : View H (rowV l i) (.lst 1 (nums l) none) := ViewL.own (fun h => hf fun e => h (by rw [e]; rfl)) ViewL.scs
theorem opL_nums : ∀ {l : List Int}, AV.opL (nums l) = true
  | [] => rfl
  | x :: r => by simp [nums, AV.opL, AV.op]; exact opL_nums (l := r)
theorem upL_nums {n : Nat} : ∀ {l : List Int}, AV.upL n (nums l) = nums l
  | [] => rfl
  | x :: r => by
    show AV.up n _ :: AV.upL n (nums r) = _
    rw [upL_nums]; rfl
theorem up_rowB {n : Nat} {l : List Int} : (rowB l).map (ABlk.up n) = rowB l := by
  cases l with
  | nil => rfl
  | cons x r => simp only [rowB, OwnB, nums_cons, Option.map_some, ABlk.up]; rw [← nums_cons, upL_nums]
theorem op_row {l : List Int} : AHeap.op [rowB l] := fun id b hb => by
  have hlt := AHeap.find_lt hb
  have : id = 0 := by simpa using hlt
  subst this
  simp only [AHeap.find, List.length_nil, if_true] at hb
  obtain ⟨_, rfl⟩ := OwnB_some hb
  exact opL_nums
section
variable {H : AHeap} {x y : AV} {p l : List Int}
theorem ins_v (hx : View H x (.lst 1 (nums p) none)) (hy : View H y (.lst 1 (nums l) none)) (a : Int) (hp : small p) : D Try.prog 8 [x, y, .sc (.int .i64 a)] H (.ret (rowV (insP p l a) H.length)) (rowB (insP p l a) :: H) := by
  have h := D_viewO (H := H) (.cons hx (.cons hy (.cons .sc .nil))) OwnV_op op_row (inserted_o p l a [] hp)
  simp only [OwnV_up, List.length_nil, Nat.add_zero, AHeap.up, List.map_cons, List.map_nil, up_rowB] at h
  exact h
theorem mov_v (hx : View H x (.lst 1 (nums p) none)) (hy : View H y (.lst 1 (nums l) none)) (f t : Int) (hp : small p) : D Try.prog 12 [x, y, .sc (.int .i64 f), .sc (.int .i64 t)] H (.ret (rowV (movP p l f t) H.length)) (rowB (movP p l f t) :: H) := by
  have h := D_viewO (H := H) (.cons hx (.cons hy (.cons .sc (.cons .sc .nil)))) OwnV_op op_row (moved_o p l f t [] hp)
  simp only [OwnV_up, List.length_nil, Nat.add_zero, AHeap.up, List.map_cons, List.map_nil, up_rowB] at h
  exact h
theorem del_v (hx : View H x (.lst 1 (nums p) none)) (hy : View H y (.lst 1 (nums l) none)) (a : Int) (hp : small p) : D Try.prog 10 [x, y, .sc (.int .i64 a)] H (.ret (.tup [rowV (delO p l a) H.length, .sc (.bool (!goneP p l a))])) (rowB (delO p l a) :: H) := by
  have h := D_viewO (H := H) (.cons hx (.cons hy (.cons .sc .nil))) (by simp [AV.op, AV.opL, OwnV_op]) op_row (deleted_o p l a [] hp)
  simp only [AV.up, AV.upL, OwnV_up, List.length_nil, Nat.add_zero, AHeap.up, List.map_cons, List.map_nil, up_rowB] at h
  exact h
theorem compare_p (a b : List Int) (ha : a.length ≤ 100000000) : D Try.prog 14 [.lst 1 (nums a) none, .lst 1 (nums b) none] [] (.ret (.sc (.int .i64 (cmpL a b)))) [] := by
  refine D_of_DK (Nat.le_refl _) (dk14 (E_of_ES ?_))
  simp -implicitDefEqProofs (maxSteps := 99999999) (disch := omega) only [ic14, va, vs, vh, Nat.reduceMul, ite_true, ite_false, eq_self, forall_const, implies_true, Nat.reduceAdd, Nat.reduceSub, Nat.reduceLT, Nat.reduceLeDiff, ↓reduceIte, reduceCtorEq, Int.reduceEq, Int.reduceLT, Int.reduceLE, Int.reduceGT, Int.reduceGE, Int.reduceAdd, Int.reduceSub, Int.reduceNeg, Int.reduceToNat, Nat.reduceBEq, Nat.reduceEqDiff]
  refine callR_ret (compare_d _ _ _ _ _ ha) ?_
  simp -implicitDefEqProofs (maxSteps := 99999999) (disch := omega) only [va, vs, vh, Nat.reduceMul, ite_true, ite_false, eq_self, forall_const, implies_true, Nat.reduceAdd, Nat.reduceSub, Nat.reduceLT, Nat.reduceLeDiff, ↓reduceIte, reduceCtorEq, Int.reduceEq, Int.reduceLT, Int.reduceLE, Int.reduceGT, Int.reduceGE, Int.reduceAdd, Int.reduceSub, Int.reduceNeg, Int.reduceToNat, Nat.reduceBEq, Nat.reduceEqDiff]
  exact weak_sc .refl
theorem cmp_v (hx : View H x (.lst 1 (nums p) none)) (hy : View H y (.lst 1 (nums l) none)) (hp : p.length ≤ 100000000) : D Try.prog 14 [x, y] H (.ret (.sc (.int .i64 (cmpL p l)))) H := D_view (.cons hx (.cons hy .nil)) .sc (compare_p p l hp)
theorem und_v (hx : View H x (.lst 1 (nums p) none)) (hy : View H y (.lst 1 (nums l) none)) (hp : p.length ≤ 100000000) : D Try.prog 16 [x, y] H (.ret (.sc (.bool (underB p l)))) H := D_view (.cons hx (.cons hy .nil)) .sc (under_d p l none none [] hp (.inl rfl))
theorem same_v (hx : View H x (.lst 1 (nums p) none)) (hy : View H y (.lst 1 (nums l) none)) (hp : p.length ≤ 100000000) : D Try.prog 18 [x, y] H (.ret (.sc (.bool (decide (p = l))))) H := D_view (.cons hx (.cons hy .nil)) .sc (sameInts_d p l none none [] hp)
end
theorem setL_length {p : List Int} {n : Nat} {f : Int → Int} : (setL p n f).length = p.length := by unfold setL; split <;> simp
theorem small_lit {p : List Int} (h : (decide (p.length ≤ 100000000) && p.all fun x => decide (-2147483650 ≤ x ∧ x ≤ 2147483650)) = true) : small p := by
  simp only [Bool.and_eq_true, decide_eq_true_eq, List.all_eq_true] at h
  exact h
def greatB (l : List Int) (a t : Int) : Bool := decide (l.length > 200) || decide (a > 2147483648) || decide (a < -2147483648) || decide (t > 2147483648) || decide (t < -2147483648) || l.any fun x => decide (x > 2147483648) || decide (x < -2147483648)
theorem greatI_d (l : List Int) (a t : Int) (ro : Option (List AV)) (H : AHeap) : D Try.prog 6 [.lst 1 (nums l) ro, .sc (.int .i64 a), .sc (.int .i64 t)] H (.ret (.sc (.bool (greatB l a t)))) H := by
  refine D_of_DK (Nat.le_refl _) (dk6 (E_of_ES ?_))
  unfold greatB
  by_cases c1 : l.length > 200
  · have c1' : (l.length : Int) > 200 := by omega
    simp -implicitDefEqProofs (maxSteps := 99999999) (disch := omega) only [ic6, nums_length, c1, c1', va, vs, vh, Nat.reduceMul, ite_true, ite_false, eq_self, forall_const, implies_true, Nat.reduceAdd, Nat.reduceSub, Nat.reduceLT, Nat.reduceLeDiff, ↓reduceIte, reduceCtorEq, Int.reduceEq, Int.reduceLT, Int.reduceLE, Int.reduceGT, Int.reduceGE, Int.reduceAdd, Int.reduceSub, Int.reduceNeg, Int.reduceToNat, Nat.reduceBEq, Nat.reduceEqDiff]
    exact weak_sc .refl
  have c1' : ¬ (l.length : Int) > 200 := by omega
  by_cases c2 : a > 2147483648
  · simp -implicitDefEqProofs (maxSteps := 99999999) (disch := omega) only [ic6, nums_length, c1, c1', c2, va, vs, vh, Nat.reduceMul, ite_true, ite_false, eq_self, forall_const, implies_true, Nat.reduceAdd, Nat.reduceSub, Nat.reduceLT, Nat.reduceLeDiff, ↓reduceIte, reduceCtorEq, Int.reduceEq, Int.reduceLT, Int.reduceLE, Int.reduceGT, Int.reduceGE, Int.reduceAdd, Int.reduceSub, Int.reduceNeg, Int.reduceToNat, Nat.reduceBEq, Nat.reduceEqDiff]
    exact weak_sc .refl
  by_cases c3 : a < -2147483648
  · simp -implicitDefEqProofs (maxSteps := 99999999) (disch := omega) only [ic6, nums_length, c1, c1', c2, c3, va, vs, vh, Nat.reduceMul, ite_true, ite_false, eq_self, forall_const, implies_true, Nat.reduceAdd, Nat.reduceSub, Nat.reduceLT, Nat.reduceLeDiff, ↓reduceIte, reduceCtorEq, Int.reduceEq, Int.reduceLT, Int.reduceLE, Int.reduceGT, Int.reduceGE, Int.reduceAdd, Int.reduceSub, Int.reduceNeg, Int.reduceToNat, Nat.reduceBEq, Nat.reduceEqDiff]
    exact weak_sc .refl
  by_cases c4 : t > 2147483648
  · simp -implicitDefEqProofs (maxSteps := 99999999) (disch := omega) only [ic6, nums_length, c1, c1', c2, c3, c4, va, vs, vh, Nat.reduceMul, ite_true, ite_false, eq_self, forall_const, implies_true, Nat.reduceAdd, Nat.reduceSub, Nat.reduceLT, Nat.reduceLeDiff, ↓reduceIte, reduceCtorEq, Int.reduceEq, Int.reduceLT, Int.reduceLE, Int.reduceGT, Int.reduceGE, Int.reduceAdd, Int.reduceSub, Int.reduceNeg, Int.reduceToNat, Nat.reduceBEq, Nat.reduceEqDiff]
    exact weak_sc .refl
  by_cases c5 : t < -2147483648
  · simp -implicitDefEqProofs (maxSteps := 99999999) (disch := omega) only [ic6, nums_length, c1, c1', c2, c3, c4, c5, va, vs, vh, Nat.reduceMul, ite_true, ite_false, eq_self, forall_const, implies_true, Nat.reduceAdd, Nat.reduceSub, Nat.reduceLT, Nat.reduceLeDiff, ↓reduceIte, reduceCtorEq, Int.reduceEq, Int.reduceLT, Int.reduceLE, Int.reduceGT, Int.reduceGE, Int.reduceAdd, Int.reduceSub, Int.reduceNeg, Int.reduceToNat, Nat.reduceBEq, Nat.reduceEqDiff]
    exact weak_sc .refl
  simp -implicitDefEqProofs (maxSteps := 99999999) (disch := omega) only [ic6, nums_length, c1, c1', c2, c3, c4, c5, va, vs, vh, Nat.reduceMul, ite_true, ite_false, eq_self, forall_const, implies_true, Nat.reduceAdd, Nat.reduceSub, Nat.reduceLT, Nat.reduceLeDiff, ↓reduceIte, reduceCtorEq, Int.reduceEq, Int.reduceLT, Int.reduceLE, Int.reduceGT, Int.reduceGE, Int.reduceAdd, Int.reduceSub, Int.reduceNeg, Int.reduceToNat, Nat.reduceBEq, Nat.reduceEqDiff]
  refine ES_loopL (fun ts H' => H' = H ∧ ∃ k : Nat, (k ≤ l.length ∧ ∀ j, j < k → ¬ (nthI l j > 2147483648) ∧ ¬ (nthI l j < -2147483648)) ∧ Fr [some (.lst 1 (nums l) ro), none, none, none, none, none, some (.sc (.bool false)), some (.sc (.int .i64 k)), none, none, none, none, none, none, none, none, none, none, none, none, none, none, none, none, none, none, none, none, none, none, none, none, none, none, none, none, none, none, none, none, none, none, none, none, none] ts) (fun ts _ => l.length - (intV (ts.getD 7 .top)).toNat) ⟨rfl, 0, ⟨Nat.zero_le _, fun j h => absurd h (Nat.not_lt_zero _)⟩, by simp [Fr]⟩ ?_
  rintro ts _ ⟨rfl, k, ⟨hk, hp⟩, hfr⟩ L2 hL2
  obtain ⟨js, rfl⟩ := hfr.opened
  clear hfr
  by_cases h1 : k < l.length
  · have h1' : (k : Int) < l.length := by omega
    have k0 : (0 : Int) ≤ k := by omega
    by_cases d1 : nthI l k > 2147483648
    · have e : (l.any fun x => decide (x > 2147483648) || decide (x < -2147483648)) = true := List.any_eq_true.2 ⟨nthI l k, by rw [nthI_eq h1]; exact List.getElem_mem h1, by simp; omega⟩
      simp -implicitDefEqProofs (maxSteps := 99999999) (disch := omega) only [mk, nums_length, h1', k0, nums_get h1, d1, e, va, vs, vh, Nat.reduceMul, ite_true, ite_false, eq_self, forall_const, implies_true, Nat.reduceAdd, Nat.reduceSub, Nat.reduceLT, Nat.reduceLeDiff, ↓reduceIte, reduceCtorEq, Int.reduceEq, Int.reduceLT, Int.reduceLE, Int.reduceGT, Int.reduceGE, Int.reduceAdd, Int.reduceSub, Int.reduceNeg, Int.reduceToNat, Nat.reduceBEq, Nat.reduceEqDiff]
      exact weak_sc .refl
    · by_cases d2 : nthI l k < -2147483648
      · have e : (l.any fun x => decide (x > 2147483648) || decide (x < -2147483648)) = true := List.any_eq_true.2 ⟨nthI l k, by rw [nthI_eq h1]; exact List.getElem_mem h1, by simp; omega⟩
        simp -implicitDefEqProofs (maxSteps := 99999999) (disch := omega) only [mk, nums_length, h1', k0, nums_get h1, d1, d2, e, va, vs, vh, Nat.reduceMul, ite_true, ite_false, eq_self, forall_const, implies_true, Nat.reduceAdd, Nat.reduceSub, Nat.reduceLT, Nat.reduceLeDiff, ↓reduceIte, reduceCtorEq, Int.reduceEq, Int.reduceLT, Int.reduceLE, Int.reduceGT, Int.reduceGE, Int.reduceAdd, Int.reduceSub, Int.reduceNeg, Int.reduceToNat, Nat.reduceBEq, Nat.reduceEqDiff]
        exact weak_sc .refl
      · simp -implicitDefEqProofs (maxSteps := 99999999) (disch := omega) only [mk, nums_length, h1', k0, nums_get h1, d1, d2, va, vs, vh, Nat.reduceMul, ite_true, ite_false, eq_self, forall_const, implies_true, Nat.reduceAdd, Nat.reduceSub, Nat.reduceLT, Nat.reduceLeDiff, ↓reduceIte, reduceCtorEq, Int.reduceEq, Int.reduceLT, Int.reduceLE, Int.reduceGT, Int.reduceGE, Int.reduceAdd, Int.reduceSub, Int.reduceNeg, Int.reduceToNat, Nat.reduceBEq, Nat.reduceEqDiff]
        exact hL2 _ _ ⟨rfl, k + 1, ⟨by omega, fun j hj => (Nat.lt_succ_iff_lt_or_eq.1 hj).elim (hp j) (fun e => e ▸ ⟨d1, d2⟩)⟩, by simp [Fr]⟩ (by simp [intV, mk]; omega)
  · have h1' : ¬ (k : Int) < l.length := by omega
    have e : (l.any fun x => decide (x > 2147483648) || decide (x < -2147483648)) = false := by
      rw [List.any_eq_false]
      intro x hx
      obtain ⟨j, hj, rfl⟩ := List.getElem_of_mem hx
      have := hp j (by omega)
      rw [nthI_eq hj] at this
      simp; omega
    simp -implicitDefEqProofs (maxSteps := 99999999) (disch := omega) only [mk, nums_length, h1', e, va, vs, vh, Nat.reduceMul, ite_true, ite_false, eq_self, forall_const, implies_true, Nat.reduceAdd, Nat.reduceSub, Nat.reduceLT, Nat.reduceLeDiff, ↓reduceIte, reduceCtorEq, Int.reduceEq, Int.reduceLT, Int.reduceLE, Int.reduceGT, Int.reduceGE, Int.reduceAdd, Int.reduceSub, Int.reduceNeg, Int.reduceToNat, Nat.reduceBEq, Nat.reduceEqDiff]
    exact weak_sc .refl
theorem few_great {l : List Int} {a t : Int} (h : greatB l a t = false) : l.length ≤ 200 ∧ small l ∧ (-2147483648 ≤ a ∧ a ≤ 2147483648) ∧ -2147483648 ≤ t ∧ t ≤ 2147483648 := by
  simp only [greatB, Bool.or_eq_false_iff, decide_eq_false_iff_not, List.any_eq_false] at h
  obtain ⟨⟨⟨⟨⟨h1, h2⟩, h3⟩, h4⟩, h5⟩, h6⟩ := h
  refine ⟨by omega, ⟨by omega, fun x hx => ?_⟩, by omega, by omega⟩
  have := h6 x hx
  simp at this
  omega
set_option maxHeartbeats 4000000 in
theorem awakeI_d (H : AHeap) : D Try.prog 5 [] H (.ret (.sc (.bool true))) H := by
  refine D_of_DK (Nat.le_refl _) (dk5 (E_of_ES ?_))
  simp only [ic5, ux]
  have nv : ∀ {H : AHeap} {l : List Int} {xs : List AV} {r : Option (List AV)}, xs = nums l → View H (.lst 1 xs r) (.lst 1 (nums l) none) := fun h => by subst h; exact nums_view
  have i1 := fun (H : AHeap) => ins_v (H := H) (nv (l := [0, 2, 5]) (r := some []) rfl) (nv (l := [0]) (r := some []) rfl) 2 (small_lit rfl)
  have i2 := fun (H : AHeap) => del_v (H := H) (nv (l := [0, 2, 5]) (r := some []) rfl) (nv (l := [0]) (r := some []) rfl) 2 (small_lit rfl)
  have i3 := fun (H : AHeap) => del_v (H := H) (nv (l := [0, 3]) (r := some []) rfl) (nv (l := [0]) (r := some []) rfl) 2 (small_lit rfl)
  have i4 := fun (H : AHeap) => mov_v (H := H) (nv (l := [0, 1]) (r := some []) rfl) (nv (l := [0]) (r := some []) rfl) 1 3 (small_lit rfl)
  have i5 := fun (H : AHeap) => mov_v (H := H) (nv (l := [0, 2]) (r := some []) rfl) (nv (l := [0]) (r := some []) rfl) 1 3 (small_lit rfl)
  have i6 := fun (H : AHeap) => mov_v (H := H) (nv (l := [0, 4]) (r := some []) rfl) (nv (l := [0]) (r := some []) rfl) 1 3 (small_lit rfl)
  rw [show insP [0, 2, 5] [0] 2 = [0, 3, 5] from by decide] at i1
  rw [show delO [0, 2, 5] [0] 2 = [] from by decide, show goneP [0, 2, 5] [0] 2 = true from by decide] at i2
  rw [show delO [0, 3] [0] 2 = [0, 2] from by decide, show goneP [0, 3] [0] 2 = false from by decide] at i3
  rw [show movP [0, 1] [0] 1 3 = [0, 3] from by decide] at i4
  rw [show movP [0, 2] [0] 1 3 = [0, 1] from by decide] at i5
  rw [show movP [0, 4] [0] 1 3 = [0, 4] from by decide] at i6
  refine ES_seq_gen fun L hL => ?_
  simp -implicitDefEqProofs (maxSteps := 99999999) (disch := first | omega | (simp only [AHeap.set_length, killO_length, List.length_cons, List.length_nil]; first | done | omega)) only [va, vs, vw, Nat.reduceMul, ite_true, ite_false, eq_self, forall_const, implies_true, Nat.reduceAdd, Nat.reduceSub, Nat.reduceLT, Nat.reduceLeDiff, ↓reduceIte, reduceCtorEq, Int.reduceEq, Int.reduceLT, Int.reduceLE, Int.reduceGT, Int.reduceGE, Int.reduceAdd, Int.reduceSub, Int.reduceNeg, Int.reduceToNat, Nat.reduceBEq, Nat.reduceEqDiff]
  refine hL _ _ ?_
  clear hL
  refine ES_seq_gen fun L hL => ?_
  simp -implicitDefEqProofs (maxSteps := 99999999) (disch := first | omega | (simp only [AHeap.set_length, killO_length, List.length_cons, List.length_nil]; first | done | omega)) only [va, vs, vw, Nat.reduceMul, ite_true, ite_false, eq_self, forall_const, implies_true, Nat.reduceAdd, Nat.reduceSub, Nat.reduceLT, Nat.reduceLeDiff, ↓reduceIte, reduceCtorEq, Int.reduceEq, Int.reduceLT, Int.reduceLE, Int.reduceGT, Int.reduceGE, Int.reduceAdd, Int.reduceSub, Int.reduceNeg, Int.reduceToNat, Nat.reduceBEq, Nat.reduceEqDiff]
  refine callR_ret (i1 _) ?_
  simp -implicitDefEqProofs (maxSteps := 99999999) (disch := first | omega | (simp only [AHeap.set_length, killO_length, List.length_cons, List.length_nil]; first | done | omega)) only [va, vs, vw, Nat.reduceMul, ite_true, ite_false, eq_self, forall_const, implies_true, Nat.reduceAdd, Nat.reduceSub, Nat.reduceLT, Nat.reduceLeDiff, ↓reduceIte, reduceCtorEq, Int.reduceEq, Int.reduceLT, Int.reduceLE, Int.reduceGT, Int.reduceGE, Int.reduceAdd, Int.reduceSub, Int.reduceNeg, Int.reduceToNat, Nat.reduceBEq, Nat.reduceEqDiff]
  refine hL _ _ ?_
  clear hL
  refine ES_seq_gen fun L hL => ?_
  simp -implicitDefEqProofs (maxSteps := 99999999) (disch := first | omega | (simp only [AHeap.set_length, killO_length, List.length_cons, List.length_nil]; first | done | omega)) only [va, vs, vw, Nat.reduceMul, ite_true, ite_false, eq_self, forall_const, implies_true, Nat.reduceAdd, Nat.reduceSub, Nat.reduceLT, Nat.reduceLeDiff, ↓reduceIte, reduceCtorEq, Int.reduceEq, Int.reduceLT, Int.reduceLE, Int.reduceGT, Int.reduceGE, Int.reduceAdd, Int.reduceSub, Int.reduceNeg, Int.reduceToNat, Nat.reduceBEq, Nat.reduceEqDiff]
  refine callR_ret (i2 _) ?_
  simp -implicitDefEqProofs (maxSteps := 99999999) (disch := first | omega | (simp only [AHeap.set_length, killO_length, List.length_cons, List.length_nil]; first | done | omega)) only [va, vs, vw, Nat.reduceMul, ite_true, ite_false, eq_self, forall_const, implies_true, Nat.reduceAdd, Nat.reduceSub, Nat.reduceLT, Nat.reduceLeDiff, ↓reduceIte, reduceCtorEq, Int.reduceEq, Int.reduceLT, Int.reduceLE, Int.reduceGT, Int.reduceGE, Int.reduceAdd, Int.reduceSub, Int.reduceNeg, Int.reduceToNat, Nat.reduceBEq, Nat.reduceEqDiff]
  refine hL _ _ ?_
  clear hL
  refine ES_seq_gen fun L hL => ?_
  simp -implicitDefEqProofs (maxSteps := 99999999) (disch := first | omega | (simp only [AHeap.set_length, killO_length, List.length_cons, List.length_nil]; first | done | omega)) only [va, vs, vw, Nat.reduceMul, ite_true, ite_false, eq_self, forall_const, implies_true, Nat.reduceAdd, Nat.reduceSub, Nat.reduceLT, Nat.reduceLeDiff, ↓reduceIte, reduceCtorEq, Int.reduceEq, Int.reduceLT, Int.reduceLE, Int.reduceGT, Int.reduceGE, Int.reduceAdd, Int.reduceSub, Int.reduceNeg, Int.reduceToNat, Nat.reduceBEq, Nat.reduceEqDiff]
  refine callR_ret (i3 _) ?_
  simp -implicitDefEqProofs (maxSteps := 99999999) (disch := first | omega | (simp only [AHeap.set_length, killO_length, List.length_cons, List.length_nil]; first | done | omega)) only [va, vs, vw, Nat.reduceMul, ite_true, ite_false, eq_self, forall_const, implies_true, Nat.reduceAdd, Nat.reduceSub, Nat.reduceLT, Nat.reduceLeDiff, ↓reduceIte, reduceCtorEq, Int.reduceEq, Int.reduceLT, Int.reduceLE, Int.reduceGT, Int.reduceGE, Int.reduceAdd, Int.reduceSub, Int.reduceNeg, Int.reduceToNat, Nat.reduceBEq, Nat.reduceEqDiff]
  refine hL _ _ ?_
  clear hL
  refine ES_seq_gen fun L hL => ?_
  simp -implicitDefEqProofs (maxSteps := 99999999) (disch := first | omega | (simp only [AHeap.set_length, killO_length, List.length_cons, List.length_nil]; first | done | omega)) only [va, vs, vw, Nat.reduceMul, ite_true, ite_false, eq_self, forall_const, implies_true, Nat.reduceAdd, Nat.reduceSub, Nat.reduceLT, Nat.reduceLeDiff, ↓reduceIte, reduceCtorEq, Int.reduceEq, Int.reduceLT, Int.reduceLE, Int.reduceGT, Int.reduceGE, Int.reduceAdd, Int.reduceSub, Int.reduceNeg, Int.reduceToNat, Nat.reduceBEq, Nat.reduceEqDiff]
  refine callR_ret (i4 _) ?_
  simp -implicitDefEqProofs (maxSteps := 99999999) (disch := first | omega | (simp only [AHeap.set_length, killO_length, List.length_cons, List.length_nil]; first | done | omega)) only [va, vs, vw, Nat.reduceMul, ite_true, ite_false, eq_self, forall_const, implies_true, Nat.reduceAdd, Nat.reduceSub, Nat.reduceLT, Nat.reduceLeDiff, ↓reduceIte, reduceCtorEq, Int.reduceEq, Int.reduceLT, Int.reduceLE, Int.reduceGT, Int.reduceGE, Int.reduceAdd, Int.reduceSub, Int.reduceNeg, Int.reduceToNat, Nat.reduceBEq, Nat.reduceEqDiff]
  refine callR_ret (i5 _) ?_
  simp -implicitDefEqProofs (maxSteps := 99999999) (disch := first | omega | (simp only [AHeap.set_length, killO_length, List.length_cons, List.length_nil]; first | done | omega)) only [va, vs, vw, Nat.reduceMul, ite_true, ite_false, eq_self, forall_const, implies_true, Nat.reduceAdd, Nat.reduceSub, Nat.reduceLT, Nat.reduceLeDiff, ↓reduceIte, reduceCtorEq, Int.reduceEq, Int.reduceLT, Int.reduceLE, Int.reduceGT, Int.reduceGE, Int.reduceAdd, Int.reduceSub, Int.reduceNeg, Int.reduceToNat, Nat.reduceBEq, Nat.reduceEqDiff]
  refine callR_ret (i6 _) ?_
  simp -implicitDefEqProofs (maxSteps := 99999999) (disch := first | omega | (simp only [AHeap.set_length, killO_length, List.length_cons, List.length_nil]; first | done | omega)) only [va, vs, vw, Nat.reduceMul, ite_true, ite_false, eq_self, forall_const, implies_true, Nat.reduceAdd, Nat.reduceSub, Nat.reduceLT, Nat.reduceLeDiff, ↓reduceIte, reduceCtorEq, Int.reduceEq, Int.reduceLT, Int.reduceLE, Int.reduceGT, Int.reduceGE, Int.reduceAdd, Int.reduceSub, Int.reduceNeg, Int.reduceToNat, Nat.reduceBEq, Nat.reduceEqDiff]
  refine hL _ _ ?_
  clear hL
  refine ES_seq_gen fun L hL => ?_
  simp -implicitDefEqProofs (maxSteps := 99999999) (disch := first | omega | (simp only [AHeap.set_length, killO_length, List.length_cons, List.length_nil]; first | done | omega)) only [va, vs, vw, Nat.reduceMul, ite_true, ite_false, eq_self, forall_const, implies_true, Nat.reduceAdd, Nat.reduceSub, Nat.reduceLT, Nat.reduceLeDiff, ↓reduceIte, reduceCtorEq, Int.reduceEq, Int.reduceLT, Int.reduceLE, Int.reduceGT, Int.reduceGE, Int.reduceAdd, Int.reduceSub, Int.reduceNeg, Int.reduceToNat, Nat.reduceBEq, Nat.reduceEqDiff]
  refine callR_ret (same_v (p := [0, 3, 5]) (row_view fun _ => ?_) (nv (l := [0, 3, 5]) (r := some []) rfl) (by simp)) ?_
  · simp -implicitDefEqProofs (maxSteps := 99999999) (disch := first | omega | (simp only [AHeap.set_length, killO_length, List.length_cons, List.length_nil]; first | done | omega)) only [va, vs, vw, Nat.reduceMul, ite_true, ite_false, eq_self, forall_const, implies_true, Nat.reduceAdd, Nat.reduceSub, Nat.reduceLT, Nat.reduceLeDiff, ↓reduceIte, reduceCtorEq, Int.reduceEq, Int.reduceLT, Int.reduceLE, Int.reduceGT, Int.reduceGE, Int.reduceAdd, Int.reduceSub, Int.reduceNeg, Int.reduceToNat, Nat.reduceBEq, Nat.reduceEqDiff]
  simp -implicitDefEqProofs (maxSteps := 99999999) (disch := first | omega | (simp only [AHeap.set_length, killO_length, List.length_cons, List.length_nil]; first | done | omega)) only [va, vs, vw, Nat.reduceMul, ite_true, ite_false, eq_self, forall_const, implies_true, Nat.reduceAdd, Nat.reduceSub, Nat.reduceLT, Nat.reduceLeDiff, ↓reduceIte, reduceCtorEq, Int.reduceEq, Int.reduceLT, Int.reduceLE, Int.reduceGT, Int.reduceGE, Int.reduceAdd, Int.reduceSub, Int.reduceNeg, Int.reduceToNat, Nat.reduceBEq, Nat.reduceEqDiff]
  refine callR_ret (same_v (p := [0, 2]) (row_view fun _ => ?_) (nv (l := [0, 2]) (r := some []) rfl) (by simp)) ?_
  · simp -implicitDefEqProofs (maxSteps := 99999999) (disch := first | omega | (simp only [AHeap.set_length, killO_length, List.length_cons, List.length_nil]; first | done | omega)) only [va, vs, vw, Nat.reduceMul, ite_true, ite_false, eq_self, forall_const, implies_true, Nat.reduceAdd, Nat.reduceSub, Nat.reduceLT, Nat.reduceLeDiff, ↓reduceIte, reduceCtorEq, Int.reduceEq, Int.reduceLT, Int.reduceLE, Int.reduceGT, Int.reduceGE, Int.reduceAdd, Int.reduceSub, Int.reduceNeg, Int.reduceToNat, Nat.reduceBEq, Nat.reduceEqDiff]
  simp -implicitDefEqProofs (maxSteps := 99999999) (disch := first | omega | (simp only [AHeap.set_length, killO_length, List.length_cons, List.length_nil]; first | done | omega)) only [va, vs, vw, Nat.reduceMul, ite_true, ite_false, eq_self, forall_const, implies_true, Nat.reduceAdd, Nat.reduceSub, Nat.reduceLT, Nat.reduceLeDiff, ↓reduceIte, reduceCtorEq, Int.reduceEq, Int.reduceLT, Int.reduceLE, Int.reduceGT, Int.reduceGE, Int.reduceAdd, Int.reduceSub, Int.reduceNeg, Int.reduceToNat, Nat.reduceBEq, Nat.reduceEqDiff]
  refine callR_ret (same_v (p := [0, 3]) (row_view fun _ => ?_) (nv (l := [0, 3]) (r := some []) rfl) (by simp)) ?_
  · simp -implicitDefEqProofs (maxSteps := 99999999) (disch := first | omega | (simp only [AHeap.set_length, killO_length, List.length_cons, List.length_nil]; first | done | omega)) only [va, vs, vw, Nat.reduceMul, ite_true, ite_false, eq_self, forall_const, implies_true, Nat.reduceAdd, Nat.reduceSub, Nat.reduceLT, Nat.reduceLeDiff, ↓reduceIte, reduceCtorEq, Int.reduceEq, Int.reduceLT, Int.reduceLE, Int.reduceGT, Int.reduceGE, Int.reduceAdd, Int.reduceSub, Int.reduceNeg, Int.reduceToNat, Nat.reduceBEq, Nat.reduceEqDiff]
  simp -implicitDefEqProofs (maxSteps := 99999999) (disch := first | omega | (simp only [AHeap.set_length, killO_length, List.length_cons, List.length_nil]; first | done | omega)) only [va, vs, vw, Nat.reduceMul, ite_true, ite_false, eq_self, forall_const, implies_true, Nat.reduceAdd, Nat.reduceSub, Nat.reduceLT, Nat.reduceLeDiff, ↓reduceIte, reduceCtorEq, Int.reduceEq, Int.reduceLT, Int.reduceLE, Int.reduceGT, Int.reduceGE, Int.reduceAdd, Int.reduceSub, Int.reduceNeg, Int.reduceToNat, Nat.reduceBEq, Nat.reduceEqDiff]
  refine callR_ret (same_v (p := [0, 1]) (row_view fun _ => ?_) (nv (l := [0, 1]) (r := some []) rfl) (by simp)) ?_
  · simp -implicitDefEqProofs (maxSteps := 99999999) (disch := first | omega | (simp only [AHeap.set_length, killO_length, List.length_cons, List.length_nil]; first | done | omega)) only [va, vs, vw, Nat.reduceMul, ite_true, ite_false, eq_self, forall_const, implies_true, Nat.reduceAdd, Nat.reduceSub, Nat.reduceLT, Nat.reduceLeDiff, ↓reduceIte, reduceCtorEq, Int.reduceEq, Int.reduceLT, Int.reduceLE, Int.reduceGT, Int.reduceGE, Int.reduceAdd, Int.reduceSub, Int.reduceNeg, Int.reduceToNat, Nat.reduceBEq, Nat.reduceEqDiff]
  simp -implicitDefEqProofs (maxSteps := 99999999) (disch := first | omega | (simp only [AHeap.set_length, killO_length, List.length_cons, List.length_nil]; first | done | omega)) only [va, vs, vw, Nat.reduceMul, ite_true, ite_false, eq_self, forall_const, implies_true, Nat.reduceAdd, Nat.reduceSub, Nat.reduceLT, Nat.reduceLeDiff, ↓reduceIte, reduceCtorEq, Int.reduceEq, Int.reduceLT, Int.reduceLE, Int.reduceGT, Int.reduceGE, Int.reduceAdd, Int.reduceSub, Int.reduceNeg, Int.reduceToNat, Nat.reduceBEq, Nat.reduceEqDiff]
  refine callR_ret (same_v (p := [0, 4]) (row_view fun _ => ?_) (nv (l := [0, 4]) (r := some []) rfl) (by simp)) ?_
  · simp -implicitDefEqProofs (maxSteps := 99999999) (disch := first | omega | (simp only [AHeap.set_length, killO_length, List.length_cons, List.length_nil]; first | done | omega)) only [va, vs, vw, Nat.reduceMul, ite_true, ite_false, eq_self, forall_const, implies_true, Nat.reduceAdd, Nat.reduceSub, Nat.reduceLT, Nat.reduceLeDiff, ↓reduceIte, reduceCtorEq, Int.reduceEq, Int.reduceLT, Int.reduceLE, Int.reduceGT, Int.reduceGE, Int.reduceAdd, Int.reduceSub, Int.reduceNeg, Int.reduceToNat, Nat.reduceBEq, Nat.reduceEqDiff]
  simp -implicitDefEqProofs (maxSteps := 99999999) (disch := first | omega | (simp only [AHeap.set_length, killO_length, List.length_cons, List.length_nil]; first | done | omega)) only [va, vs, vw, Nat.reduceMul, ite_true, ite_false, eq_self, forall_const, implies_true, Nat.reduceAdd, Nat.reduceSub, Nat.reduceLT, Nat.reduceLeDiff, ↓reduceIte, reduceCtorEq, Int.reduceEq, Int.reduceLT, Int.reduceLE, Int.reduceGT, Int.reduceGE, Int.reduceAdd, Int.reduceSub, Int.reduceNeg, Int.reduceToNat, Nat.reduceBEq, Nat.reduceEqDiff]
  refine callR_ret (und_v (nv (l := [1, 2]) (r := some []) rfl) (nv (l := [1]) (r := some []) rfl) (by simp)) ?_
  rw [show underB [1, 2] [1] = true from by decide]
  simp -implicitDefEqProofs (maxSteps := 99999999) (disch := first | omega | (simp only [AHeap.set_length, killO_length, List.length_cons, List.length_nil]; first | done | omega)) only [va, vs, vw, Nat.reduceMul, ite_true, ite_false, eq_self, forall_const, implies_true, Nat.reduceAdd, Nat.reduceSub, Nat.reduceLT, Nat.reduceLeDiff, ↓reduceIte, reduceCtorEq, Int.reduceEq, Int.reduceLT, Int.reduceLE, Int.reduceGT, Int.reduceGE, Int.reduceAdd, Int.reduceSub, Int.reduceNeg, Int.reduceToNat, Nat.reduceBEq, Nat.reduceEqDiff]
  refine callR_ret (cmp_v (nv (l := [1]) (r := some []) rfl) (nv (l := [1, 2]) (r := some []) rfl) (by simp)) ?_
  rw [show cmpL [1] [1, 2] = -1 from by decide]
  simp -implicitDefEqProofs (maxSteps := 99999999) (disch := first | omega | (simp only [AHeap.set_length, killO_length, List.length_cons, List.length_nil]; first | done | omega)) only [va, vs, vw, Nat.reduceMul, ite_true, ite_false, eq_self, forall_const, implies_true, Nat.reduceAdd, Nat.reduceSub, Nat.reduceLT, Nat.reduceLeDiff, ↓reduceIte, reduceCtorEq, Int.reduceEq, Int.reduceLT, Int.reduceLE, Int.reduceGT, Int.reduceGE, Int.reduceAdd, Int.reduceSub, Int.reduceNeg, Int.reduceToNat, Nat.reduceBEq, Nat.reduceEqDiff]
  refine hL _ _ ?_
  clear hL
  simp -implicitDefEqProofs (maxSteps := 99999999) (disch := first | omega | (simp only [AHeap.set_length, killO_length, List.length_cons, List.length_nil]; first | done | omega)) only [va, vs, vw, Nat.reduceMul, ite_true, ite_false, eq_self, forall_const, implies_true, Nat.reduceAdd, Nat.reduceSub, Nat.reduceLT, Nat.reduceLeDiff, ↓reduceIte, reduceCtorEq, Int.reduceEq, Int.reduceLT, Int.reduceLE, Int.reduceGT, Int.reduceGE, Int.reduceAdd, Int.reduceSub, Int.reduceNeg, Int.reduceToNat, Nat.reduceBEq, Nat.reduceEqDiff]
  exact weak_sc (by repeat constructor)
end Go.Proofs.Ytijnpkpcoeeioaa
