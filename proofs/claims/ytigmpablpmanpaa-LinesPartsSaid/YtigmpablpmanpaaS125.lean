/- slices.Grow, slices.Concat; lines.Span. -/
import Derived.Test.YtigmpablpmanpaaS124
namespace Go.Proofs.Ytigmpablpmanpaa
open Go.RowKit
set_option maxRecDepth 100000
set_option linter.unusedVariables false
set_option linter.unusedSimpArgs false

def intA (l : List Int) : List AV := l.map fun n => .sc (.int .i64 n)
theorem intA_length (l : List Int) : (intA l).length = l.length := by simp [intA]
theorem intA_append (a b : List Int) : intA (a ++ b) = intA a ++ intA b := by simp [intA]
theorem intA_gz {H : AHeap} {n : Nat} {src : List Nat} : ∀ {l : List Int}, GzL H n src (intA l) (intA l)
  | [] => .nil
  | _ :: _ => .cons (.same trivial) intA_gz
attribute [-go_sem] Builtin.append_ in
theorem grow_any (ad : Option Addr) (m : Nat) (hm : 0 < m ∧ m ≤ 10000000) (w : World) : Calls Try.prog 58 #[.slice ad 0 0, .int .i64 m] w fun e w' => ∃ (cap : Nat) (arr : Array Value), e = .returned (.slice (some ⟨w.heap.size, 0, none⟩) 0 cap) ∧ w' = w.drew.alloc (.cells arr 3) ∧ m ≤ cap ∧ cap ≤ maxLen ∧ arr.size = cap := by
  have hp : (Try.prog.info? 3).map (fun i => (i.size, i.bytes)) = some (1, 8) := by kernel_rfl
  have hq : (Try.prog.info? 3).bind (·.zero) = some (.int .i64 0) := by kernel_rfl
  obtain ⟨inf, hi, hz⟩ := Option.bind_eq_some_iff.1 hq
  rw [hi, Option.map_some, Option.some.injEq, Prod.mk.injEq] at hp
  obtain ⟨hs1, hby⟩ := hp
  have ht : Try.prog.underlying 72 = some (.slice 3) := by kernel_rfl
  have htn : Try.prog.underlying 3 = some (.int .i64) := by kernel_rfl
  have hold : (Builtin.firstCells inf.size 0 (.slice ad 0 0)).run Try.prog w.drew = .ok ([] : List Value).toArray w.drew := by
    cases ad with
    | none => rfl
    | some ad => exact run_firstCells_some w.drew inf.size 0 ad 0 0 [] (by simp) fun j u hj => by simp at hj
  have hr2 := Go.Lib.run_append_grow_zeros (P := Try.prog) w 72 3 72 3 inf _ .i64 .i64 ht htn hi hz ad 0 0 [] hold m (by omega) (by omega) (by omega) (by omega) (by rw [hby]; omega) (growslice_fits (by omega) (by rw [hby]; omega))
  rw [Nat.zero_add] at hr2
  have hge := grownCap_ge w m 0 3
  have hle := grownCap_le_maxLen w m 0 3 (by unfold maxLen; omega)
  generalize grownCap w m 0 3 = cap at hr2 hge hle
  generalize harr : #[] ++ Builtin.zeroCells (Value.int IntKind.i64 0).cells m ++ Builtin.zeroCells (Value.int IntKind.i64 0).cells (cap - m) = arr at hr2
  have hsz : arr.size = cap := by
    rw [← harr]
    simp only [Array.size_append, size_zeroCells]
    simp [Value.cells]
    omega
  clear harr
  have hm0 : 0 < (m : Int) := by omega
  have hneg : ¬ (m : Int) < 0 := by omega
  have hw : IntKind.i64.wrap (m : Int) = m := wrap_i64 (by omega) (by omega)
  go_enter Try.func58, Try.ntmps58
  go_wp2
  go_ret
  exact ⟨cap, rfl, arr, rfl, hge, hle, hsz⟩

theorem grow_d (m : Nat) (hm : 0 < m ∧ m ≤ 10000000) (H : AHeap) : D Try.prog 58 [.lst 0 [] (some []), .sc (.int .i64 m)] H (.ret (.vec 1 H.length 0 0 none)) (some ⟨1, [], false, 3⟩ :: H) := by
  refine ⟨by simp, fun φ w vs hR ha => ?_⟩
  obtain ⟨v, r, h1, h2, h3⟩ := Rt_cons ha
  obtain ⟨u, h4, h5⟩ := Rt_one h3
  rw [h4] at h1
  obtain ⟨ad, c, hva, _, _, _, _, c5⟩ := VR_lst h2
  have hc0 : c = 0 := by have := c5.1; simpa using this
  subst hc0
  rw [arr_of h1, hva, VR_sc h5]
  refine (grow_any ad m hm w).mono ?_
  rintro e w' ⟨cap, arr, rfl, rfl, g1, g2, g3⟩
  have hal := (drew_rel hR).alloc ⟨1, [], false, 3⟩ (Nat.zero_lt_one) arr cap (by rw [g3, Nat.mul_one]) (Nat.zero_le _) (fun h => by simp at h) g2 (fun x hx => by simp at hx) trivial
  refine ⟨_, ?_, hal.1, (drew_step φ H w).trans hal.2⟩
  exact ⟨rfl, w.heap.size, cap, arr, 3, (0, 0), by simp [Phi.add], by simp [cget, Value.cells], Nat.zero_le _, g2, fun m hm => by simp at hm, heap_alloc_new w.drew _, by simpa using g3⟩

theorem concat_d (v : AV) (xs : List Int) (H : AHeap) (hl : xs.length ≤ 1000000) (hv : (xs = [] ∧ v = .lst 1 [] (some [])) ∨ (∃ id, xs ≠ [] ∧ v = .vec 1 id 0 xs.length none ∧ AHeap.find H id = some ⟨1, intA xs, false, 3⟩)) (n : Int) :
    D Try.prog 42 [.lst 1 [v, .lst 1 [.sc (.int .i64 n)] (some [])] (some [])] H (.ret (.vec 1 H.length 0 (xs.length + 1) none)) (some ⟨1, intA (xs ++ [n]), false, 3⟩ :: H) := by
  refine D_of_DK (by simp) (dk42 (E_of_ES ?_))
  have hlA := intA_length xs
  have hT : (intA xs).take xs.length = intA xs := List.take_of_length_le (by rw [hlA]; exact Nat.le_refl _)
  rcases hv with ⟨rfl, rfl⟩ | ⟨id, hne, rfl, hf⟩
  · simp -implicitDefEqProofs (maxSteps := 99999999) (disch := omega) only [vu, ic42, va, vg, vs, vh, Nat.reduceMul, ite_true, ite_false, eq_self, forall_const, implies_true, Nat.reduceAdd, Nat.reduceSub, Nat.reduceLT, Nat.reduceLeDiff, ↓reduceIte, reduceCtorEq, Int.reduceEq, Int.reduceLT, Int.reduceLE, Int.reduceGT, Int.reduceGE, Int.reduceAdd, Int.reduceSub, Int.reduceNeg, Int.reduceToNat, Nat.reduceBEq, Nat.reduceEqDiff]
    refine ES_unroll (.s (.s (.s .o))) ?_
    refine Lp_next fun L hL => ?_
    simp -implicitDefEqProofs (maxSteps := 99999999) (disch := omega) only [vu, va, vg, vs, vh, Nat.reduceMul, ite_true, ite_false, eq_self, forall_const, implies_true, Nat.reduceAdd, Nat.reduceSub, Nat.reduceLT, Nat.reduceLeDiff, ↓reduceIte, reduceCtorEq, Int.reduceEq, Int.reduceLT, Int.reduceLE, Int.reduceGT, Int.reduceGE, Int.reduceAdd, Int.reduceSub, Int.reduceNeg, Int.reduceToNat, Nat.reduceBEq, Nat.reduceEqDiff]
    refine hL _ _ ?_
    clear hL
    refine Lp_next fun L hL => ?_
    simp -implicitDefEqProofs (maxSteps := 99999999) (disch := omega) only [vu, va, vg, vs, vh, Nat.reduceMul, ite_true, ite_false, eq_self, forall_const, implies_true, Nat.reduceAdd, Nat.reduceSub, Nat.reduceLT, Nat.reduceLeDiff, ↓reduceIte, reduceCtorEq, Int.reduceEq, Int.reduceLT, Int.reduceLE, Int.reduceGT, Int.reduceGE, Int.reduceAdd, Int.reduceSub, Int.reduceNeg, Int.reduceToNat, Nat.reduceBEq, Nat.reduceEqDiff]
    refine hL _ _ ?_
    clear hL
    refine Lp_next fun L hL => ?_
    simp -implicitDefEqProofs (maxSteps := 99999999) (disch := omega) only [vu, va, vg, vs, vh, Nat.reduceMul, ite_true, ite_false, eq_self, forall_const, implies_true, Nat.reduceAdd, Nat.reduceSub, Nat.reduceLT, Nat.reduceLeDiff, ↓reduceIte, reduceCtorEq, Int.reduceEq, Int.reduceLT, Int.reduceLE, Int.reduceGT, Int.reduceGE, Int.reduceAdd, Int.reduceSub, Int.reduceNeg, Int.reduceToNat, Nat.reduceBEq, Nat.reduceEqDiff]
    clear hL
    refine callR_ret (grow_d 1 (by omega) _) ?_
    simp -implicitDefEqProofs (maxSteps := 99999999) (disch := omega) only [vu, va, vg, vs, vh, Nat.reduceMul, ite_true, ite_false, eq_self, forall_const, implies_true, Nat.reduceAdd, Nat.reduceSub, Nat.reduceLT, Nat.reduceLeDiff, ↓reduceIte, reduceCtorEq, Int.reduceEq, Int.reduceLT, Int.reduceLE, Int.reduceGT, Int.reduceGE, Int.reduceAdd, Int.reduceSub, Int.reduceNeg, Int.reduceToNat, Nat.reduceBEq, Nat.reduceEqDiff]
    refine ES_unroll (.s (.s (.s .o))) ?_
    refine Lp_next fun L hL => ?_
    simp -implicitDefEqProofs (maxSteps := 99999999) (disch := omega) only [vu, va, vg, vs, vh, Nat.reduceMul, ite_true, ite_false, eq_self, forall_const, implies_true, Nat.reduceAdd, Nat.reduceSub, Nat.reduceLT, Nat.reduceLeDiff, ↓reduceIte, reduceCtorEq, Int.reduceEq, Int.reduceLT, Int.reduceLE, Int.reduceGT, Int.reduceGE, Int.reduceAdd, Int.reduceSub, Int.reduceNeg, Int.reduceToNat, Nat.reduceBEq, Nat.reduceEqDiff]
    refine hL _ _ ?_
    clear hL
    refine Lp_next fun L hL => ?_
    simp -implicitDefEqProofs (maxSteps := 99999999) (disch := omega) only [vu, va, vg, vs, vh, Nat.reduceMul, ite_true, ite_false, eq_self, forall_const, implies_true, Nat.reduceAdd, Nat.reduceSub, Nat.reduceLT, Nat.reduceLeDiff, ↓reduceIte, reduceCtorEq, Int.reduceEq, Int.reduceLT, Int.reduceLE, Int.reduceGT, Int.reduceGE, Int.reduceAdd, Int.reduceSub, Int.reduceNeg, Int.reduceToNat, Nat.reduceBEq, Nat.reduceEqDiff]
    refine hL _ _ ?_
    clear hL
    refine Lp_next fun L hL => ?_
    simp -implicitDefEqProofs (maxSteps := 99999999) (disch := omega) only [vu, va, vg, vs, vh, Nat.reduceMul, ite_true, ite_false, eq_self, forall_const, implies_true, Nat.reduceAdd, Nat.reduceSub, Nat.reduceLT, Nat.reduceLeDiff, ↓reduceIte, reduceCtorEq, Int.reduceEq, Int.reduceLT, Int.reduceLE, Int.reduceGT, Int.reduceGE, Int.reduceAdd, Int.reduceSub, Int.reduceNeg, Int.reduceToNat, Nat.reduceBEq, Nat.reduceEqDiff]
    clear hL
    refine weak_gen [H.length + 2] (by simp) (by simp) (by simp) (fun id k hid hk => .inl ⟨by rwa [find_past hid] at hk, by rw [find_past (by simp; omega), find_past (by simp; omega), find_past hid]; rwa [find_past hid] at hk⟩) (fun i s k hs hk => ?_) (.vecR (newId_one (by omega)) (.inl rfl))
    obtain ⟨rfl, rfl⟩ : i = 0 ∧ s = H.length + 2 := by
      cases i with
      | zero => simp at hs; exact ⟨rfl, hs.symm⟩
      | succ i => simp at hs
    rw [Nat.add_zero, find_top rfl] at hk
    cases hk
    exact ⟨_, find_top (by simp), rfl, rfl, fun h => h, (show GzL _ _ _ (intA [n]) (intA [n]) from intA_gz)⟩
  · have hA1 : ¬ (xs.length : Int) < 0 := by omega
    have hA2 : ¬ (xs.length : Int) + 1 < 0 := by omega
    simp -implicitDefEqProofs (maxSteps := 99999999) (disch := omega) only [vu, ic42, va, vg, vs, vh, Nat.reduceMul, ite_true, ite_false, eq_self, forall_const, implies_true, Nat.reduceAdd, Nat.reduceSub, Nat.reduceLT, Nat.reduceLeDiff, ↓reduceIte, reduceCtorEq, Int.reduceEq, Int.reduceLT, Int.reduceLE, Int.reduceGT, Int.reduceGE, Int.reduceAdd, Int.reduceSub, Int.reduceNeg, Int.reduceToNat, Nat.reduceBEq, Nat.reduceEqDiff]
    refine ES_unroll (.s (.s (.s .o))) ?_
    refine Lp_next fun L hL => ?_
    simp -implicitDefEqProofs (maxSteps := 99999999) (disch := omega) only [vu, hA1, hA2, Int.zero_add, va, vg, vs, vh, Nat.reduceMul, ite_true, ite_false, eq_self, forall_const, implies_true, Nat.reduceAdd, Nat.reduceSub, Nat.reduceLT, Nat.reduceLeDiff, ↓reduceIte, reduceCtorEq, Int.reduceEq, Int.reduceLT, Int.reduceLE, Int.reduceGT, Int.reduceGE, Int.reduceAdd, Int.reduceSub, Int.reduceNeg, Int.reduceToNat, Nat.reduceBEq, Nat.reduceEqDiff]
    refine hL _ _ ?_
    clear hL
    refine Lp_next fun L hL => ?_
    simp -implicitDefEqProofs (maxSteps := 99999999) (disch := omega) only [vu, hA1, hA2, Int.zero_add, va, vg, vs, vh, Nat.reduceMul, ite_true, ite_false, eq_self, forall_const, implies_true, Nat.reduceAdd, Nat.reduceSub, Nat.reduceLT, Nat.reduceLeDiff, ↓reduceIte, reduceCtorEq, Int.reduceEq, Int.reduceLT, Int.reduceLE, Int.reduceGT, Int.reduceGE, Int.reduceAdd, Int.reduceSub, Int.reduceNeg, Int.reduceToNat, Nat.reduceBEq, Nat.reduceEqDiff]
    refine hL _ _ ?_
    clear hL
    refine Lp_next fun L hL => ?_
    simp -implicitDefEqProofs (maxSteps := 99999999) (disch := omega) only [vu, hA1, hA2, Int.zero_add, va, vg, vs, vh, Nat.reduceMul, ite_true, ite_false, eq_self, forall_const, implies_true, Nat.reduceAdd, Nat.reduceSub, Nat.reduceLT, Nat.reduceLeDiff, ↓reduceIte, reduceCtorEq, Int.reduceEq, Int.reduceLT, Int.reduceLE, Int.reduceGT, Int.reduceGE, Int.reduceAdd, Int.reduceSub, Int.reduceNeg, Int.reduceToNat, Nat.reduceBEq, Nat.reduceEqDiff]
    clear hL
    refine callR_ret (grow_d (xs.length + 1) (by omega) _) ?_
    have hf1 : AHeap.find (some ⟨1, [], false, 3⟩ :: H) id = some ⟨1, intA xs, false, 3⟩ := by rw [find_past (AHeap.find_lt hf)]; exact hf
    simp -implicitDefEqProofs (maxSteps := 99999999) (disch := first | omega | (simp only [AHeap.set_length, killO_length, List.length_cons, List.length_nil]; first | done | omega)) only [vu, hf, hf1, hlA, hT, va, vg, vs, vw, Nat.reduceMul, ite_true, ite_false, eq_self, forall_const, implies_true, Nat.reduceAdd, Nat.reduceSub, Nat.reduceLT, Nat.reduceLeDiff, ↓reduceIte, reduceCtorEq, Int.reduceEq, Int.reduceLT, Int.reduceLE, Int.reduceGT, Int.reduceGE, Int.reduceAdd, Int.reduceSub, Int.reduceNeg, Int.reduceToNat, Nat.reduceBEq, Nat.reduceEqDiff]
    refine ES_unroll (.s (.s (.s .o))) ?_
    refine Lp_next fun L hL => ?_
    simp -implicitDefEqProofs (maxSteps := 99999999) (disch := first | omega | (simp only [AHeap.set_length, killO_length, List.length_cons, List.length_nil]; first | done | omega)) only [vu, hf, hf1, hlA, hT, va, vg, vs, vw, Nat.reduceMul, ite_true, ite_false, eq_self, forall_const, implies_true, Nat.reduceAdd, Nat.reduceSub, Nat.reduceLT, Nat.reduceLeDiff, ↓reduceIte, reduceCtorEq, Int.reduceEq, Int.reduceLT, Int.reduceLE, Int.reduceGT, Int.reduceGE, Int.reduceAdd, Int.reduceSub, Int.reduceNeg, Int.reduceToNat, Nat.reduceBEq, Nat.reduceEqDiff]
    refine ⟨⟨Nat.le_refl _, by omega⟩, hL _ _ ?_⟩
    clear hL
    refine Lp_next fun L hL => ?_
    simp -implicitDefEqProofs (maxSteps := 99999999) (disch := first | omega | (simp only [AHeap.set_length, killO_length, List.length_cons, List.length_nil]; first | done | omega)) only [vu, hf, hf1, hlA, hT, va, vg, vs, vw, Nat.reduceMul, ite_true, ite_false, eq_self, forall_const, implies_true, Nat.reduceAdd, Nat.reduceSub, Nat.reduceLT, Nat.reduceLeDiff, ↓reduceIte, reduceCtorEq, Int.reduceEq, Int.reduceLT, Int.reduceLE, Int.reduceGT, Int.reduceGE, Int.reduceAdd, Int.reduceSub, Int.reduceNeg, Int.reduceToNat, Nat.reduceBEq, Nat.reduceEqDiff]
    refine ⟨by omega, hL _ _ ?_⟩
    clear hL
    refine Lp_next fun L hL => ?_
    simp -implicitDefEqProofs (maxSteps := 99999999) (disch := first | omega | (simp only [AHeap.set_length, killO_length, List.length_cons, List.length_nil]; first | done | omega)) only [vu, hf, hf1, hlA, hT, va, vg, vs, vw, Nat.reduceMul, ite_true, ite_false, eq_self, forall_const, implies_true, Nat.reduceAdd, Nat.reduceSub, Nat.reduceLT, Nat.reduceLeDiff, ↓reduceIte, reduceCtorEq, Int.reduceEq, Int.reduceLT, Int.reduceLE, Int.reduceGT, Int.reduceGE, Int.reduceAdd, Int.reduceSub, Int.reduceNeg, Int.reduceToNat, Nat.reduceBEq, Nat.reduceEqDiff]
    clear hL
    rw [show intA xs ++ [AV.sc (.int .i64 n)] = intA (xs ++ [n]) from by simp [intA]]
    refine weak_gen [H.length + 2] (by simp) (by simp) (by simp) (fun id k hid hk => .inl ⟨by rwa [find_past hid] at hk, by rw [find_past (by simp; omega), find_past (by simp; omega), find_past hid]; rwa [find_past hid] at hk⟩) (fun i s k hs hk => ?_) (.vecR (newId_one (by omega)) (.inl rfl))
    obtain ⟨rfl, rfl⟩ : i = 0 ∧ s = H.length + 2 := by
      cases i with
      | zero => simp at hs; exact ⟨rfl, hs.symm⟩
      | succ i => simp at hs
    rw [Nat.add_zero, find_top rfl] at hk
    cases hk
    exact ⟨_, find_top (by simp), rfl, rfl, fun h => h, intA_gz⟩
end Go.Proofs.Ytigmpablpmanpaa
