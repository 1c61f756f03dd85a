/- shift.first, Commute and Merge with results of the call's own. -/
import Derived.Test.YtijnpkpcoeeioaaGreatS40
import Derived.Test.YtijnpkpcoeeioaaGreatSD
namespace Go.Proofs.YtijnpkpcoeeioaaGreat
open Go.RowKit
set_option maxRecDepth 100000
set_option linter.unusedVariables false
set_option linter.unusedSimpArgs false

theorem moved_o (h : Hk) (d : Int) (ro rn : Option (List AV)) (H : AHeap) (hf : h.few) : D Tryz.prog 22 [hkr h ro rn, .sc (.int .i64 d)] H (.ret (hkO (h.mv d) H.length (H.length + 1))) (outs [h.old, h.new] H) := by
  obtain ⟨h1, h2⟩ := hf
  refine D_of_DK (by simp [outs_length]) (dk22 (E_of_ES ?_))
  simp -implicitDefEqProofs (maxSteps := 99999999) (disch := first | omega | (simp only [AHeap.set_length, killO_length, List.length_cons]; first | done | omega)) only [ic22, va, vs, vw, Nat.reduceMul, ite_true, ite_false, eq_self, forall_const, implies_true, Nat.reduceAdd, Nat.reduceSub, Nat.reduceLT, Nat.reduceLeDiff, ↓reduceIte, reduceCtorEq, Int.reduceEq, Int.reduceLT, Int.reduceLE, Int.reduceGT, Int.reduceGE, Int.reduceAdd, Int.reduceSub, Int.reduceNeg, Int.reduceToNat, Nat.reduceBEq, Nat.reduceEqDiff]
  refine callD_ret (clone_o _ _ _ h1) (chS_grow (G := [_]) (by simp <;> omega)) ?_
  simp -implicitDefEqProofs (maxSteps := 99999999) (disch := first | omega | (simp only [AHeap.set_length, killO_length, List.length_cons]; first | done | omega)) only [va, vs, vw, Nat.reduceMul, ite_true, ite_false, eq_self, forall_const, implies_true, Nat.reduceAdd, Nat.reduceSub, Nat.reduceLT, Nat.reduceLeDiff, ↓reduceIte, reduceCtorEq, Int.reduceEq, Int.reduceLT, Int.reduceLE, Int.reduceGT, Int.reduceGE, Int.reduceAdd, Int.reduceSub, Int.reduceNeg, Int.reduceToNat, Nat.reduceBEq, Nat.reduceEqDiff]
  refine callD_ret (clone_o _ _ _ h2) (chS_grow (G := [_]) (by simp <;> omega)) ?_
  simp -implicitDefEqProofs (maxSteps := 99999999) (disch := first | omega | (simp only [AHeap.set_length, killO_length, List.length_cons]; first | done | omega)) only [va, vs, vw, Nat.reduceMul, ite_true, ite_false, eq_self, forall_const, implies_true, Nat.reduceAdd, Nat.reduceSub, Nat.reduceLT, Nat.reduceLeDiff, ↓reduceIte, reduceCtorEq, Int.reduceEq, Int.reduceLT, Int.reduceLE, Int.reduceGT, Int.reduceGE, Int.reduceAdd, Int.reduceSub, Int.reduceNeg, Int.reduceToNat, Nat.reduceBEq, Nat.reduceEqDiff]
  refine weak_outs (H := H) [h.old, h.new] [H.length + 2, H.length + 3] rfl (by simp) (by simp) (fun id hid => ?_) (fun i l s h1 h2 h3 => ?_) (.agg (.cons (.same (x := .sc _) trivial) (.cons (outs_gz (i := 0) (s := H.length + 2) (by simp) (by simp) (by omega)) (.cons (outs_gz (i := 1) (s := H.length + 3) (by simp) (by simp) (by omega)) .nil))))
  · simp -implicitDefEqProofs (maxSteps := 99999999) (disch := first | omega | (simp only [AHeap.set_length, killO_length, List.length_cons]; first | done | omega)) only [va, vs, vw, Nat.reduceMul, ite_true, ite_false, eq_self, forall_const, implies_true, Nat.reduceAdd, Nat.reduceSub, Nat.reduceLT, Nat.reduceLeDiff, ↓reduceIte, reduceCtorEq, Int.reduceEq, Int.reduceLT, Int.reduceLE, Int.reduceGT, Int.reduceGE, Int.reduceAdd, Int.reduceSub, Int.reduceNeg, Int.reduceToNat, Nat.reduceBEq, Nat.reduceEqDiff]
  · rcases i with _ | _ | i
    · simp at h1 h2
      subst h1 h2
      simp -implicitDefEqProofs (maxSteps := 99999999) (disch := first | omega | (simp only [AHeap.set_length, killO_length, List.length_cons]; first | done | omega)) only [va, vs, vw, Nat.reduceMul, ite_true, ite_false, eq_self, forall_const, implies_true, Nat.reduceAdd, Nat.reduceSub, Nat.reduceLT, Nat.reduceLeDiff, ↓reduceIte, reduceCtorEq, Int.reduceEq, Int.reduceLT, Int.reduceLE, Int.reduceGT, Int.reduceGE, Int.reduceAdd, Int.reduceSub, Int.reduceNeg, Int.reduceToNat, Nat.reduceBEq, Nat.reduceEqDiff]
    · simp at h1 h2
      subst h1 h2
      simp -implicitDefEqProofs (maxSteps := 99999999) (disch := first | omega | (simp only [AHeap.set_length, killO_length, List.length_cons]; first | done | omega)) only [va, vs, vw, Nat.reduceMul, ite_true, ite_false, eq_self, forall_const, implies_true, Nat.reduceAdd, Nat.reduceSub, Nat.reduceLT, Nat.reduceLeDiff, ↓reduceIte, reduceCtorEq, Int.reduceEq, Int.reduceLT, Int.reduceLE, Int.reduceGT, Int.reduceGE, Int.reduceAdd, Int.reduceSub, Int.reduceNeg, Int.reduceToNat, Nat.reduceBEq, Nat.reduceEqDiff]
    · simp at h1
theorem two_get {x y : Hk} {H : AHeap} : AHeap.find (outs2 x y H) H.length = OutB x.old ∧ AHeap.find (outs2 x y H) (H.length + 1) = OutB x.new ∧ AHeap.find (outs2 x y H) (H.length + 2) = OutB y.old ∧ AHeap.find (outs2 x y H) (H.length + 3) = OutB y.new :=
  ⟨outs_new (i := 0) rfl, outs_new (i := 1) rfl, outs_new (i := 2) rfl, outs_new (i := 3) rfl⟩

theorem right2_o {x y : Hk} {F : AHeap} {r : Option (List AV)} (n : Nat) (h0 : AHeap.find F n = OutB x.old) (h1 : AHeap.find F (n + 1) = OutB x.new) (h2 : AHeap.find F (n + 2) = OutB y.old) (h3 : AHeap.find F (n + 3) = OutB y.new) (hx : x.short) (hy : y.short) :
    D Tryz.prog 38 [.lst 3 [hkO x n (n + 1), hkO y (n + 2) (n + 3)] r] F (.ret (.sc (.bool (rightB x && rightB y)))) F :=
  D_view (args' := [.lst 3 [hk x, hk y] none]) (.cons (.lst (.cons (hkO_view (fun _ => h0) (fun _ => h1)) (.cons (hkO_view (fun _ => h2) (fun _ => h3)) .nil))) .nil) .sc (right2_d x y none none none none none [] hx hy)

theorem weak_two {H F : AHeap} {x y : Hk} {e : Int} {a b c d : Nat} (hl : H.length ≤ a ∧ H.length ≤ b ∧ H.length ≤ c ∧ H.length ≤ d) (hn : [a, b, c, d].Nodup) (h1 : ∀ id, id < H.length → AHeap.find F id = AHeap.find H id)
    (ha : x.old ≠ [] → AHeap.find F a = OutB x.old) (hb : x.new ≠ [] → AHeap.find F b = OutB x.new) (hc : y.old ≠ [] → AHeap.find F c = OutB y.old) (hd : y.new ≠ [] → AHeap.find F d = OutB y.new) :
    Weak H (.ret (.tup [hkO x a b, hkO y c d, .sc (.int .i64 e)])) F (.ret (tup2 x y e H.length)) (outs2 x y H) := by
  obtain ⟨l1, l2, l3, l4⟩ := hl
  refine weak_outs (H := H) [x.old, x.new, y.old, y.new] [a, b, c, d] rfl hn (by simp; omega) h1 (fun i l s g1 g2 g3 => ?_) ?_
  · rcases i with _ | _ | _ | _ | i
    · simp at g1 g2; subst g1 g2; exact ha g3
    · simp at g1 g2; subst g1 g2; exact hb g3
    · simp at g1 g2; subst g1 g2; exact hc g3
    · simp at g1 g2; subst g1 g2; exact hd g3
    · simp at g1
  · exact .tup (.cons (.agg (.cons (.same (x := .sc _) trivial) (.cons (outs_gz (i := 0) (s := a) hn rfl l1) (.cons (outs_gz (i := 1) (s := b) hn rfl l2) .nil)))) (.cons (.agg (.cons (.same (x := .sc _) trivial) (.cons (outs_gz (i := 2) (s := c) hn rfl l3) (.cons (outs_gz (i := 3) (s := d) hn rfl l4) .nil)))) (.cons (.same (x := .sc _) trivial) .nil)))
theorem weak_pair {H F : AHeap} {x y : Hk} {a b c d : Nat} (hl : H.length ≤ a ∧ H.length ≤ b ∧ H.length ≤ c ∧ H.length ≤ d) (hn : [a, b, c, d].Nodup) (h1 : ∀ id, id < H.length → AHeap.find F id = AHeap.find H id)
    (ha : x.old ≠ [] → AHeap.find F a = OutB x.old) (hb : x.new ≠ [] → AHeap.find F b = OutB x.new) (hc : y.old ≠ [] → AHeap.find F c = OutB y.old) (hd : y.new ≠ [] → AHeap.find F d = OutB y.new) :
    Weak H (.ret (.tup [hkO x a b, hkO y c d])) F (.ret (.tup [hkO x H.length (H.length + 1), hkO y (H.length + 2) (H.length + 3)])) (outs2 x y H) := by
  obtain ⟨l1, l2, l3, l4⟩ := hl
  refine weak_outs (H := H) [x.old, x.new, y.old, y.new] [a, b, c, d] rfl hn (by simp; omega) h1 (fun i l s g1 g2 g3 => ?_) ?_
  · rcases i with _ | _ | _ | _ | i
    · simp at g1 g2; subst g1 g2; exact ha g3
    · simp at g1 g2; subst g1 g2; exact hb g3
    · simp at g1 g2; subst g1 g2; exact hc g3
    · simp at g1 g2; subst g1 g2; exact hd g3
    · simp at g1
  · exact .tup (.cons (.agg (.cons (.same (x := .sc _) trivial) (.cons (outs_gz (i := 0) (s := a) hn rfl l1) (.cons (outs_gz (i := 1) (s := b) hn rfl l2) .nil)))) (.cons (.agg (.cons (.same (x := .sc _) trivial) (.cons (outs_gz (i := 2) (s := c) hn rfl l3) (.cons (outs_gz (i := 3) (s := d) hn rfl l4) .nil)))) .nil))
theorem four_nodup (n : Nat) : [n, n + 1, n + 2, n + 3].Nodup := by simp
theorem weak_zero {H F : AHeap} {e : Int} (h1 : ∀ id, id < H.length → AHeap.find F id = AHeap.find H id) : Weak H (.ret (.tup [.agg [.sc (.int .i64 0), .lst 0 [] (some []), .lst 0 [] (some [])], .agg [.sc (.int .i64 0), .lst 0 [] (some []), .lst 0 [] (some [])], .sc (.int .i64 e)])) F (.ret (tup2 ⟨0, [], []⟩ ⟨0, [], []⟩ e H.length)) (outs2 ⟨0, [], []⟩ ⟨0, [], []⟩ H) :=
  weak_two (x := ⟨0, [], []⟩) (y := ⟨0, [], []⟩) (a := H.length) (b := H.length + 1) (c := H.length + 2) (d := H.length + 3) (by omega) (four_nodup _) h1 (fun h => (h rfl).elim) (fun h => (h rfl).elim) (fun h => (h rfl).elim) (fun h => (h rfl).elim)
theorem over_old {H G : AHeap} (h : Over H G) {id : Nat} (hid : id < H.length) : AHeap.find G id = AHeap.find H id := by
  obtain ⟨A, rfl⟩ := h.split
  exact AHeap.find_append hid

theorem callR_two {P : Program} {K : List AV → AHeap → Prop} {Kp : AV → List AV → AHeap → Prop} {d : Option Nat} {f : FuncId} {args : List AV} {r : List IO'} {ts : List AV} {G : AHeap} {v : AV} {x y : Hk} (h : D P f args G (.ret v) (outs2 x y G))
    (hk : ∀ F : AHeap, F.length = G.length + 4 → (∀ id, id < G.length → AHeap.find F id = AHeap.find G id) → AHeap.find F G.length = OutB x.old → AHeap.find F (G.length + 1) = OutB x.new → AHeap.find F (G.length + 2) = OutB y.old → AHeap.find F (G.length + 3) = OutB y.new → runS P K Kp r (putT ts d v) F) : callR P K Kp d f args r ts G :=
  callR_ret h (hk _ outs_length (fun id hid => outs_old hid) two_get.1 two_get.2.1 two_get.2.2.1 two_get.2.2.2)

set_option maxHeartbeats 4000000 in
theorem first_o (p q x1 y1 x2 y2 : Hk) (po pn qo qn : Option (List AV)) (w1 w2 : Bool) (g1 g2 : FuncId) (c1 c2 : List AV) (H : AHeap) (hp : p.short) (hq : q.short)
    (k1 : callable Tryz.prog g1 = true) (k2 : callable Tryz.prog g2 = true)
    (h1 : w1 = true → ∀ G, Over H G → D Tryz.prog g1 c1 G (.ret (.tup [hkO x1 G.length (G.length + 1), hkO y1 (G.length + 2) (G.length + 3)])) (outs2 x1 y1 G)) (s1 : x1.short ∧ y1.short)
    (h2 : w2 = true → ∀ G, Over H G → D Tryz.prog g2 c2 G (.ret (.tup [hkO x2 G.length (G.length + 1), hkO y2 (G.length + 2) (G.length + 3)])) (outs2 x2 y2 G)) (s2 : x2.short ∧ y2.short) :
    D Tryz.prog 19 [hkr p po pn, hkr q qo qn, .agg [.sc (.bool w1), .fn (.func g1) [] c1, .sc (.bool w2), .fn (.func g2) [] c2]] H (.ret (tup2 (firstR p q w1 x1 y1 w2 x2 y2).1 (firstR p q w1 x1 y1 w2 x2 y2).2.1 (firstR p q w1 x1 y1 w2 x2 y2).2.2 H.length)) (outs2 (firstR p q w1 x1 y1 w2 x2 y2).1 (firstR p q w1 x1 y1 w2 x2 y2).2.1 H) := by
  refine D_of_DK (by simp [outs_length]) (dk19 (E_of_ES ?_))
  simp -implicitDefEqProofs (maxSteps := 99999999) (disch := omega) only [ic19, va, vs, vh, Nat.reduceMul, ite_true, ite_false, eq_self, forall_const, implies_true, Nat.reduceAdd, Nat.reduceSub, Nat.reduceLT, Nat.reduceLeDiff, ↓reduceIte, reduceCtorEq, Int.reduceEq, Int.reduceLT, Int.reduceLE, Int.reduceGT, Int.reduceGE, Int.reduceAdd, Int.reduceSub, Int.reduceNeg, Int.reduceToNat, Nat.reduceBEq, Nat.reduceEqDiff]
  refine callR_ret (right2_d _ _ _ _ _ _ _ _ hp hq) ?_
  unfold firstR
  cases r0 : (rightB p && rightB q) with
  | false =>
    simp -implicitDefEqProofs (maxSteps := 99999999) (disch := omega) only [va, vs, vh, Nat.reduceMul, ite_true, ite_false, eq_self, forall_const, implies_true, Nat.reduceAdd, Nat.reduceSub, Nat.reduceLT, Nat.reduceLeDiff, ↓reduceIte, reduceCtorEq, Int.reduceEq, Int.reduceLT, Int.reduceLE, Int.reduceGT, Int.reduceGE, Int.reduceAdd, Int.reduceSub, Int.reduceNeg, Int.reduceToNat, Nat.reduceBEq, Nat.reduceEqDiff]
    exact weak_zero (fun id hid => over_old (by repeat constructor) hid)
  | true =>
    simp -implicitDefEqProofs (maxSteps := 99999999) (disch := omega) only [va, vs, vh, Nat.reduceMul, ite_true, ite_false, eq_self, forall_const, implies_true, Nat.reduceAdd, Nat.reduceSub, Nat.reduceLT, Nat.reduceLeDiff, ↓reduceIte, reduceCtorEq, Int.reduceEq, Int.reduceLT, Int.reduceLE, Int.reduceGT, Int.reduceGE, Int.reduceAdd, Int.reduceSub, Int.reduceNeg, Int.reduceToNat, Nat.reduceBEq, Nat.reduceEqDiff]
    refine ES_unroll (.s (.s (.s .o))) (Lp_next fun L hL => ?_)
    cases w1 with
    | true =>
      clear hL
      simp -implicitDefEqProofs (maxSteps := 99999999) (disch := omega) only [k1, va, vs, vh, Nat.reduceMul, ite_true, ite_false, eq_self, forall_const, implies_true, Nat.reduceAdd, Nat.reduceSub, Nat.reduceLT, Nat.reduceLeDiff, ↓reduceIte, reduceCtorEq, Int.reduceEq, Int.reduceLT, Int.reduceLE, Int.reduceGT, Int.reduceGE, Int.reduceAdd, Int.reduceSub, Int.reduceNeg, Int.reduceToNat, Nat.reduceBEq, Nat.reduceEqDiff]
      refine callR_two (h1 rfl _ (by repeat constructor)) ?_
      simp only [List.length_cons, Nat.add_assoc, Nat.reduceAdd]
      intro F hF fo f1 f2 f3 f4
      have go : ∀ id, id < H.length → AHeap.find F id = AHeap.find H id := fun id hid => by
        have := fo id (by omega)
        simp -implicitDefEqProofs (maxSteps := 99999999) (disch := first | omega | (simp only [AHeap.set_length, killO_length, List.length_cons]; first | done | omega)) only [va, vs, vw, Nat.reduceMul, ite_true, ite_false, eq_self, forall_const, implies_true, Nat.reduceAdd, Nat.reduceSub, Nat.reduceLT, Nat.reduceLeDiff, ↓reduceIte, reduceCtorEq, Int.reduceEq, Int.reduceLT, Int.reduceLE, Int.reduceGT, Int.reduceGE, Int.reduceAdd, Int.reduceSub, Int.reduceNeg, Int.reduceToNat, Nat.reduceBEq, Nat.reduceEqDiff] at this
        exact this
      have g1 := fo H.length (by omega)
      have g2 := fo (H.length + 1) (by omega)
      have g3 := fo (H.length + 2) (by omega)
      have g4 := fo (H.length + 3) (by omega)
      have g5 := fo (H.length + 4) (by omega)
      simp -implicitDefEqProofs (maxSteps := 99999999) (disch := first | omega | (simp only [AHeap.set_length, killO_length, List.length_cons]; first | done | omega)) only [va, vs, vw, Nat.reduceMul, ite_true, ite_false, eq_self, forall_const, implies_true, Nat.reduceAdd, Nat.reduceSub, Nat.reduceLT, Nat.reduceLeDiff, ↓reduceIte, reduceCtorEq, Int.reduceEq, Int.reduceLT, Int.reduceLE, Int.reduceGT, Int.reduceGE, Int.reduceAdd, Int.reduceSub, Int.reduceNeg, Int.reduceToNat, Nat.reduceBEq, Nat.reduceEqDiff] at g1 g2 g3 g4 g5
      clear fo
      simp -implicitDefEqProofs (maxSteps := 99999999) (disch := first | omega | (simp only [AHeap.set_length, killO_length, List.length_cons]; first | done | omega)) only [va, vs, vw, Nat.reduceMul, ite_true, ite_false, eq_self, forall_const, implies_true, Nat.reduceAdd, Nat.reduceSub, Nat.reduceLT, Nat.reduceLeDiff, ↓reduceIte, reduceCtorEq, Int.reduceEq, Int.reduceLT, Int.reduceLE, Int.reduceGT, Int.reduceGE, Int.reduceAdd, Int.reduceSub, Int.reduceNeg, Int.reduceToNat, Nat.reduceBEq, Nat.reduceEqDiff]
      have up : ∀ {i : Nat} {a b : Option ABlk}, i < F.length → AHeap.find (a :: b :: F) i = AHeap.find F i := fun h => by rw [AHeap.find_cons (by simp; omega), AHeap.find_cons h]
      refine callR_ret (right2_o (x := x1) (y := y1) (H.length + 6) ((up (by omega)).trans f1) ((up (by omega)).trans f2) ((up (by omega)).trans f3) ((up (by omega)).trans f4) s1.1 s1.2) ?_
      cases r1 : (rightB x1 && rightB y1) with
      | true =>
        simp -implicitDefEqProofs (maxSteps := 99999999) (disch := first | omega | (simp only [AHeap.set_length, killO_length, List.length_cons]; first | done | omega)) only [g1, g2, g3, g4, g5, va, vs, vw, Nat.reduceMul, ite_true, ite_false, eq_self, forall_const, implies_true, Nat.reduceAdd, Nat.reduceSub, Nat.reduceLT, Nat.reduceLeDiff, ↓reduceIte, reduceCtorEq, Int.reduceEq, Int.reduceLT, Int.reduceLE, Int.reduceGT, Int.reduceGE, Int.reduceAdd, Int.reduceSub, Int.reduceNeg, Int.reduceToNat, Nat.reduceBEq, Nat.reduceEqDiff]
        refine weak_two (x := x1) (y := y1) (a := H.length + 6) (b := H.length + 6 + 1) (c := H.length + 6 + 2) (d := H.length + 6 + 3) (by omega) (four_nodup _) (fun id hid => ?_) (fun _ => ?_) (fun _ => ?_) (fun _ => ?_) (fun _ => ?_)
        · have := go id hid
          simp -implicitDefEqProofs (maxSteps := 99999999) (disch := first | omega | (simp only [AHeap.set_length, killO_length, List.length_cons]; first | done | omega)) only [this, va, vs, vw, Nat.reduceMul, ite_true, ite_false, eq_self, forall_const, implies_true, Nat.reduceAdd, Nat.reduceSub, Nat.reduceLT, Nat.reduceLeDiff, ↓reduceIte, reduceCtorEq, Int.reduceEq, Int.reduceLT, Int.reduceLE, Int.reduceGT, Int.reduceGE, Int.reduceAdd, Int.reduceSub, Int.reduceNeg, Int.reduceToNat, Nat.reduceBEq, Nat.reduceEqDiff]
        · simp -implicitDefEqProofs (maxSteps := 99999999) (disch := first | omega | (simp only [AHeap.set_length, killO_length, List.length_cons]; first | done | omega)) only [f1, va, vs, vw, Nat.reduceMul, ite_true, ite_false, eq_self, forall_const, implies_true, Nat.reduceAdd, Nat.reduceSub, Nat.reduceLT, Nat.reduceLeDiff, ↓reduceIte, reduceCtorEq, Int.reduceEq, Int.reduceLT, Int.reduceLE, Int.reduceGT, Int.reduceGE, Int.reduceAdd, Int.reduceSub, Int.reduceNeg, Int.reduceToNat, Nat.reduceBEq, Nat.reduceEqDiff]
        · simp -implicitDefEqProofs (maxSteps := 99999999) (disch := first | omega | (simp only [AHeap.set_length, killO_length, List.length_cons]; first | done | omega)) only [f2, va, vs, vw, Nat.reduceMul, ite_true, ite_false, eq_self, forall_const, implies_true, Nat.reduceAdd, Nat.reduceSub, Nat.reduceLT, Nat.reduceLeDiff, ↓reduceIte, reduceCtorEq, Int.reduceEq, Int.reduceLT, Int.reduceLE, Int.reduceGT, Int.reduceGE, Int.reduceAdd, Int.reduceSub, Int.reduceNeg, Int.reduceToNat, Nat.reduceBEq, Nat.reduceEqDiff]
        · simp -implicitDefEqProofs (maxSteps := 99999999) (disch := first | omega | (simp only [AHeap.set_length, killO_length, List.length_cons]; first | done | omega)) only [f3, va, vs, vw, Nat.reduceMul, ite_true, ite_false, eq_self, forall_const, implies_true, Nat.reduceAdd, Nat.reduceSub, Nat.reduceLT, Nat.reduceLeDiff, ↓reduceIte, reduceCtorEq, Int.reduceEq, Int.reduceLT, Int.reduceLE, Int.reduceGT, Int.reduceGE, Int.reduceAdd, Int.reduceSub, Int.reduceNeg, Int.reduceToNat, Nat.reduceBEq, Nat.reduceEqDiff]
        · simp -implicitDefEqProofs (maxSteps := 99999999) (disch := first | omega | (simp only [AHeap.set_length, killO_length, List.length_cons]; first | done | omega)) only [f4, va, vs, vw, Nat.reduceMul, ite_true, ite_false, eq_self, forall_const, implies_true, Nat.reduceAdd, Nat.reduceSub, Nat.reduceLT, Nat.reduceLeDiff, ↓reduceIte, reduceCtorEq, Int.reduceEq, Int.reduceLT, Int.reduceLE, Int.reduceGT, Int.reduceGE, Int.reduceAdd, Int.reduceSub, Int.reduceNeg, Int.reduceToNat, Nat.reduceBEq, Nat.reduceEqDiff]
      | false =>
        simp -implicitDefEqProofs (maxSteps := 99999999) (disch := first | omega | (simp only [AHeap.set_length, killO_length, List.length_cons]; first | done | omega)) only [g1, g2, g3, g4, g5, va, vs, vw, Nat.reduceMul, ite_true, ite_false, eq_self, forall_const, implies_true, Nat.reduceAdd, Nat.reduceSub, Nat.reduceLT, Nat.reduceLeDiff, ↓reduceIte, reduceCtorEq, Int.reduceEq, Int.reduceLT, Int.reduceLE, Int.reduceGT, Int.reduceGE, Int.reduceAdd, Int.reduceSub, Int.reduceNeg, Int.reduceToNat, Nat.reduceBEq, Nat.reduceEqDiff]
        refine weak_zero (fun id hid => ?_)
        have := go id hid
        simp -implicitDefEqProofs (maxSteps := 99999999) (disch := first | omega | (simp only [AHeap.set_length, killO_length, List.length_cons]; first | done | omega)) only [this, va, vs, vw, Nat.reduceMul, ite_true, ite_false, eq_self, forall_const, implies_true, Nat.reduceAdd, Nat.reduceSub, Nat.reduceLT, Nat.reduceLeDiff, ↓reduceIte, reduceCtorEq, Int.reduceEq, Int.reduceLT, Int.reduceLE, Int.reduceGT, Int.reduceGE, Int.reduceAdd, Int.reduceSub, Int.reduceNeg, Int.reduceToNat, Nat.reduceBEq, Nat.reduceEqDiff]
    | false =>
      simp -implicitDefEqProofs (maxSteps := 99999999) (disch := omega) only [va, vs, vh, Nat.reduceMul, ite_true, ite_false, eq_self, forall_const, implies_true, Nat.reduceAdd, Nat.reduceSub, Nat.reduceLT, Nat.reduceLeDiff, ↓reduceIte, reduceCtorEq, Int.reduceEq, Int.reduceLT, Int.reduceLE, Int.reduceGT, Int.reduceGE, Int.reduceAdd, Int.reduceSub, Int.reduceNeg, Int.reduceToNat, Nat.reduceBEq, Nat.reduceEqDiff]
      refine hL _ _ (Lp_next fun L hL => ?_)
      cases w2 with
      | true =>
        simp -implicitDefEqProofs (maxSteps := 99999999) (disch := omega) only [k2, va, vs, vh, Nat.reduceMul, ite_true, ite_false, eq_self, forall_const, implies_true, Nat.reduceAdd, Nat.reduceSub, Nat.reduceLT, Nat.reduceLeDiff, ↓reduceIte, reduceCtorEq, Int.reduceEq, Int.reduceLT, Int.reduceLE, Int.reduceGT, Int.reduceGE, Int.reduceAdd, Int.reduceSub, Int.reduceNeg, Int.reduceToNat, Nat.reduceBEq, Nat.reduceEqDiff]
        refine callR_two (h2 rfl _ (by repeat constructor)) ?_
        simp only [List.length_cons, Nat.add_assoc, Nat.reduceAdd]
        intro F hF fo f1 f2 f3 f4
        have go : ∀ id, id < H.length → AHeap.find F id = AHeap.find H id := fun id hid => by
          have := fo id (by omega)
          simp -implicitDefEqProofs (maxSteps := 99999999) (disch := first | omega | (simp only [AHeap.set_length, killO_length, List.length_cons]; first | done | omega)) only [va, vs, vw, Nat.reduceMul, ite_true, ite_false, eq_self, forall_const, implies_true, Nat.reduceAdd, Nat.reduceSub, Nat.reduceLT, Nat.reduceLeDiff, ↓reduceIte, reduceCtorEq, Int.reduceEq, Int.reduceLT, Int.reduceLE, Int.reduceGT, Int.reduceGE, Int.reduceAdd, Int.reduceSub, Int.reduceNeg, Int.reduceToNat, Nat.reduceBEq, Nat.reduceEqDiff] at this
          exact this
        have g1 := fo H.length (by omega)
        have g2 := fo (H.length + 1) (by omega)
        have g3 := fo (H.length + 2) (by omega)
        have g4 := fo (H.length + 3) (by omega)
        have g5 := fo (H.length + 4) (by omega)
        simp -implicitDefEqProofs (maxSteps := 99999999) (disch := first | omega | (simp only [AHeap.set_length, killO_length, List.length_cons]; first | done | omega)) only [va, vs, vw, Nat.reduceMul, ite_true, ite_false, eq_self, forall_const, implies_true, Nat.reduceAdd, Nat.reduceSub, Nat.reduceLT, Nat.reduceLeDiff, ↓reduceIte, reduceCtorEq, Int.reduceEq, Int.reduceLT, Int.reduceLE, Int.reduceGT, Int.reduceGE, Int.reduceAdd, Int.reduceSub, Int.reduceNeg, Int.reduceToNat, Nat.reduceBEq, Nat.reduceEqDiff] at g1 g2 g3 g4 g5
        clear fo
        simp -implicitDefEqProofs (maxSteps := 99999999) (disch := first | omega | (simp only [AHeap.set_length, killO_length, List.length_cons]; first | done | omega)) only [va, vs, vw, Nat.reduceMul, ite_true, ite_false, eq_self, forall_const, implies_true, Nat.reduceAdd, Nat.reduceSub, Nat.reduceLT, Nat.reduceLeDiff, ↓reduceIte, reduceCtorEq, Int.reduceEq, Int.reduceLT, Int.reduceLE, Int.reduceGT, Int.reduceGE, Int.reduceAdd, Int.reduceSub, Int.reduceNeg, Int.reduceToNat, Nat.reduceBEq, Nat.reduceEqDiff]
        have up : ∀ {i : Nat} {a b : Option ABlk}, i < F.length → AHeap.find (a :: b :: F) i = AHeap.find F i := fun h => by rw [AHeap.find_cons (by simp; omega), AHeap.find_cons h]
        refine callR_ret (right2_o (x := x2) (y := y2) (H.length + 7) ((up (by omega)).trans f1) ((up (by omega)).trans f2) ((up (by omega)).trans f3) ((up (by omega)).trans f4) s2.1 s2.2) ?_
        cases r1 : (rightB x2 && rightB y2) with
        | true =>
          simp -implicitDefEqProofs (maxSteps := 99999999) (disch := first | omega | (simp only [AHeap.set_length, killO_length, List.length_cons]; first | done | omega)) only [g1, g2, g3, g4, g5, va, vs, vw, Nat.reduceMul, ite_true, ite_false, eq_self, forall_const, implies_true, Nat.reduceAdd, Nat.reduceSub, Nat.reduceLT, Nat.reduceLeDiff, ↓reduceIte, reduceCtorEq, Int.reduceEq, Int.reduceLT, Int.reduceLE, Int.reduceGT, Int.reduceGE, Int.reduceAdd, Int.reduceSub, Int.reduceNeg, Int.reduceToNat, Nat.reduceBEq, Nat.reduceEqDiff]
          refine weak_two (x := x2) (y := y2) (a := H.length + 7) (b := H.length + 7 + 1) (c := H.length + 7 + 2) (d := H.length + 7 + 3) (by omega) (four_nodup _) (fun id hid => ?_) (fun _ => ?_) (fun _ => ?_) (fun _ => ?_) (fun _ => ?_)
          · have := go id hid
            simp -implicitDefEqProofs (maxSteps := 99999999) (disch := first | omega | (simp only [AHeap.set_length, killO_length, List.length_cons]; first | done | omega)) only [this, va, vs, vw, Nat.reduceMul, ite_true, ite_false, eq_self, forall_const, implies_true, Nat.reduceAdd, Nat.reduceSub, Nat.reduceLT, Nat.reduceLeDiff, ↓reduceIte, reduceCtorEq, Int.reduceEq, Int.reduceLT, Int.reduceLE, Int.reduceGT, Int.reduceGE, Int.reduceAdd, Int.reduceSub, Int.reduceNeg, Int.reduceToNat, Nat.reduceBEq, Nat.reduceEqDiff]
          · simp -implicitDefEqProofs (maxSteps := 99999999) (disch := first | omega | (simp only [AHeap.set_length, killO_length, List.length_cons]; first | done | omega)) only [f1, va, vs, vw, Nat.reduceMul, ite_true, ite_false, eq_self, forall_const, implies_true, Nat.reduceAdd, Nat.reduceSub, Nat.reduceLT, Nat.reduceLeDiff, ↓reduceIte, reduceCtorEq, Int.reduceEq, Int.reduceLT, Int.reduceLE, Int.reduceGT, Int.reduceGE, Int.reduceAdd, Int.reduceSub, Int.reduceNeg, Int.reduceToNat, Nat.reduceBEq, Nat.reduceEqDiff]
          · simp -implicitDefEqProofs (maxSteps := 99999999) (disch := first | omega | (simp only [AHeap.set_length, killO_length, List.length_cons]; first | done | omega)) only [f2, va, vs, vw, Nat.reduceMul, ite_true, ite_false, eq_self, forall_const, implies_true, Nat.reduceAdd, Nat.reduceSub, Nat.reduceLT, Nat.reduceLeDiff, ↓reduceIte, reduceCtorEq, Int.reduceEq, Int.reduceLT, Int.reduceLE, Int.reduceGT, Int.reduceGE, Int.reduceAdd, Int.reduceSub, Int.reduceNeg, Int.reduceToNat, Nat.reduceBEq, Nat.reduceEqDiff]
          · simp -implicitDefEqProofs (maxSteps := 99999999) (disch := first | omega | (simp only [AHeap.set_length, killO_length, List.length_cons]; first | done | omega)) only [f3, va, vs, vw, Nat.reduceMul, ite_true, ite_false, eq_self, forall_const, implies_true, Nat.reduceAdd, Nat.reduceSub, Nat.reduceLT, Nat.reduceLeDiff, ↓reduceIte, reduceCtorEq, Int.reduceEq, Int.reduceLT, Int.reduceLE, Int.reduceGT, Int.reduceGE, Int.reduceAdd, Int.reduceSub, Int.reduceNeg, Int.reduceToNat, Nat.reduceBEq, Nat.reduceEqDiff]
          · simp -implicitDefEqProofs (maxSteps := 99999999) (disch := first | omega | (simp only [AHeap.set_length, killO_length, List.length_cons]; first | done | omega)) only [f4, va, vs, vw, Nat.reduceMul, ite_true, ite_false, eq_self, forall_const, implies_true, Nat.reduceAdd, Nat.reduceSub, Nat.reduceLT, Nat.reduceLeDiff, ↓reduceIte, reduceCtorEq, Int.reduceEq, Int.reduceLT, Int.reduceLE, Int.reduceGT, Int.reduceGE, Int.reduceAdd, Int.reduceSub, Int.reduceNeg, Int.reduceToNat, Nat.reduceBEq, Nat.reduceEqDiff]
        | false =>
          simp -implicitDefEqProofs (maxSteps := 99999999) (disch := first | omega | (simp only [AHeap.set_length, killO_length, List.length_cons]; first | done | omega)) only [g1, g2, g3, g4, g5, va, vs, vw, Nat.reduceMul, ite_true, ite_false, eq_self, forall_const, implies_true, Nat.reduceAdd, Nat.reduceSub, Nat.reduceLT, Nat.reduceLeDiff, ↓reduceIte, reduceCtorEq, Int.reduceEq, Int.reduceLT, Int.reduceLE, Int.reduceGT, Int.reduceGE, Int.reduceAdd, Int.reduceSub, Int.reduceNeg, Int.reduceToNat, Nat.reduceBEq, Nat.reduceEqDiff]
          refine weak_zero (fun id hid => ?_)
          have := go id hid
          simp -implicitDefEqProofs (maxSteps := 99999999) (disch := first | omega | (simp only [AHeap.set_length, killO_length, List.length_cons]; first | done | omega)) only [this, va, vs, vw, Nat.reduceMul, ite_true, ite_false, eq_self, forall_const, implies_true, Nat.reduceAdd, Nat.reduceSub, Nat.reduceLT, Nat.reduceLeDiff, ↓reduceIte, reduceCtorEq, Int.reduceEq, Int.reduceLT, Int.reduceLE, Int.reduceGT, Int.reduceGE, Int.reduceAdd, Int.reduceSub, Int.reduceNeg, Int.reduceToNat, Nat.reduceBEq, Nat.reduceEqDiff]
      | false =>
        simp -implicitDefEqProofs (maxSteps := 99999999) (disch := omega) only [va, vs, vh, Nat.reduceMul, ite_true, ite_false, eq_self, forall_const, implies_true, Nat.reduceAdd, Nat.reduceSub, Nat.reduceLT, Nat.reduceLeDiff, ↓reduceIte, reduceCtorEq, Int.reduceEq, Int.reduceLT, Int.reduceLE, Int.reduceGT, Int.reduceGE, Int.reduceAdd, Int.reduceSub, Int.reduceNeg, Int.reduceToNat, Nat.reduceBEq, Nat.reduceEqDiff]
        refine hL _ _ (Lp_next fun L hL => ?_)
        simp -implicitDefEqProofs (maxSteps := 99999999) (disch := omega) only [va, vs, vh, Nat.reduceMul, ite_true, ite_false, eq_self, forall_const, implies_true, Nat.reduceAdd, Nat.reduceSub, Nat.reduceLT, Nat.reduceLeDiff, ↓reduceIte, reduceCtorEq, Int.reduceEq, Int.reduceLT, Int.reduceLE, Int.reduceGT, Int.reduceGE, Int.reduceAdd, Int.reduceSub, Int.reduceNeg, Int.reduceToNat, Nat.reduceBEq, Nat.reduceEqDiff]
        exact weak_zero (fun id hid => over_old (by repeat constructor) hid)
end Go.Proofs.YtijnpkpcoeeioaaGreat
