/- HunkApplies tells true. -/
import Derived.Test.YtddhdlfafaobhaaS24a
import Derived.Test.YtddhdlfafaobhaaS40
import Derived.Test.YtddhdlfafaobhaaS49
import Derived.Test.YtddhdlfafaobhaaS51
import Derived.Test.YtddhdlfafaobhaaS52
namespace Go.Proofs.Ytddhdlfafaobhaa
open Go.RowKit
set_option maxRecDepth 100000
set_option linter.unusedVariables false
set_option linter.unusedSimpArgs false

/-! ### Sizes -/
theorem tcnt_ge (most : Int) : ∀ (l : List ByteArray) (n : Int), n ≤ tcnt l n most
  | [], n => Int.le_refl _
  | s :: r, n => by
    unfold tcnt
    split
    · have := tcnt_ge most r (n + s.size / 8)
      omega
    · exact Int.le_refl _
theorem textsOf_ge (l : List ByteArray) (most : Int) : (l.length : Int) ≤ textsOf l most := tcnt_ge _ _ _
theorem load3_sum : ∀ (hs : List Hk) (n : Int), load3 n hs ≤ 2000 → n + sumL hs ≤ 2000
  | [], n, h => by simpa [load3, sumL] using h
  | h :: r, n, hl => by
    unfold load3 at hl
    split at hl
    · have ih := load3_sum r _ hl
      have h1 := textsOf_ge h.old 2000
      have h2 := textsOf_ge h.new 2000
      simp only [sumL]
      omega
    · omega
theorem sumL_mem : ∀ {hs : List Hk} {h : Hk}, h ∈ hs → h.old.length + h.new.length ≤ sumL hs
  | x :: r, h, hm => by
    rcases List.mem_cons.1 hm with rfl | hm
    · simp only [sumL]; omega
    · have := sumL_mem hm
      simp only [sumL]; omega
theorem few_of_load {l : List ByteArray} {hs : List Hk} (g : ¬ load3 (hs.length + textsOf l 2000) hs > 2000) : l.length ≤ 2000 ∧ hs.length ≤ 2000 ∧ sumL hs ≤ 2000 ∧ FewH hs := by
  have h1 := load3_sum hs _ (Int.not_lt.1 g)
  have h2 := textsOf_ge l 2000
  refine ⟨by omega, by omega, by omega, by omega, fun h hm => ?_⟩
  have := sumL_mem hm
  omega

/-! ### What was lent, as whoever only reads sees it -/
theorem ViewL.map {H : AHeap} {α : Type} {f g : α → AV} : ∀ {l : List α}, (∀ x ∈ l, View H (f x) (g x)) → ViewL H (l.map f) (l.map g)
  | [], _ => .nil
  | x :: r, h => .cons (h x (by simp)) (ViewL.map fun y hy => h y (by simp [hy]))
theorem hks_range (hs : List Hk) : hks hs = (List.range hs.length).map fun i => hk (nthH hs i) := by
  apply List.ext_getElem?
  intro i
  by_cases h : i < hs.length
  · simp [hks, nthH, List.getD, h]
  · simp [hks, h]
theorem lentHs_view {H : AHeap} {hs : List Hk} {idh : Nat} {io jn : Nat → Nat} (ok : LentOK H hs idh io jn) : View H (lentHV hs idh) (.lst 3 (hks hs) none) := by
  refine .vec ok.row rfl (by simp [lentHs_length]) ?_
  have : List.take hs.length (List.drop 0 (lentHs hs io jn ++ mksH 12)) = lentHs hs io jn := by
    rw [List.drop_zero, List.take_append_of_le_length (by rw [lentHs_length]; exact Nat.le_refl _), List.take_of_length_le (by rw [lentHs_length]; exact Nat.le_refl _)]
  rw [this, hks_range]
  refine ViewL.map fun i hi => ?_
  have hi' : i < hs.length := by simpa using hi
  exact .agg (.cons .sc (.cons (lent_view (ok.old i hi')) (.cons (lent_view (ok.new i hi')) .nil)))

theorem upL_strs {n : Nat} : ∀ {l : List ByteArray}, AV.upL n (strs l) = strs l
  | [] => rfl
  | x :: r => by
    show AV.up n _ :: AV.upL n (strs r) = _
    rw [upL_strs]; rfl
theorem up_outB {n : Nat} {l : List ByteArray} : (OutB l).map (ABlk.up n) = OutB l := by
  cases l with
  | nil => rfl
  | cons x r => simp only [OutB, OwnB, strs_cons, Option.map_some, ABlk.up]; rw [← strs_cons, upL_strs]
theorem opL_strs : ∀ {l : List ByteArray}, AV.opL (strs l) = true
  | [] => rfl
  | x :: r => by simp [strs, AV.opL, AV.op]; exact opL_strs (l := r)
theorem apply_v {H : AHeap} {l : List ByteArray} {hs : List Hk} {x y : AV} (hx : View H x (.lst 1 (strs l) none)) (hy : View H y (.lst 3 (hks hs) none)) (hl : Short l) (hhs : AllShort hs) (htot : l.length + newLen hs ≤ 100000000) :
    D Try.prog 14 [x, y] H (.ret (.tup [OutV (applyR l hs).1 H.length, .sc (.int .i64 (applyR l hs).2)])) (OutB (applyR l hs).1 :: H) := by
  have h := D_viewO (H := H) (.cons hx (.cons hy .nil)) ?_ ?_ (apply_d l hs none [] hl hhs htot)
  · simp only [AV.up, AV.upL, OwnV_up, List.length_nil, Nat.add_zero, AHeap.up, List.map_cons, List.map_nil, up_outB] at h
    exact h
  · simp [AV.op, AV.opL, OwnV_op]
  · intro id b hb
    have hlt := AHeap.find_lt hb
    have : id = 0 := by simpa using hlt
    subst this
    simp only [AHeap.find, List.length_nil, if_true] at hb
    obtain ⟨_, rfl⟩ := OwnB_some hb
    exact opL_strs

theorem shT_strs {l : List ByteArray} : ∀ x ∈ strs l, shT.is x := fun x hx => by
  obtain ⟨s, _, rfl⟩ := List.mem_map.1 hx
  exact ⟨rfl, rfl, rfl⟩

theorem lent_ok (hs : List Hk) (H : AHeap) : LentOK (lays (lentBs hs ++ [lentHB hs (fun i => H.length + 2 * i) (fun i => H.length + 2 * i + 1)]) H) hs (H.length + 2 * hs.length) (fun i => H.length + 2 * i) (fun i => H.length + 2 * i + 1) := by
  have hsl : (lentBs hs).length = 2 * hs.length := by simp [lentBs]
  refine ⟨lays_new ?_, fun i hi => lays_new (i := 2 * i) ?_, fun i hi => ?_⟩
  · rw [List.getElem?_append_right (by omega), hsl]; simp
  · rw [List.getElem?_append_left (by omega)]
    have h2 : 2 * i < 2 * hs.length := by omega
    simp [lentBs, hi]
  · refine lays_new (i := 2 * i + 1) ?_
    rw [List.getElem?_append_left (by omega)]
    have h2 : 2 * i + 1 < 2 * hs.length := by omega
    have h3 : (2 * i + 1) / 2 = i := by omega
    have h4 : (2 * i + 1) % 2 = 1 := by omega
    simp [lentBs, h2, h3, h4]
theorem lent_far (n b : Nat) : LentFar n (b + 2 * n) (fun i => b + 2 * i) (fun i => b + 2 * i + 1) :=
  ⟨fun i j _ _ h => by omega, fun i j _ _ h => by omega, fun i j _ _ => by omega, fun i hi => by omega, fun i hi => by omega⟩
theorem LentOK.keep {H G : AHeap} {hs : List Hk} {idh : Nat} {io jn : Nat → Nat} (h : LentOK H hs idh io jn) (hk : ∀ i, i ∈ lentIds hs.length idh io jn → AHeap.find G i = AHeap.find H i) : LentOK G hs idh io jn :=
  ⟨(hk _ (mem_lentIds.2 (.inl rfl))).trans h.row, fun i hi => (hk _ (mem_lentIds.2 (.inr (.inl ⟨i, hi, rfl⟩)))).trans (h.old i hi), fun i hi => (hk _ (mem_lentIds.2 (.inr (.inr ⟨i, hi, rfl⟩)))).trans (h.new i hi)⟩

theorem ownsOK_two {s : Shape} {H : AHeap} {xs ys : List AV} {i j : Nat} (h1 : xs ≠ [] → AHeap.find H i = OwnB s.k s.ty xs) (h2 : ys ≠ [] → AHeap.find H j = OwnB s.k s.ty ys) (s1 : ∀ x ∈ xs, s.is x) (s2 : ∀ x ∈ ys, s.is x) (hne : xs ≠ [] → ys ≠ [] → i ≠ j) (l1 : xs.length ≤ 10000000) (l2 : ys.length ≤ 10000000) : OwnsOK s H [(xs, i), (ys, j)] := by
  have ca : ∀ k, k < [(xs, i), (ys, j)].length → k = 0 ∨ k = 1 := fun k hk => by
    have hk' : k < 2 := hk
    omega
  refine ⟨fun k hk hn => ?_, fun k hk => ?_, fun k m hk hm n1 n2 e => ?_, fun k hk => ?_⟩
  · rcases ca k hk with rfl | rfl
    · exact h1 hn
    · exact h2 hn
  · rcases ca k hk with rfl | rfl
    · exact s1
    · exact s2
  · rcases ca k hk with rfl | rfl <;> rcases ca m hm with rfl | rfl
    · rfl
    · exact (hne n1 n2 e).elim
    · exact (hne n2 n1 e.symm).elim
    · rfl
  · rcases ca k hk with rfl | rfl
    · exact l1
    · exact l2

set_option maxHeartbeats 0 in
theorem hunkApplies_d (l : List ByteArray) (hs : List Hk) (hl : Short l) (hh : AllShort hs) :
    D Try.prog 3 [.lst 1 (strs l) none, .lst 3 (hks hs) none] [] (.ret (.sc (.bool true))) [] := by
  refine D_of_DK (Nat.le_refl _) (dk3 (E_of_ES ?_))
  simp only [ic3, ux]
  refine ES_seq_gen fun L hL => ?_
  simp -implicitDefEqProofs (maxSteps := 99999999) (disch := first | omega | (simp only [AHeap.set_length, killO_length, List.length_cons]; first | done | omega)) only [va, vs, vw, Nat.reduceMul, ite_true, ite_false, eq_self, forall_const, implies_true, Nat.reduceAdd, Nat.reduceSub, Nat.reduceLT, Nat.reduceLeDiff, ↓reduceIte, reduceCtorEq, Int.reduceEq, Int.reduceLT, Int.reduceLE, Int.reduceGT, Int.reduceGE, Int.reduceAdd, Int.reduceSub, Int.reduceNeg, Int.reduceToNat, Nat.reduceBEq, Nat.reduceEqDiff]
  refine hL _ _ ?_
  clear hL
  refine ES_seq_gen fun L hL => ?_
  simp -implicitDefEqProofs (maxSteps := 99999999) (disch := first | omega | (simp only [AHeap.set_length, killO_length, List.length_cons]; first | done | omega)) only [va, vs, vw, Nat.reduceMul, ite_true, ite_false, eq_self, forall_const, implies_true, Nat.reduceAdd, Nat.reduceSub, Nat.reduceLT, Nat.reduceLeDiff, ↓reduceIte, reduceCtorEq, Int.reduceEq, Int.reduceLT, Int.reduceLE, Int.reduceGT, Int.reduceGE, Int.reduceAdd, Int.reduceSub, Int.reduceNeg, Int.reduceToNat, Nat.reduceBEq, Nat.reduceEqDiff]
  refine callR_ret (great3_d l hs _ _ _ hl hh) ?_
  by_cases g : load3 (hs.length + textsOf l 2000) hs > 2000
  · simp -implicitDefEqProofs (maxSteps := 99999999) (disch := first | omega | (simp only [AHeap.set_length, killO_length, List.length_cons]; first | done | omega)) only [g, va, vs, vw, Nat.reduceMul, ite_true, ite_false, eq_self, forall_const, implies_true, Nat.reduceAdd, Nat.reduceSub, Nat.reduceLT, Nat.reduceLeDiff, ↓reduceIte, reduceCtorEq, Int.reduceEq, Int.reduceLT, Int.reduceLE, Int.reduceGT, Int.reduceGE, Int.reduceAdd, Int.reduceSub, Int.reduceNeg, Int.reduceToNat, Nat.reduceBEq, Nat.reduceEqDiff]
    refine callR_ret (awake3_d _) ?_
    simp -implicitDefEqProofs (maxSteps := 99999999) (disch := first | omega | (simp only [AHeap.set_length, killO_length, List.length_cons]; first | done | omega)) only [va, vs, vw, Nat.reduceMul, ite_true, ite_false, eq_self, forall_const, implies_true, Nat.reduceAdd, Nat.reduceSub, Nat.reduceLT, Nat.reduceLeDiff, ↓reduceIte, reduceCtorEq, Int.reduceEq, Int.reduceLT, Int.reduceLE, Int.reduceGT, Int.reduceGE, Int.reduceAdd, Int.reduceSub, Int.reduceNeg, Int.reduceToNat, Nat.reduceBEq, Nat.reduceEqDiff]
    exact weak_end
  obtain ⟨z1, z2, z3, z4⟩ := few_of_load g
  have z5 := sumL_new hs
  simp -implicitDefEqProofs (maxSteps := 99999999) (disch := first | omega | (simp only [AHeap.set_length, killO_length, List.length_cons]; first | done | omega)) only [g, va, vs, vw, Nat.reduceMul, ite_true, ite_false, eq_self, forall_const, implies_true, Nat.reduceAdd, Nat.reduceSub, Nat.reduceLT, Nat.reduceLeDiff, ↓reduceIte, reduceCtorEq, Int.reduceEq, Int.reduceLT, Int.reduceLE, Int.reduceGT, Int.reduceGE, Int.reduceAdd, Int.reduceSub, Int.reduceNeg, Int.reduceToNat, Nat.reduceBEq, Nat.reduceEqDiff]
  refine hL _ _ ?_
  clear hL
  refine ES_seq_gen fun L hL => ?_
  simp -implicitDefEqProofs (maxSteps := 99999999) (disch := first | omega | (simp only [AHeap.set_length, killO_length, List.length_cons]; first | done | omega)) only [va, vs, vw, Nat.reduceMul, ite_true, ite_false, eq_self, forall_const, implies_true, Nat.reduceAdd, Nat.reduceSub, Nat.reduceLT, Nat.reduceLeDiff, ↓reduceIte, reduceCtorEq, Int.reduceEq, Int.reduceLT, Int.reduceLE, Int.reduceGT, Int.reduceGE, Int.reduceAdd, Int.reduceSub, Int.reduceNeg, Int.reduceToNat, Nat.reduceBEq, Nat.reduceEqDiff]
  refine callR_ret (lentTexts_d l none [] (by omega)) ?_
  simp -implicitDefEqProofs (maxSteps := 99999999) (disch := first | omega | (simp only [AHeap.set_length, killO_length, List.length_cons]; first | done | omega)) only [va, vs, vw, Nat.reduceMul, ite_true, ite_false, eq_self, forall_const, implies_true, Nat.reduceAdd, Nat.reduceSub, Nat.reduceLT, Nat.reduceLeDiff, ↓reduceIte, reduceCtorEq, Int.reduceEq, Int.reduceLT, Int.reduceLE, Int.reduceGT, Int.reduceGE, Int.reduceAdd, Int.reduceSub, Int.reduceNeg, Int.reduceToNat, Nat.reduceBEq, Nat.reduceEqDiff]
  refine callR_ret (lentHunks_d hs none _ z4) ?_
  simp -implicitDefEqProofs (maxSteps := 99999999) (disch := first | omega | (simp only [AHeap.set_length, killO_length, List.length_cons]; first | done | omega)) only [va, vs, vw, Nat.reduceMul, ite_true, ite_false, eq_self, forall_const, implies_true, Nat.reduceAdd, Nat.reduceSub, Nat.reduceLT, Nat.reduceLeDiff, ↓reduceIte, reduceCtorEq, Int.reduceEq, Int.reduceLT, Int.reduceLE, Int.reduceGT, Int.reduceGE, Int.reduceAdd, Int.reduceSub, Int.reduceNeg, Int.reduceToNat, Nat.reduceBEq, Nat.reduceEqDiff]
  have eJ : (fun i => 1 + (2 * i + 1)) = (fun i => 1 + 2 * i + 1) := by funext i; omega
  rw [eJ]
  have ok := lent_ok hs [lentB l]
  have far := lent_far hs.length 1
  have hF0 : AHeap.find (lays (lentBs hs ++ [lentHB hs (fun i => 1 + 2 * i) (fun i => 1 + 2 * i + 1)]) [lentB l]) 0 = lentB l := by rw [lays_old (by simp)]; rfl
  have hFl : (lays (lentBs hs ++ [lentHB hs (fun i => 1 + 2 * i) (fun i => 1 + 2 * i + 1)]) [lentB l]).length = 2 * hs.length + 2 := by rw [lays_length]; simp [lentBs]; omega
  have ok' : LentOK (lays (lentBs hs ++ [lentHB hs (fun i => 1 + 2 * i) (fun i => 1 + 2 * i + 1)]) [lentB l]) hs (1 + 2 * hs.length) (fun i => 1 + 2 * i) (fun i => 1 + 2 * i + 1) := ok
  clear ok
  generalize lays (lentBs hs ++ [lentHB hs (fun i => 1 + 2 * i) (fun i => 1 + 2 * i + 1)]) [lentB l] = F at ok' hF0 hFl ⊢
  have lt : ∀ i, i ∈ lentIds hs.length (1 + 2 * hs.length) (fun i => 1 + 2 * i) (fun i => 1 + 2 * i + 1) → 0 < i ∧ i < F.length := fun i hi => by
    rcases mem_lentIds.1 hi with rfl | ⟨k, h, rfl⟩ | ⟨k, h, rfl⟩
    · omega
    · omega
    · omega
  refine hL _ _ ?_
  clear hL
  refine ES_seq_gen fun L hL => ?_
  simp -implicitDefEqProofs (maxSteps := 99999999) (disch := first | omega | (simp only [AHeap.set_length, killO_length, List.length_cons]; first | done | omega)) only [va, vs, vw, Nat.reduceMul, ite_true, ite_false, eq_self, forall_const, implies_true, Nat.reduceAdd, Nat.reduceSub, Nat.reduceLT, Nat.reduceLeDiff, ↓reduceIte, reduceCtorEq, Int.reduceEq, Int.reduceLT, Int.reduceLE, Int.reduceGT, Int.reduceGE, Int.reduceAdd, Int.reduceSub, Int.reduceNeg, Int.reduceToNat, Nat.reduceBEq, Nat.reduceEqDiff]
  refine callR_ret (apply_v (lent_view hF0) (lentHs_view ok') hl hh (by omega)) ?_
  simp -implicitDefEqProofs (maxSteps := 99999999) (disch := first | omega | (simp only [AHeap.set_length, killO_length, List.length_cons]; first | done | omega)) only [va, vs, vw, Nat.reduceMul, ite_true, ite_false, eq_self, forall_const, implies_true, Nat.reduceAdd, Nat.reduceSub, Nat.reduceLT, Nat.reduceLeDiff, ↓reduceIte, reduceCtorEq, Int.reduceEq, Int.reduceLT, Int.reduceLE, Int.reduceGT, Int.reduceGE, Int.reduceAdd, Int.reduceSub, Int.reduceNeg, Int.reduceToNat, Nat.reduceBEq, Nat.reduceEqDiff]
  have ok1 : LentOK (OutB (applyR l hs).1 :: F) hs (1 + 2 * hs.length) (fun i => 1 + 2 * i) (fun i => 1 + 2 * i + 1) := ok'.keep fun i hi => AHeap.find_cons (lt i hi).2
  have hF1 : AHeap.find (OutB (applyR l hs).1 :: F) 0 = lentB l := by rw [AHeap.find_cons (by omega)]; exact hF0
  refine hL _ _ ?_
  clear hL
  refine ES_seq_gen fun L hL => ?_
  simp -implicitDefEqProofs (maxSteps := 99999999) (disch := first | omega | (simp only [AHeap.set_length, killO_length, List.length_cons]; first | done | omega)) only [va, vs, vw, Nat.reduceMul, ite_true, ite_false, eq_self, forall_const, implies_true, Nat.reduceAdd, Nat.reduceSub, Nat.reduceLT, Nat.reduceLeDiff, ↓reduceIte, reduceCtorEq, Int.reduceEq, Int.reduceLT, Int.reduceLE, Int.reduceGT, Int.reduceGE, Int.reduceAdd, Int.reduceSub, Int.reduceNeg, Int.reduceToNat, Nat.reduceBEq, Nat.reduceEqDiff]
  refine callR_ret (apply_v (lent_view hF1) (lentHs_view ok1) hl hh (by omega)) ?_
  simp -implicitDefEqProofs (maxSteps := 99999999) (disch := first | omega | (simp only [AHeap.set_length, killO_length, List.length_cons]; first | done | omega)) only [va, vs, vw, Nat.reduceMul, ite_true, ite_false, eq_self, forall_const, implies_true, Nat.reduceAdd, Nat.reduceSub, Nat.reduceLT, Nat.reduceLeDiff, ↓reduceIte, reduceCtorEq, Int.reduceEq, Int.reduceLT, Int.reduceLE, Int.reduceGT, Int.reduceGE, Int.reduceAdd, Int.reduceSub, Int.reduceNeg, Int.reduceToNat, Nat.reduceBEq, Nat.reduceEqDiff]
  obtain ⟨G, hG⟩ : ∃ G, G = OutB (applyR l hs).1 :: OutB (applyR l hs).1 :: F := ⟨_, rfl⟩
  have gl : G.length = F.length + 2 := by rw [hG]; rfl
  have gold : ∀ i, i < F.length → AHeap.find G i = AHeap.find F i := fun i hi => by rw [hG, AHeap.find_cons (by simp; omega), AHeap.find_cons hi]
  have ga : AHeap.find G F.length = OutB (applyR l hs).1 := by rw [hG, AHeap.find_cons (by simp), AHeap.find_new]
  have gc : AHeap.find G (F.length + 1) = OutB (applyR l hs).1 := by rw [hG, find_top (by simp)]
  have okG : LentOK G hs (1 + 2 * hs.length) (fun i => 1 + 2 * i) (fun i => 1 + 2 * i + 1) := ok'.keep fun i hi => gold i (lt i hi).2
  have hG0 : AHeap.find G 0 = lentB l := (gold 0 (by omega)).trans hF0
  rw [← hG]
  clear hG ok1 hF1
  refine hL _ _ ?_
  clear hL
  refine ES_seq_gen fun L hL => ?_
  simp -implicitDefEqProofs (maxSteps := 99999999) (disch := first | omega | (simp only [AHeap.set_length, killO_length, List.length_cons]; first | done | omega)) only [va, vs, vw, Nat.reduceMul, ite_true, ite_false, eq_self, forall_const, implies_true, Nat.reduceAdd, Nat.reduceSub, Nat.reduceLT, Nat.reduceLeDiff, ↓reduceIte, reduceCtorEq, Int.reduceEq, Int.reduceLT, Int.reduceLE, Int.reduceGT, Int.reduceGE, Int.reduceAdd, Int.reduceSub, Int.reduceNeg, Int.reduceToNat, Nat.reduceBEq, Nat.reduceEqDiff]
  refine callR_ret (refApply_d l hs none _ hl hh (by omega)) ?_
  have hA := applyR_short hl hh (by omega)
  have sv : ∀ (G : AHeap) (id : Nat), AHeap.find G id = OutB (applyR l hs).1 → D Try.prog 16 [OutV (applyR l hs).1 id, .lst 1 (strs (applyR l hs).1) none] G (.ret (.sc (.bool true))) G := fun G id h =>
    D_view (.cons (outV_view fun _ => h) (.cons (.lst ViewL.scs) .nil)) .sc (sameTexts_t _ .refl .refl _ hA.1.1)
  simp -implicitDefEqProofs (maxSteps := 99999999) (disch := first | omega | (simp only [AHeap.set_length, killO_length, List.length_cons]; first | done | omega)) only [va, vs, vw, Nat.reduceMul, ite_true, ite_false, eq_self, forall_const, implies_true, Nat.reduceAdd, Nat.reduceSub, Nat.reduceLT, Nat.reduceLeDiff, ↓reduceIte, reduceCtorEq, Int.reduceEq, Int.reduceLT, Int.reduceLE, Int.reduceGT, Int.reduceGE, Int.reduceAdd, Int.reduceSub, Int.reduceNeg, Int.reduceToNat, Nat.reduceBEq, Nat.reduceEqDiff]
  refine hL _ _ ?_
  clear hL
  refine ES_seq_gen fun L hL => ?_
  simp -implicitDefEqProofs (maxSteps := 99999999) (disch := first | omega | (simp only [AHeap.set_length, killO_length, List.length_cons]; first | done | omega)) only [va, vs, vw, Nat.reduceMul, ite_true, ite_false, eq_self, forall_const, implies_true, Nat.reduceAdd, Nat.reduceSub, Nat.reduceLT, Nat.reduceLeDiff, ↓reduceIte, reduceCtorEq, Int.reduceEq, Int.reduceLT, Int.reduceLE, Int.reduceGT, Int.reduceGE, Int.reduceAdd, Int.reduceSub, Int.reduceNeg, Int.reduceToNat, Nat.reduceBEq, Nat.reduceEqDiff]
  refine callR_ret (sv G _ ga) ?_
  simp -implicitDefEqProofs (maxSteps := 99999999) (disch := first | omega | (simp only [AHeap.set_length, killO_length, List.length_cons]; first | done | omega)) only [va, vs, vw, Nat.reduceMul, ite_true, ite_false, eq_self, forall_const, implies_true, Nat.reduceAdd, Nat.reduceSub, Nat.reduceLT, Nat.reduceLeDiff, ↓reduceIte, reduceCtorEq, Int.reduceEq, Int.reduceLT, Int.reduceLE, Int.reduceGT, Int.reduceGE, Int.reduceAdd, Int.reduceSub, Int.reduceNeg, Int.reduceToNat, Nat.reduceBEq, Nat.reduceEqDiff]
  refine callR_ret (keptTexts_d l none G 0 _ hG0 (by omega)) ?_
  simp -implicitDefEqProofs (maxSteps := 99999999) (disch := first | omega | (simp only [AHeap.set_length, killO_length, List.length_cons]; first | done | omega)) only [va, vs, vw, Nat.reduceMul, ite_true, ite_false, eq_self, forall_const, implies_true, Nat.reduceAdd, Nat.reduceSub, Nat.reduceLT, Nat.reduceLeDiff, ↓reduceIte, reduceCtorEq, Int.reduceEq, Int.reduceLT, Int.reduceLE, Int.reduceGT, Int.reduceGE, Int.reduceAdd, Int.reduceSub, Int.reduceNeg, Int.reduceToNat, Nat.reduceBEq, Nat.reduceEqDiff]
  refine callR_ret (keptHunks_d hs none G _ _ _ okG z4) ?_
  simp -implicitDefEqProofs (maxSteps := 99999999) (disch := first | omega | (simp only [AHeap.set_length, killO_length, List.length_cons]; first | done | omega)) only [va, vs, vw, Nat.reduceMul, ite_true, ite_false, eq_self, forall_const, implies_true, Nat.reduceAdd, Nat.reduceSub, Nat.reduceLT, Nat.reduceLeDiff, ↓reduceIte, reduceCtorEq, Int.reduceEq, Int.reduceLT, Int.reduceLE, Int.reduceGT, Int.reduceGE, Int.reduceAdd, Int.reduceSub, Int.reduceNeg, Int.reduceToNat, Nat.reduceBEq, Nat.reduceEqDiff]
  refine hL _ _ ?_
  clear hL
  refine ES_seq_gen fun L hL => ?_
  simp -implicitDefEqProofs (maxSteps := 99999999) (disch := first | omega | (simp only [AHeap.set_length, killO_length, List.length_cons]; first | done | omega)) only [va, vs, vw, Nat.reduceMul, ite_true, ite_false, eq_self, forall_const, implies_true, Nat.reduceAdd, Nat.reduceSub, Nat.reduceLT, Nat.reduceLeDiff, ↓reduceIte, reduceCtorEq, Int.reduceEq, Int.reduceLT, Int.reduceLE, Int.reduceGT, Int.reduceGE, Int.reduceAdd, Int.reduceSub, Int.reduceNeg, Int.reduceToNat, Nat.reduceBEq, Nat.reduceEqDiff]
  refine callR_ret (overTexts_d l G 0 _ hG0 (by omega)) ?_
  simp -implicitDefEqProofs (maxSteps := 99999999) (disch := first | omega | (simp only [AHeap.set_length, killO_length, List.length_cons]; first | done | omega)) only [va, vs, vw, Nat.reduceMul, ite_true, ite_false, eq_self, forall_const, implies_true, Nat.reduceAdd, Nat.reduceSub, Nat.reduceLT, Nat.reduceLeDiff, ↓reduceIte, reduceCtorEq, Int.reduceEq, Int.reduceLT, Int.reduceLE, Int.reduceGT, Int.reduceGE, Int.reduceAdd, Int.reduceSub, Int.reduceNeg, Int.reduceToNat, Nat.reduceBEq, Nat.reduceEqDiff]
  obtain ⟨G2, hG2⟩ : ∃ G2, G2 = AHeap.set G 0 (some ⟨1, strs ((List.range (l.length + 12)).map fun i : Nat => markT 2 (i : Int)), true, 9⟩) := ⟨_, rfl⟩
  rw [← hG2]
  have gold2 : ∀ i, i ≠ 0 → AHeap.find G2 i = AHeap.find G i := fun i hi => by rw [hG2, AHeap.find_set_ne hi]
  have ok2 : LentOK G2 hs (1 + 2 * hs.length) (fun i => 1 + 2 * i) (fun i => 1 + 2 * i + 1) := okG.keep fun i hi => gold2 i (by have := (lt i hi).1; omega)
  clear hG2
  refine hL _ _ ?_
  clear hL
  refine ES_seq_gen fun L hL => ?_
  simp -implicitDefEqProofs (maxSteps := 99999999) (disch := first | omega | (simp only [AHeap.set_length, killO_length, List.length_cons]; first | done | omega)) only [va, vs, vw, Nat.reduceMul, ite_true, ite_false, eq_self, forall_const, implies_true, Nat.reduceAdd, Nat.reduceSub, Nat.reduceLT, Nat.reduceLeDiff, ↓reduceIte, reduceCtorEq, Int.reduceEq, Int.reduceLT, Int.reduceLE, Int.reduceGT, Int.reduceGE, Int.reduceAdd, Int.reduceSub, Int.reduceNeg, Int.reduceToNat, Nat.reduceBEq, Nat.reduceEqDiff]
  refine callR_ret (overHunks_d hs G2 _ _ _ ok2 far z4) ?_
  simp -implicitDefEqProofs (maxSteps := 99999999) (disch := first | omega | (simp only [AHeap.set_length, killO_length, List.length_cons]; first | done | omega)) only [va, vs, vw, Nat.reduceMul, ite_true, ite_false, eq_self, forall_const, implies_true, Nat.reduceAdd, Nat.reduceSub, Nat.reduceLT, Nat.reduceLeDiff, ↓reduceIte, reduceCtorEq, Int.reduceEq, Int.reduceLT, Int.reduceLE, Int.reduceGT, Int.reduceGE, Int.reduceAdd, Int.reduceSub, Int.reduceNeg, Int.reduceToNat, Nat.reduceBEq, Nat.reduceEqDiff]
  rw [eJ]
  obtain ⟨G3, hG3⟩ : ∃ G3, G3 = killIds (lentIds hs.length (1 + 2 * hs.length) (fun i => 1 + 2 * i) (fun i => 1 + 2 * i + 1)) G2 := ⟨_, rfl⟩
  rw [← hG3]
  have far3 : ∀ i, F.length ≤ i → AHeap.find G3 i = AHeap.find G i := fun i hi => by
    rw [hG3, killIds_other (fun h => by have := (lt i h).2; omega), gold2 i (by omega)]
  have ga3 := (far3 F.length (Nat.le_refl _)).trans ga
  have gc3 := (far3 (F.length + 1) (by omega)).trans gc
  clear hG3
  refine hL _ _ ?_
  clear hL
  refine ES_seq_gen fun L hL => ?_
  simp -implicitDefEqProofs (maxSteps := 99999999) (disch := first | omega | (simp only [AHeap.set_length, killO_length, List.length_cons]; first | done | omega)) only [va, vs, vw, Nat.reduceMul, ite_true, ite_false, eq_self, forall_const, implies_true, Nat.reduceAdd, Nat.reduceSub, Nat.reduceLT, Nat.reduceLeDiff, ↓reduceIte, reduceCtorEq, Int.reduceEq, Int.reduceLT, Int.reduceLE, Int.reduceGT, Int.reduceGE, Int.reduceAdd, Int.reduceSub, Int.reduceNeg, Int.reduceToNat, Nat.reduceBEq, Nat.reduceEqDiff]
  refine callR_ret (sv G3 _ ga3) ?_
  simp -implicitDefEqProofs (maxSteps := 99999999) (disch := first | omega | (simp only [AHeap.set_length, killO_length, List.length_cons]; first | done | omega)) only [va, vs, vw, Nat.reduceMul, ite_true, ite_false, eq_self, forall_const, implies_true, Nat.reduceAdd, Nat.reduceSub, Nat.reduceLT, Nat.reduceLeDiff, ↓reduceIte, reduceCtorEq, Int.reduceEq, Int.reduceLT, Int.reduceLE, Int.reduceGT, Int.reduceGE, Int.reduceAdd, Int.reduceSub, Int.reduceNeg, Int.reduceToNat, Nat.reduceBEq, Nat.reduceEqDiff]
  have okO := ownsOK_two (s := shT) (H := G3) (xs := strs (applyR l hs).1) (ys := strs (applyR l hs).1) (i := F.length) (j := F.length + 1) (fun _ => ga3) (fun _ => gc3) shT_strs shT_strs (fun _ _ => by omega) (by rw [strs_length]; omega) (by rw [strs_length]; omega)
  refine callR_ret (apartTexts_d G3 [(strs (applyR l hs).1, F.length), (strs (applyR l hs).1, F.length + 1)] _ okO (by simp)) ?_
  simp -implicitDefEqProofs (maxSteps := 99999999) (disch := first | omega | (simp only [AHeap.set_length, killO_length, List.length_cons]; first | done | omega)) only [va, vs, vw, Nat.reduceMul, ite_true, ite_false, eq_self, forall_const, implies_true, Nat.reduceAdd, Nat.reduceSub, Nat.reduceLT, Nat.reduceLeDiff, ↓reduceIte, reduceCtorEq, Int.reduceEq, Int.reduceLT, Int.reduceLE, Int.reduceGT, Int.reduceGE, Int.reduceAdd, Int.reduceSub, Int.reduceNeg, Int.reduceToNat, Nat.reduceBEq, Nat.reduceEqDiff]
  refine callR_ret (awake3_d _) ?_
  simp -implicitDefEqProofs (maxSteps := 99999999) (disch := first | omega | (simp only [AHeap.set_length, killO_length, List.length_cons]; first | done | omega)) only [va, vs, vw, Nat.reduceMul, ite_true, ite_false, eq_self, forall_const, implies_true, Nat.reduceAdd, Nat.reduceSub, Nat.reduceLT, Nat.reduceLeDiff, ↓reduceIte, reduceCtorEq, Int.reduceEq, Int.reduceLT, Int.reduceLE, Int.reduceGT, Int.reduceGE, Int.reduceAdd, Int.reduceSub, Int.reduceNeg, Int.reduceToNat, Nat.reduceBEq, Nat.reduceEqDiff]
  refine hL _ _ ?_
  clear hL
  simp -implicitDefEqProofs (maxSteps := 99999999) (disch := first | omega | (simp only [AHeap.set_length, killO_length, List.length_cons]; first | done | omega)) only [va, vs, vw, Nat.reduceMul, ite_true, ite_false, eq_self, forall_const, implies_true, Nat.reduceAdd, Nat.reduceSub, Nat.reduceLT, Nat.reduceLeDiff, ↓reduceIte, reduceCtorEq, Int.reduceEq, Int.reduceLT, Int.reduceLE, Int.reduceGT, Int.reduceGE, Int.reduceAdd, Int.reduceSub, Int.reduceNeg, Int.reduceToNat, Nat.reduceBEq, Nat.reduceEqDiff]
  exact weak_end
end Go.Proofs.Ytddhdlfafaobhaa
