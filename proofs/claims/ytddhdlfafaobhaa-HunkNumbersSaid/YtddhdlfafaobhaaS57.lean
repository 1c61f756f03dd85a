/- HunkNumbers tells true: by what HunkApplies and HunkRight tell of all rows. -/
import Derived.Test.YtddhdlfafaobhaaS55
import Derived.Test.YtddhdlfafaobhaaIc10
namespace Go.Proofs.Ytddhdlfafaobhaa
open Go.RowKit
set_option maxRecDepth 100000
set_option linter.unusedVariables false
set_option linter.unusedSimpArgs false

/-! ### Rows that are written out -/
def txsA : List AV → Option (List ByteArray)
  | [] => some []
  | .sc (.string s) :: r => match txsA r with
    | some l => some (s :: l)
    | none => none
  | _ => none
def txA : AV → Option (List ByteArray)
  | .lst 1 xs _ => txsA xs
  | .lst 0 [] _ => some []
  | _ => none
def hkA : AV → Option Hk
  | .agg [.sc (.int .i64 n), a, b] => match txA a, txA b with
    | some x, some y => some ⟨n, x, y⟩
    | _, _ => none
  | _ => none
def hksA : List AV → Option (List Hk)
  | [] => some []
  | x :: r => match hkA x, hksA r with
    | some h, some l => some (h :: l)
    | _, _ => none
theorem txsA_eq : ∀ {xs : List AV} {l : List ByteArray}, txsA xs = some l → xs = strs l
  | [], l, h => by simp [txsA] at h; subst h; rfl
  | x :: r, l, h => by
    unfold txsA at h
    split at h
    · simp at *
    · rename_i s r' e
      cases e
      split at h
      · rename_i l' e'
        simp at h
        subst h
        rw [txsA_eq e']
        rfl
      · simp at h
    · simp at h
theorem txA_view {H : AHeap} {x : AV} {l : List ByteArray} (h : txA x = some l) : View H x (.lst 1 (strs l) none) := by
  unfold txA at h
  split at h
  · rw [txsA_eq h]; exact .lst ViewL.scs
  · simp at h; subst h; exact .nil
  · simp at h
theorem hkA_view {H : AHeap} {x : AV} {h : Hk} (e : hkA x = some h) : View H x (hk h) := by
  unfold hkA at e
  split at e
  · split at e
    · rename_i e1 e2
      simp at e
      subst e
      exact .agg (.cons .sc (.cons (txA_view e1) (.cons (txA_view e2) .nil)))
    · simp at e
  · simp at e
theorem hksA_view {H : AHeap} : ∀ {xs : List AV} {l : List Hk}, hksA xs = some l → ViewL H xs (hks l)
  | [], l, h => by simp [hksA] at h; subst h; exact .nil
  | x :: r, l, h => by
    unfold hksA at h
    split at h
    · rename_i e1 e2
      simp at h
      subst h
      exact .cons (hkA_view e1) (hksA_view e2)
    · simp at h

theorem applies_v {H : AHeap} {x y : AV} {l : List ByteArray} {hs : List Hk} (hx : View H x (.lst 1 (strs l) none)) (hy : View H y (.lst 3 (hks hs) none)) (hl : Short l) (hh : AllShort hs) : D Try.prog 3 [x, y] H (.ret (.sc (.bool true))) H :=
  D_view (.cons hx (.cons hy .nil)) .sc (hunkApplies_d l hs hl hh)
theorem applies_l {H : AHeap} {x : AV} {ys : List AV} {r : Option (List AV)} {l : List ByteArray} {hs : List Hk} (hx : txA x = some l) (hy : hksA ys = some hs) (hl : Short l) (hh : AllShort hs) : D Try.prog 3 [x, .lst 3 ys r] H (.ret (.sc (.bool true))) H :=
  applies_v (txA_view hx) (.lst (hksA_view hy)) hl hh
theorem hright_l {H : AHeap} {ys : List AV} {r : Option (List AV)} {hs : List Hk} (hy : hksA ys = some hs) (hh : AllShort hs) : D Try.prog 4 [.lst 3 ys r] H (.ret (.sc (.bool true))) H :=
  D_view (.cons (.lst (hksA_view hy)) .nil) .sc (hunkRight_d hs hh)

theorem abc_o (H : AHeap) : D Try.prog 31 [] H (.ret (.vec 1 H.length 0 3 (some 3))) (some ⟨1, strs abcL, true, 9⟩ :: H) := by
  refine D_of_DK (by simp) (dk31v (E_of_ES ?_))
  simp -implicitDefEqProofs (maxSteps := 99999999) (disch := first | omega | (simp only [AHeap.set_length, killO_length, List.length_cons]; first | done | omega)) only [ic31v, va, vs, vw, Nat.reduceMul, ite_true, ite_false, eq_self, forall_const, implies_true, Nat.reduceAdd, Nat.reduceSub, Nat.reduceLT, Nat.reduceLeDiff, ↓reduceIte, reduceCtorEq, Int.reduceEq, Int.reduceLT, Int.reduceLE, Int.reduceGT, Int.reduceGE, Int.reduceAdd, Int.reduceSub, Int.reduceNeg, Int.reduceToNat, Nat.reduceBEq, Nat.reduceEqDiff]
  exact Weak.refl _ _ _

theorem vec_view {H : AHeap} {l : List ByteArray} {id off n : Nat} {c : Option Nat} {ex : Bool} {ty : TypeId} (hf : AHeap.find H id = some ⟨1, strs l, ex, ty⟩) (h : off + n ≤ l.length) : View H (.vec 1 id off n c) (.lst 1 (strs ((l.drop off).take n)) none) := by
  refine .vec hf rfl (by rw [strs_length]; exact h) ?_
  rw [strs, ← List.map_drop, ← List.map_take]
  exact ViewL.scs
theorem strs_set {l : List ByteArray} {n : Nat} {s : ByteArray} : (strs l).set n (.sc (.string s)) = strs (l.set n s) := by simp [strs, List.map_set]
theorem slice_view {H : AHeap} {l : List ByteArray} {m n : Nat} {r : Option (List AV)} : View H (.lst 1 (((strs l).take n).drop m) r) (.lst 1 (strs ((l.take n).drop m)) none) := by
  rw [strs, ← List.map_take, ← List.map_drop]
  exact .lst ViewL.scs
def sixL : List ByteArray := [⟨#[49, 10]⟩, ⟨#[50, 10]⟩, ⟨#[51, 10]⟩, ⟨#[52, 10]⟩, ⟨#[53, 10]⟩, ⟨#[54, 10]⟩]
theorem six_short : Short sixL := short_lit rfl
def numsL : List Int := [-9223372036854775808, -1, 0, 1, 2, 3, 4, 1099511627775, 1099511627776, 1099511627777, 9223372036854775807]
def numsA : List AV := numsL.map fun n => .sc (.int .i64 n)
def oddL : List ByteArray := [⟨#[]⟩, ⟨#[10]⟩, ⟨#[97]⟩, ⟨#[97, 10]⟩, ⟨#[97, 10, 98]⟩, ⟨#[97, 10, 98, 10]⟩, ⟨#[10, 10]⟩, ⟨#[97, 10, 10]⟩]
def oddA : List AV := strs oddL
theorem numsA_get {i : Nat} (h : i < 11) : numsA.getD i .top = .sc (.int .i64 (numsL.getD i 0)) := by
  have h' : i < numsL.length := h
  simp [numsA, List.getD, h']
theorem oddA_get {i : Nat} (h : i < 8) : oddA.getD i .top = .sc (.string (nthS oddL i)) := strs_get (l := oddL) h
theorem odd_short {i : Nat} (h : i < 8) : (nthS oddL i).size ≤ 100000000 := (short_lit (l := oddL) rfl).2 _ (by
  unfold nthS
  have h' : i < oddL.length := h
  rw [List.getD_eq_getElem?_getD, List.getElem?_eq_getElem h']
  exact List.getElem_mem h')
theorem allS {l : List Hk} (h1 : l.length ≤ 100000000) (h2 : ∀ h ∈ l, h.short) : AllShort l := ⟨h1, h2⟩

set_option maxHeartbeats 0 in
theorem hunkNumbers_d : D Try.prog 5 [] [] (.ret (.sc (.bool true))) [] := by
  refine D_of_DK (Nat.le_refl _) (dk5 (E_of_ES ?_))
  simp only [ic5, ux]
  have hnl : numsA.length = 11 := rfl
  have hol : oddA.length = 8 := rfl
  refine ES_seq_gen fun L hL => ?_
  simp -implicitDefEqProofs (maxSteps := 99999999) (disch := first | omega | (simp only [AHeap.set_length, killO_length, List.length_cons]; first | done | omega)) only [va, vs, vw, Nat.reduceMul, ite_true, ite_false, eq_self, forall_const, implies_true, Nat.reduceAdd, Nat.reduceSub, Nat.reduceLT, Nat.reduceLeDiff, ↓reduceIte, reduceCtorEq, Int.reduceEq, Int.reduceLT, Int.reduceLE, Int.reduceGT, Int.reduceGE, Int.reduceAdd, Int.reduceSub, Int.reduceNeg, Int.reduceToNat, Nat.reduceBEq, Nat.reduceEqDiff]
  refine hL _ _ ?_
  clear hL
  refine ES_seq_gen fun L hL => ?_
  simp -implicitDefEqProofs (maxSteps := 99999999) (disch := first | omega | (simp only [AHeap.set_length, killO_length, List.length_cons]; first | done | omega)) only [va, vs, vw, Nat.reduceMul, ite_true, ite_false, eq_self, forall_const, implies_true, Nat.reduceAdd, Nat.reduceSub, Nat.reduceLT, Nat.reduceLeDiff, ↓reduceIte, reduceCtorEq, Int.reduceEq, Int.reduceLT, Int.reduceLE, Int.reduceGT, Int.reduceGE, Int.reduceAdd, Int.reduceSub, Int.reduceNeg, Int.reduceToNat, Nat.reduceBEq, Nat.reduceEqDiff]
  refine hL _ _ ?_
  clear hL
  refine ES_seq_gen fun L hL => ?_
  simp -implicitDefEqProofs (maxSteps := 99999999) (disch := first | omega | (simp only [AHeap.set_length, killO_length, List.length_cons]; first | done | omega)) only [va, vs, vw, Nat.reduceMul, ite_true, ite_false, eq_self, forall_const, implies_true, Nat.reduceAdd, Nat.reduceSub, Nat.reduceLT, Nat.reduceLeDiff, ↓reduceIte, reduceCtorEq, Int.reduceEq, Int.reduceLT, Int.reduceLE, Int.reduceGT, Int.reduceGE, Int.reduceAdd, Int.reduceSub, Int.reduceNeg, Int.reduceToNat, Nat.reduceBEq, Nat.reduceEqDiff]
  refine hL _ _ ?_
  clear hL
  refine ES_seq_gen fun L hL => ?_
  simp -implicitDefEqProofs (maxSteps := 99999999) (disch := first | omega | (simp only [AHeap.set_length, killO_length, List.length_cons]; first | done | omega)) only [va, vs, vw, Nat.reduceMul, ite_true, ite_false, eq_self, forall_const, implies_true, Nat.reduceAdd, Nat.reduceSub, Nat.reduceLT, Nat.reduceLeDiff, ↓reduceIte, reduceCtorEq, Int.reduceEq, Int.reduceLT, Int.reduceLE, Int.reduceGT, Int.reduceGE, Int.reduceAdd, Int.reduceSub, Int.reduceNeg, Int.reduceToNat, Nat.reduceBEq, Nat.reduceEqDiff]
  refine ES_loopL (fun ts G => ∃ i : Nat, (i ≤ 11) ∧ Fr [none, some (.lst 1 numsA (some [])), some (.lst 1 oddA (some [])), some (.sc (.int .i64 i)), none, none, none, none, none, none, none, none, none, none, none, none, none, none, none, none, none, none, none, none, none, none, none, none, none, none, none, none, none, none, none, none, none, none, none, none, none, none, none, none, none, none, none, none, none, none, none, none, none, none, none, none, none, none, none, none, none, none, none, none, none, none, none, none, none, none, none, none, none, none, none, none, none, none, none, none, none, none, none, none, none, none, none, none, none, none, none, none, none, none, none, none, none, none, none, none, none, none, none, none, none, none, none, none, none, none, none, none, none, none, none, none, none, none, none, none, none, none, none, none, none, none, none, none, none, none, none, none, none, none, none, none, none, none, none, none, none, none, none, none, none, none, none, none, none, none, none, none, none, none, none, none, none, none, none, none, none, none, none, none, none, none, none, none, none, none, none, none, none, none, none, none, none, none, none, none, none, none, none, none, none, none, none, none, none, none] ts) (fun ts _ => 11 - (intV (ts.getD 3 .top)).toNat) ⟨0, by omega, by simp [Fr]; exact ⟨rfl, rfl⟩⟩ ?_
  rintro ts G ⟨i, hi, hfr⟩ L2 hL2
  obtain ⟨js, rfl⟩ := hfr.opened
  clear hfr
  simp -implicitDefEqProofs (maxSteps := 99999999) (disch := first | omega | (simp only [AHeap.set_length, killO_length, List.length_cons]; first | done | omega)) only [mk, hnl, va, vs, vw, Nat.reduceMul, ite_true, ite_false, eq_self, forall_const, implies_true, Nat.reduceAdd, Nat.reduceSub, Nat.reduceLT, Nat.reduceLeDiff, ↓reduceIte, reduceCtorEq, Int.reduceEq, Int.reduceLT, Int.reduceLE, Int.reduceGT, Int.reduceGE, Int.reduceAdd, Int.reduceSub, Int.reduceNeg, Int.reduceToNat, Nat.reduceBEq, Nat.reduceEqDiff]
  refine condR_if (fun h => ?_) (fun h => ?_)
  · have i1 : i < 11 := by omega
    have i0 : (0 : Int) ≤ (i : Int) := by omega
    have i2 : (i : Int) < 11 := by omega
    have hgi := numsA_get i1
    generalize numsL.getD i 0 = x at hgi
    simp -implicitDefEqProofs (maxSteps := 99999999) (disch := first | omega | (simp only [AHeap.set_length, killO_length, List.length_cons]; first | done | omega)) only [va, vs, vw, Nat.reduceMul, ite_true, ite_false, eq_self, forall_const, implies_true, Nat.reduceAdd, Nat.reduceSub, Nat.reduceLT, Nat.reduceLeDiff, ↓reduceIte, reduceCtorEq, Int.reduceEq, Int.reduceLT, Int.reduceLE, Int.reduceGT, Int.reduceGE, Int.reduceAdd, Int.reduceSub, Int.reduceNeg, Int.reduceToNat, Nat.reduceBEq, Nat.reduceEqDiff]
    refine ES_loopL (fun ts G => ∃ k : Nat, (k ≤ 11) ∧ Fr [none, some (.lst 1 numsA (some [])), some (.lst 1 oddA (some [])), some (.sc (.int .i64 i)), some (.sc (.int .i64 k)), none, none, none, none, none, none, none, none, none, none, none, none, none, none, none, none, none, none, none, none, none, none, none, none, none, none, none, none, none, none, none, none, none, none, none, none, none, none, none, none, none, none, none, none, none, none, none, none, none, none, none, none, none, none, none, none, none, none, none, none, none, none, none, none, none, none, none, none, none, none, none, none, none, none, none, none, none, none, none, none, none, none, none, none, none, none, none, none, none, none, none, none, none, none, none, none, none, none, none, none, none, none, none, none, none, none, none, none, none, none, none, none, none, none, none, none, none, none, none, none, none, none, none, none, none, none, none, none, none, none, none, none, none, none, none, none, none, none, none, none, none, none, none, none, none, none, none, none, none, none, none, none, none, none, none, none, none, none, none, none, none, none, none, none, none, none, none, none, none, none, none, none, none, none, none, none, none, none, none, none, none, none, none, none, none] ts) (fun ts _ => 11 - (intV (ts.getD 4 .top)).toNat) ⟨0, by omega, by simp [Fr]⟩ ?_
    rintro ts G ⟨k, hkn, hfr⟩ L3 hL3
    obtain ⟨js, rfl⟩ := hfr.opened
    clear hfr
    simp -implicitDefEqProofs (maxSteps := 99999999) (disch := first | omega | (simp only [AHeap.set_length, killO_length, List.length_cons]; first | done | omega)) only [mk, hnl, va, vs, vw, Nat.reduceMul, ite_true, ite_false, eq_self, forall_const, implies_true, Nat.reduceAdd, Nat.reduceSub, Nat.reduceLT, Nat.reduceLeDiff, ↓reduceIte, reduceCtorEq, Int.reduceEq, Int.reduceLT, Int.reduceLE, Int.reduceGT, Int.reduceGE, Int.reduceAdd, Int.reduceSub, Int.reduceNeg, Int.reduceToNat, Nat.reduceBEq, Nat.reduceEqDiff]
    refine condR_if (fun h => ?_) (fun h => ?_)
    · have k1 : k < 11 := by omega
      have k0 : (0 : Int) ≤ (k : Int) := by omega
      have k2 : (k : Int) < 11 := by omega
      have hgk := numsA_get k1
      generalize numsL.getD k 0 = y at hgk
      have one2 : AllShort [⟨x, [⟨#[98, 10]⟩], [⟨#[120, 10]⟩]⟩, ⟨y, [⟨#[99, 10]⟩], [⟨#[121, 10]⟩]⟩] := allS (by simp) fun h hm => by
        simp only [List.mem_cons, List.not_mem_nil, or_false] at hm
        rcases hm with rfl | rfl <;> exact ⟨short_lit rfl, short_lit rfl⟩
      have one1 : AllShort [⟨x, [⟨#[98, 10]⟩], [⟨#[120, 10]⟩]⟩] := ⟨by simp, fun h hm => one2.2 h (by simp only [List.mem_cons, List.not_mem_nil, or_false] at hm; simp [hm])⟩
      have two : AllShort [⟨x, [], abcL⟩, ⟨y, [], abcL⟩] := allS (by simp) fun h hm => by
        simp only [List.mem_cons, List.not_mem_nil, or_false] at hm
        rcases hm with rfl | rfl <;> exact ⟨Short.nil, sAbc⟩
      simp -implicitDefEqProofs (maxSteps := 99999999) (disch := first | omega | (simp only [AHeap.set_length, killO_length, List.length_cons]; first | done | omega)) only [hgi, hgk, i0, i1, i2, k0, k1, k2, hnl, va, vs, vw, Nat.reduceMul, ite_true, ite_false, eq_self, forall_const, implies_true, Nat.reduceAdd, Nat.reduceSub, Nat.reduceLT, Nat.reduceLeDiff, ↓reduceIte, reduceCtorEq, Int.reduceEq, Int.reduceLT, Int.reduceLE, Int.reduceGT, Int.reduceGE, Int.reduceAdd, Int.reduceSub, Int.reduceNeg, Int.reduceToNat, Nat.reduceBEq, Nat.reduceEqDiff]
      refine callD_same (one_d _ _ _ _) ?_
      simp -implicitDefEqProofs (maxSteps := 99999999) (disch := first | omega | (simp only [AHeap.set_length, killO_length, List.length_cons]; first | done | omega)) only [hgi, hgk, i0, i1, i2, k0, k1, k2, hnl, va, vs, vw, Nat.reduceMul, ite_true, ite_false, eq_self, forall_const, implies_true, Nat.reduceAdd, Nat.reduceSub, Nat.reduceLT, Nat.reduceLeDiff, ↓reduceIte, reduceCtorEq, Int.reduceEq, Int.reduceLT, Int.reduceLE, Int.reduceGT, Int.reduceGE, Int.reduceAdd, Int.reduceSub, Int.reduceNeg, Int.reduceToNat, Nat.reduceBEq, Nat.reduceEqDiff]
      refine callD_same (one_d _ _ _ _) ?_
      simp -implicitDefEqProofs (maxSteps := 99999999) (disch := first | omega | (simp only [AHeap.set_length, killO_length, List.length_cons]; first | done | omega)) only [hgi, hgk, i0, i1, i2, k0, k1, k2, hnl, va, vs, vw, Nat.reduceMul, ite_true, ite_false, eq_self, forall_const, implies_true, Nat.reduceAdd, Nat.reduceSub, Nat.reduceLT, Nat.reduceLeDiff, ↓reduceIte, reduceCtorEq, Int.reduceEq, Int.reduceLT, Int.reduceLE, Int.reduceGT, Int.reduceGE, Int.reduceAdd, Int.reduceSub, Int.reduceNeg, Int.reduceToNat, Nat.reduceBEq, Nat.reduceEqDiff]
      refine callD_same (abc_d _) ?_
      simp -implicitDefEqProofs (maxSteps := 99999999) (disch := first | omega | (simp only [AHeap.set_length, killO_length, List.length_cons]; first | done | omega)) only [va, vs, vw, Nat.reduceMul, ite_true, ite_false, eq_self, forall_const, implies_true, Nat.reduceAdd, Nat.reduceSub, Nat.reduceLT, Nat.reduceLeDiff, ↓reduceIte, reduceCtorEq, Int.reduceEq, Int.reduceLT, Int.reduceLE, Int.reduceGT, Int.reduceGE, Int.reduceAdd, Int.reduceSub, Int.reduceNeg, Int.reduceToNat, Nat.reduceBEq, Nat.reduceEqDiff]
      refine callD_same (applies_l rfl rfl sAbc one2) ?_
      simp -implicitDefEqProofs (maxSteps := 99999999) (disch := first | omega | (simp only [AHeap.set_length, killO_length, List.length_cons]; first | done | omega)) only [va, vs, vw, Nat.reduceMul, ite_true, ite_false, eq_self, forall_const, implies_true, Nat.reduceAdd, Nat.reduceSub, Nat.reduceLT, Nat.reduceLeDiff, ↓reduceIte, reduceCtorEq, Int.reduceEq, Int.reduceLT, Int.reduceLE, Int.reduceGT, Int.reduceGE, Int.reduceAdd, Int.reduceSub, Int.reduceNeg, Int.reduceToNat, Nat.reduceBEq, Nat.reduceEqDiff]
      refine callD_same (abc_d _) ?_
      simp -implicitDefEqProofs (maxSteps := 99999999) (disch := first | omega | (simp only [AHeap.set_length, killO_length, List.length_cons]; first | done | omega)) only [va, vs, vw, Nat.reduceMul, ite_true, ite_false, eq_self, forall_const, implies_true, Nat.reduceAdd, Nat.reduceSub, Nat.reduceLT, Nat.reduceLeDiff, ↓reduceIte, reduceCtorEq, Int.reduceEq, Int.reduceLT, Int.reduceLE, Int.reduceGT, Int.reduceGE, Int.reduceAdd, Int.reduceSub, Int.reduceNeg, Int.reduceToNat, Nat.reduceBEq, Nat.reduceEqDiff]
      refine callD_same (applies_l rfl rfl sAbc one1) ?_
      simp -implicitDefEqProofs (maxSteps := 99999999) (disch := first | omega | (simp only [AHeap.set_length, killO_length, List.length_cons]; first | done | omega)) only [va, vs, vw, Nat.reduceMul, ite_true, ite_false, eq_self, forall_const, implies_true, Nat.reduceAdd, Nat.reduceSub, Nat.reduceLT, Nat.reduceLeDiff, ↓reduceIte, reduceCtorEq, Int.reduceEq, Int.reduceLT, Int.reduceLE, Int.reduceGT, Int.reduceGE, Int.reduceAdd, Int.reduceSub, Int.reduceNeg, Int.reduceToNat, Nat.reduceBEq, Nat.reduceEqDiff]
      refine callD_same (hright_l rfl one2) ?_
      simp -implicitDefEqProofs (maxSteps := 99999999) (disch := first | omega | (simp only [AHeap.set_length, killO_length, List.length_cons]; first | done | omega)) only [hgi, hgk, i0, i1, i2, k0, k1, k2, hnl, va, vs, vw, Nat.reduceMul, ite_true, ite_false, eq_self, forall_const, implies_true, Nat.reduceAdd, Nat.reduceSub, Nat.reduceLT, Nat.reduceLeDiff, ↓reduceIte, reduceCtorEq, Int.reduceEq, Int.reduceLT, Int.reduceLE, Int.reduceGT, Int.reduceGE, Int.reduceAdd, Int.reduceSub, Int.reduceNeg, Int.reduceToNat, Nat.reduceBEq, Nat.reduceEqDiff]
      refine callD_same (abc_d _) ?_
      simp -implicitDefEqProofs (maxSteps := 99999999) (disch := first | omega | (simp only [AHeap.set_length, killO_length, List.length_cons]; first | done | omega)) only [hgi, hgk, i0, i1, i2, k0, k1, k2, hnl, va, vs, vw, Nat.reduceMul, ite_true, ite_false, eq_self, forall_const, implies_true, Nat.reduceAdd, Nat.reduceSub, Nat.reduceLT, Nat.reduceLeDiff, ↓reduceIte, reduceCtorEq, Int.reduceEq, Int.reduceLT, Int.reduceLE, Int.reduceGT, Int.reduceGE, Int.reduceAdd, Int.reduceSub, Int.reduceNeg, Int.reduceToNat, Nat.reduceBEq, Nat.reduceEqDiff]
      refine callD_same (abc_d _) ?_
      simp -implicitDefEqProofs (maxSteps := 99999999) (disch := first | omega | (simp only [AHeap.set_length, killO_length, List.length_cons]; first | done | omega)) only [hgi, hgk, i0, i1, i2, k0, k1, k2, hnl, va, vs, vw, Nat.reduceMul, ite_true, ite_false, eq_self, forall_const, implies_true, Nat.reduceAdd, Nat.reduceSub, Nat.reduceLT, Nat.reduceLeDiff, ↓reduceIte, reduceCtorEq, Int.reduceEq, Int.reduceLT, Int.reduceLE, Int.reduceGT, Int.reduceGE, Int.reduceAdd, Int.reduceSub, Int.reduceNeg, Int.reduceToNat, Nat.reduceBEq, Nat.reduceEqDiff]
      refine callD_same (applies_l rfl rfl Short.nil two) ?_
      simp -implicitDefEqProofs (maxSteps := 99999999) (disch := first | omega | (simp only [AHeap.set_length, killO_length, List.length_cons]; first | done | omega)) only [va, vs, vw, Nat.reduceMul, ite_true, ite_false, eq_self, forall_const, implies_true, Nat.reduceAdd, Nat.reduceSub, Nat.reduceLT, Nat.reduceLeDiff, ↓reduceIte, reduceCtorEq, Int.reduceEq, Int.reduceLT, Int.reduceLE, Int.reduceGT, Int.reduceGE, Int.reduceAdd, Int.reduceSub, Int.reduceNeg, Int.reduceToNat, Nat.reduceBEq, Nat.reduceEqDiff]
      exact hL3 _ _ ⟨k + 1, by omega, by simp [Fr]⟩ (by simp [intV, mk]; omega)
    · simp -implicitDefEqProofs (maxSteps := 99999999) (disch := first | omega | (simp only [AHeap.set_length, killO_length, List.length_cons]; first | done | omega)) only [va, vs, vw, Nat.reduceMul, ite_true, ite_false, eq_self, forall_const, implies_true, Nat.reduceAdd, Nat.reduceSub, Nat.reduceLT, Nat.reduceLeDiff, ↓reduceIte, reduceCtorEq, Int.reduceEq, Int.reduceLT, Int.reduceLE, Int.reduceGT, Int.reduceGE, Int.reduceAdd, Int.reduceSub, Int.reduceNeg, Int.reduceToNat, Nat.reduceBEq, Nat.reduceEqDiff]
      exact hL2 _ _ ⟨i + 1, by omega, by simp [Fr]⟩ (by simp [intV, mk]; omega)
  · refine hL _ _ ?_
    clear hL hL2
    refine ES_seq_gen fun L hL => ?_
    simp -implicitDefEqProofs (maxSteps := 99999999) (disch := first | omega | (simp only [AHeap.set_length, killO_length, List.length_cons]; first | done | omega)) only [va, vs, vw, Nat.reduceMul, ite_true, ite_false, eq_self, forall_const, implies_true, Nat.reduceAdd, Nat.reduceSub, Nat.reduceLT, Nat.reduceLeDiff, ↓reduceIte, reduceCtorEq, Int.reduceEq, Int.reduceLT, Int.reduceLE, Int.reduceGT, Int.reduceGE, Int.reduceAdd, Int.reduceSub, Int.reduceNeg, Int.reduceToNat, Nat.reduceBEq, Nat.reduceEqDiff]
    refine ES_loopL (fun ts G => ∃ i : Nat, (i ≤ 8) ∧ Fr [none, none, some (.lst 1 oddA (some [])), none, none, none, some (.sc (.int .i64 i)), none, none, none, none, none, none, none, none, none, none, none, none, none, none, none, none, none, none, none, none, none, none, none, none, none, none, none, none, none, none, none, none, none, none, none, none, none, none, none, none, none, none, none, none, none, none, none, none, none, none, none, none, none, none, none, none, none, none, none, none, none, none, none, none, none, none, none, none, none, none, none, none, none, none, none, none, none, none, none, none, none, none, none, none, none, none, none, none, none, none, none, none, none, none, none, none, none, none, none, none, none, none, none, none, none, none, none, none, none, none, none, none, none, none, none, none, none, none, none, none, none, none, none, none, none, none, none, none, none, none, none, none, none, none, none, none, none, none, none, none, none, none, none, none, none, none, none, none, none, none, none, none, none, none, none, none, none, none, none, none, none, none, none, none, none, none, none, none, none, none, none, none, none, none, none, none, none, none, none, none, none, none, none] ts) (fun ts _ => 8 - (intV (ts.getD 6 .top)).toNat) ⟨0, by omega, by simp [Fr]⟩ ?_
    rintro ts G ⟨i, hi, hfr⟩ L2 hL2
    obtain ⟨js, rfl⟩ := hfr.opened
    clear hfr
    simp -implicitDefEqProofs (maxSteps := 99999999) (disch := first | omega | (simp only [AHeap.set_length, killO_length, List.length_cons]; first | done | omega)) only [mk, hol, va, vs, vw, Nat.reduceMul, ite_true, ite_false, eq_self, forall_const, implies_true, Nat.reduceAdd, Nat.reduceSub, Nat.reduceLT, Nat.reduceLeDiff, ↓reduceIte, reduceCtorEq, Int.reduceEq, Int.reduceLT, Int.reduceLE, Int.reduceGT, Int.reduceGE, Int.reduceAdd, Int.reduceSub, Int.reduceNeg, Int.reduceToNat, Nat.reduceBEq, Nat.reduceEqDiff]
    refine condR_if (fun h => ?_) (fun h => ?_)
    · have i1 : i < 8 := by omega
      have i0 : (0 : Int) ≤ (i : Int) := by omega
      have i2 : (i : Int) < 8 := by omega
      have hgi := oddA_get i1
      have hsi := odd_short i1
      generalize nthS oddL i = x at hgi hsi
      simp -implicitDefEqProofs (maxSteps := 99999999) (disch := first | omega | (simp only [AHeap.set_length, killO_length, List.length_cons]; first | done | omega)) only [va, vs, vw, Nat.reduceMul, ite_true, ite_false, eq_self, forall_const, implies_true, Nat.reduceAdd, Nat.reduceSub, Nat.reduceLT, Nat.reduceLeDiff, ↓reduceIte, reduceCtorEq, Int.reduceEq, Int.reduceLT, Int.reduceLE, Int.reduceGT, Int.reduceGE, Int.reduceAdd, Int.reduceSub, Int.reduceNeg, Int.reduceToNat, Nat.reduceBEq, Nat.reduceEqDiff]
      refine ES_loopL (fun ts G => ∃ k : Nat, (k ≤ 8) ∧ Fr [none, none, some (.lst 1 oddA (some [])), none, none, none, some (.sc (.int .i64 i)), some (.sc (.int .i64 k)), none, none, none, none, none, none, none, none, none, none, none, none, none, none, none, none, none, none, none, none, none, none, none, none, none, none, none, none, none, none, none, none, none, none, none, none, none, none, none, none, none, none, none, none, none, none, none, none, none, none, none, none, none, none, none, none, none, none, none, none, none, none, none, none, none, none, none, none, none, none, none, none, none, none, none, none, none, none, none, none, none, none, none, none, none, none, none, none, none, none, none, none, none, none, none, none, none, none, none, none, none, none, none, none, none, none, none, none, none, none, none, none, none, none, none, none, none, none, none, none, none, none, none, none, none, none, none, none, none, none, none, none, none, none, none, none, none, none, none, none, none, none, none, none, none, none, none, none, none, none, none, none, none, none, none, none, none, none, none, none, none, none, none, none, none, none, none, none, none, none, none, none, none, none, none, none, none, none, none, none, none, none] ts) (fun ts _ => 8 - (intV (ts.getD 7 .top)).toNat) ⟨0, by omega, by simp [Fr]⟩ ?_
      rintro ts G ⟨k, hkn, hfr⟩ L3 hL3
      obtain ⟨js, rfl⟩ := hfr.opened
      clear hfr
      simp -implicitDefEqProofs (maxSteps := 99999999) (disch := first | omega | (simp only [AHeap.set_length, killO_length, List.length_cons]; first | done | omega)) only [mk, hol, va, vs, vw, Nat.reduceMul, ite_true, ite_false, eq_self, forall_const, implies_true, Nat.reduceAdd, Nat.reduceSub, Nat.reduceLT, Nat.reduceLeDiff, ↓reduceIte, reduceCtorEq, Int.reduceEq, Int.reduceLT, Int.reduceLE, Int.reduceGT, Int.reduceGE, Int.reduceAdd, Int.reduceSub, Int.reduceNeg, Int.reduceToNat, Nat.reduceBEq, Nat.reduceEqDiff]
      refine condR_if (fun h => ?_) (fun h => ?_)
      · have k1 : k < 8 := by omega
        have k0 : (0 : Int) ≤ (k : Int) := by omega
        have k2 : (k : Int) < 8 := by omega
        have hgk := oddA_get k1
        have hsk := odd_short k1
        generalize nthS oddL k = y at hgk hsk
        simp -implicitDefEqProofs (maxSteps := 99999999) (disch := first | omega | (simp only [AHeap.set_length, killO_length, List.length_cons]; first | done | omega)) only [va, vs, vw, Nat.reduceMul, ite_true, ite_false, eq_self, forall_const, implies_true, Nat.reduceAdd, Nat.reduceSub, Nat.reduceLT, Nat.reduceLeDiff, ↓reduceIte, reduceCtorEq, Int.reduceEq, Int.reduceLT, Int.reduceLE, Int.reduceGT, Int.reduceGE, Int.reduceAdd, Int.reduceSub, Int.reduceNeg, Int.reduceToNat, Nat.reduceBEq, Nat.reduceEqDiff]
        refine ES_loopL (fun ts G => ∃ n : Nat, (n ≤ 3) ∧ Fr [none, none, some (.lst 1 oddA (some [])), none, none, none, some (.sc (.int .i64 i)), some (.sc (.int .i64 k)), some (.sc (.int .i64 n)), none, none, none, none, none, none, none, none, none, none, none, none, none, none, none, none, none, none, none, none, none, none, none, none, none, none, none, none, none, none, none, none, none, none, none, none, none, none, none, none, none, none, none, none, none, none, none, none, none, none, none, none, none, none, none, none, none, none, none, none, none, none, none, none, none, none, none, none, none, none, none, none, none, none, none, none, none, none, none, none, none, none, none, none, none, none, none, none, none, none, none, none, none, none, none, none, none, none, none, none, none, none, none, none, none, none, none, none, none, none, none, none, none, none, none, none, none, none, none, none, none, none, none, none, none, none, none, none, none, none, none, none, none, none, none, none, none, none, none, none, none, none, none, none, none, none, none, none, none, none, none, none, none, none, none, none, none, none, none, none, none, none, none, none, none, none, none, none, none, none, none, none, none, none, none, none, none, none, none, none, none] ts) (fun ts _ => 3 - (intV (ts.getD 8 .top)).toNat) ⟨0, by omega, by simp [Fr]⟩ ?_
        rintro ts G ⟨n, hnn, hfr⟩ L4 hL4
        obtain ⟨js, rfl⟩ := hfr.opened
        clear hfr
        simp -implicitDefEqProofs (maxSteps := 99999999) (disch := first | omega | (simp only [AHeap.set_length, killO_length, List.length_cons]; first | done | omega)) only [mk, va, vs, vw, Nat.reduceMul, ite_true, ite_false, eq_self, forall_const, implies_true, Nat.reduceAdd, Nat.reduceSub, Nat.reduceLT, Nat.reduceLeDiff, ↓reduceIte, reduceCtorEq, Int.reduceEq, Int.reduceLT, Int.reduceLE, Int.reduceGT, Int.reduceGE, Int.reduceAdd, Int.reduceSub, Int.reduceNeg, Int.reduceToNat, Nat.reduceBEq, Nat.reduceEqDiff]
        refine condR_if (fun h => ?_) (fun h => ?_)
        · have n1 : n < 3 := by omega
          have n0 : (0 : Int) ≤ (n : Int) := by omega
          have n2 : (n : Int) < 3 := by omega
          simp -implicitDefEqProofs (maxSteps := 99999999) (disch := first | omega | (simp only [AHeap.set_length, killO_length, List.length_cons]; first | done | omega)) only [va, vs, vw, Nat.reduceMul, ite_true, ite_false, eq_self, forall_const, implies_true, Nat.reduceAdd, Nat.reduceSub, Nat.reduceLT, Nat.reduceLeDiff, ↓reduceIte, reduceCtorEq, Int.reduceEq, Int.reduceLT, Int.reduceLE, Int.reduceGT, Int.reduceGE, Int.reduceAdd, Int.reduceSub, Int.reduceNeg, Int.reduceToNat, Nat.reduceBEq, Nat.reduceEqDiff]
          refine callR_ret (abc_o _) ?_
          have hst := strs_get (l := abcL) (k := n) n1
          have hsl : Short (abcL.set n x) := ⟨by simp, fun s hs => by
            rcases List.mem_or_eq_of_mem_set hs with h | rfl
            · exact sAbc.2 _ h
            · exact hsi⟩
          have hla : (abcL.set n x).length = 3 := by simp
          have n3 : n ≤ 3 := by omega
          have n4 : (n : Int) ≤ 3 := by omega
          have sx : Short [x] := ⟨by simp, by simpa using hsi⟩
          have sy : Short [y] := ⟨by simp, by simpa using hsk⟩
          have sqy : Short [⟨#[113, 10]⟩, y] := ⟨by simp, by simpa using ⟨by decide, hsk⟩⟩
          have sxy : Short [x, y] := ⟨by simp, by simpa using ⟨hsi, hsk⟩⟩
          have syz : Short [y, ⟨#[122]⟩] := ⟨by simp, by simpa using ⟨hsk, by decide⟩⟩
          simp -implicitDefEqProofs (maxSteps := 99999999) (disch := first | omega | (simp only [AHeap.set_length, killO_length, List.length_cons]; first | done | omega)) only [hgi, i0, i1, i2, hol, n0, n1, n2, strs_set, hst, hgk, k0, k1, k2, va, vs, vw, Nat.reduceMul, ite_true, ite_false, eq_self, forall_const, implies_true, Nat.reduceAdd, Nat.reduceSub, Nat.reduceLT, Nat.reduceLeDiff, ↓reduceIte, reduceCtorEq, Int.reduceEq, Int.reduceLT, Int.reduceLE, Int.reduceGT, Int.reduceGE, Int.reduceAdd, Int.reduceSub, Int.reduceNeg, Int.reduceToNat, Nat.reduceBEq, Nat.reduceEqDiff]
          generalize abcL.set n x = l at hsl hla
          have e3 : (l.drop 0).take 3 = l := by rw [List.drop_zero, ← hla, List.take_length]
          refine callD_same (applies_v (vec_view (l := l) (ex := true) (ty := 9) (by simp -implicitDefEqProofs (maxSteps := 99999999) (disch := first | omega | (simp only [AHeap.set_length, killO_length, List.length_cons]; first | done | omega)) only [va, vs, vw, Nat.reduceMul, ite_true, ite_false, eq_self, forall_const, implies_true, Nat.reduceAdd, Nat.reduceSub, Nat.reduceLT, Nat.reduceLeDiff, ↓reduceIte, reduceCtorEq, Int.reduceEq, Int.reduceLT, Int.reduceLE, Int.reduceGT, Int.reduceGE, Int.reduceAdd, Int.reduceSub, Int.reduceNeg, Int.reduceToNat, Nat.reduceBEq, Nat.reduceEqDiff]) (by omega)) (.lst (hksA_view rfl)) (by rw [e3]; exact hsl) (allS (by simp) fun h hm => ?_)) ?_
          · simp only [List.mem_cons, List.not_mem_nil, or_false] at hm
            subst hm
            exact ⟨sx, sy⟩
          simp -implicitDefEqProofs (maxSteps := 99999999) (disch := first | omega | (simp only [AHeap.set_length, killO_length, List.length_cons]; first | done | omega)) only [hgi, i0, i1, i2, hol, n0, n1, n2, n3, n4, hst, hgk, k0, k1, k2, va, vs, vw, Nat.reduceMul, ite_true, ite_false, eq_self, forall_const, implies_true, Nat.reduceAdd, Nat.reduceSub, Nat.reduceLT, Nat.reduceLeDiff, ↓reduceIte, reduceCtorEq, Int.reduceEq, Int.reduceLT, Int.reduceLE, Int.reduceGT, Int.reduceGE, Int.reduceAdd, Int.reduceSub, Int.reduceNeg, Int.reduceToNat, Nat.reduceBEq, Nat.reduceEqDiff]
          refine ⟨rfl, ?_⟩
          refine callD_same (applies_v (hs := [⟨n, (l.drop n).take (3 - n), [⟨#[113, 10]⟩, y]⟩]) (vec_view (l := l) (ex := true) (ty := 9) (by simp -implicitDefEqProofs (maxSteps := 99999999) (disch := first | omega | (simp only [AHeap.set_length, killO_length, List.length_cons]; first | done | omega)) only [va, vs, vw, Nat.reduceMul, ite_true, ite_false, eq_self, forall_const, implies_true, Nat.reduceAdd, Nat.reduceSub, Nat.reduceLT, Nat.reduceLeDiff, ↓reduceIte, reduceCtorEq, Int.reduceEq, Int.reduceLT, Int.reduceLE, Int.reduceGT, Int.reduceGE, Int.reduceAdd, Int.reduceSub, Int.reduceNeg, Int.reduceToNat, Nat.reduceBEq, Nat.reduceEqDiff]) (by omega)) (.lst (.cons (.agg (.cons .sc (.cons (vec_view (l := l) (ex := true) (ty := 9) (by simp -implicitDefEqProofs (maxSteps := 99999999) (disch := first | omega | (simp only [AHeap.set_length, killO_length, List.length_cons]; first | done | omega)) only [va, vs, vw, Nat.reduceMul, ite_true, ite_false, eq_self, forall_const, implies_true, Nat.reduceAdd, Nat.reduceSub, Nat.reduceLT, Nat.reduceLeDiff, ↓reduceIte, reduceCtorEq, Int.reduceEq, Int.reduceLT, Int.reduceLE, Int.reduceGT, Int.reduceGE, Int.reduceAdd, Int.reduceSub, Int.reduceNeg, Int.reduceToNat, Nat.reduceBEq, Nat.reduceEqDiff]) (by omega)) (.cons (txA_view rfl) .nil)))) .nil)) (by rw [e3]; exact hsl) (allS (by simp) fun h hm => ?_)) ?_
          · simp only [List.mem_cons, List.not_mem_nil, or_false] at hm
            subst hm
            exact ⟨(hsl.drop n).take (3 - n), sqy⟩
          simp -implicitDefEqProofs (maxSteps := 99999999) (disch := first | omega | (simp only [AHeap.set_length, killO_length, List.length_cons]; first | done | omega)) only [hgi, i0, i1, i2, hol, n0, n1, n2, n3, n4, hst, hgk, k0, k1, k2, va, vs, vw, Nat.reduceMul, ite_true, ite_false, eq_self, forall_const, implies_true, Nat.reduceAdd, Nat.reduceSub, Nat.reduceLT, Nat.reduceLeDiff, ↓reduceIte, reduceCtorEq, Int.reduceEq, Int.reduceLT, Int.reduceLE, Int.reduceGT, Int.reduceGE, Int.reduceAdd, Int.reduceSub, Int.reduceNeg, Int.reduceToNat, Nat.reduceBEq, Nat.reduceEqDiff]
          refine callD_same (hright_l rfl (allS (by simp) fun h hm => ?_)) ?_
          · simp only [List.mem_cons, List.not_mem_nil, or_false] at hm
            rcases hm with rfl | rfl
            · exact ⟨sxy, Short.nil⟩
            · exact ⟨Short.nil, syz⟩
          simp -implicitDefEqProofs (maxSteps := 99999999) (disch := first | omega | (simp only [AHeap.set_length, killO_length, List.length_cons]; first | done | omega)) only [va, vs, vw, Nat.reduceMul, ite_true, ite_false, eq_self, forall_const, implies_true, Nat.reduceAdd, Nat.reduceSub, Nat.reduceLT, Nat.reduceLeDiff, ↓reduceIte, reduceCtorEq, Int.reduceEq, Int.reduceLT, Int.reduceLE, Int.reduceGT, Int.reduceGE, Int.reduceAdd, Int.reduceSub, Int.reduceNeg, Int.reduceToNat, Nat.reduceBEq, Nat.reduceEqDiff]
          exact hL4 _ _ ⟨n + 1, by omega, by simp [Fr]⟩ (by simp [intV, mk]; omega)
        · simp -implicitDefEqProofs (maxSteps := 99999999) (disch := first | omega | (simp only [AHeap.set_length, killO_length, List.length_cons]; first | done | omega)) only [va, vs, vw, Nat.reduceMul, ite_true, ite_false, eq_self, forall_const, implies_true, Nat.reduceAdd, Nat.reduceSub, Nat.reduceLT, Nat.reduceLeDiff, ↓reduceIte, reduceCtorEq, Int.reduceEq, Int.reduceLT, Int.reduceLE, Int.reduceGT, Int.reduceGE, Int.reduceAdd, Int.reduceSub, Int.reduceNeg, Int.reduceToNat, Nat.reduceBEq, Nat.reduceEqDiff]
          exact hL3 _ _ ⟨k + 1, by omega, by simp [Fr]⟩ (by simp [intV, mk]; omega)
      · simp -implicitDefEqProofs (maxSteps := 99999999) (disch := first | omega | (simp only [AHeap.set_length, killO_length, List.length_cons]; first | done | omega)) only [va, vs, vw, Nat.reduceMul, ite_true, ite_false, eq_self, forall_const, implies_true, Nat.reduceAdd, Nat.reduceSub, Nat.reduceLT, Nat.reduceLeDiff, ↓reduceIte, reduceCtorEq, Int.reduceEq, Int.reduceLT, Int.reduceLE, Int.reduceGT, Int.reduceGE, Int.reduceAdd, Int.reduceSub, Int.reduceNeg, Int.reduceToNat, Nat.reduceBEq, Nat.reduceEqDiff]
        exact hL2 _ _ ⟨i + 1, by omega, by simp [Fr]⟩ (by simp [intV, mk]; omega)
    · refine hL _ _ ?_
      clear hL hL2
      refine ES_seq_gen fun L hL => ?_
      simp -implicitDefEqProofs (maxSteps := 99999999) (disch := first | omega | (simp only [AHeap.set_length, killO_length, List.length_cons]; first | done | omega)) only [va, vs, vw, Nat.reduceMul, ite_true, ite_false, eq_self, forall_const, implies_true, Nat.reduceAdd, Nat.reduceSub, Nat.reduceLT, Nat.reduceLeDiff, ↓reduceIte, reduceCtorEq, Int.reduceEq, Int.reduceLT, Int.reduceLE, Int.reduceGT, Int.reduceGE, Int.reduceAdd, Int.reduceSub, Int.reduceNeg, Int.reduceToNat, Nat.reduceBEq, Nat.reduceEqDiff]
      refine ES_loopL (fun ts G => ∃ n : Nat, (n ≤ 4) ∧ Fr [none, none, none, none, none, none, none, none, none, none, none, some (.sc (.int .i64 n)), none, none, none, none, none, none, none, none, none, none, none, none, none, none, none, none, none, none, none, none, none, none, none, none, none, none, none, none, none, none, none, none, none, none, none, none, none, none, none, none, none, none, none, none, none, none, none, none, none, none, none, none, none, none, none, none, none, none, none, none, none, none, none, none, none, none, none, none, none, none, none, none, none, none, none, none, none, none, none, none, none, none, none, none, none, none, none, none, none, none, none, none, none, none, none, none, none, none, none, none, none, none, none, none, none, none, none, none, none, none, none, none, none, none, none, none, none, none, none, none, none, none, none, none, none, none, none, none, none, none, none, none, none, none, none, none, none, none, none, none, none, none, none, none, none, none, none, none, none, none, none, none, none, none, none, none, none, none, none, none, none, none, none, none, none, none, none, none, none, none, none, none, none, none, none, none, none, none] ts) (fun ts _ => 4 - (intV (ts.getD 11 .top)).toNat) ⟨0, by omega, by simp [Fr]⟩ ?_
      rintro ts G ⟨n, hn, hfr⟩ L2 hL2
      obtain ⟨js, rfl⟩ := hfr.opened
      clear hfr
      simp -implicitDefEqProofs (maxSteps := 99999999) (disch := first | omega | (simp only [AHeap.set_length, killO_length, List.length_cons]; first | done | omega)) only [mk, va, vs, vw, Nat.reduceMul, ite_true, ite_false, eq_self, forall_const, implies_true, Nat.reduceAdd, Nat.reduceSub, Nat.reduceLT, Nat.reduceLeDiff, ↓reduceIte, reduceCtorEq, Int.reduceEq, Int.reduceLT, Int.reduceLE, Int.reduceGT, Int.reduceGE, Int.reduceAdd, Int.reduceSub, Int.reduceNeg, Int.reduceToNat, Nat.reduceBEq, Nat.reduceEqDiff]
      refine condR_if (fun h => ?_) (fun h => ?_)
      · have n1 : n < 4 := by omega
        simp -implicitDefEqProofs (maxSteps := 99999999) (disch := first | omega | (simp only [AHeap.set_length, killO_length, List.length_cons]; first | done | omega)) only [va, vs, vw, Nat.reduceMul, ite_true, ite_false, eq_self, forall_const, implies_true, Nat.reduceAdd, Nat.reduceSub, Nat.reduceLT, Nat.reduceLeDiff, ↓reduceIte, reduceCtorEq, Int.reduceEq, Int.reduceLT, Int.reduceLE, Int.reduceGT, Int.reduceGE, Int.reduceAdd, Int.reduceSub, Int.reduceNeg, Int.reduceToNat, Nat.reduceBEq, Nat.reduceEqDiff]
        refine ES_loopL (fun ts G => ∃ k : Nat, (k ≤ 6) ∧ Fr [none, none, none, none, none, none, none, none, none, none, none, some (.sc (.int .i64 n)), some (.lst 1 (strs sixL) (some [])), some (.sc (.int .i64 k)), none, none, none, none, none, none, none, none, none, none, none, none, none, none, none, none, none, none, none, none, none, none, none, none, none, none, none, none, none, none, none, none, none, none, none, none, none, none, none, none, none, none, none, none, none, none, none, none, none, none, none, none, none, none, none, none, none, none, none, none, none, none, none, none, none, none, none, none, none, none, none, none, none, none, none, none, none, none, none, none, none, none, none, none, none, none, none, none, none, none, none, none, none, none, none, none, none, none, none, none, none, none, none, none, none, none, none, none, none, none, none, none, none, none, none, none, none, none, none, none, none, none, none, none, none, none, none, none, none, none, none, none, none, none, none, none, none, none, none, none, none, none, none, none, none, none, none, none, none, none, none, none, none, none, none, none, none, none, none, none, none, none, none, none, none, none, none, none, none, none, none, none, none, none, none, none] ts) (fun ts _ => 6 - (intV (ts.getD 13 .top)).toNat) ⟨0, by omega, by simp [Fr]; rfl⟩ ?_
        rintro ts G ⟨k, hkn, hfr⟩ L3 hL3
        obtain ⟨js, rfl⟩ := hfr.opened
        clear hfr
        simp -implicitDefEqProofs (maxSteps := 99999999) (disch := first | omega | (simp only [AHeap.set_length, killO_length, List.length_cons]; first | done | omega)) only [mk, va, vs, vw, Nat.reduceMul, ite_true, ite_false, eq_self, forall_const, implies_true, Nat.reduceAdd, Nat.reduceSub, Nat.reduceLT, Nat.reduceLeDiff, ↓reduceIte, reduceCtorEq, Int.reduceEq, Int.reduceLT, Int.reduceLE, Int.reduceGT, Int.reduceGE, Int.reduceAdd, Int.reduceSub, Int.reduceNeg, Int.reduceToNat, Nat.reduceBEq, Nat.reduceEqDiff]
        refine condR_if (fun h => ?_) (fun h => ?_)
        · have hN : n = 0 ∨ n = 1 ∨ n = 2 ∨ n = 3 := by omega
          have hK : k = 0 ∨ k = 1 ∨ k = 2 ∨ k = 3 ∨ k = 4 ∨ k = 5 := by omega
          have hsx : (strs sixL).length = 6 := rfl
          have k1 : k < 6 := by omega
          have n0 : (0 : Int) ≤ (n : Int) := by omega
          have k0 : (0 : Int) ≤ (k : Int) := by omega
          by_cases c : (5 : Int) < k + 1
          · simp -implicitDefEqProofs (maxSteps := 99999999) (disch := first | omega | (simp only [AHeap.set_length, killO_length, List.length_cons]; first | done | omega)) only [hsx, c, va, vs, vw, Nat.reduceMul, ite_true, ite_false, eq_self, forall_const, implies_true, Nat.reduceAdd, Nat.reduceSub, Nat.reduceLT, Nat.reduceLeDiff, ↓reduceIte, reduceCtorEq, Int.reduceEq, Int.reduceLT, Int.reduceLE, Int.reduceGT, Int.reduceGE, Int.reduceAdd, Int.reduceSub, Int.reduceNeg, Int.reduceToNat, Nat.reduceBEq, Nat.reduceEqDiff]
            refine ⟨⟨by omega, by omega, by omega⟩, ⟨by omega, by omega⟩, ?_⟩
            refine callD_same (applies_v (l := sixL) (hs := [⟨1, (sixL.take (1 + (n : Int)).toNat).drop 1, [⟨#[120, 10]⟩]⟩, ⟨k, (sixL.take 5).drop k, [⟨#[121, 10]⟩, ⟨#[122, 10]⟩]⟩]) (.lst ViewL.scs) (.lst (.cons (.agg (.cons .sc (.cons slice_view (.cons (txA_view rfl) .nil)))) (.cons (.agg (.cons .sc (.cons slice_view (.cons (txA_view rfl) .nil)))) .nil))) six_short (allS (by simp) fun h hm => ?_)) ?_
            · simp only [List.mem_cons, List.not_mem_nil, or_false] at hm
              rcases hm with rfl | rfl
              · exact ⟨(six_short.take _).drop _, short_lit rfl⟩
              · exact ⟨(six_short.take _).drop _, short_lit rfl⟩
            simp -implicitDefEqProofs (maxSteps := 99999999) (disch := first | omega | (simp only [AHeap.set_length, killO_length, List.length_cons]; first | done | omega)) only [va, vs, vw, Nat.reduceMul, ite_true, ite_false, eq_self, forall_const, implies_true, Nat.reduceAdd, Nat.reduceSub, Nat.reduceLT, Nat.reduceLeDiff, ↓reduceIte, reduceCtorEq, Int.reduceEq, Int.reduceLT, Int.reduceLE, Int.reduceGT, Int.reduceGE, Int.reduceAdd, Int.reduceSub, Int.reduceNeg, Int.reduceToNat, Nat.reduceBEq, Nat.reduceEqDiff]
            exact hL3 _ _ ⟨k + 1, by omega, by simp [Fr]⟩ (by simp [intV, mk]; omega)
          · simp -implicitDefEqProofs (maxSteps := 99999999) (disch := first | omega | (simp only [AHeap.set_length, killO_length, List.length_cons]; first | done | omega)) only [hsx, c, va, vs, vw, Nat.reduceMul, ite_true, ite_false, eq_self, forall_const, implies_true, Nat.reduceAdd, Nat.reduceSub, Nat.reduceLT, Nat.reduceLeDiff, ↓reduceIte, reduceCtorEq, Int.reduceEq, Int.reduceLT, Int.reduceLE, Int.reduceGT, Int.reduceGE, Int.reduceAdd, Int.reduceSub, Int.reduceNeg, Int.reduceToNat, Nat.reduceBEq, Nat.reduceEqDiff]
            refine ⟨⟨by omega, by omega, by omega⟩, ⟨by omega, by omega⟩, ?_⟩
            refine callD_same (applies_v (l := sixL) (hs := [⟨1, (sixL.take (1 + (n : Int)).toNat).drop 1, [⟨#[120, 10]⟩]⟩, ⟨k, (sixL.take ((k : Int) + 1).toNat).drop k, [⟨#[121, 10]⟩, ⟨#[122, 10]⟩]⟩]) (.lst ViewL.scs) (.lst (.cons (.agg (.cons .sc (.cons slice_view (.cons (txA_view rfl) .nil)))) (.cons (.agg (.cons .sc (.cons slice_view (.cons (txA_view rfl) .nil)))) .nil))) six_short (allS (by simp) fun h hm => ?_)) ?_
            · simp only [List.mem_cons, List.not_mem_nil, or_false] at hm
              rcases hm with rfl | rfl
              · exact ⟨(six_short.take _).drop _, short_lit rfl⟩
              · exact ⟨(six_short.take _).drop _, short_lit rfl⟩
            simp -implicitDefEqProofs (maxSteps := 99999999) (disch := first | omega | (simp only [AHeap.set_length, killO_length, List.length_cons]; first | done | omega)) only [va, vs, vw, Nat.reduceMul, ite_true, ite_false, eq_self, forall_const, implies_true, Nat.reduceAdd, Nat.reduceSub, Nat.reduceLT, Nat.reduceLeDiff, ↓reduceIte, reduceCtorEq, Int.reduceEq, Int.reduceLT, Int.reduceLE, Int.reduceGT, Int.reduceGE, Int.reduceAdd, Int.reduceSub, Int.reduceNeg, Int.reduceToNat, Nat.reduceBEq, Nat.reduceEqDiff]
            exact hL3 _ _ ⟨k + 1, by omega, by simp [Fr]⟩ (by simp [intV, mk]; omega)
        · simp -implicitDefEqProofs (maxSteps := 99999999) (disch := first | omega | (simp only [AHeap.set_length, killO_length, List.length_cons]; first | done | omega)) only [va, vs, vw, Nat.reduceMul, ite_true, ite_false, eq_self, forall_const, implies_true, Nat.reduceAdd, Nat.reduceSub, Nat.reduceLT, Nat.reduceLeDiff, ↓reduceIte, reduceCtorEq, Int.reduceEq, Int.reduceLT, Int.reduceLE, Int.reduceGT, Int.reduceGE, Int.reduceAdd, Int.reduceSub, Int.reduceNeg, Int.reduceToNat, Nat.reduceBEq, Nat.reduceEqDiff]
          exact hL2 _ _ ⟨n + 1, by omega, by simp [Fr]⟩ (by simp [intV, mk]; omega)
      · refine hL _ _ ?_
        clear hL hL2
        refine ES_seq_gen fun L hL => ?_
        simp -implicitDefEqProofs (maxSteps := 99999999) (disch := first | omega | (simp only [AHeap.set_length, killO_length, List.length_cons]; first | done | omega)) only [va, vs, vw, Nat.reduceMul, ite_true, ite_false, eq_self, forall_const, implies_true, Nat.reduceAdd, Nat.reduceSub, Nat.reduceLT, Nat.reduceLeDiff, ↓reduceIte, reduceCtorEq, Int.reduceEq, Int.reduceLT, Int.reduceLE, Int.reduceGT, Int.reduceGE, Int.reduceAdd, Int.reduceSub, Int.reduceNeg, Int.reduceToNat, Nat.reduceBEq, Nat.reduceEqDiff]
        refine callR_ret (applies_v .nil .nil Short.nil (hs := []) (allS (by simp) (by simp))) ?_
        simp -implicitDefEqProofs (maxSteps := 99999999) (disch := first | omega | (simp only [AHeap.set_length, killO_length, List.length_cons]; first | done | omega)) only [va, vs, vw, Nat.reduceMul, ite_true, ite_false, eq_self, forall_const, implies_true, Nat.reduceAdd, Nat.reduceSub, Nat.reduceLT, Nat.reduceLeDiff, ↓reduceIte, reduceCtorEq, Int.reduceEq, Int.reduceLT, Int.reduceLE, Int.reduceGT, Int.reduceGE, Int.reduceAdd, Int.reduceSub, Int.reduceNeg, Int.reduceToNat, Nat.reduceBEq, Nat.reduceEqDiff]
        refine callR_ret (abc_d _) ?_
        simp -implicitDefEqProofs (maxSteps := 99999999) (disch := first | omega | (simp only [AHeap.set_length, killO_length, List.length_cons]; first | done | omega)) only [va, vs, vw, Nat.reduceMul, ite_true, ite_false, eq_self, forall_const, implies_true, Nat.reduceAdd, Nat.reduceSub, Nat.reduceLT, Nat.reduceLeDiff, ↓reduceIte, reduceCtorEq, Int.reduceEq, Int.reduceLT, Int.reduceLE, Int.reduceGT, Int.reduceGE, Int.reduceAdd, Int.reduceSub, Int.reduceNeg, Int.reduceToNat, Nat.reduceBEq, Nat.reduceEqDiff]
        refine callR_ret (abc_d _) ?_
        simp -implicitDefEqProofs (maxSteps := 99999999) (disch := first | omega | (simp only [AHeap.set_length, killO_length, List.length_cons]; first | done | omega)) only [va, vs, vw, Nat.reduceMul, ite_true, ite_false, eq_self, forall_const, implies_true, Nat.reduceAdd, Nat.reduceSub, Nat.reduceLT, Nat.reduceLeDiff, ↓reduceIte, reduceCtorEq, Int.reduceEq, Int.reduceLT, Int.reduceLE, Int.reduceGT, Int.reduceGE, Int.reduceAdd, Int.reduceSub, Int.reduceNeg, Int.reduceToNat, Nat.reduceBEq, Nat.reduceEqDiff]
        refine callR_ret (hright_l rfl (allS (by simp) fun h hm => ?_)) ?_
        · simp only [List.mem_cons, List.not_mem_nil, or_false] at hm
          rcases hm with rfl | rfl
          · exact ⟨Short.nil, Short.nil⟩
          · exact ⟨sAbc, sAbc⟩
        simp -implicitDefEqProofs (maxSteps := 99999999) (disch := first | omega | (simp only [AHeap.set_length, killO_length, List.length_cons]; first | done | omega)) only [va, vs, vw, Nat.reduceMul, ite_true, ite_false, eq_self, forall_const, implies_true, Nat.reduceAdd, Nat.reduceSub, Nat.reduceLT, Nat.reduceLeDiff, ↓reduceIte, reduceCtorEq, Int.reduceEq, Int.reduceLT, Int.reduceLE, Int.reduceGT, Int.reduceGE, Int.reduceAdd, Int.reduceSub, Int.reduceNeg, Int.reduceToNat, Nat.reduceBEq, Nat.reduceEqDiff]
        refine callR_ret (awake3_d _) ?_
        simp -implicitDefEqProofs (maxSteps := 99999999) (disch := first | omega | (simp only [AHeap.set_length, killO_length, List.length_cons]; first | done | omega)) only [va, vs, vw, Nat.reduceMul, ite_true, ite_false, eq_self, forall_const, implies_true, Nat.reduceAdd, Nat.reduceSub, Nat.reduceLT, Nat.reduceLeDiff, ↓reduceIte, reduceCtorEq, Int.reduceEq, Int.reduceLT, Int.reduceLE, Int.reduceGT, Int.reduceGE, Int.reduceAdd, Int.reduceSub, Int.reduceNeg, Int.reduceToNat, Nat.reduceBEq, Nat.reduceEqDiff]
        refine hL _ _ ?_
        clear hL
        simp -implicitDefEqProofs (maxSteps := 99999999) (disch := first | omega | (simp only [AHeap.set_length, killO_length, List.length_cons]; first | done | omega)) only [va, vs, vw, Nat.reduceMul, ite_true, ite_false, eq_self, forall_const, implies_true, Nat.reduceAdd, Nat.reduceSub, Nat.reduceLT, Nat.reduceLeDiff, ↓reduceIte, reduceCtorEq, Int.reduceEq, Int.reduceLT, Int.reduceLE, Int.reduceGT, Int.reduceGE, Int.reduceAdd, Int.reduceSub, Int.reduceNeg, Int.reduceToNat, Nat.reduceBEq, Nat.reduceEqDiff]
        exact weak_end
end Go.Proofs.Ytddhdlfafaobhaa
