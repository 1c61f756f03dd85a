/- Several texts in one: what each is for stands ahead of it. -/
import Derived.Test.YtigmpablpmanpaaSA
import Derived.Test.YtigmpablpmanpaaIc3
import Derived.Test.YtigmpablpmanpaaVC
import Derived.KernelRfl
/- hunk.Sorted, must, put.add. -/
namespace Go.Proofs.Ytigmpablpmanpaa
open Go.RowKit
set_option maxRecDepth 100000
set_option linter.unusedVariables false
set_option linter.unusedSimpArgs false

def hks (l : List Hk) : List AV := l.map hk
theorem hks_length (l : List Hk) : (hks l).length = l.length := by simp [hks]
def nthH (l : List Hk) (k : Nat) : Hk := l.getD k ⟨0, [], []⟩
theorem nthH_eq {l : List Hk} {k : Nat} (h : k < l.length) : nthH l k = l[k] := by simp [nthH, List.getD, h]
theorem hks_get {l : List Hk} {k : Nat} (h : k < l.length) : (hks l).getD k .top = hk (nthH l k) := by simp [hks, nthH, List.getD, h]

def sortedB : Int → List Hk → Bool
  | _, [] => true
  | least, h :: r => rightB h && (!decide (h.at_ < least) && sortedB (h.at_ + h.old.length + 1) r)

def AllShort (l : List Hk) : Prop := l.length ≤ 100000000 ∧ ∀ h ∈ l, h.short
theorem AllShort.nth {l : List Hk} (h : AllShort l) {k : Nat} (hk : k < l.length) : (nthH l k).short := by
  rw [nthH_eq hk]; exact h.2 _ (List.getElem_mem _)
theorem rightB_at {h : Hk} (hr : rightB h = true) : 0 ≤ h.at_ ∧ h.at_ ≤ 1099511627776 := by
  simp only [rightB, Bool.and_eq_true, decide_eq_true_eq] at hr
  exact ⟨hr.1, hr.2.1⟩

theorem sorted_d (l : List Hk) (ro : Option (List AV)) (H : AHeap) (hl : AllShort l) : D Try.prog 13 [.lst 3 (hks l) ro] H (.ret (.sc (.bool (sortedB 0 l)))) H := by
  have hlen := hl.1
  refine D_of_DK (Nat.le_refl _) (dk13 (E_of_ES ?_))
  simp -implicitDefEqProofs (maxSteps := 99999999) (disch := omega) only [ic13, hks_length, va, vg, vs, vh, Nat.reduceMul, ite_true, ite_false, eq_self, forall_const, implies_true, Nat.reduceAdd, Nat.reduceSub, Nat.reduceLT, Nat.reduceLeDiff, ↓reduceIte, reduceCtorEq, Int.reduceEq, Int.reduceLT, Int.reduceLE, Int.reduceGT, Int.reduceGE, Int.reduceAdd, Int.reduceSub, Int.reduceNeg, Int.reduceToNat, Nat.reduceBEq, Nat.reduceEqDiff]
  refine ES_loop (fun ts H' => Over H H' ∧ ∃ k : Nat, ∃ least : Int, (k ≤ l.length ∧ 0 ≤ least ∧ least ≤ 2000000000000 ∧ sortedB 0 l = sortedB least (l.drop k)) ∧ Fr [some (.lst 3 (hks l) ro), none, some (.sc (.bool false)), some (.sc (.int .i64 least)), none, none, some (.lst 3 (hks l) ro), some (.sc (.int .i64 l.length)), some (.sc (.int .i64 k)), none, none, none, none, none, none, none, none, none, none, none, none, none, none, none, none, none, none, none, none] ts) (fun ts _ => l.length - (intV (ts.getD 8 .top)).toNat) ?_ ?_
  · exact ⟨.refl, 0, 0, ⟨Nat.zero_le _, by omega, by omega, rfl⟩, by simp [Fr]⟩
  rintro ts H' ⟨ho, k, least, ⟨hk, hl0, hl1, hs⟩, hfr⟩
  obtain ⟨js, rfl⟩ := hfr.opened
  clear hfr
  simp -implicitDefEqProofs (maxSteps := 99999999) (disch := omega) only [mk, va, vg, vs, vh, Nat.reduceMul, ite_true, ite_false, eq_self, forall_const, implies_true, Nat.reduceAdd, Nat.reduceSub, Nat.reduceLT, Nat.reduceLeDiff, ↓reduceIte, reduceCtorEq, Int.reduceEq, Int.reduceLT, Int.reduceLE, Int.reduceGT, Int.reduceGE, Int.reduceAdd, Int.reduceSub, Int.reduceNeg, Int.reduceToNat, Nat.reduceBEq, Nat.reduceEqDiff]
  refine condR_if (fun h => ?_) (fun h => ?_)
  · have h1 : k < l.length := by omega
    have hsh := hl.nth h1
    have hd : l.drop k = nthH l k :: l.drop (k + 1) := by rw [List.drop_eq_getElem_cons h1, nthH_eq h1]
    rw [hd] at hs
    simp only [sortedB] at hs
    have hso : (nthH l k).old.length ≤ 100000000 := hsh.1.1
    simp -implicitDefEqProofs (maxSteps := 99999999) (disch := omega) only [hks_get h1, hks_length, va, vg, vs, vh, Nat.reduceMul, ite_true, ite_false, eq_self, forall_const, implies_true, Nat.reduceAdd, Nat.reduceSub, Nat.reduceLT, Nat.reduceLeDiff, ↓reduceIte, reduceCtorEq, Int.reduceEq, Int.reduceLT, Int.reduceLE, Int.reduceGT, Int.reduceGE, Int.reduceAdd, Int.reduceSub, Int.reduceNeg, Int.reduceToNat, Nat.reduceBEq, Nat.reduceEqDiff]
    refine ⟨by omega, callR_ret (right_d _ _ _ _ hsh) ?_⟩
    cases hr : rightB (nthH l k) with
    | false =>
      rw [hr] at hs
      simp -implicitDefEqProofs (maxSteps := 99999999) (disch := omega) only [hs, va, vg, vs, vh, Nat.reduceMul, ite_true, ite_false, eq_self, forall_const, implies_true, Nat.reduceAdd, Nat.reduceSub, Nat.reduceLT, Nat.reduceLeDiff, ↓reduceIte, reduceCtorEq, Int.reduceEq, Int.reduceLT, Int.reduceLE, Int.reduceGT, Int.reduceGE, Int.reduceAdd, Int.reduceSub, Int.reduceNeg, Int.reduceToNat, Nat.reduceBEq, Nat.reduceEqDiff]
      exact weak_over (.cons ho) (.same trivial)
    | true =>
      obtain ⟨g1, g2⟩ := rightB_at hr
      rw [hr] at hs
      by_cases hlt : (nthH l k).at_ < least
      · simp -implicitDefEqProofs (maxSteps := 99999999) (disch := omega) only [hs, hlt, va, vg, vs, vh, Nat.reduceMul, ite_true, ite_false, eq_self, forall_const, implies_true, Nat.reduceAdd, Nat.reduceSub, Nat.reduceLT, Nat.reduceLeDiff, ↓reduceIte, reduceCtorEq, Int.reduceEq, Int.reduceLT, Int.reduceLE, Int.reduceGT, Int.reduceGE, Int.reduceAdd, Int.reduceSub, Int.reduceNeg, Int.reduceToNat, Nat.reduceBEq, Nat.reduceEqDiff]
        exact weak_over (.cons ho) (.same trivial)
      · simp -implicitDefEqProofs (maxSteps := 99999999) (disch := omega) only [hlt, va, vg, vs, vh, Nat.reduceMul, ite_true, ite_false, eq_self, forall_const, implies_true, Nat.reduceAdd, Nat.reduceSub, Nat.reduceLT, Nat.reduceLeDiff, ↓reduceIte, reduceCtorEq, Int.reduceEq, Int.reduceLT, Int.reduceLE, Int.reduceGT, Int.reduceGE, Int.reduceAdd, Int.reduceSub, Int.reduceNeg, Int.reduceToNat, Nat.reduceBEq, Nat.reduceEqDiff]
        refine ⟨⟨.cons ho, k + 1, (nthH l k).at_ + (nthH l k).old.length + 1, ⟨by omega, ?_, ?_, ?_⟩, by simp [Fr]⟩, by omega⟩
        · omega
        · omega
        · rw [hs]
          simp [hlt]
  · have hk' : k = l.length := by omega
    subst hk'
    rw [List.drop_length] at hs
    simp only [sortedB] at hs
    simp -implicitDefEqProofs (maxSteps := 99999999) (disch := omega) only [hs, va, vg, vs, vh, Nat.reduceMul, ite_true, ite_false, eq_self, forall_const, implies_true, Nat.reduceAdd, Nat.reduceSub, Nat.reduceLT, Nat.reduceLeDiff, ↓reduceIte, reduceCtorEq, Int.reduceEq, Int.reduceLT, Int.reduceLE, Int.reduceGT, Int.reduceGE, Int.reduceAdd, Int.reduceSub, Int.reduceNeg, Int.reduceToNat, Nat.reduceBEq, Nat.reduceEqDiff]
    exact weak_over ho (.same trivial)

theorem must_ok (e : Int) (H : AHeap) : D Try.prog 33 [.sc (.bool true), .sc (.int .i64 e)] H (.ret (.tup [])) H := by
  refine D_of_DK (Nat.le_refl _) (dk33 (E_of_ES ?_))
  simp -implicitDefEqProofs (maxSteps := 99999999) (disch := omega) only [ic33, va, vg, vs, vh, Nat.reduceMul, ite_true, ite_false, eq_self, forall_const, implies_true, Nat.reduceAdd, Nat.reduceSub, Nat.reduceLT, Nat.reduceLeDiff, ↓reduceIte, reduceCtorEq, Int.reduceEq, Int.reduceLT, Int.reduceLE, Int.reduceGT, Int.reduceGE, Int.reduceAdd, Int.reduceSub, Int.reduceNeg, Int.reduceToNat, Nat.reduceBEq, Nat.reduceEqDiff]
  exact Weak.refl _ _ _
theorem must_no (e : Int) (H : AHeap) : D Try.prog 33 [.sc (.bool false), .sc (.int .i64 e)] H (.pan (.ifc 25 (.sc (.int .i64 e)))) H := by
  refine D_of_DK (Nat.le_refl _) (dk33 (E_of_ES ?_))
  simp -implicitDefEqProofs (maxSteps := 99999999) (disch := omega) only [ic33, va, vg, vs, vh, Nat.reduceMul, ite_true, ite_false, eq_self, forall_const, implies_true, Nat.reduceAdd, Nat.reduceSub, Nat.reduceLT, Nat.reduceLeDiff, ↓reduceIte, reduceCtorEq, Int.reduceEq, Int.reduceLT, Int.reduceLE, Int.reduceGT, Int.reduceGE, Int.reduceAdd, Int.reduceSub, Int.reduceNeg, Int.reduceToNat, Nat.reduceBEq, Nat.reduceEqDiff]
  exact Weak.refl _ _ _
end Go.Proofs.Ytigmpablpmanpaa

/- put.add: lines are put behind what was put. -/
namespace Go.Proofs.Ytigmpablpmanpaa
open Go.RowKit
set_option maxRecDepth 100000
set_option linter.unusedVariables false
set_option linter.unusedSimpArgs false

abbrev OutV (l : List ByteArray) (id : Nat) : AV := OwnV 1 (strs l) id
abbrev OutB (l : List ByteArray) : Option ABlk := OwnB 1 9 (strs l)
abbrev killT (l : List ByteArray) (id : Nat) (H : AHeap) : AHeap := killO (strs l) id H
theorem strs_ne {l : List ByteArray} (h : l ≠ []) : strs l ≠ [] := by cases l <;> simp [strs] at h ⊢
def textBlk (o : AV) (l : List ByteArray) (a : Int) : ABlk := ⟨3, [.agg [o, .lst 1 (strs l) none, .sc (.int .i64 a)]], true, 60⟩

theorem add_d (H : AHeap) (idt io : Nat) (out ys l : List ByteArray) (a : Int) (room : Option (List AV)) (ht : AHeap.find H idt = some (textBlk (OutV out io) l a)) (ho : out ≠ [] → AHeap.find H io = OutB out) (hlen : out.length + ys.length ≤ 100000000) :
    D Try.prog 36 [.ptr 3 idt 0 0, .lst 1 (strs ys) room] H (.ret (.tup [])) (OutB (out ++ ys) :: AHeap.set (killT out io H) idt (some (textBlk (OutV (out ++ ys) H.length) l a))) := by
  have hti := AHeap.find_lt ht
  refine D_of_DK (by simp [AHeap.set_length, killO_length]) (dk36 (E_of_ES ?_))
  by_cases e0 : out = []
  · subst e0
    have hO : OutV [] io = .lst 0 [] (some []) := rfl
    rw [hO] at ht
    unfold textBlk at ht
    by_cases e1 : ys = []
    · subst e1
      simp -implicitDefEqProofs (maxSteps := 99999999) (disch := first | omega | (simp only [AHeap.set_length, killO_length, List.length_cons, List.length_nil]; first | done | omega)) only [ic36, ht, strs_nil, va, vg, vs, vw, Nat.reduceMul, ite_true, ite_false, eq_self, forall_const, implies_true, Nat.reduceAdd, Nat.reduceSub, Nat.reduceLT, Nat.reduceLeDiff, ↓reduceIte, reduceCtorEq, Int.reduceEq, Int.reduceLT, Int.reduceLE, Int.reduceGT, Int.reduceGE, Int.reduceAdd, Int.reduceSub, Int.reduceNeg, Int.reduceToNat, Nat.reduceBEq, Nat.reduceEqDiff]
      refine weak_gen [H.length] (by simp [AHeap.set_length, killO_length]) (by simp) (by simp) (fun id k hid hk => ?_) (fun i s k hs hk => ?_) (.same trivial)
      · have hk' : AHeap.find (AHeap.set H idt (some (textBlk (OutV [] H.length) l a))) id = some k := by
          rw [AHeap.find_cons (by simpa [killT, strs_nil, killO_nil, AHeap.set_length] using hid)] at hk
          simpa [killT, strs_nil, killO_nil] using hk
        left
        by_cases e : id = idt
        · subst e
          rw [AHeap.find_set_same hti] at hk'
          cases hk'
          exact ⟨ht, AHeap.find_set_same hti⟩
        · rw [AHeap.find_set_ne e] at hk'
          exact ⟨hk', by rw [AHeap.find_set_ne e]; exact hk'⟩
      · have : i = 0 := by
          have := (List.getElem?_eq_some_iff.1 hs).1
          simpa using this
        subst this
        have e : H.length + 0 = (AHeap.set (killT [] io H) idt (some (textBlk (OutV [] H.length) l a))).length := by simp [AHeap.set_length, killO_length]
        rw [e, AHeap.find_new] at hk
        simp [OutB, strs_nil, OwnB_nil] at hk
    · cases ys with
      | nil => exact (e1 rfl).elim
      | cons y r =>
        have hO2 : OutV ([] ++ y :: r) H.length = .vec 1 H.length 0 (r.length + 1) none := by simp [OutV, strs, OwnV]
        have hB2 : OutB ([] ++ y :: r) = some ⟨1, strs (y :: r), false, 9⟩ := rfl
        have hK : killT [] io H = H := rfl
        rw [hO2, hB2, hK]
        unfold textBlk
        simp only [List.length_cons, List.length_nil] at hlen
        simp -implicitDefEqProofs (maxSteps := 99999999) (disch := first | omega | (simp only [AHeap.set_length, killO_length, List.length_cons, List.length_nil]; first | done | omega)) only [ic36, ht, strs_length, strs_cons, va, vg, vs, vw, Nat.reduceMul, ite_true, ite_false, eq_self, forall_const, implies_true, Nat.reduceAdd, Nat.reduceSub, Nat.reduceLT, Nat.reduceLeDiff, ↓reduceIte, reduceCtorEq, Int.reduceEq, Int.reduceLT, Int.reduceLE, Int.reduceGT, Int.reduceGE, Int.reduceAdd, Int.reduceSub, Int.reduceNeg, Int.reduceToNat, Nat.reduceBEq, Nat.reduceEqDiff]
        refine ⟨by omega, Weak.refl _ _ _⟩
  · have hO : OutV out io = .vec 1 io 0 out.length none := by rw [OutV, OwnV_ne (strs_ne e0), strs_length]
    have hB : AHeap.find H io = some ⟨1, strs out, false, 9⟩ := by rw [ho e0, OutB, OwnB_ne (strs_ne e0)]
    have hio := AHeap.find_lt hB
    have hO2 : OutV (out ++ ys) H.length = .vec 1 H.length 0 (out.length + ys.length) none := by rw [OutV, OwnV_ne (strs_ne (by simp [e0])), strs_length, List.length_append]
    have hB2 : OutB (out ++ ys) = some ⟨1, strs out ++ strs ys, false, 9⟩ := by rw [OutB, OwnB_ne (strs_ne (by simp [e0])), strs_append]
    have hK : killT out io H = AHeap.set H io none := by rw [killT, killO_ne (strs_ne e0)]
    rw [hO] at ht
    unfold textBlk at ht ⊢
    have hne : idt ≠ io := fun e => by rw [e, hB] at ht; simp at ht
    rw [hO2, hB2, hK]
    simp -implicitDefEqProofs (maxSteps := 99999999) (disch := first | omega | (simp only [AHeap.set_length, killO_length, List.length_cons, List.length_nil]; first | done | omega)) only [ic36, ht, hB, strs_length, va, vg, vs, vw, Nat.reduceMul, ite_true, ite_false, eq_self, forall_const, implies_true, Nat.reduceAdd, Nat.reduceSub, Nat.reduceLT, Nat.reduceLeDiff, ↓reduceIte, reduceCtorEq, Int.reduceEq, Int.reduceLT, Int.reduceLE, Int.reduceGT, Int.reduceGE, Int.reduceAdd, Int.reduceSub, Int.reduceNeg, Int.reduceToNat, Nat.reduceBEq, Nat.reduceEqDiff]
    refine ⟨hlen, Weak.refl _ _ _⟩
end Go.Proofs.Ytigmpablpmanpaa

/- text.swap: a hunk's lines are exchanged. -/
namespace Go.Proofs.Ytigmpablpmanpaa
open Go.RowKit
set_option maxRecDepth 100000
set_option linter.unusedVariables false
set_option linter.unusedSimpArgs false

theorem callD_pan {P : Program} {A : List (List Nat)} {n i : Nat} {K : List AV → AHeap → Prop} {Kp : AV → AHeap → Prop} {d : Option Nat} {r : List IO'} {ts : List AV} {H H' : AHeap} {ld : List (Nat × Nat)} {hs : List (Nat × AHeap × AHeap)} {f : FuncId} {args : List AV} {v : AV} (h : D P f args H (.pan v) H') (hb : lastB A n i = true) (hk : Kp v H') : callD P A n K Kp i d f args r ts H ld hs := ⟨_, _, h, hb, hk⟩

theorem over_gen {H G : AHeap} {x y : AV} (h : Over H G) (hz : Gz G H.length [] x y) : Weak H (.pan x) G (.pan y) H := by
  obtain ⟨A, rfl⟩ := h.split
  exact weak_gen [] (by simp) (by simp) (by simp) (fun id k hid hk => .inl ⟨hk, by rw [AHeap.find_append hid]; exact hk⟩) (fun i s k hs => by simp at hs) hz

abbrev errno (e : Int) : AV := .ifc 25 (.sc (.int .i64 e))

theorem old_d (H : AHeap) (i2 i3 idt : Nat) (h : Hk) (o : AV) (l : List ByteArray) (a : Int) (ty2 ty3 : TypeId) (k : Nat) (s : ByteArray) (h2 : AHeap.find H i2 = some ⟨1, [.ptr 3 idt 0 0], true, ty2⟩) (h3 : AHeap.find H i3 = some ⟨3, [hk h], true, ty3⟩) (ht : AHeap.find H idt = some (textBlk o l a))
    (ha : 0 ≤ h.at_ ∧ h.at_ + k < l.length) (hl : l.length ≤ 100000000) : D Try.prog 48 [.sc (.int .i64 k), .sc (.string s), .ptr 1 i2 0 0, .ptr 3 i3 0 0] H (.ret (.sc (.bool (decide (nthS l (h.at_.toNat + k) = s))))) H := by
  unfold textBlk at ht
  refine D_of_DK (Nat.le_refl _) (dk48 (E_of_ES ?_))
  have e : (h.at_ + k).toNat = h.at_.toNat + k := by omega
  have hlt : h.at_.toNat + k < l.length := by omega
  simp -implicitDefEqProofs (maxSteps := 99999999) (disch := first | omega | (simp only [AHeap.set_length, killO_length, List.length_cons, List.length_nil]; first | done | omega)) only [ic48, h2, h3, ht, strs_length, e, strs_get hlt, va, vg, vs, vw, Nat.reduceMul, ite_true, ite_false, eq_self, forall_const, implies_true, Nat.reduceAdd, Nat.reduceSub, Nat.reduceLT, Nat.reduceLeDiff, ↓reduceIte, reduceCtorEq, Int.reduceEq, Int.reduceLT, Int.reduceLE, Int.reduceGT, Int.reduceGE, Int.reduceAdd, Int.reduceSub, Int.reduceNeg, Int.reduceToNat, Nat.reduceBEq, Nat.reduceEqDiff]
  exact ⟨by omega, Weak.refl _ _ _⟩

theorem swap_none (H : AHeap) (idt : Nat) (h : Hk) (o : AV) (l : List ByteArray) (a : Int) (ht : AHeap.find H idt = some (textBlk o l a)) (hl : l.length ≤ 100000000) (hs : h.short) (hr : 0 ≤ h.at_ ∧ h.at_ ≤ 1099511627776) (hno : ¬ (h.old.length ≤ l.length ∧ h.at_ ≤ (l.length : Int) - h.old.length)) :
    D Try.prog 35 [.ptr 3 idt 0 0, hk h] H (.pan (errno 6)) H := by
  have hti := AHeap.find_lt ht
  unfold textBlk at ht
  have ho := hs.1.1
  refine D_of_DK (Nat.le_refl _) (dk35 (E_of_ES ?_))
  simp only [ic35, ux]
  refine ES_seq_gen fun L hL => ?_
  simp -implicitDefEqProofs (maxSteps := 99999999) (disch := first | omega | (simp only [AHeap.set_length, killO_length, List.length_cons, List.length_nil]; first | done | omega)) only [va, vg, vs, vw, Nat.reduceMul, ite_true, ite_false, eq_self, forall_const, implies_true, Nat.reduceAdd, Nat.reduceSub, Nat.reduceLT, Nat.reduceLeDiff, ↓reduceIte, reduceCtorEq, Int.reduceEq, Int.reduceLT, Int.reduceLE, Int.reduceGT, Int.reduceGE, Int.reduceAdd, Int.reduceSub, Int.reduceNeg, Int.reduceToNat, Nat.reduceBEq, Nat.reduceEqDiff]
  refine hL _ _ ?_
  clear hL
  refine ES_seq_gen fun L hL => ?_
  by_cases c0 : h.old.length ≤ l.length
  · have c1 : ¬ h.at_ ≤ (l.length : Int) - h.old.length := fun c1 => hno ⟨c0, c1⟩
    have c0' : (h.old.length : Int) ≤ l.length := by omega
    simp -implicitDefEqProofs (maxSteps := 99999999) (disch := first | omega | (simp only [AHeap.set_length, killO_length, List.length_cons, List.length_nil]; first | done | omega)) only [ht, strs_length, c0', c1, va, vg, vs, vw, Nat.reduceMul, ite_true, ite_false, eq_self, forall_const, implies_true, Nat.reduceAdd, Nat.reduceSub, Nat.reduceLT, Nat.reduceLeDiff, ↓reduceIte, reduceCtorEq, Int.reduceEq, Int.reduceLT, Int.reduceLE, Int.reduceGT, Int.reduceGE, Int.reduceAdd, Int.reduceSub, Int.reduceNeg, Int.reduceToNat, Nat.reduceBEq, Nat.reduceEqDiff]
    exact callD_pan (must_no 6 _) (by decide) (over_gen (.cons (.cons .refl)) (.same trivial))
  · have c0' : ¬ (h.old.length : Int) ≤ l.length := by omega
    simp -implicitDefEqProofs (maxSteps := 99999999) (disch := first | omega | (simp only [AHeap.set_length, killO_length, List.length_cons, List.length_nil]; first | done | omega)) only [ht, strs_length, c0', va, vg, vs, vw, Nat.reduceMul, ite_true, ite_false, eq_self, forall_const, implies_true, Nat.reduceAdd, Nat.reduceSub, Nat.reduceLT, Nat.reduceLeDiff, ↓reduceIte, reduceCtorEq, Int.reduceEq, Int.reduceLT, Int.reduceLE, Int.reduceGT, Int.reduceGE, Int.reduceAdd, Int.reduceSub, Int.reduceNeg, Int.reduceToNat, Nat.reduceBEq, Nat.reduceEqDiff]
    exact callD_pan (must_no 6 _) (by decide) (over_gen (.cons (.cons .refl)) (.same trivial))

theorem strs_gz {H : AHeap} {n : Nat} {src : List Nat} : ∀ {l : List ByteArray}, GzL H n src (strs l) (strs l)
  | [] => .nil
  | _ :: _ => .cons (.same trivial) strs_gz
theorem strs_part (l : List ByteArray) (a b : Nat) : ((strs l).take b).drop a = strs ((l.take b).drop a) := by simp [strs, List.map_drop, List.map_take]

theorem text_weak {H F : AHeap} {idt io s : Nat} {out o2 l : List ByteArray} {a : Int} (hti : idt < H.length) (hs : H.length ≤ s) (h1 : ∀ id, id < H.length → id ≠ idt → (out = [] ∨ id ≠ io) → AHeap.find F id = AHeap.find H id) (h2 : AHeap.find F idt = some (textBlk (OutV o2 s) l a)) (h3 : o2 ≠ [] → AHeap.find F s = OutB o2) :
    Weak H (.ret (.tup [])) F (.ret (.tup [])) (OutB o2 :: AHeap.set (killT out io H) idt (some (textBlk (OutV o2 H.length) l a))) := by
  refine weak_gen [s] (by simp [AHeap.set_length, killO_length]) (by simp) (by simpa using hs) (fun id k hid hk => ?_) (fun i t k ht hk => ?_) (.same trivial)
  · rw [find_past (by simpa [AHeap.set_length, killO_length] using hid)] at hk
    by_cases e : id = idt
    · subst e
      rw [AHeap.find_set_same (by rw [killO_length]; exact hti)] at hk
      cases hk
      right
      refine ⟨_, h2, rfl, rfl, fun h => h, ?_⟩
      exact .cons (.agg (.cons (OwnV_gz fun _ => newId_one hs) (.cons (.lst strs_gz) (.cons (.same trivial) .nil)))) .nil
    · rw [AHeap.find_set_ne e] at hk
      left
      by_cases eo : out = []
      · subst eo
        exact ⟨hk, by rw [h1 id hid e (.inl rfl)]; exact hk⟩
      · rw [killT, killO_ne (strs_ne eo)] at hk
        obtain ⟨n1, n2⟩ := find_kill hk
        exact ⟨n2, by rw [h1 id hid e (.inr n1)]; exact n2⟩
  · have : i = 0 := by
      have := (List.getElem?_eq_some_iff.1 ht).1
      simpa using this
    subst this
    simp at ht
    subst ht
    rw [find_top (by simp [AHeap.set_length, killO_length])] at hk
    obtain ⟨n1, rfl⟩ := OwnB_some hk
    have n2 : o2 ≠ [] := fun e => n1 (by rw [e]; rfl)
    refine ⟨_, by rw [h3 n2]; exact hk, rfl, rfl, fun h => h, strs_gz⟩

theorem swap_ok (H : AHeap) (idt io : Nat) (h : Hk) (out l : List ByteArray) (a : Int) (ht : AHeap.find H idt = some (textBlk (OutV out io) l a)) (ho : out ≠ [] → AHeap.find H io = OutB out) (hne : idt ≠ io) (hio : io < H.length) (hl : l.length ≤ 100000000) (hs : h.short) (hr : 0 ≤ h.at_ ∧ h.at_ ≤ 1099511627776) (hfit : h.old.length ≤ l.length ∧ h.at_ ≤ (l.length : Int) - h.old.length)
    (hm : ∀ j, j < h.old.length → nthS l (h.at_.toNat + j) = nthS h.old j) (ha : 0 ≤ a ∧ a ≤ h.at_) (hlen : out.length + (h.at_.toNat - a.toNat) + h.new.length ≤ 100000000) :
    D Try.prog 35 [.ptr 3 idt 0 0, hk h] H (.ret (.tup [])) (OutB (out ++ (l.take h.at_.toNat).drop a.toNat ++ h.new) :: AHeap.set (killT out io H) idt (some (textBlk (OutV (out ++ (l.take h.at_.toNat).drop a.toNat ++ h.new) H.length) l (h.at_ + h.old.length)))) := by
  have hti := AHeap.find_lt ht
  have ht0 := ht
  unfold textBlk at ht
  have hol := hs.1.1
  obtain ⟨c0, c1⟩ := hfit
  have c0' : (h.old.length : Int) ≤ l.length := by omega
  refine D_of_DK (by simp [AHeap.set_length, killO_length]) (dk35 (E_of_ES ?_))
  simp only [ic35, ux]
  refine ES_seq_gen fun L hL => ?_
  simp -implicitDefEqProofs (maxSteps := 99999999) (disch := first | omega | (simp only [AHeap.set_length, killO_length, List.length_cons, List.length_nil]; first | done | omega)) only [va, vg, vs, vw, Nat.reduceMul, ite_true, ite_false, eq_self, forall_const, implies_true, Nat.reduceAdd, Nat.reduceSub, Nat.reduceLT, Nat.reduceLeDiff, ↓reduceIte, reduceCtorEq, Int.reduceEq, Int.reduceLT, Int.reduceLE, Int.reduceGT, Int.reduceGE, Int.reduceAdd, Int.reduceSub, Int.reduceNeg, Int.reduceToNat, Nat.reduceBEq, Nat.reduceEqDiff]
  refine hL _ _ ?_
  clear hL
  refine ES_seq_gen fun L hL => ?_
  simp -implicitDefEqProofs (maxSteps := 99999999) (disch := first | omega | (simp only [AHeap.set_length, killO_length, List.length_cons, List.length_nil]; first | done | omega)) only [ht, strs_length, c0', c1, va, vg, vs, vw, Nat.reduceMul, ite_true, ite_false, eq_self, forall_const, implies_true, Nat.reduceAdd, Nat.reduceSub, Nat.reduceLT, Nat.reduceLeDiff, ↓reduceIte, reduceCtorEq, Int.reduceEq, Int.reduceLT, Int.reduceLE, Int.reduceGT, Int.reduceGE, Int.reduceAdd, Int.reduceSub, Int.reduceNeg, Int.reduceToNat, Nat.reduceBEq, Nat.reduceEqDiff]
  refine callD_same (must_ok 6 _) ?_
  simp -implicitDefEqProofs (maxSteps := 99999999) (disch := first | omega | (simp only [AHeap.set_length, killO_length, List.length_cons, List.length_nil]; first | done | omega)) only [va, vg, vs, vw, Nat.reduceMul, ite_true, ite_false, eq_self, forall_const, implies_true, Nat.reduceAdd, Nat.reduceSub, Nat.reduceLT, Nat.reduceLeDiff, ↓reduceIte, reduceCtorEq, Int.reduceEq, Int.reduceLT, Int.reduceLE, Int.reduceGT, Int.reduceGE, Int.reduceAdd, Int.reduceSub, Int.reduceNeg, Int.reduceToNat, Nat.reduceBEq, Nat.reduceEqDiff]
  refine hL _ _ ?_
  clear hL
  refine ES_seq_gen fun L hL => ?_
  simp -implicitDefEqProofs (maxSteps := 99999999) (disch := first | omega | (simp only [AHeap.set_length, killO_length, List.length_cons, List.length_nil]; first | done | omega)) only [strs_length, va, vg, vs, vw, Nat.reduceMul, ite_true, ite_false, eq_self, forall_const, implies_true, Nat.reduceAdd, Nat.reduceSub, Nat.reduceLT, Nat.reduceLeDiff, ↓reduceIte, reduceCtorEq, Int.reduceEq, Int.reduceLT, Int.reduceLE, Int.reduceGT, Int.reduceGE, Int.reduceAdd, Int.reduceSub, Int.reduceNeg, Int.reduceToNat, Nat.reduceBEq, Nat.reduceEqDiff]
  refine hL _ _ ?_
  clear hL
  refine ES_seq_gen fun L hL => ?_
  simp -implicitDefEqProofs (maxSteps := 99999999) (disch := first | omega | (simp only [AHeap.set_length, killO_length, List.length_cons, List.length_nil]; first | done | omega)) only [strs_length, va, vg, vs, vw, Nat.reduceMul, ite_true, ite_false, eq_self, forall_const, implies_true, Nat.reduceAdd, Nat.reduceSub, Nat.reduceLT, Nat.reduceLeDiff, ↓reduceIte, reduceCtorEq, Int.reduceEq, Int.reduceLT, Int.reduceLE, Int.reduceGT, Int.reduceGE, Int.reduceAdd, Int.reduceSub, Int.reduceNeg, Int.reduceToNat, Nat.reduceBEq, Nat.reduceEqDiff]
  refine hL _ _ ?_
  clear hL
  refine ES_seq_gen fun L hL => ?_
  simp -implicitDefEqProofs (maxSteps := 99999999) (disch := first | omega | (simp only [AHeap.set_length, killO_length, List.length_cons, List.length_nil]; first | done | omega)) only [strs_length, va, vg, vs, vw, Nat.reduceMul, ite_true, ite_false, eq_self, forall_const, implies_true, Nat.reduceAdd, Nat.reduceSub, Nat.reduceLT, Nat.reduceLeDiff, ↓reduceIte, reduceCtorEq, Int.reduceEq, Int.reduceLT, Int.reduceLE, Int.reduceGT, Int.reduceGE, Int.reduceAdd, Int.reduceSub, Int.reduceNeg, Int.reduceToNat, Nat.reduceBEq, Nat.reduceEqDiff]
  have f2 : AHeap.find (some ⟨3, [hk h], true, 51⟩ :: some ⟨1, [.ptr 3 idt 0 0], true, 56⟩ :: H) H.length = some ⟨1, [.ptr 3 idt 0 0], true, 56⟩ := by rw [AHeap.find_cons (by simp), AHeap.find_new]
  have f3 : AHeap.find (some ⟨3, [hk h], true, 51⟩ :: some ⟨1, [.ptr 3 idt 0 0], true, 56⟩ :: H) (H.length + 1) = some ⟨3, [hk h], true, 51⟩ := AHeap.find_new (H := some ⟨1, [.ptr 3 idt 0 0], true, 56⟩ :: H)
  have ft : AHeap.find (some ⟨3, [hk h], true, 51⟩ :: some ⟨1, [.ptr 3 idt 0 0], true, 56⟩ :: H) idt = some (textBlk (OutV out io) l a) := by rw [AHeap.find_cons (by simp; omega), AHeap.find_cons hti]; exact ht0
  have fo : out ≠ [] → AHeap.find (some ⟨3, [hk h], true, 51⟩ :: some ⟨1, [.ptr 3 idt 0 0], true, 56⟩ :: H) io = OutB out := fun e => by rw [AHeap.find_cons (by simp; omega), AHeap.find_cons hio]; exact ho e
  have hpl : ((l.take h.at_.toNat).drop a.toNat).length ≤ h.at_.toNat - a.toNat := by simp; omega
  refine ES_loop (fun ts H' => H' = some ⟨3, [hk h], true, 51⟩ :: some ⟨1, [.ptr 3 idt 0 0], true, 56⟩ :: H ∧ ∃ k : Nat, k ≤ h.old.length ∧ Fr [none, none, some (.ptr 1 H.length 0 0), some (.ptr 3 (H.length + 1) 0 0), some (.sc (.int .i64 (h.at_ + h.old.length))), some (.fn (.func 48) [] [.ptr 1 H.length 0 0, .ptr 3 (H.length + 1) 0 0]), none, none, none, none, none, none, none, none, none, none, none, none, none, none, none, none, none, none, none, none, none, none, none, none, none, none, none, none, none, none, none, none, none, none, some (.lst 1 (strs h.old) none), some (.sc (.int .i64 h.old.length)), some (.sc (.int .i64 k)), none, none, none, none, none, none, none, none, none, none, none, none, none, none, none, none, none, none, none, none, none, none, none, none, none, none, none, none, none, none, none, none, none, none, none] ts) (fun ts _ => h.old.length - (intV (ts.getD 42 .top)).toNat) ?_ ?_
  · exact ⟨rfl, 0, Nat.zero_le _, by simp [Fr]⟩
  rintro ts _ ⟨rfl, k, hk0, hfr⟩
  obtain ⟨js, rfl⟩ := hfr.opened
  clear hfr
  simp -implicitDefEqProofs (maxSteps := 99999999) (disch := first | omega | (simp only [AHeap.set_length, killO_length, List.length_cons, List.length_nil]; first | done | omega)) only [mk, va, vg, vs, vw, Nat.reduceMul, ite_true, ite_false, eq_self, forall_const, implies_true, Nat.reduceAdd, Nat.reduceSub, Nat.reduceLT, Nat.reduceLeDiff, ↓reduceIte, reduceCtorEq, Int.reduceEq, Int.reduceLT, Int.reduceLE, Int.reduceGT, Int.reduceGE, Int.reduceAdd, Int.reduceSub, Int.reduceNeg, Int.reduceToNat, Nat.reduceBEq, Nat.reduceEqDiff]
  refine condR_if (fun hlt => ?_) (fun hge => ?_)
  · have h1 : k < h.old.length := by omega
    simp -implicitDefEqProofs (maxSteps := 99999999) (disch := first | omega | (simp only [AHeap.set_length, killO_length, List.length_cons, List.length_nil]; first | done | omega)) only [strs_get h1, strs_length, va, vg, vs, vw, Nat.reduceMul, ite_true, ite_false, eq_self, forall_const, implies_true, Nat.reduceAdd, Nat.reduceSub, Nat.reduceLT, Nat.reduceLeDiff, ↓reduceIte, reduceCtorEq, Int.reduceEq, Int.reduceLT, Int.reduceLE, Int.reduceGT, Int.reduceGE, Int.reduceAdd, Int.reduceSub, Int.reduceNeg, Int.reduceToNat, Nat.reduceBEq, Nat.reduceEqDiff]
    refine ⟨by omega, by kernel_rfl, callR_ret (old_d _ _ _ idt h (OutV out io) l a _ _ k _ f2 f3 ft ⟨hr.1, by omega⟩ hl) ?_⟩
    simp -implicitDefEqProofs (maxSteps := 99999999) (disch := first | omega | (simp only [AHeap.set_length, killO_length, List.length_cons, List.length_nil]; first | done | omega)) only [hm k h1, va, vg, vs, vw, Nat.reduceMul, ite_true, ite_false, eq_self, forall_const, implies_true, Nat.reduceAdd, Nat.reduceSub, Nat.reduceLT, Nat.reduceLeDiff, ↓reduceIte, reduceCtorEq, Int.reduceEq, Int.reduceLT, Int.reduceLE, Int.reduceGT, Int.reduceGE, Int.reduceAdd, Int.reduceSub, Int.reduceNeg, Int.reduceToNat, Nat.reduceBEq, Nat.reduceEqDiff]
    refine callR_ret (must_ok 121 _) ?_
    simp -implicitDefEqProofs (maxSteps := 99999999) (disch := first | omega | (simp only [AHeap.set_length, killO_length, List.length_cons, List.length_nil]; first | done | omega)) only [va, vg, vs, vw, Nat.reduceMul, ite_true, ite_false, eq_self, forall_const, implies_true, Nat.reduceAdd, Nat.reduceSub, Nat.reduceLT, Nat.reduceLeDiff, ↓reduceIte, reduceCtorEq, Int.reduceEq, Int.reduceLT, Int.reduceLE, Int.reduceGT, Int.reduceGE, Int.reduceAdd, Int.reduceSub, Int.reduceNeg, Int.reduceToNat, Nat.reduceBEq, Nat.reduceEqDiff]
    exact ⟨⟨k + 1, by omega, by simp [Fr]⟩, by omega⟩
  simp -implicitDefEqProofs (maxSteps := 99999999) (disch := first | omega | (simp only [AHeap.set_length, killO_length, List.length_cons, List.length_nil]; first | done | omega)) only [va, vg, vs, vw, Nat.reduceMul, ite_true, ite_false, eq_self, forall_const, implies_true, Nat.reduceAdd, Nat.reduceSub, Nat.reduceLT, Nat.reduceLeDiff, ↓reduceIte, reduceCtorEq, Int.reduceEq, Int.reduceLT, Int.reduceLE, Int.reduceGT, Int.reduceGE, Int.reduceAdd, Int.reduceSub, Int.reduceNeg, Int.reduceToNat, Nat.reduceBEq, Nat.reduceEqDiff]
  refine hL _ _ ?_
  clear hL
  refine ES_seq_gen fun L hL => ?_
  simp -implicitDefEqProofs (maxSteps := 99999999) (disch := first | omega | (simp only [AHeap.set_length, killO_length, List.length_cons, List.length_nil]; first | done | omega)) only [ht, strs_part, va, vg, vs, vw, Nat.reduceMul, ite_true, ite_false, eq_self, forall_const, implies_true, Nat.reduceAdd, Nat.reduceSub, Nat.reduceLT, Nat.reduceLeDiff, ↓reduceIte, reduceCtorEq, Int.reduceEq, Int.reduceLT, Int.reduceLE, Int.reduceGT, Int.reduceGE, Int.reduceAdd, Int.reduceSub, Int.reduceNeg, Int.reduceToNat, Nat.reduceBEq, Nat.reduceEqDiff]
  refine ⟨by omega, callD_ret (add_d _ idt io out _ l a none ft fo (by omega)) (by simp -implicitDefEqProofs (maxSteps := 99999999) (disch := first | omega | (simp only [AHeap.set_length, killO_length, List.length_cons, List.length_nil]; first | done | omega)) only [va, vg, vs, vw, Nat.reduceMul, ite_true, ite_false, eq_self, forall_const, implies_true, Nat.reduceAdd, Nat.reduceSub, Nat.reduceLT, Nat.reduceLeDiff, ↓reduceIte, reduceCtorEq, Int.reduceEq, Int.reduceLT, Int.reduceLE, Int.reduceGT, Int.reduceGE, Int.reduceAdd, Int.reduceSub, Int.reduceNeg, Int.reduceToNat, Nat.reduceBEq, Nat.reduceEqDiff]) ?_⟩
  simp -implicitDefEqProofs (maxSteps := 99999999) (disch := first | omega | (simp only [AHeap.set_length, killO_length, List.length_cons, List.length_nil]; first | done | omega)) only [va, vg, vs, vw, Nat.reduceMul, ite_true, ite_false, eq_self, forall_const, implies_true, Nat.reduceAdd, Nat.reduceSub, Nat.reduceLT, Nat.reduceLeDiff, ↓reduceIte, reduceCtorEq, Int.reduceEq, Int.reduceLT, Int.reduceLE, Int.reduceGT, Int.reduceGE, Int.reduceAdd, Int.reduceSub, Int.reduceNeg, Int.reduceToNat, Nat.reduceBEq, Nat.reduceEqDiff]
  refine hL _ _ ?_
  clear hL
  refine ES_seq_gen fun L hL => ?_
  unfold textBlk
  simp -implicitDefEqProofs (maxSteps := 99999999) (disch := first | omega | (simp only [AHeap.set_length, killO_length, List.length_cons, List.length_nil]; first | done | omega)) only [va, vg, vs, vw, Nat.reduceMul, ite_true, ite_false, eq_self, forall_const, implies_true, Nat.reduceAdd, Nat.reduceSub, Nat.reduceLT, Nat.reduceLeDiff, ↓reduceIte, reduceCtorEq, Int.reduceEq, Int.reduceLT, Int.reduceLE, Int.reduceGT, Int.reduceGE, Int.reduceAdd, Int.reduceSub, Int.reduceNeg, Int.reduceToNat, Nat.reduceBEq, Nat.reduceEqDiff]
  have g1 : AHeap.find (OutB (out ++ List.drop a.toNat (List.take h.at_.toNat l)) :: some ⟨3, [hk h], true, 51⟩ :: some ⟨1, [.ptr 3 idt 0 0], true, 56⟩ :: (killO (strs out) io H).set idt (some (textBlk (OutV (out ++ List.drop a.toNat (List.take h.at_.toNat l)) (H.length + 2)) l a))) idt = some (textBlk (OutV (out ++ List.drop a.toNat (List.take h.at_.toNat l)) (H.length + 2)) l a) := by
    rw [find_past (by simp [AHeap.set_length, killO_length]; omega), find_past (by simp [AHeap.set_length, killO_length]; omega), find_past (by simp [AHeap.set_length, killO_length]; omega), AHeap.find_set_same (by rw [killO_length]; exact hti)]
  have g2 : out ++ List.drop a.toNat (List.take h.at_.toNat l) ≠ [] → AHeap.find (OutB (out ++ List.drop a.toNat (List.take h.at_.toNat l)) :: some ⟨3, [hk h], true, 51⟩ :: some ⟨1, [.ptr 3 idt 0 0], true, 56⟩ :: (killO (strs out) io H).set idt (some (textBlk (OutV (out ++ List.drop a.toNat (List.take h.at_.toNat l)) (H.length + 2)) l a))) (H.length + 2) = OutB (out ++ List.drop a.toNat (List.take h.at_.toNat l)) := fun _ => find_top (by simp [AHeap.set_length, killO_length])
  refine callD_ret (add_d _ idt (H.length + 2) _ h.new l a none g1 g2 ?_) (by simp -implicitDefEqProofs (maxSteps := 99999999) (disch := first | omega | (simp only [AHeap.set_length, killO_length, List.length_cons, List.length_nil]; first | done | omega)) only [va, vg, vs, vw, Nat.reduceMul, ite_true, ite_false, eq_self, forall_const, implies_true, Nat.reduceAdd, Nat.reduceSub, Nat.reduceLT, Nat.reduceLeDiff, ↓reduceIte, reduceCtorEq, Int.reduceEq, Int.reduceLT, Int.reduceLE, Int.reduceGT, Int.reduceGE, Int.reduceAdd, Int.reduceSub, Int.reduceNeg, Int.reduceToNat, Nat.reduceBEq, Nat.reduceEqDiff]) ?_
  · simp only [List.length_append]; omega
  simp -implicitDefEqProofs (maxSteps := 99999999) (disch := first | omega | (simp only [AHeap.set_length, killO_length, List.length_cons, List.length_nil]; first | done | omega)) only [va, vg, vs, vw, Nat.reduceMul, ite_true, ite_false, eq_self, forall_const, implies_true, Nat.reduceAdd, Nat.reduceSub, Nat.reduceLT, Nat.reduceLeDiff, ↓reduceIte, reduceCtorEq, Int.reduceEq, Int.reduceLT, Int.reduceLE, Int.reduceGT, Int.reduceGE, Int.reduceAdd, Int.reduceSub, Int.reduceNeg, Int.reduceToNat, Nat.reduceBEq, Nat.reduceEqDiff]
  refine hL _ _ ?_
  clear hL
  unfold textBlk
  simp -implicitDefEqProofs (maxSteps := 99999999) (disch := first | omega | (simp only [AHeap.set_length, killO_length, List.length_cons, List.length_nil]; first | done | omega)) only [va, vg, vs, vw, Nat.reduceMul, ite_true, ite_false, eq_self, forall_const, implies_true, Nat.reduceAdd, Nat.reduceSub, Nat.reduceLT, Nat.reduceLeDiff, ↓reduceIte, reduceCtorEq, Int.reduceEq, Int.reduceLT, Int.reduceLE, Int.reduceGT, Int.reduceGE, Int.reduceAdd, Int.reduceSub, Int.reduceNeg, Int.reduceToNat, Nat.reduceBEq, Nat.reduceEqDiff]
  refine text_weak (s := H.length + 3) hti (by omega) (fun id hid n1 n2 => ?_) ?_ (fun _ => ?_)
  · have n3 : id ≠ H.length + 2 := by omega
    rcases n2 with rfl | n2
    · simp -implicitDefEqProofs (maxSteps := 99999999) (disch := first | omega | (simp only [AHeap.set_length, killO_length, List.length_cons, List.length_nil]; first | done | omega)) only [strs_nil, killO_nil, va, vg, vs, vw, Nat.reduceMul, ite_true, ite_false, eq_self, forall_const, implies_true, Nat.reduceAdd, Nat.reduceSub, Nat.reduceLT, Nat.reduceLeDiff, ↓reduceIte, reduceCtorEq, Int.reduceEq, Int.reduceLT, Int.reduceLE, Int.reduceGT, Int.reduceGE, Int.reduceAdd, Int.reduceSub, Int.reduceNeg, Int.reduceToNat, Nat.reduceBEq, Nat.reduceEqDiff]
    · simp -implicitDefEqProofs (maxSteps := 99999999) (disch := first | omega | (simp only [AHeap.set_length, killO_length, List.length_cons, List.length_nil]; first | done | omega)) only [va, vg, vs, vw, Nat.reduceMul, ite_true, ite_false, eq_self, forall_const, implies_true, Nat.reduceAdd, Nat.reduceSub, Nat.reduceLT, Nat.reduceLeDiff, ↓reduceIte, reduceCtorEq, Int.reduceEq, Int.reduceLT, Int.reduceLE, Int.reduceGT, Int.reduceGE, Int.reduceAdd, Int.reduceSub, Int.reduceNeg, Int.reduceToNat, Nat.reduceBEq, Nat.reduceEqDiff]
  · have n3 : idt ≠ H.length + 2 := by omega
    unfold textBlk
    simp -implicitDefEqProofs (maxSteps := 99999999) (disch := first | omega | (simp only [AHeap.set_length, killO_length, List.length_cons, List.length_nil]; first | done | omega)) only [va, vg, vs, vw, Nat.reduceMul, ite_true, ite_false, eq_self, forall_const, implies_true, Nat.reduceAdd, Nat.reduceSub, Nat.reduceLT, Nat.reduceLeDiff, ↓reduceIte, reduceCtorEq, Int.reduceEq, Int.reduceLT, Int.reduceLE, Int.reduceGT, Int.reduceGE, Int.reduceAdd, Int.reduceSub, Int.reduceNeg, Int.reduceToNat, Nat.reduceBEq, Nat.reduceEqDiff]
  · exact find_top (by simp [AHeap.set_length, killO_length])

theorem swap_old (H : AHeap) (idt : Nat) (h : Hk) (o : AV) (l : List ByteArray) (a : Int) (ht : AHeap.find H idt = some (textBlk o l a)) (hl : l.length ≤ 100000000) (hs : h.short) (hr : 0 ≤ h.at_ ∧ h.at_ ≤ 1099511627776) (hfit : h.old.length ≤ l.length ∧ h.at_ ≤ (l.length : Int) - h.old.length)
    (hm : ∃ j, j < h.old.length ∧ nthS l (h.at_.toNat + j) ≠ nthS h.old j) : D Try.prog 35 [.ptr 3 idt 0 0, hk h] H (.pan (errno 121)) H := by
  have hti := AHeap.find_lt ht
  have ht0 := ht
  unfold textBlk at ht
  have hol := hs.1.1
  obtain ⟨c0, c1⟩ := hfit
  have c0' : (h.old.length : Int) ≤ l.length := by omega
  refine D_of_DK (Nat.le_refl _) (dk35 (E_of_ES ?_))
  simp only [ic35, ux]
  refine ES_seq_gen fun L hL => ?_
  simp -implicitDefEqProofs (maxSteps := 99999999) (disch := first | omega | (simp only [AHeap.set_length, killO_length, List.length_cons, List.length_nil]; first | done | omega)) only [va, vg, vs, vw, Nat.reduceMul, ite_true, ite_false, eq_self, forall_const, implies_true, Nat.reduceAdd, Nat.reduceSub, Nat.reduceLT, Nat.reduceLeDiff, ↓reduceIte, reduceCtorEq, Int.reduceEq, Int.reduceLT, Int.reduceLE, Int.reduceGT, Int.reduceGE, Int.reduceAdd, Int.reduceSub, Int.reduceNeg, Int.reduceToNat, Nat.reduceBEq, Nat.reduceEqDiff]
  refine hL _ _ ?_
  clear hL
  refine ES_seq_gen fun L hL => ?_
  simp -implicitDefEqProofs (maxSteps := 99999999) (disch := first | omega | (simp only [AHeap.set_length, killO_length, List.length_cons, List.length_nil]; first | done | omega)) only [ht, strs_length, c0', c1, va, vg, vs, vw, Nat.reduceMul, ite_true, ite_false, eq_self, forall_const, implies_true, Nat.reduceAdd, Nat.reduceSub, Nat.reduceLT, Nat.reduceLeDiff, ↓reduceIte, reduceCtorEq, Int.reduceEq, Int.reduceLT, Int.reduceLE, Int.reduceGT, Int.reduceGE, Int.reduceAdd, Int.reduceSub, Int.reduceNeg, Int.reduceToNat, Nat.reduceBEq, Nat.reduceEqDiff]
  refine callD_same (must_ok 6 _) ?_
  simp -implicitDefEqProofs (maxSteps := 99999999) (disch := first | omega | (simp only [AHeap.set_length, killO_length, List.length_cons, List.length_nil]; first | done | omega)) only [va, vg, vs, vw, Nat.reduceMul, ite_true, ite_false, eq_self, forall_const, implies_true, Nat.reduceAdd, Nat.reduceSub, Nat.reduceLT, Nat.reduceLeDiff, ↓reduceIte, reduceCtorEq, Int.reduceEq, Int.reduceLT, Int.reduceLE, Int.reduceGT, Int.reduceGE, Int.reduceAdd, Int.reduceSub, Int.reduceNeg, Int.reduceToNat, Nat.reduceBEq, Nat.reduceEqDiff]
  refine hL _ _ ?_
  clear hL
  refine ES_seq_gen fun L hL => ?_
  simp -implicitDefEqProofs (maxSteps := 99999999) (disch := first | omega | (simp only [AHeap.set_length, killO_length, List.length_cons, List.length_nil]; first | done | omega)) only [strs_length, va, vg, vs, vw, Nat.reduceMul, ite_true, ite_false, eq_self, forall_const, implies_true, Nat.reduceAdd, Nat.reduceSub, Nat.reduceLT, Nat.reduceLeDiff, ↓reduceIte, reduceCtorEq, Int.reduceEq, Int.reduceLT, Int.reduceLE, Int.reduceGT, Int.reduceGE, Int.reduceAdd, Int.reduceSub, Int.reduceNeg, Int.reduceToNat, Nat.reduceBEq, Nat.reduceEqDiff]
  refine hL _ _ ?_
  clear hL
  refine ES_seq_gen fun L hL => ?_
  simp -implicitDefEqProofs (maxSteps := 99999999) (disch := first | omega | (simp only [AHeap.set_length, killO_length, List.length_cons, List.length_nil]; first | done | omega)) only [strs_length, va, vg, vs, vw, Nat.reduceMul, ite_true, ite_false, eq_self, forall_const, implies_true, Nat.reduceAdd, Nat.reduceSub, Nat.reduceLT, Nat.reduceLeDiff, ↓reduceIte, reduceCtorEq, Int.reduceEq, Int.reduceLT, Int.reduceLE, Int.reduceGT, Int.reduceGE, Int.reduceAdd, Int.reduceSub, Int.reduceNeg, Int.reduceToNat, Nat.reduceBEq, Nat.reduceEqDiff]
  refine hL _ _ ?_
  clear hL
  refine ES_seq_gen fun L hL => ?_
  simp -implicitDefEqProofs (maxSteps := 99999999) (disch := first | omega | (simp only [AHeap.set_length, killO_length, List.length_cons, List.length_nil]; first | done | omega)) only [strs_length, va, vg, vs, vw, Nat.reduceMul, ite_true, ite_false, eq_self, forall_const, implies_true, Nat.reduceAdd, Nat.reduceSub, Nat.reduceLT, Nat.reduceLeDiff, ↓reduceIte, reduceCtorEq, Int.reduceEq, Int.reduceLT, Int.reduceLE, Int.reduceGT, Int.reduceGE, Int.reduceAdd, Int.reduceSub, Int.reduceNeg, Int.reduceToNat, Nat.reduceBEq, Nat.reduceEqDiff]
  have f2 : AHeap.find (some ⟨3, [hk h], true, 51⟩ :: some ⟨1, [.ptr 3 idt 0 0], true, 56⟩ :: H) H.length = some ⟨1, [.ptr 3 idt 0 0], true, 56⟩ := by rw [AHeap.find_cons (by simp), AHeap.find_new]
  have f3 : AHeap.find (some ⟨3, [hk h], true, 51⟩ :: some ⟨1, [.ptr 3 idt 0 0], true, 56⟩ :: H) (H.length + 1) = some ⟨3, [hk h], true, 51⟩ := AHeap.find_new (H := some ⟨1, [.ptr 3 idt 0 0], true, 56⟩ :: H)
  have ft : AHeap.find (some ⟨3, [hk h], true, 51⟩ :: some ⟨1, [.ptr 3 idt 0 0], true, 56⟩ :: H) idt = some (textBlk o l a) := by rw [AHeap.find_cons (by simp; omega), AHeap.find_cons hti]; exact ht0
  refine ES_loop (fun ts H' => H' = some ⟨3, [hk h], true, 51⟩ :: some ⟨1, [.ptr 3 idt 0 0], true, 56⟩ :: H ∧ ∃ k : Nat, (k ≤ h.old.length ∧ ∀ j, j < k → nthS l (h.at_.toNat + j) = nthS h.old j) ∧ Fr [none, none, some (.ptr 1 H.length 0 0), some (.ptr 3 (H.length + 1) 0 0), some (.sc (.int .i64 (h.at_ + h.old.length))), some (.fn (.func 48) [] [.ptr 1 H.length 0 0, .ptr 3 (H.length + 1) 0 0]), none, none, none, none, none, none, none, none, none, none, none, none, none, none, none, none, none, none, none, none, none, none, none, none, none, none, none, none, none, none, none, none, none, none, some (.lst 1 (strs h.old) none), some (.sc (.int .i64 h.old.length)), some (.sc (.int .i64 k)), none, none, none, none, none, none, none, none, none, none, none, none, none, none, none, none, none, none, none, none, none, none, none, none, none, none, none, none, none, none, none, none, none, none, none] ts) (fun ts _ => h.old.length - (intV (ts.getD 42 .top)).toNat) ?_ ?_
  · exact ⟨rfl, 0, ⟨Nat.zero_le _, fun j h => absurd h (Nat.not_lt_zero _)⟩, by simp [Fr]⟩
  rintro ts _ ⟨rfl, k, ⟨hk0, hp⟩, hfr⟩
  obtain ⟨js, rfl⟩ := hfr.opened
  clear hfr
  simp -implicitDefEqProofs (maxSteps := 99999999) (disch := first | omega | (simp only [AHeap.set_length, killO_length, List.length_cons, List.length_nil]; first | done | omega)) only [mk, va, vg, vs, vw, Nat.reduceMul, ite_true, ite_false, eq_self, forall_const, implies_true, Nat.reduceAdd, Nat.reduceSub, Nat.reduceLT, Nat.reduceLeDiff, ↓reduceIte, reduceCtorEq, Int.reduceEq, Int.reduceLT, Int.reduceLE, Int.reduceGT, Int.reduceGE, Int.reduceAdd, Int.reduceSub, Int.reduceNeg, Int.reduceToNat, Nat.reduceBEq, Nat.reduceEqDiff]
  refine condR_if (fun hlt => ?_) (fun hge => ?_)
  · have h1 : k < h.old.length := by omega
    simp -implicitDefEqProofs (maxSteps := 99999999) (disch := first | omega | (simp only [AHeap.set_length, killO_length, List.length_cons, List.length_nil]; first | done | omega)) only [strs_get h1, strs_length, va, vg, vs, vw, Nat.reduceMul, ite_true, ite_false, eq_self, forall_const, implies_true, Nat.reduceAdd, Nat.reduceSub, Nat.reduceLT, Nat.reduceLeDiff, ↓reduceIte, reduceCtorEq, Int.reduceEq, Int.reduceLT, Int.reduceLE, Int.reduceGT, Int.reduceGE, Int.reduceAdd, Int.reduceSub, Int.reduceNeg, Int.reduceToNat, Nat.reduceBEq, Nat.reduceEqDiff]
    refine ⟨by omega, by kernel_rfl, callR_ret (old_d _ _ _ idt h o l a _ _ k _ f2 f3 ft ⟨hr.1, by omega⟩ hl) ?_⟩
    by_cases e : nthS l (h.at_.toNat + k) = nthS h.old k
    · simp -implicitDefEqProofs (maxSteps := 99999999) (disch := first | omega | (simp only [AHeap.set_length, killO_length, List.length_cons, List.length_nil]; first | done | omega)) only [e, va, vg, vs, vw, Nat.reduceMul, ite_true, ite_false, eq_self, forall_const, implies_true, Nat.reduceAdd, Nat.reduceSub, Nat.reduceLT, Nat.reduceLeDiff, ↓reduceIte, reduceCtorEq, Int.reduceEq, Int.reduceLT, Int.reduceLE, Int.reduceGT, Int.reduceGE, Int.reduceAdd, Int.reduceSub, Int.reduceNeg, Int.reduceToNat, Nat.reduceBEq, Nat.reduceEqDiff]
      refine callR_ret (must_ok 121 _) ?_
      simp -implicitDefEqProofs (maxSteps := 99999999) (disch := first | omega | (simp only [AHeap.set_length, killO_length, List.length_cons, List.length_nil]; first | done | omega)) only [va, vg, vs, vw, Nat.reduceMul, ite_true, ite_false, eq_self, forall_const, implies_true, Nat.reduceAdd, Nat.reduceSub, Nat.reduceLT, Nat.reduceLeDiff, ↓reduceIte, reduceCtorEq, Int.reduceEq, Int.reduceLT, Int.reduceLE, Int.reduceGT, Int.reduceGE, Int.reduceAdd, Int.reduceSub, Int.reduceNeg, Int.reduceToNat, Nat.reduceBEq, Nat.reduceEqDiff]
      refine ⟨⟨k + 1, ⟨by omega, fun j hj => ?_⟩, by simp [Fr]⟩, by omega⟩
      rcases Nat.lt_succ_iff_lt_or_eq.1 hj with h' | rfl
      · exact hp j h'
      · exact e
    · simp -implicitDefEqProofs (maxSteps := 99999999) (disch := first | omega | (simp only [AHeap.set_length, killO_length, List.length_cons, List.length_nil]; first | done | omega)) only [e, va, vg, vs, vw, Nat.reduceMul, ite_true, ite_false, eq_self, forall_const, implies_true, Nat.reduceAdd, Nat.reduceSub, Nat.reduceLT, Nat.reduceLeDiff, ↓reduceIte, reduceCtorEq, Int.reduceEq, Int.reduceLT, Int.reduceLE, Int.reduceGT, Int.reduceGE, Int.reduceAdd, Int.reduceSub, Int.reduceNeg, Int.reduceToNat, Nat.reduceBEq, Nat.reduceEqDiff]
      exact callR_pan (must_no 121 _) (over_gen (.cons (.cons .refl)) (.same trivial))
  · obtain ⟨j, hj, hn⟩ := hm
    exact (hn (hp j (by omega))).elim
end Go.Proofs.Ytigmpablpmanpaa

/- hunk.Apply: what it makes. -/
namespace Go.Proofs.Ytigmpablpmanpaa
open Go.RowKit
set_option maxRecDepth 100000
set_option linter.unusedVariables false
set_option linter.unusedSimpArgs false

def applyGo (l : List ByteArray) : List Hk → Nat → List ByteArray → Int × Nat × List ByteArray
  | [], a, out => (0, a, out)
  | h :: r, a, out =>
    if h.old.length ≤ l.length ∧ h.at_ ≤ (l.length : Int) - h.old.length then
      if (l.drop h.at_.toNat).take h.old.length = h.old then applyGo l r (h.at_ + h.old.length).toNat (out ++ (l.take h.at_.toNat).drop a ++ h.new)
      else (121, a, out)
    else (6, a, out)

def applyR (l : List ByteArray) (hs : List Hk) : List ByteArray × Int :=
  if linesB l = true ∧ sortedB 0 hs = true then
    if (applyGo l hs 0 []).1 = 0 then
      if linesB ((applyGo l hs 0 []).2.2 ++ l.drop (applyGo l hs 0 []).2.1) then ((applyGo l hs 0 []).2.2 ++ l.drop (applyGo l hs 0 []).2.1, 0) else ([], 4)
    else ([], (applyGo l hs 0 []).1)
  else ([], 4)

def newLen : List Hk → Nat
  | [] => 0
  | h :: r => h.new.length + newLen r
theorem newLen_drop {l : List Hk} {k : Nat} (h : k < l.length) : newLen (l.drop k) = (nthH l k).new.length + newLen (l.drop (k + 1)) := by
  rw [List.drop_eq_getElem_cons h, nthH_eq h]; rfl
theorem newLen_drop_le (l : List Hk) : ∀ k, newLen (l.drop k) ≤ newLen l := by
  induction l with
  | nil => simp
  | cons x r ih =>
    intro k
    cases k with
    | zero => exact Nat.le_refl _
    | succ k => simp only [List.drop_succ_cons, newLen]; have := ih k; omega

theorem match_iff {l old : List ByteArray} {n : Nat} (h : n + old.length ≤ l.length) : (l.drop n).take old.length = old ↔ ∀ j, j < old.length → nthS l (n + j) = nthS old j := by
  constructor
  · intro e j hj
    rw [nthS_eq (by omega), nthS_eq hj]
    have : ((l.drop n).take old.length)[j]? = old[j]? := by rw [e]
    rw [List.getElem?_take, if_pos hj, List.getElem?_drop, List.getElem?_eq_getElem (by omega), List.getElem?_eq_getElem hj] at this
    exact Option.some.inj this
  · intro e
    refine nthS_ext (by simp; omega) fun i hi => ?_
    have hi' : i < old.length := by simp at hi; omega
    rw [← e i hi', nthS_eq hi, nthS_eq (by omega)]
    simp

theorem Short.app {a b : List ByteArray} (ha : Short a) (hb : Short b) (h : a.length + b.length ≤ 100000000) : Short (a ++ b) := by
  refine ⟨by simpa using h, fun s hs => ?_⟩
  rcases List.mem_append.1 hs with hs | hs
  · exact ha.2 s hs
  · exact hb.2 s hs
theorem Short.drop {a : List ByteArray} (ha : Short a) (n : Nat) : Short (a.drop n) := ⟨by have := ha.1; simp; omega, fun s hs => ha.2 s (List.mem_of_mem_drop hs)⟩
theorem Short.take {a : List ByteArray} (ha : Short a) (n : Nat) : Short (a.take n) := ⟨by have := ha.1; simp; omega, fun s hs => ha.2 s (List.mem_of_mem_take hs)⟩
theorem Short.nil : Short [] := ⟨by simp, by simp⟩

theorem apply_weak {H F : AHeap} {s : Nat} {out : List ByteArray} {e : Int} (hs : H.length ≤ s) (h1 : ∀ id, id < H.length → AHeap.find F id = AHeap.find H id) (h3 : out ≠ [] → AHeap.find F s = OutB out) :
    Weak H (.ret (.tup [OutV out s, .sc (.int .i64 e)])) F (.ret (.tup [OutV out H.length, .sc (.int .i64 e)])) (OutB out :: H) := by
  refine weak_gen [s] (by simp) (by simp) (by simpa using hs) (fun id k hid hk => ?_) (fun i t k ht hk => ?_) (.tup (.cons (OwnV_gz fun _ => newId_one hs) (.cons (.same trivial) .nil)))
  · rw [find_past hid] at hk
    exact .inl ⟨hk, by rw [h1 id hid]; exact hk⟩
  · have : i = 0 := by
      have := (List.getElem?_eq_some_iff.1 ht).1
      simpa using this
    subst this
    simp at ht
    subst ht
    rw [find_top (by simp)] at hk
    obtain ⟨n1, rfl⟩ := OwnB_some hk
    have n2 : out ≠ [] := fun e => n1 (by rw [e]; rfl)
    exact ⟨_, by rw [h3 n2]; exact hk, rfl, rfl, fun h => h, strs_gz⟩

theorem apply_d (l : List ByteArray) (hs : List Hk) (ro : Option (List AV)) (H : AHeap) (hl : Short l) (hhs : AllShort hs) (htot : l.length + newLen hs ≤ 100000000) :
    D Try.prog 11 [.lst 1 (strs l) none, .lst 3 (hks hs) ro] H (.ret (.tup [OutV (applyR l hs).1 H.length, .sc (.int .i64 (applyR l hs).2)])) (OutB (applyR l hs).1 :: H) := by
  have hlen := hhs.1
  refine D_of_DK (by simp) (dk11 ?_)
  simp -implicitDefEqProofs (maxSteps := 99999999) (disch := first | omega | (simp only [AHeap.set_length, killO_length, List.length_cons, List.length_nil]; first | done | omega)) only [ic11, va, vg, vs, vw, Nat.reduceMul, ite_true, ite_false, eq_self, forall_const, implies_true, Nat.reduceAdd, Nat.reduceSub, Nat.reduceLT, Nat.reduceLeDiff, ↓reduceIte, reduceCtorEq, Int.reduceEq, Int.reduceLT, Int.reduceLE, Int.reduceGT, Int.reduceGE, Int.reduceAdd, Int.reduceSub, Int.reduceNeg, Int.reduceToNat, Nat.reduceBEq, Nat.reduceEqDiff]
  simp only [ic11b, ux]
  refine ES_seq_gen fun L hL => ?_
  simp -implicitDefEqProofs (maxSteps := 99999999) (disch := first | omega | (simp only [AHeap.set_length, killO_length, List.length_cons, List.length_nil]; first | done | omega)) only [va, vg, vs, vw, Nat.reduceMul, ite_true, ite_false, eq_self, forall_const, implies_true, Nat.reduceAdd, Nat.reduceSub, Nat.reduceLT, Nat.reduceLeDiff, ↓reduceIte, reduceCtorEq, Int.reduceEq, Int.reduceLT, Int.reduceLE, Int.reduceGT, Int.reduceGE, Int.reduceAdd, Int.reduceSub, Int.reduceNeg, Int.reduceToNat, Nat.reduceBEq, Nat.reduceEqDiff]
  refine callR_ret (lines_d l none _ hl) ?_
  cases c0 : linesB l with
  | false =>
    have hA : applyR l hs = ([], 4) := by unfold applyR; rw [if_neg (by simp [c0])]
    rw [hA]
    simp -implicitDefEqProofs (maxSteps := 99999999) (disch := first | omega | (simp only [AHeap.set_length, killO_length, List.length_cons, List.length_nil]; first | done | omega)) only [va, vg, vs, vw, Nat.reduceMul, ite_true, ite_false, eq_self, forall_const, implies_true, Nat.reduceAdd, Nat.reduceSub, Nat.reduceLT, Nat.reduceLeDiff, ↓reduceIte, reduceCtorEq, Int.reduceEq, Int.reduceLT, Int.reduceLE, Int.reduceGT, Int.reduceGE, Int.reduceAdd, Int.reduceSub, Int.reduceNeg, Int.reduceToNat, Nat.reduceBEq, Nat.reduceEqDiff]
    refine callR_pan (must_no 4 _) ?_
    simp -implicitDefEqProofs (maxSteps := 99999999) (disch := first | omega | (simp only [AHeap.set_length, killO_length, List.length_cons, List.length_nil]; first | done | omega)) only [ic32, ic32b, tassF, extF, va, vg, vs, vw, Nat.reduceMul, ite_true, ite_false, eq_self, forall_const, implies_true, Nat.reduceAdd, Nat.reduceSub, Nat.reduceLT, Nat.reduceLeDiff, ↓reduceIte, reduceCtorEq, Int.reduceEq, Int.reduceLT, Int.reduceLE, Int.reduceGT, Int.reduceGE, Int.reduceAdd, Int.reduceSub, Int.reduceNeg, Int.reduceToNat, Nat.reduceBEq, Nat.reduceEqDiff]
    refine apply_weak (out := []) (s := H.length) (Nat.le_refl _) (fun id hid => ?_) (fun h => (h rfl).elim)
    simp -implicitDefEqProofs (maxSteps := 99999999) (disch := first | omega | (simp only [AHeap.set_length, killO_length, List.length_cons, List.length_nil]; first | done | omega)) only [va, vg, vs, vw, Nat.reduceMul, ite_true, ite_false, eq_self, forall_const, implies_true, Nat.reduceAdd, Nat.reduceSub, Nat.reduceLT, Nat.reduceLeDiff, ↓reduceIte, reduceCtorEq, Int.reduceEq, Int.reduceLT, Int.reduceLE, Int.reduceGT, Int.reduceGE, Int.reduceAdd, Int.reduceSub, Int.reduceNeg, Int.reduceToNat, Nat.reduceBEq, Nat.reduceEqDiff]
  | true => 
    simp -implicitDefEqProofs (maxSteps := 99999999) (disch := first | omega | (simp only [AHeap.set_length, killO_length, List.length_cons, List.length_nil]; first | done | omega)) only [va, vg, vs, vw, Nat.reduceMul, ite_true, ite_false, eq_self, forall_const, implies_true, Nat.reduceAdd, Nat.reduceSub, Nat.reduceLT, Nat.reduceLeDiff, ↓reduceIte, reduceCtorEq, Int.reduceEq, Int.reduceLT, Int.reduceLE, Int.reduceGT, Int.reduceGE, Int.reduceAdd, Int.reduceSub, Int.reduceNeg, Int.reduceToNat, Nat.reduceBEq, Nat.reduceEqDiff]
    refine callR_ret (sorted_d hs ro _ hhs) ?_
    cases c1 : sortedB 0 hs with
    | false =>
      have hA : applyR l hs = ([], 4) := by unfold applyR; rw [if_neg (by simp [c1])]
      rw [hA]
      simp -implicitDefEqProofs (maxSteps := 99999999) (disch := first | omega | (simp only [AHeap.set_length, killO_length, List.length_cons, List.length_nil]; first | done | omega)) only [va, vg, vs, vw, Nat.reduceMul, ite_true, ite_false, eq_self, forall_const, implies_true, Nat.reduceAdd, Nat.reduceSub, Nat.reduceLT, Nat.reduceLeDiff, ↓reduceIte, reduceCtorEq, Int.reduceEq, Int.reduceLT, Int.reduceLE, Int.reduceGT, Int.reduceGE, Int.reduceAdd, Int.reduceSub, Int.reduceNeg, Int.reduceToNat, Nat.reduceBEq, Nat.reduceEqDiff]
      refine callR_pan (must_no 4 _) ?_
      simp -implicitDefEqProofs (maxSteps := 99999999) (disch := first | omega | (simp only [AHeap.set_length, killO_length, List.length_cons, List.length_nil]; first | done | omega)) only [ic32, ic32b, tassF, extF, va, vg, vs, vw, Nat.reduceMul, ite_true, ite_false, eq_self, forall_const, implies_true, Nat.reduceAdd, Nat.reduceSub, Nat.reduceLT, Nat.reduceLeDiff, ↓reduceIte, reduceCtorEq, Int.reduceEq, Int.reduceLT, Int.reduceLE, Int.reduceGT, Int.reduceGE, Int.reduceAdd, Int.reduceSub, Int.reduceNeg, Int.reduceToNat, Nat.reduceBEq, Nat.reduceEqDiff]
      refine apply_weak (out := []) (s := H.length) (Nat.le_refl _) (fun id hid => ?_) (fun h => (h rfl).elim)
      simp -implicitDefEqProofs (maxSteps := 99999999) (disch := first | omega | (simp only [AHeap.set_length, killO_length, List.length_cons, List.length_nil]; first | done | omega)) only [va, vg, vs, vw, Nat.reduceMul, ite_true, ite_false, eq_self, forall_const, implies_true, Nat.reduceAdd, Nat.reduceSub, Nat.reduceLT, Nat.reduceLeDiff, ↓reduceIte, reduceCtorEq, Int.reduceEq, Int.reduceLT, Int.reduceLE, Int.reduceGT, Int.reduceGE, Int.reduceAdd, Int.reduceSub, Int.reduceNeg, Int.reduceToNat, Nat.reduceBEq, Nat.reduceEqDiff]
    | true =>
      simp -implicitDefEqProofs (maxSteps := 99999999) (disch := first | omega | (simp only [AHeap.set_length, killO_length, List.length_cons, List.length_nil]; first | done | omega)) only [va, vg, vs, vw, Nat.reduceMul, ite_true, ite_false, eq_self, forall_const, implies_true, Nat.reduceAdd, Nat.reduceSub, Nat.reduceLT, Nat.reduceLeDiff, ↓reduceIte, reduceCtorEq, Int.reduceEq, Int.reduceLT, Int.reduceLE, Int.reduceGT, Int.reduceGE, Int.reduceAdd, Int.reduceSub, Int.reduceNeg, Int.reduceToNat, Nat.reduceBEq, Nat.reduceEqDiff]
      refine callR_ret (must_ok 4 _) ?_
      simp -implicitDefEqProofs (maxSteps := 99999999) (disch := first | omega | (simp only [AHeap.set_length, killO_length, List.length_cons, List.length_nil]; first | done | omega)) only [va, vg, vs, vw, Nat.reduceMul, ite_true, ite_false, eq_self, forall_const, implies_true, Nat.reduceAdd, Nat.reduceSub, Nat.reduceLT, Nat.reduceLeDiff, ↓reduceIte, reduceCtorEq, Int.reduceEq, Int.reduceLT, Int.reduceLE, Int.reduceGT, Int.reduceGE, Int.reduceAdd, Int.reduceSub, Int.reduceNeg, Int.reduceToNat, Nat.reduceBEq, Nat.reduceEqDiff]
      refine hL _ _ ?_
      clear hL
      refine ES_seq_gen fun L hL => ?_
      simp -implicitDefEqProofs (maxSteps := 99999999) (disch := first | omega | (simp only [AHeap.set_length, killO_length, List.length_cons, List.length_nil]; first | done | omega)) only [va, vg, vs, vw, Nat.reduceMul, ite_true, ite_false, eq_self, forall_const, implies_true, Nat.reduceAdd, Nat.reduceSub, Nat.reduceLT, Nat.reduceLeDiff, ↓reduceIte, reduceCtorEq, Int.reduceEq, Int.reduceLT, Int.reduceLE, Int.reduceGT, Int.reduceGE, Int.reduceAdd, Int.reduceSub, Int.reduceNeg, Int.reduceToNat, Nat.reduceBEq, Nat.reduceEqDiff]
      refine hL _ _ ?_
      clear hL
      refine ES_seq_gen fun L hL => ?_
      simp -implicitDefEqProofs (maxSteps := 99999999) (disch := first | omega | (simp only [AHeap.set_length, killO_length, List.length_cons, List.length_nil]; first | done | omega)) only [hks_length, va, vg, vs, vw, Nat.reduceMul, ite_true, ite_false, eq_self, forall_const, implies_true, Nat.reduceAdd, Nat.reduceSub, Nat.reduceLT, Nat.reduceLeDiff, ↓reduceIte, reduceCtorEq, Int.reduceEq, Int.reduceLT, Int.reduceLE, Int.reduceGT, Int.reduceGE, Int.reduceAdd, Int.reduceSub, Int.reduceNeg, Int.reduceToNat, Nat.reduceBEq, Nat.reduceEqDiff]
      refine ES_gen fun K hK => ?_
      refine ES_loopL (fun ts F => ∃ (k a io : Nat) (least : Int) (out : List ByteArray), (k ≤ hs.length ∧ applyGo l hs 0 [] = applyGo l (hs.drop k) a out ∧ sortedB least (hs.drop k) = true ∧ (a : Int) ≤ least ∧ a ≤ l.length ∧ Short out ∧ out.length + newLen (hs.drop k) ≤ a + newLen hs) ∧
          (H.length + 3 ≤ F.length ∧ (out ≠ [] → AHeap.find F io = OutB out) ∧ H.length + 3 ≤ io ∧ io ≤ F.length) ∧ (∀ id, id < H.length → AHeap.find F id = AHeap.find H id) ∧
          (AHeap.find F H.length = some ⟨1, [.lst 0 [] (some [])], true, 22⟩ ∧ AHeap.find F (H.length + 1) = some ⟨1, [.sc (.int .i64 0)], true, 25⟩ ∧ AHeap.find F (H.length + 2) = some (textBlk (OutV out io) l a)) ∧
          Fr [some (.lst 1 (strs l) none), some (.lst 3 (hks hs) ro), none, none, some (.ptr 1 H.length 0 0), some (.ptr 1 (H.length + 1) 0 0), some (.ptr 3 (H.length + 2) 0 0), none, none, none, none, none, none, none, none, none, none, none, none, none, some (.lst 3 (hks hs) ro), some (.sc (.int .i64 hs.length)), some (.sc (.int .i64 k)), none, none, none, none, none, none, none, none, none, none, none, none, none, none, none, none, none, none, none, none, none, none, none, none, none, none, none, none, none] ts) (fun ts _ => hs.length - (intV (ts.getD 22 .top)).toNat) ?_ ?_
      · refine ⟨0, 0, H.length + 3, 0, [], ⟨Nat.zero_le _, rfl, c1, by omega, Nat.zero_le _, Short.nil, by simp⟩, ⟨by simp, fun h => (h rfl).elim, Nat.le_refl _, by simp⟩, ?_, ⟨?_, ?_, ?_⟩, by simp [Fr]⟩
        · intro id hid
          simp -implicitDefEqProofs (maxSteps := 99999999) (disch := first | omega | (simp only [AHeap.set_length, killO_length, List.length_cons, List.length_nil]; first | done | omega)) only [va, vg, vs, vw, Nat.reduceMul, ite_true, ite_false, eq_self, forall_const, implies_true, Nat.reduceAdd, Nat.reduceSub, Nat.reduceLT, Nat.reduceLeDiff, ↓reduceIte, reduceCtorEq, Int.reduceEq, Int.reduceLT, Int.reduceLE, Int.reduceGT, Int.reduceGE, Int.reduceAdd, Int.reduceSub, Int.reduceNeg, Int.reduceToNat, Nat.reduceBEq, Nat.reduceEqDiff]
        · simp -implicitDefEqProofs (maxSteps := 99999999) (disch := first | omega | (simp only [AHeap.set_length, killO_length, List.length_cons, List.length_nil]; first | done | omega)) only [va, vg, vs, vw, Nat.reduceMul, ite_true, ite_false, eq_self, forall_const, implies_true, Nat.reduceAdd, Nat.reduceSub, Nat.reduceLT, Nat.reduceLeDiff, ↓reduceIte, reduceCtorEq, Int.reduceEq, Int.reduceLT, Int.reduceLE, Int.reduceGT, Int.reduceGE, Int.reduceAdd, Int.reduceSub, Int.reduceNeg, Int.reduceToNat, Nat.reduceBEq, Nat.reduceEqDiff]
        · simp -implicitDefEqProofs (maxSteps := 99999999) (disch := first | omega | (simp only [AHeap.set_length, killO_length, List.length_cons, List.length_nil]; first | done | omega)) only [va, vg, vs, vw, Nat.reduceMul, ite_true, ite_false, eq_self, forall_const, implies_true, Nat.reduceAdd, Nat.reduceSub, Nat.reduceLT, Nat.reduceLeDiff, ↓reduceIte, reduceCtorEq, Int.reduceEq, Int.reduceLT, Int.reduceLE, Int.reduceGT, Int.reduceGE, Int.reduceAdd, Int.reduceSub, Int.reduceNeg, Int.reduceToNat, Nat.reduceBEq, Nat.reduceEqDiff]
        · exact find_top (by simp)
      rintro ts F ⟨k, a, io, least, out, ⟨i1, i2, i3, i4, i5, i6, i7⟩, ⟨m1, m2, m3, m4⟩, m5, ⟨f0, f1, f2⟩, hfr⟩ L' hL'
      obtain ⟨js, rfl⟩ := hfr.opened
      clear hfr
      simp -implicitDefEqProofs (maxSteps := 99999999) (disch := first | omega | (simp only [AHeap.set_length, killO_length, List.length_cons, List.length_nil]; first | done | omega)) only [mk, va, vg, vs, vw, Nat.reduceMul, ite_true, ite_false, eq_self, forall_const, implies_true, Nat.reduceAdd, Nat.reduceSub, Nat.reduceLT, Nat.reduceLeDiff, ↓reduceIte, reduceCtorEq, Int.reduceEq, Int.reduceLT, Int.reduceLE, Int.reduceGT, Int.reduceGE, Int.reduceAdd, Int.reduceSub, Int.reduceNeg, Int.reduceToNat, Nat.reduceBEq, Nat.reduceEqDiff]
      refine condR_if (fun hlt => ?_) (fun hge => ?_)
      · have h1 : k < hs.length := by omega
        have hd : hs.drop k = nthH hs k :: hs.drop (k + 1) := by rw [List.drop_eq_getElem_cons h1, nthH_eq h1]
        have hsh := hhs.nth h1
        rw [hd] at i2 i3
        have hnl := newLen_drop h1
        simp only [applyGo, sortedB, Bool.and_eq_true, Bool.not_eq_true', decide_eq_false_iff_not] at i2 i3
        obtain ⟨r1, r2, r3⟩ := i3
        have hat := rightB_at r1
        simp -implicitDefEqProofs (maxSteps := 99999999) (disch := first | omega | (simp only [AHeap.set_length, killO_length, List.length_cons, List.length_nil]; first | done | omega)) only [hks_get h1, hks_length, va, vg, vs, vw, Nat.reduceMul, ite_true, ite_false, eq_self, forall_const, implies_true, Nat.reduceAdd, Nat.reduceSub, Nat.reduceLT, Nat.reduceLeDiff, ↓reduceIte, reduceCtorEq, Int.reduceEq, Int.reduceLT, Int.reduceLE, Int.reduceGT, Int.reduceGE, Int.reduceAdd, Int.reduceSub, Int.reduceNeg, Int.reduceToNat, Nat.reduceBEq, Nat.reduceEqDiff]
        refine ⟨by omega, ?_⟩
        have ft : AHeap.find (some ⟨3, [hk (nthH hs k)], true, 51⟩ :: F) (H.length + 2) = some (textBlk (OutV out io) l a) := by rw [find_past (by omega)]; exact f2
        by_cases c2 : (nthH hs k).old.length ≤ l.length ∧ (nthH hs k).at_ ≤ (l.length : Int) - (nthH hs k).old.length
        · by_cases c3 : (l.drop (nthH hs k).at_.toNat).take (nthH hs k).old.length = (nthH hs k).old
          · have fo : out ≠ [] → AHeap.find (some ⟨3, [hk (nthH hs k)], true, 51⟩ :: F) io = OutB out := fun e => by
              have := m2 e
              rw [find_past (AHeap.find_lt (this.trans (OwnB_ne (strs_ne e))))]
              exact this
            refine callR_ret (swap_ok _ (H.length + 2) io _ out l a ft fo (by omega) (by simp; omega) hl.1 hsh hat c2 ((match_iff (by omega)).1 c3) ⟨by omega, by omega⟩ (by omega)) ?_
            simp -implicitDefEqProofs (maxSteps := 99999999) (disch := first | omega | (simp only [AHeap.set_length, killO_length, List.length_cons, List.length_nil]; first | done | omega)) only [va, vg, vs, vw, Nat.reduceMul, ite_true, ite_false, eq_self, forall_const, implies_true, Nat.reduceAdd, Nat.reduceSub, Nat.reduceLT, Nat.reduceLeDiff, ↓reduceIte, reduceCtorEq, Int.reduceEq, Int.reduceLT, Int.reduceLE, Int.reduceGT, Int.reduceGE, Int.reduceAdd, Int.reduceSub, Int.reduceNeg, Int.reduceToNat, Nat.reduceBEq, Nat.reduceEqDiff]
            rw [if_pos c2, if_pos c3] at i2
            have e2 : ((nthH hs k).at_ + (nthH hs k).old.length).toNat = (nthH hs k).at_.toNat + (nthH hs k).old.length := by omega
            have e3 : ((((nthH hs k).at_ + (nthH hs k).old.length).toNat : Nat) : Int) = (nthH hs k).at_ + (nthH hs k).old.length := by omega
            rw [List.append_assoc] at i2
            refine hL' _ _ ⟨k + 1, ((nthH hs k).at_ + (nthH hs k).old.length).toNat, F.length + 1, _, _, ⟨by omega, i2, r3, by omega, by omega, ?_, ?_⟩, ⟨?_, fun _ => ?_, by omega, ?_⟩, fun id hid => ?_, ⟨?_, ?_, ?_⟩, by simp [Fr]⟩ ?_
            · exact i6.app (((hl.take _).drop _).app hsh.2 (by simp; omega)) (by simp; omega)
            · simp; omega
            · simp [AHeap.set_length, killO_length]; omega
            · exact find_top (by simp [AHeap.set_length, killO_length])
            · simp [AHeap.set_length, killO_length]
            · have n1 : id ≠ io := by omega
              simp -implicitDefEqProofs (maxSteps := 99999999) (disch := first | omega | (simp only [AHeap.set_length, killO_length, List.length_cons, List.length_nil]; first | done | omega)) only [m5 id hid, va, vg, vs, vw, Nat.reduceMul, ite_true, ite_false, eq_self, forall_const, implies_true, Nat.reduceAdd, Nat.reduceSub, Nat.reduceLT, Nat.reduceLeDiff, ↓reduceIte, reduceCtorEq, Int.reduceEq, Int.reduceLT, Int.reduceLE, Int.reduceGT, Int.reduceGE, Int.reduceAdd, Int.reduceSub, Int.reduceNeg, Int.reduceToNat, Nat.reduceBEq, Nat.reduceEqDiff]
            · simp -implicitDefEqProofs (maxSteps := 99999999) (disch := first | omega | (simp only [AHeap.set_length, killO_length, List.length_cons, List.length_nil]; first | done | omega)) only [f0, va, vg, vs, vw, Nat.reduceMul, ite_true, ite_false, eq_self, forall_const, implies_true, Nat.reduceAdd, Nat.reduceSub, Nat.reduceLT, Nat.reduceLeDiff, ↓reduceIte, reduceCtorEq, Int.reduceEq, Int.reduceLT, Int.reduceLE, Int.reduceGT, Int.reduceGE, Int.reduceAdd, Int.reduceSub, Int.reduceNeg, Int.reduceToNat, Nat.reduceBEq, Nat.reduceEqDiff]
            · simp -implicitDefEqProofs (maxSteps := 99999999) (disch := first | omega | (simp only [AHeap.set_length, killO_length, List.length_cons, List.length_nil]; first | done | omega)) only [f1, va, vg, vs, vw, Nat.reduceMul, ite_true, ite_false, eq_self, forall_const, implies_true, Nat.reduceAdd, Nat.reduceSub, Nat.reduceLT, Nat.reduceLeDiff, ↓reduceIte, reduceCtorEq, Int.reduceEq, Int.reduceLT, Int.reduceLE, Int.reduceGT, Int.reduceGE, Int.reduceAdd, Int.reduceSub, Int.reduceNeg, Int.reduceToNat, Nat.reduceBEq, Nat.reduceEqDiff]
            · rw [e3]
              simp -implicitDefEqProofs (maxSteps := 99999999) (disch := first | omega | (simp only [AHeap.set_length, killO_length, List.length_cons, List.length_nil]; first | done | omega)) only [va, vg, vs, vw, Nat.reduceMul, ite_true, ite_false, eq_self, forall_const, implies_true, Nat.reduceAdd, Nat.reduceSub, Nat.reduceLT, Nat.reduceLeDiff, ↓reduceIte, reduceCtorEq, Int.reduceEq, Int.reduceLT, Int.reduceLE, Int.reduceGT, Int.reduceGE, Int.reduceAdd, Int.reduceSub, Int.reduceNeg, Int.reduceToNat, Nat.reduceBEq, Nat.reduceEqDiff]
            · simp only [List.getD_cons_succ, List.getD_cons_zero, intV, mk]; omega
          · refine callR_pan (swap_old _ (H.length + 2) _ _ l a ft hl.1 hsh hat c2 ?_) ?_
            · apply Classical.byContradiction
              intro hno
              exact c3 ((match_iff (by omega)).2 fun j hj => Classical.byContradiction fun e => hno ⟨j, hj, e⟩)
            have hA : applyR l hs = ([], 121) := by
              unfold applyR
              rw [if_pos ⟨c0, c1⟩, i2, if_pos c2, if_neg c3]
              rfl
            rw [hA] at hK
            refine hK _ _ _ ?_
            clear hK hL'
            simp -implicitDefEqProofs (maxSteps := 99999999) (disch := first | omega | (simp only [AHeap.set_length, killO_length, List.length_cons, List.length_nil]; first | done | omega)) only [ic32, ic32b, tassF, extF, f0, f1, va, vg, vs, vw, Nat.reduceMul, ite_true, ite_false, eq_self, forall_const, implies_true, Nat.reduceAdd, Nat.reduceSub, Nat.reduceLT, Nat.reduceLeDiff, ↓reduceIte, reduceCtorEq, Int.reduceEq, Int.reduceLT, Int.reduceLE, Int.reduceGT, Int.reduceGE, Int.reduceAdd, Int.reduceSub, Int.reduceNeg, Int.reduceToNat, Nat.reduceBEq, Nat.reduceEqDiff]
            refine apply_weak (out := []) (s := H.length) (Nat.le_refl _) (fun id hid => ?_) (fun h => (h rfl).elim)
            simp -implicitDefEqProofs (maxSteps := 99999999) (disch := first | omega | (simp only [AHeap.set_length, killO_length, List.length_cons, List.length_nil]; first | done | omega)) only [m5 id hid, va, vg, vs, vw, Nat.reduceMul, ite_true, ite_false, eq_self, forall_const, implies_true, Nat.reduceAdd, Nat.reduceSub, Nat.reduceLT, Nat.reduceLeDiff, ↓reduceIte, reduceCtorEq, Int.reduceEq, Int.reduceLT, Int.reduceLE, Int.reduceGT, Int.reduceGE, Int.reduceAdd, Int.reduceSub, Int.reduceNeg, Int.reduceToNat, Nat.reduceBEq, Nat.reduceEqDiff]
        · refine callR_pan (swap_none _ (H.length + 2) _ _ l a ft hl.1 hsh hat c2) ?_
          have hA : applyR l hs = ([], 6) := by
            unfold applyR
            rw [if_pos ⟨c0, c1⟩, i2, if_neg c2]
            rfl
          rw [hA] at hK
          refine hK _ _ _ ?_
          clear hK hL'
          simp -implicitDefEqProofs (maxSteps := 99999999) (disch := first | omega | (simp only [AHeap.set_length, killO_length, List.length_cons, List.length_nil]; first | done | omega)) only [ic32, ic32b, tassF, extF, f0, f1, va, vg, vs, vw, Nat.reduceMul, ite_true, ite_false, eq_self, forall_const, implies_true, Nat.reduceAdd, Nat.reduceSub, Nat.reduceLT, Nat.reduceLeDiff, ↓reduceIte, reduceCtorEq, Int.reduceEq, Int.reduceLT, Int.reduceLE, Int.reduceGT, Int.reduceGE, Int.reduceAdd, Int.reduceSub, Int.reduceNeg, Int.reduceToNat, Nat.reduceBEq, Nat.reduceEqDiff]
          refine apply_weak (out := []) (s := H.length) (Nat.le_refl _) (fun id hid => ?_) (fun h => (h rfl).elim)
          simp -implicitDefEqProofs (maxSteps := 99999999) (disch := first | omega | (simp only [AHeap.set_length, killO_length, List.length_cons, List.length_nil]; first | done | omega)) only [m5 id hid, va, vg, vs, vw, Nat.reduceMul, ite_true, ite_false, eq_self, forall_const, implies_true, Nat.reduceAdd, Nat.reduceSub, Nat.reduceLT, Nat.reduceLeDiff, ↓reduceIte, reduceCtorEq, Int.reduceEq, Int.reduceLT, Int.reduceLE, Int.reduceGT, Int.reduceGE, Int.reduceAdd, Int.reduceSub, Int.reduceNeg, Int.reduceToNat, Nat.reduceBEq, Nat.reduceEqDiff]
      · have hk' : k = hs.length := by omega
        subst hk'
        rw [List.drop_length] at i2 i3 i7
        simp only [applyGo] at i2
        simp only [newLen] at i7
        clear hL'
        refine hK _ _ _ ?_
        clear hK
        simp -implicitDefEqProofs (maxSteps := 99999999) (disch := first | omega | (simp only [AHeap.set_length, killO_length, List.length_cons, List.length_nil]; first | done | omega)) only [va, vg, vs, vw, Nat.reduceMul, ite_true, ite_false, eq_self, forall_const, implies_true, Nat.reduceAdd, Nat.reduceSub, Nat.reduceLT, Nat.reduceLeDiff, ↓reduceIte, reduceCtorEq, Int.reduceEq, Int.reduceLT, Int.reduceLE, Int.reduceGT, Int.reduceGE, Int.reduceAdd, Int.reduceSub, Int.reduceNeg, Int.reduceToNat, Nat.reduceBEq, Nat.reduceEqDiff]
        refine hL _ _ ?_
        clear hL
        refine ES_seq_gen fun L hL => ?_
        have f2' := f2
        unfold textBlk at f2'
        simp -implicitDefEqProofs (maxSteps := 99999999) (disch := first | omega | (simp only [AHeap.set_length, killO_length, List.length_cons, List.length_nil]; first | done | omega)) only [f2', strs_part, List.take_length, strs_length, va, vg, vs, vw, Nat.reduceMul, ite_true, ite_false, eq_self, forall_const, implies_true, Nat.reduceAdd, Nat.reduceSub, Nat.reduceLT, Nat.reduceLeDiff, ↓reduceIte, reduceCtorEq, Int.reduceEq, Int.reduceLT, Int.reduceLE, Int.reduceGT, Int.reduceGE, Int.reduceAdd, Int.reduceSub, Int.reduceNeg, Int.reduceToNat, Nat.reduceBEq, Nat.reduceEqDiff]
        refine ⟨by omega, callD_ret (add_d _ (H.length + 2) io out _ l a none f2 m2 (by simp; omega)) (by simp -implicitDefEqProofs (maxSteps := 99999999) (disch := first | omega | (simp only [AHeap.set_length, killO_length, List.length_cons, List.length_nil]; first | done | omega)) only [va, vg, vs, vw, Nat.reduceMul, ite_true, ite_false, eq_self, forall_const, implies_true, Nat.reduceAdd, Nat.reduceSub, Nat.reduceLT, Nat.reduceLeDiff, ↓reduceIte, reduceCtorEq, Int.reduceEq, Int.reduceLT, Int.reduceLE, Int.reduceGT, Int.reduceGE, Int.reduceAdd, Int.reduceSub, Int.reduceNeg, Int.reduceToNat, Nat.reduceBEq, Nat.reduceEqDiff]) ?_⟩
        unfold textBlk
        simp -implicitDefEqProofs (maxSteps := 99999999) (disch := first | omega | (simp only [AHeap.set_length, killO_length, List.length_cons, List.length_nil]; first | done | omega)) only [va, vg, vs, vw, Nat.reduceMul, ite_true, ite_false, eq_self, forall_const, implies_true, Nat.reduceAdd, Nat.reduceSub, Nat.reduceLT, Nat.reduceLeDiff, ↓reduceIte, reduceCtorEq, Int.reduceEq, Int.reduceLT, Int.reduceLE, Int.reduceGT, Int.reduceGE, Int.reduceAdd, Int.reduceSub, Int.reduceNeg, Int.reduceToNat, Nat.reduceBEq, Nat.reduceEqDiff]
        refine hL _ _ ?_
        clear hL
        have hsO : Short (out ++ l.drop a) := i6.app (hl.drop _) (by simp; omega)
        have gF : out ++ l.drop a ≠ [] → AHeap.find (OutB (out ++ l.drop a) :: (killT out io F).set (H.length + 2) (some ⟨3, [.agg [OutV (out ++ l.drop a) F.length, .lst 1 (strs l) none, .sc (.int .i64 a)]], true, 60⟩)) F.length = OutB (out ++ l.drop a) := fun _ => find_top (by simp [AHeap.set_length, killO_length])
        refine ES_seq_gen fun L hL => ?_
        simp -implicitDefEqProofs (maxSteps := 99999999) (disch := first | omega | (simp only [AHeap.set_length, killO_length, List.length_cons, List.length_nil]; first | done | omega)) only [va, vg, vs, vw, Nat.reduceMul, ite_true, ite_false, eq_self, forall_const, implies_true, Nat.reduceAdd, Nat.reduceSub, Nat.reduceLT, Nat.reduceLeDiff, ↓reduceIte, reduceCtorEq, Int.reduceEq, Int.reduceLT, Int.reduceLE, Int.reduceGT, Int.reduceGE, Int.reduceAdd, Int.reduceSub, Int.reduceNeg, Int.reduceToNat, Nat.reduceBEq, Nat.reduceEqDiff]
        refine callR_ret (D_view (.cons (ViewL.own (fun h => gF (fun e => h (by rw [e]; rfl))) ViewL.scs) .nil) .sc (lines_d (out ++ l.drop a) none [] hsO)) ?_
        cases c4 : linesB (out ++ l.drop a) with
        | false =>
          have hA : applyR l hs = ([], 4) := by
            unfold applyR
            rw [if_pos ⟨c0, c1⟩, i2, if_pos rfl, if_neg (by simp [c4])]
          rw [hA]
          simp -implicitDefEqProofs (maxSteps := 99999999) (disch := first | omega | (simp only [AHeap.set_length, killO_length, List.length_cons, List.length_nil]; first | done | omega)) only [va, vg, vs, vw, Nat.reduceMul, ite_true, ite_false, eq_self, forall_const, implies_true, Nat.reduceAdd, Nat.reduceSub, Nat.reduceLT, Nat.reduceLeDiff, ↓reduceIte, reduceCtorEq, Int.reduceEq, Int.reduceLT, Int.reduceLE, Int.reduceGT, Int.reduceGE, Int.reduceAdd, Int.reduceSub, Int.reduceNeg, Int.reduceToNat, Nat.reduceBEq, Nat.reduceEqDiff]
          refine callR_pan (must_no 4 _) ?_
          simp -implicitDefEqProofs (maxSteps := 99999999) (disch := first | omega | (simp only [AHeap.set_length, killO_length, List.length_cons, List.length_nil]; first | done | omega)) only [ic32, ic32b, tassF, extF, f0, f1, va, vg, vs, vw, Nat.reduceMul, ite_true, ite_false, eq_self, forall_const, implies_true, Nat.reduceAdd, Nat.reduceSub, Nat.reduceLT, Nat.reduceLeDiff, ↓reduceIte, reduceCtorEq, Int.reduceEq, Int.reduceLT, Int.reduceLE, Int.reduceGT, Int.reduceGE, Int.reduceAdd, Int.reduceSub, Int.reduceNeg, Int.reduceToNat, Nat.reduceBEq, Nat.reduceEqDiff]
          refine apply_weak (out := []) (s := H.length) (Nat.le_refl _) (fun id hid => ?_) (fun h => (h rfl).elim)
          have n1 : id ≠ io := by omega
          simp -implicitDefEqProofs (maxSteps := 99999999) (disch := first | omega | (simp only [AHeap.set_length, killO_length, List.length_cons, List.length_nil]; first | done | omega)) only [m5 id hid, va, vg, vs, vw, Nat.reduceMul, ite_true, ite_false, eq_self, forall_const, implies_true, Nat.reduceAdd, Nat.reduceSub, Nat.reduceLT, Nat.reduceLeDiff, ↓reduceIte, reduceCtorEq, Int.reduceEq, Int.reduceLT, Int.reduceLE, Int.reduceGT, Int.reduceGE, Int.reduceAdd, Int.reduceSub, Int.reduceNeg, Int.reduceToNat, Nat.reduceBEq, Nat.reduceEqDiff]
        | true =>
          have hA : applyR l hs = (out ++ l.drop a, 0) := by
            unfold applyR
            rw [if_pos ⟨c0, c1⟩, i2, if_pos rfl, if_pos c4]
          rw [hA]
          simp -implicitDefEqProofs (maxSteps := 99999999) (disch := first | omega | (simp only [AHeap.set_length, killO_length, List.length_cons, List.length_nil]; first | done | omega)) only [va, vg, vs, vw, Nat.reduceMul, ite_true, ite_false, eq_self, forall_const, implies_true, Nat.reduceAdd, Nat.reduceSub, Nat.reduceLT, Nat.reduceLeDiff, ↓reduceIte, reduceCtorEq, Int.reduceEq, Int.reduceLT, Int.reduceLE, Int.reduceGT, Int.reduceGE, Int.reduceAdd, Int.reduceSub, Int.reduceNeg, Int.reduceToNat, Nat.reduceBEq, Nat.reduceEqDiff]
          refine callR_ret (must_ok 4 _) ?_
          simp -implicitDefEqProofs (maxSteps := 99999999) (disch := first | omega | (simp only [AHeap.set_length, killO_length, List.length_cons, List.length_nil]; first | done | omega)) only [va, vg, vs, vw, Nat.reduceMul, ite_true, ite_false, eq_self, forall_const, implies_true, Nat.reduceAdd, Nat.reduceSub, Nat.reduceLT, Nat.reduceLeDiff, ↓reduceIte, reduceCtorEq, Int.reduceEq, Int.reduceLT, Int.reduceLE, Int.reduceGT, Int.reduceGE, Int.reduceAdd, Int.reduceSub, Int.reduceNeg, Int.reduceToNat, Nat.reduceBEq, Nat.reduceEqDiff]
          refine hL _ _ ?_
          clear hL
          rw [hA]
          have hw : ∀ v : AV, v = OutV (out ++ l.drop a) F.length → v.isTop = false ∧ v.ncells = 1 ∧ v.isAgg = false ∧ v.cells = [v] := fun v hv => by subst hv; exact ⟨OwnV_top, OwnV_ncells, OwnV_isAgg, OwnV_cells⟩
          have fin : ∀ v : AV, v = OutV (out ++ l.drop a) F.length → Weak H (.ret (.tup [v, .sc (.int .i64 0)])) (OutB (out ++ List.drop a l) :: (((killT out io F).set (H.length + 2) (some ⟨3, [.agg [v, .lst 1 (strs l) none, .sc (.int .i64 a)]], true, 60⟩)).set H.length (some ⟨1, [v], true, 22⟩)).set (H.length + 1) (some ⟨1, [.sc (.int .i64 0)], true, 25⟩)) (.ret (.tup [OutV (out ++ l.drop a) H.length, .sc (.int .i64 0)])) (OutB (out ++ l.drop a) :: H) := by
            rintro v rfl
            refine apply_weak (s := F.length) (by omega) (fun id hid => ?_) (fun _ => find_top (by simp [AHeap.set_length, killO_length]))
            have n1 : id ≠ io := by omega
            simp -implicitDefEqProofs (maxSteps := 99999999) (disch := first | omega | (simp only [AHeap.set_length, killO_length, List.length_cons, List.length_nil]; first | done | omega)) only [m5 id hid, va, vg, vs, vw, Nat.reduceMul, ite_true, ite_false, eq_self, forall_const, implies_true, Nat.reduceAdd, Nat.reduceSub, Nat.reduceLT, Nat.reduceLeDiff, ↓reduceIte, reduceCtorEq, Int.reduceEq, Int.reduceLT, Int.reduceLE, Int.reduceGT, Int.reduceGE, Int.reduceAdd, Int.reduceSub, Int.reduceNeg, Int.reduceToNat, Nat.reduceBEq, Nat.reduceEqDiff]
          by_cases eX : out ++ l.drop a = []
          · have e1 : OutV (out ++ l.drop a) F.length = .lst 0 [] (some []) := by rw [eX]; rfl
            have fin' := fin _ e1.symm
            simp -implicitDefEqProofs (maxSteps := 99999999) (disch := first | omega | (simp only [AHeap.set_length, killO_length, List.length_cons, List.length_nil]; first | done | omega)) only [f0, f1, ic32, ic32b, e1, va, vg, vs, vw, Nat.reduceMul, ite_true, ite_false, eq_self, forall_const, implies_true, Nat.reduceAdd, Nat.reduceSub, Nat.reduceLT, Nat.reduceLeDiff, ↓reduceIte, reduceCtorEq, Int.reduceEq, Int.reduceLT, Int.reduceLE, Int.reduceGT, Int.reduceGE, Int.reduceAdd, Int.reduceSub, Int.reduceNeg, Int.reduceToNat, Nat.reduceBEq, Nat.reduceEqDiff]
            exact fin'
          · have e1 : OutV (out ++ l.drop a) F.length = .vec 1 F.length 0 (out ++ l.drop a).length none := by rw [OutV, OwnV_ne (strs_ne eX), strs_length]
            have fin' := fin _ e1.symm
            simp -implicitDefEqProofs (maxSteps := 99999999) (disch := first | omega | (simp only [AHeap.set_length, killO_length, List.length_cons, List.length_nil]; first | done | omega)) only [f0, f1, ic32, ic32b, e1, va, vg, vs, vw, Nat.reduceMul, ite_true, ite_false, eq_self, forall_const, implies_true, Nat.reduceAdd, Nat.reduceSub, Nat.reduceLT, Nat.reduceLeDiff, ↓reduceIte, reduceCtorEq, Int.reduceEq, Int.reduceLT, Int.reduceLE, Int.reduceGT, Int.reduceGE, Int.reduceAdd, Int.reduceSub, Int.reduceNeg, Int.reduceToNat, Nat.reduceBEq, Nat.reduceEqDiff]
            exact fin'
end Go.Proofs.Ytigmpablpmanpaa

/- Small functions of law03: one, abc, great, two; Invert; Apply where what it makes is only read. -/
namespace Go.Proofs.Ytigmpablpmanpaa
open Go.RowKit
set_option maxRecDepth 100000
set_option linter.unusedVariables false
set_option linter.unusedSimpArgs false

theorem le_hkr (h : Hk) (a b : Option (List AV)) : Le (hkr h a b) (hk h) := .agg (.cons .refl (.cons (.lst LeL.refl) (.cons (.lst LeL.refl) .nil)))
theorem le_one (h : Hk) (a b r : Option (List AV)) : Le (.lst 3 [hkr h a b] r) (.lst 3 (hks [h]) none) := .lst (.cons (le_hkr h a b) .nil)
theorem le_txt (l : List ByteArray) (r : Option (List AV)) : Le (.lst 1 (strs l) r) (.lst 1 (strs l) none) := .lst LeL.refl

theorem apply_f (l : List ByteArray) (hs : List Hk) {x y : AV} (hx : Le x (.lst 1 (strs l) none)) (hy : Le y (.lst 3 (hks hs) none)) (H : AHeap) (hl : Short l) (hhs : AllShort hs) (htot : l.length + newLen hs ≤ 100000000) :
    D Try.prog 11 [x, y] H (.ret (.tup [.lst 1 (strs (applyR l hs).1) none, .sc (.int .i64 (applyR l hs).2)])) H := by
  refine D_le (.cons hx (.cons hy .nil)) ((apply_d l hs none H hl hhs htot).weak (Nat.le_refl _) ?_)
  refine weak_gen [] (by simp) (by simp) (by simp) (fun id k hid hk => .inl ⟨hk, by rw [find_past hid]; exact hk⟩) (fun i s k hs => by simp at hs) (.tup (.cons (OwnV_fz (ty := 9) (fun _ => ?_) (fun _ => find_top rfl) strs_gz) (.cons (.same trivial) .nil)))
  unfold newId
  rw [if_neg (by omega)]
  rfl

def tx (l : List Nat) : ByteArray := ⟨(l.map fun n => n.toUInt8).toArray⟩
theorem one_d (n : Int) (s t : ByteArray) (H : AHeap) : D Try.prog 30 [.sc (.int .i64 n), .sc (.string s), .sc (.string t)] H (.ret (hkr ⟨n, [s], [t]⟩ (some []) (some []))) H := by
  refine D_of_DK (Nat.le_refl _) (dk30 (E_of_ES ?_))
  simp -implicitDefEqProofs (maxSteps := 99999999) (disch := omega) only [ic30, va, vg, vs, vh, Nat.reduceMul, ite_true, ite_false, eq_self, forall_const, implies_true, Nat.reduceAdd, Nat.reduceSub, Nat.reduceLT, Nat.reduceLeDiff, ↓reduceIte, reduceCtorEq, Int.reduceEq, Int.reduceLT, Int.reduceLE, Int.reduceGT, Int.reduceGE, Int.reduceAdd, Int.reduceSub, Int.reduceNeg, Int.reduceToNat, Nat.reduceBEq, Nat.reduceEqDiff]
  refine weak_over (.cons .refl) (.same ⟨trivial, ⟨⟨trivial, trivial⟩, trivial⟩, ⟨⟨trivial, trivial⟩, trivial⟩, trivial⟩)
abbrev abcL : List ByteArray := [⟨#[97, 10]⟩, ⟨#[98, 10]⟩, ⟨#[99, 10]⟩]
theorem abc_d (H : AHeap) : D Try.prog 29 [] H (.ret (.lst 1 (strs abcL) (some []))) H := by
  refine D_of_DK (Nat.le_refl _) (dk29 (E_of_ES ?_))
  simp -implicitDefEqProofs (maxSteps := 99999999) (disch := omega) only [ic29, va, vg, vs, vh, Nat.reduceMul, ite_true, ite_false, eq_self, forall_const, implies_true, Nat.reduceAdd, Nat.reduceSub, Nat.reduceLT, Nat.reduceLeDiff, ↓reduceIte, reduceCtorEq, Int.reduceEq, Int.reduceLT, Int.reduceLE, Int.reduceGT, Int.reduceGE, Int.reduceAdd, Int.reduceSub, Int.reduceNeg, Int.reduceToNat, Nat.reduceBEq, Nat.reduceEqDiff]
  exact Weak.refl _ _ _
def Hk.inv (h : Hk) : Hk := ⟨h.at_, h.new, h.old⟩
theorem apply_e {l : List ByteArray} {hs : List Hk} {r : List ByteArray × Int} (e : applyR l hs = r) {x y : AV} (hx : Le x (.lst 1 (strs l) none)) (hy : Le y (.lst 3 (hks hs) none)) (H : AHeap) (hl : Short l) (hhs : AllShort hs) (htot : l.length + newLen hs ≤ 100000000) :
    D Try.prog 11 [x, y] H (.ret (.tup [.lst 1 (strs r.1) none, .sc (.int .i64 r.2)])) H := e ▸ apply_f l hs hx hy H hl hhs htot
theorem sameTexts_t (a : List ByteArray) {x y : AV} (hx : Le x (.lst 1 (strs a) none)) (hy : Le y (.lst 1 (strs a) none)) (H : AHeap) (hl : a.length ≤ 100000000) : D Try.prog 14 [x, y] H (.ret (.sc (.bool true))) H := by
  have := sameTexts_d a a none none H hl
  rw [decide_eq_true rfl] at this
  exact D_le (.cons hx (.cons hy .nil)) this
theorem short1 {h : Hk} (hs : h.short) : AllShort [h] := ⟨by simp, by simpa using hs⟩

def k1 : Hk := ⟨1, [⟨#[98, 10]⟩], [⟨#[120, 10]⟩, ⟨#[121, 10]⟩]⟩
def k2 : Hk := ⟨1, [⟨#[99, 10]⟩], [⟨#[120, 10]⟩]⟩
def k3 : Hk := ⟨3, [⟨#[99, 10]⟩], []⟩
def k4 : Hk := ⟨2, [⟨#[99, 10]⟩], [⟨#[100]⟩]⟩
def k5 : Hk := ⟨0, [⟨#[97, 10]⟩], [⟨#[100]⟩]⟩
theorem sk1 : k1.short := ⟨short_lit rfl, short_lit rfl⟩
theorem sk2 : k2.short := ⟨short_lit rfl, short_lit rfl⟩
theorem sk3 : k3.short := ⟨short_lit rfl, short_lit rfl⟩
theorem sk4 : k4.short := ⟨short_lit rfl, short_lit rfl⟩
theorem sk5 : k5.short := ⟨short_lit rfl, short_lit rfl⟩
theorem sAbc : Short abcL := short_lit rfl
abbrev r1 : List ByteArray := [⟨#[97, 10]⟩, ⟨#[120, 10]⟩, ⟨#[121, 10]⟩, ⟨#[99, 10]⟩]
abbrev r4 : List ByteArray := [⟨#[97, 10]⟩, ⟨#[98, 10]⟩, ⟨#[100]⟩]
theorem av1 : applyR abcL [k1] = (r1, 0) := by kernel_rfl
theorem av2 : applyR abcL [k2] = ([], 121) := by kernel_rfl
theorem av3 : applyR abcL [k3] = ([], 6) := by kernel_rfl
theorem av4 : applyR abcL [k4] = (r4, 0) := by kernel_rfl
theorem av5 : applyR abcL [k5] = ([], 4) := by kernel_rfl

set_option maxHeartbeats 4000000 in
theorem awake3_d (H : AHeap) : D Try.prog 9 [] H (.ret (.sc (.bool true))) H := by
  refine D_of_DK (Nat.le_refl _) (dk9 (E_of_ES ?_))
  simp only [ic9, ux]
  refine ES_seq_gen fun L hL => ?_
  simp -implicitDefEqProofs (maxSteps := 99999999) (disch := omega) only [va, vg, vs, vh, Nat.reduceMul, ite_true, ite_false, eq_self, forall_const, implies_true, Nat.reduceAdd, Nat.reduceSub, Nat.reduceLT, Nat.reduceLeDiff, ↓reduceIte, reduceCtorEq, Int.reduceEq, Int.reduceLT, Int.reduceLE, Int.reduceGT, Int.reduceGE, Int.reduceAdd, Int.reduceSub, Int.reduceNeg, Int.reduceToNat, Nat.reduceBEq, Nat.reduceEqDiff]
  refine hL _ _ ?_
  clear hL
  refine ES_seq_gen fun L hL => ?_
  simp -implicitDefEqProofs (maxSteps := 99999999) (disch := omega) only [va, vg, vs, vh, Nat.reduceMul, ite_true, ite_false, eq_self, forall_const, implies_true, Nat.reduceAdd, Nat.reduceSub, Nat.reduceLT, Nat.reduceLeDiff, ↓reduceIte, reduceCtorEq, Int.reduceEq, Int.reduceLT, Int.reduceLE, Int.reduceGT, Int.reduceGE, Int.reduceAdd, Int.reduceSub, Int.reduceNeg, Int.reduceToNat, Nat.reduceBEq, Nat.reduceEqDiff]
  refine callR_ret (abc_d _) ?_
  simp -implicitDefEqProofs (maxSteps := 99999999) (disch := omega) only [va, vg, vs, vh, Nat.reduceMul, ite_true, ite_false, eq_self, forall_const, implies_true, Nat.reduceAdd, Nat.reduceSub, Nat.reduceLT, Nat.reduceLeDiff, ↓reduceIte, reduceCtorEq, Int.reduceEq, Int.reduceLT, Int.reduceLE, Int.reduceGT, Int.reduceGE, Int.reduceAdd, Int.reduceSub, Int.reduceNeg, Int.reduceToNat, Nat.reduceBEq, Nat.reduceEqDiff]
  refine callR_ret (apply_e (hs := [k1]) av1 (le_txt abcL _) (le_one k1 _ _ _) _ sAbc (short1 sk1) (by decide)) ?_
  simp -implicitDefEqProofs (maxSteps := 99999999) (disch := omega) only [va, vg, vs, vh, Nat.reduceMul, ite_true, ite_false, eq_self, forall_const, implies_true, Nat.reduceAdd, Nat.reduceSub, Nat.reduceLT, Nat.reduceLeDiff, ↓reduceIte, reduceCtorEq, Int.reduceEq, Int.reduceLT, Int.reduceLE, Int.reduceGT, Int.reduceGE, Int.reduceAdd, Int.reduceSub, Int.reduceNeg, Int.reduceToNat, Nat.reduceBEq, Nat.reduceEqDiff]
  refine hL _ _ ?_
  clear hL
  refine ES_seq_gen fun L hL => ?_
  simp -implicitDefEqProofs (maxSteps := 99999999) (disch := omega) only [va, vg, vs, vh, Nat.reduceMul, ite_true, ite_false, eq_self, forall_const, implies_true, Nat.reduceAdd, Nat.reduceSub, Nat.reduceLT, Nat.reduceLeDiff, ↓reduceIte, reduceCtorEq, Int.reduceEq, Int.reduceLT, Int.reduceLE, Int.reduceGT, Int.reduceGE, Int.reduceAdd, Int.reduceSub, Int.reduceNeg, Int.reduceToNat, Nat.reduceBEq, Nat.reduceEqDiff]
  refine callR_ret (abc_d _) ?_
  simp -implicitDefEqProofs (maxSteps := 99999999) (disch := omega) only [va, vg, vs, vh, Nat.reduceMul, ite_true, ite_false, eq_self, forall_const, implies_true, Nat.reduceAdd, Nat.reduceSub, Nat.reduceLT, Nat.reduceLeDiff, ↓reduceIte, reduceCtorEq, Int.reduceEq, Int.reduceLT, Int.reduceLE, Int.reduceGT, Int.reduceGE, Int.reduceAdd, Int.reduceSub, Int.reduceNeg, Int.reduceToNat, Nat.reduceBEq, Nat.reduceEqDiff]
  refine callR_ret (one_d _ _ _ _) ?_
  simp -implicitDefEqProofs (maxSteps := 99999999) (disch := omega) only [va, vg, vs, vh, Nat.reduceMul, ite_true, ite_false, eq_self, forall_const, implies_true, Nat.reduceAdd, Nat.reduceSub, Nat.reduceLT, Nat.reduceLeDiff, ↓reduceIte, reduceCtorEq, Int.reduceEq, Int.reduceLT, Int.reduceLE, Int.reduceGT, Int.reduceGE, Int.reduceAdd, Int.reduceSub, Int.reduceNeg, Int.reduceToNat, Nat.reduceBEq, Nat.reduceEqDiff]
  refine callR_ret (apply_e (hs := [k2]) av2 (le_txt abcL _) (le_one k2 _ _ _) _ sAbc (short1 sk2) (by decide)) ?_
  simp -implicitDefEqProofs (maxSteps := 99999999) (disch := omega) only [va, vg, vs, vh, Nat.reduceMul, ite_true, ite_false, eq_self, forall_const, implies_true, Nat.reduceAdd, Nat.reduceSub, Nat.reduceLT, Nat.reduceLeDiff, ↓reduceIte, reduceCtorEq, Int.reduceEq, Int.reduceLT, Int.reduceLE, Int.reduceGT, Int.reduceGE, Int.reduceAdd, Int.reduceSub, Int.reduceNeg, Int.reduceToNat, Nat.reduceBEq, Nat.reduceEqDiff]
  refine hL _ _ ?_
  clear hL
  refine ES_seq_gen fun L hL => ?_
  simp -implicitDefEqProofs (maxSteps := 99999999) (disch := omega) only [va, vg, vs, vh, Nat.reduceMul, ite_true, ite_false, eq_self, forall_const, implies_true, Nat.reduceAdd, Nat.reduceSub, Nat.reduceLT, Nat.reduceLeDiff, ↓reduceIte, reduceCtorEq, Int.reduceEq, Int.reduceLT, Int.reduceLE, Int.reduceGT, Int.reduceGE, Int.reduceAdd, Int.reduceSub, Int.reduceNeg, Int.reduceToNat, Nat.reduceBEq, Nat.reduceEqDiff]
  refine callR_ret (abc_d _) ?_
  simp -implicitDefEqProofs (maxSteps := 99999999) (disch := omega) only [va, vg, vs, vh, Nat.reduceMul, ite_true, ite_false, eq_self, forall_const, implies_true, Nat.reduceAdd, Nat.reduceSub, Nat.reduceLT, Nat.reduceLeDiff, ↓reduceIte, reduceCtorEq, Int.reduceEq, Int.reduceLT, Int.reduceLE, Int.reduceGT, Int.reduceGE, Int.reduceAdd, Int.reduceSub, Int.reduceNeg, Int.reduceToNat, Nat.reduceBEq, Nat.reduceEqDiff]
  refine callR_ret (apply_e (hs := [k3]) av3 (le_txt abcL _) (.lst (.cons (.agg (.cons .refl (.cons (.lst LeL.refl) (.cons .nil .nil)))) .nil)) _ sAbc (short1 sk3) (by decide)) ?_
  simp -implicitDefEqProofs (maxSteps := 99999999) (disch := omega) only [va, vg, vs, vh, Nat.reduceMul, ite_true, ite_false, eq_self, forall_const, implies_true, Nat.reduceAdd, Nat.reduceSub, Nat.reduceLT, Nat.reduceLeDiff, ↓reduceIte, reduceCtorEq, Int.reduceEq, Int.reduceLT, Int.reduceLE, Int.reduceGT, Int.reduceGE, Int.reduceAdd, Int.reduceSub, Int.reduceNeg, Int.reduceToNat, Nat.reduceBEq, Nat.reduceEqDiff]
  refine hL _ _ ?_
  clear hL
  refine ES_seq_gen fun L hL => ?_
  simp -implicitDefEqProofs (maxSteps := 99999999) (disch := omega) only [va, vg, vs, vh, Nat.reduceMul, ite_true, ite_false, eq_self, forall_const, implies_true, Nat.reduceAdd, Nat.reduceSub, Nat.reduceLT, Nat.reduceLeDiff, ↓reduceIte, reduceCtorEq, Int.reduceEq, Int.reduceLT, Int.reduceLE, Int.reduceGT, Int.reduceGE, Int.reduceAdd, Int.reduceSub, Int.reduceNeg, Int.reduceToNat, Nat.reduceBEq, Nat.reduceEqDiff]
  refine callR_ret (abc_d _) ?_
  simp -implicitDefEqProofs (maxSteps := 99999999) (disch := omega) only [va, vg, vs, vh, Nat.reduceMul, ite_true, ite_false, eq_self, forall_const, implies_true, Nat.reduceAdd, Nat.reduceSub, Nat.reduceLT, Nat.reduceLeDiff, ↓reduceIte, reduceCtorEq, Int.reduceEq, Int.reduceLT, Int.reduceLE, Int.reduceGT, Int.reduceGE, Int.reduceAdd, Int.reduceSub, Int.reduceNeg, Int.reduceToNat, Nat.reduceBEq, Nat.reduceEqDiff]
  refine callR_ret (one_d _ _ _ _) ?_
  simp -implicitDefEqProofs (maxSteps := 99999999) (disch := omega) only [va, vg, vs, vh, Nat.reduceMul, ite_true, ite_false, eq_self, forall_const, implies_true, Nat.reduceAdd, Nat.reduceSub, Nat.reduceLT, Nat.reduceLeDiff, ↓reduceIte, reduceCtorEq, Int.reduceEq, Int.reduceLT, Int.reduceLE, Int.reduceGT, Int.reduceGE, Int.reduceAdd, Int.reduceSub, Int.reduceNeg, Int.reduceToNat, Nat.reduceBEq, Nat.reduceEqDiff]
  refine callR_ret (apply_e (hs := [k4]) av4 (le_txt abcL _) (le_one k4 _ _ _) _ sAbc (short1 sk4) (by decide)) ?_
  simp -implicitDefEqProofs (maxSteps := 99999999) (disch := omega) only [va, vg, vs, vh, Nat.reduceMul, ite_true, ite_false, eq_self, forall_const, implies_true, Nat.reduceAdd, Nat.reduceSub, Nat.reduceLT, Nat.reduceLeDiff, ↓reduceIte, reduceCtorEq, Int.reduceEq, Int.reduceLT, Int.reduceLE, Int.reduceGT, Int.reduceGE, Int.reduceAdd, Int.reduceSub, Int.reduceNeg, Int.reduceToNat, Nat.reduceBEq, Nat.reduceEqDiff]
  refine hL _ _ ?_
  clear hL
  refine ES_seq_gen fun L hL => ?_
  simp -implicitDefEqProofs (maxSteps := 99999999) (disch := omega) only [va, vg, vs, vh, Nat.reduceMul, ite_true, ite_false, eq_self, forall_const, implies_true, Nat.reduceAdd, Nat.reduceSub, Nat.reduceLT, Nat.reduceLeDiff, ↓reduceIte, reduceCtorEq, Int.reduceEq, Int.reduceLT, Int.reduceLE, Int.reduceGT, Int.reduceGE, Int.reduceAdd, Int.reduceSub, Int.reduceNeg, Int.reduceToNat, Nat.reduceBEq, Nat.reduceEqDiff]
  refine callR_ret (abc_d _) ?_
  simp -implicitDefEqProofs (maxSteps := 99999999) (disch := omega) only [va, vg, vs, vh, Nat.reduceMul, ite_true, ite_false, eq_self, forall_const, implies_true, Nat.reduceAdd, Nat.reduceSub, Nat.reduceLT, Nat.reduceLeDiff, ↓reduceIte, reduceCtorEq, Int.reduceEq, Int.reduceLT, Int.reduceLE, Int.reduceGT, Int.reduceGE, Int.reduceAdd, Int.reduceSub, Int.reduceNeg, Int.reduceToNat, Nat.reduceBEq, Nat.reduceEqDiff]
  refine callR_ret (one_d _ _ _ _) ?_
  simp -implicitDefEqProofs (maxSteps := 99999999) (disch := omega) only [va, vg, vs, vh, Nat.reduceMul, ite_true, ite_false, eq_self, forall_const, implies_true, Nat.reduceAdd, Nat.reduceSub, Nat.reduceLT, Nat.reduceLeDiff, ↓reduceIte, reduceCtorEq, Int.reduceEq, Int.reduceLT, Int.reduceLE, Int.reduceGT, Int.reduceGE, Int.reduceAdd, Int.reduceSub, Int.reduceNeg, Int.reduceToNat, Nat.reduceBEq, Nat.reduceEqDiff]
  refine callR_ret (apply_e (hs := [k5]) av5 (le_txt abcL _) (le_one k5 _ _ _) _ sAbc (short1 sk5) (by decide)) ?_
  simp -implicitDefEqProofs (maxSteps := 99999999) (disch := omega) only [va, vg, vs, vh, Nat.reduceMul, ite_true, ite_false, eq_self, forall_const, implies_true, Nat.reduceAdd, Nat.reduceSub, Nat.reduceLT, Nat.reduceLeDiff, ↓reduceIte, reduceCtorEq, Int.reduceEq, Int.reduceLT, Int.reduceLE, Int.reduceGT, Int.reduceGE, Int.reduceAdd, Int.reduceSub, Int.reduceNeg, Int.reduceToNat, Nat.reduceBEq, Nat.reduceEqDiff]
  refine hL _ _ ?_
  clear hL
  simp -implicitDefEqProofs (maxSteps := 99999999) (disch := omega) only [va, vg, vs, vh, Nat.reduceMul, ite_true, ite_false, eq_self, forall_const, implies_true, Nat.reduceAdd, Nat.reduceSub, Nat.reduceLT, Nat.reduceLeDiff, ↓reduceIte, reduceCtorEq, Int.reduceEq, Int.reduceLT, Int.reduceLE, Int.reduceGT, Int.reduceGE, Int.reduceAdd, Int.reduceSub, Int.reduceNeg, Int.reduceToNat, Nat.reduceBEq, Nat.reduceEqDiff]
  refine callR_ret (sameTexts_t r1 (le_txt r1 _) (le_txt r1 _) _ (by decide)) ?_
  simp -implicitDefEqProofs (maxSteps := 99999999) (disch := omega) only [va, vg, vs, vh, Nat.reduceMul, ite_true, ite_false, eq_self, forall_const, implies_true, Nat.reduceAdd, Nat.reduceSub, Nat.reduceLT, Nat.reduceLeDiff, ↓reduceIte, reduceCtorEq, Int.reduceEq, Int.reduceLT, Int.reduceLE, Int.reduceGT, Int.reduceGE, Int.reduceAdd, Int.reduceSub, Int.reduceNeg, Int.reduceToNat, Nat.reduceBEq, Nat.reduceEqDiff]
  refine callR_ret (sameTexts_t r4 (le_txt r4 _) (le_txt r4 _) _ (by decide)) ?_
  simp -implicitDefEqProofs (maxSteps := 99999999) (disch := omega) only [va, vg, vs, vh, Nat.reduceMul, ite_true, ite_false, eq_self, forall_const, implies_true, Nat.reduceAdd, Nat.reduceSub, Nat.reduceLT, Nat.reduceLeDiff, ↓reduceIte, reduceCtorEq, Int.reduceEq, Int.reduceLT, Int.reduceLE, Int.reduceGT, Int.reduceGE, Int.reduceAdd, Int.reduceSub, Int.reduceNeg, Int.reduceToNat, Nat.reduceBEq, Nat.reduceEqDiff]
  exact weak_sc (by repeat constructor)
end Go.Proofs.Ytigmpablpmanpaa
