/- Several texts in one: what each is for stands ahead of it. -/
import Derived.Test.YtigmpablpmanpaaSB
/- Plain laws of hunks that are applied: inverses undo them; they may be applied one by one, from the last one on. -/
namespace Go.Proofs.Ytigmpablpmanpaa
open Go.RowKit
set_option linter.unusedVariables false
set_option linter.unusedSimpArgs false

/-! ### Lines -/
def cl (s : ByteArray) : Bool := decide (0 ≤ nl s)
def linesL : List ByteArray → Bool
  | [] => true
  | x :: r => lineOk x && ((r.isEmpty || cl x) && linesL r)
theorem good_cons {x : ByteArray} {r : List ByteArray} {k : Nat} : good (x :: r) (k + 1) = good r k := by
  unfold good
  have : nthS (x :: r) (k + 1) = nthS r k := rfl
  rw [this]
  congr 2
  simp
theorem linesB_eq : ∀ xs : List ByteArray, linesB xs = linesL xs
  | [] => rfl
  | x :: r => by
    have ih := linesB_eq r
    have h0 : good (x :: r) 0 = (lineOk x && (r.isEmpty || cl x)) := by
      unfold good cl
      have e : nthS (x :: r) 0 = x := rfl
      rw [e]
      congr 1
      have h1 : (!decide (nl x < 0)) = decide (0 ≤ nl x) := by
        by_cases h : nl x < 0
        · have : ¬ 0 ≤ nl x := by omega
          simp [h, this]
        · have : 0 ≤ nl x := by omega
          simp [h, this]
      rw [h1, Bool.or_comm]
      congr 1
      cases r <;> simp
    have : linesB (x :: r) = (good (x :: r) 0 && linesB r) := by
      unfold linesB
      rw [List.length_cons, List.range_succ_eq_map, List.all_cons, List.all_map]
      congr 1
      apply List.all_congr rfl
      intro k
      exact good_cons
    rw [this, h0, ih]
    simp only [linesL, Bool.and_assoc]
theorem linesL_app : ∀ {X Y : List ByteArray}, Y ≠ [] → linesL (X ++ Y) = ((X.all fun x => lineOk x && cl x) && linesL Y)
  | [], Y, _ => by simp
  | x :: r, Y, h => by
    have ih := linesL_app (X := r) h
    have : (r ++ Y).isEmpty = false := by cases r <;> cases Y <;> simp at h ⊢
    simp only [List.cons_append, linesL, this, Bool.false_or, ih, List.all_cons, Bool.and_assoc]
theorem linesL_all : ∀ {X : List ByteArray}, (X.all fun x => lineOk x && cl x) = true → linesL X = true
  | [], _ => rfl
  | x :: r, h => by
    simp only [List.all_cons, Bool.and_eq_true] at h
    simp only [linesL, h.1.1, h.1.2, linesL_all h.2, Bool.or_true, Bool.and_self]
theorem lines_pre {P R : List ByteArray} (h : linesB (P ++ R) = true) : linesB P = true := by
  rw [linesB_eq] at h ⊢
  by_cases e : R = []
  · simpa [e] using h
  · rw [linesL_app e, Bool.and_eq_true] at h
    exact linesL_all h.1
theorem lines_mix {P0 S R A Q : List ByteArray} (hl : linesB (P0 ++ S ++ R) = true) (ha : linesB (A ++ (S ++ Q)) = true) (hs : P0 ≠ [] → S ≠ []) : linesB (P0 ++ S ++ Q) = true := by
  by_cases eq : Q = []
  · subst eq
    rw [List.append_nil]
    exact lines_pre hl
  rw [linesB_eq] at hl ha ⊢
  rw [← List.append_assoc, linesL_app eq, Bool.and_eq_true, List.all_append, Bool.and_eq_true] at ha
  rw [linesL_app eq, ha.2, List.all_append, ha.1.2]
  by_cases es : S = []
  · have : P0 = [] := Classical.byContradiction fun h => hs h es
    subst this
    rfl
  · rw [List.append_assoc, linesL_app (by simp [es]), Bool.and_eq_true] at hl
    rw [hl.1]
    rfl

/-! ### What Apply makes -/
def fitB (l : List ByteArray) (h : Hk) : Prop := h.old.length ≤ l.length ∧ h.at_ ≤ (l.length : Int) - h.old.length ∧ (l.drop h.at_.toNat).take h.old.length = h.old
def tailR (l : List ByteArray) : List Hk → Nat → List ByteArray
  | [], a => l.drop a
  | h :: r, a => (l.take h.at_.toNat).drop a ++ (h.new ++ tailR l r (h.at_.toNat + h.old.length))

theorem applyGo_ok {l : List ByteArray} : ∀ {hs : List Hk} {a : Nat} {out : List ByteArray} {x : Int}, sortedB x hs = true → (((applyGo l hs a out).1 = 0 ↔ ∀ h ∈ hs, fitB l h) ∧ ((applyGo l hs a out).1 = 0 → (applyGo l hs a out).2.2 ++ l.drop (applyGo l hs a out).2.1 = out ++ tailR l hs a))
  | [], a, out, x, _ => ⟨by simp [applyGo], fun _ => rfl⟩
  | h :: r, a, out, x, hs => by
    simp only [sortedB, Bool.and_eq_true] at hs
    have hat := rightB_at hs.1
    simp only [applyGo]
    by_cases c1 : h.old.length ≤ l.length ∧ h.at_ ≤ (l.length : Int) - h.old.length
    · rw [if_pos c1]
      by_cases c2 : (l.drop h.at_.toNat).take h.old.length = h.old
      · rw [if_pos c2]
        have ih := applyGo_ok (l := l) (hs := r) (a := (h.at_ + h.old.length).toNat) (out := out ++ (l.take h.at_.toNat).drop a ++ h.new) hs.2.2
        have e : (h.at_ + h.old.length).toNat = h.at_.toNat + h.old.length := by omega
        refine ⟨ih.1.trans ⟨fun k x hx => ?_, fun k x hx => k x (by simp [hx])⟩, fun h0 => ?_⟩
        · rcases List.mem_cons.1 hx with rfl | hx
          · exact ⟨c1.1, c1.2, c2⟩
          · exact k x hx
        · rw [ih.2 h0, e]
          simp only [tailR, List.append_assoc]
      · rw [if_neg c2]
        exact ⟨⟨fun e => by simp at e, fun k => (c2 (k h (by simp)).2.2).elim⟩, fun e => by simp at e⟩
    · rw [if_neg c1]
      exact ⟨⟨fun e => by simp at e, fun k => (c1 ⟨(k h (by simp)).1, (k h (by simp)).2.1⟩).elim⟩, fun e => by simp at e⟩

theorem applyR_iff {l : List ByteArray} {hs : List Hk} : (applyR l hs).2 = 0 ↔ linesB l = true ∧ sortedB 0 hs = true ∧ (∀ h ∈ hs, fitB l h) ∧ linesB (tailR l hs 0) = true := by
  unfold applyR
  by_cases c : linesB l = true ∧ sortedB 0 hs = true
  · rw [if_pos c]
    have k := applyGo_ok (l := l) (a := 0) (out := []) c.2
    by_cases c0 : (applyGo l hs 0 []).1 = 0
    · rw [if_pos c0, k.2 c0]
      by_cases c1 : linesB (tailR l hs 0) = true
      · simp only [List.nil_append, c1, if_true]
        exact ⟨fun _ => ⟨c.1, c.2, k.1.1 c0, trivial⟩, fun _ => trivial⟩
      · simp only [List.nil_append, c1]
        exact ⟨fun e => by simp at e, fun e => absurd e.2.2.2 (by simp)⟩
    · rw [if_neg c0]
      exact ⟨fun e => (c0 e).elim, fun e => (c0 (k.1.2 e.2.2.1)).elim⟩
  · rw [if_neg c]
    exact ⟨fun e => by simp at e, fun e => (c ⟨e.1, e.2.1⟩).elim⟩
theorem applyR_val {l : List ByteArray} {hs : List Hk} (h : (applyR l hs).2 = 0) : (applyR l hs).1 = tailR l hs 0 := by
  obtain ⟨h1, h2, h3, h4⟩ := applyR_iff.1 h
  have k := applyGo_ok (l := l) (a := 0) (out := []) h2
  have c0 := k.1.2 h3
  unfold applyR
  rw [if_pos ⟨h1, h2⟩, if_pos c0, k.2 c0, List.nil_append, if_pos h4]
theorem applyR_err {l : List ByteArray} {hs : List Hk} (h : ¬ (applyR l hs).2 = 0) : (applyR l hs).1 = [] := by
  unfold applyR at h ⊢
  split
  · rename_i c
    rw [if_pos c] at h
    split
    · rename_i c0
      rw [if_pos c0] at h
      split
      · rename_i c1; rw [if_pos c1] at h; exact (h rfl).elim
      · rfl
    · rfl
  · rfl
theorem applyR_of {l x : List ByteArray} {hs : List Hk} (h1 : linesB l = true) (h2 : sortedB 0 hs = true) (h3 : ∀ h ∈ hs, fitB l h) (h4 : tailR l hs 0 = x) (h5 : linesB x = true) : applyR l hs = (x, 0) := by
  have h : (applyR l hs).2 = 0 := applyR_iff.2 ⟨h1, h2, h3, by rw [h4]; exact h5⟩
  exact Prod.ext ((applyR_val h).trans h4) h

theorem tailR_short {l : List ByteArray} : ∀ {hs : List Hk} {a : Nat}, Short l → (∀ h ∈ hs, h.short) → (∀ s ∈ tailR l hs a, s.size ≤ 100000000)
  | [], a, hl, _, s, hs => hl.2 s (List.mem_of_mem_drop hs)
  | h :: r, a, hl, hh, s, hs => by
    simp only [tailR, List.mem_append] at hs
    rcases hs with hs | hs | hs
    · exact hl.2 s (List.mem_of_mem_take (List.mem_of_mem_drop hs))
    · exact (hh h (by simp)).2.2 s hs
    · exact tailR_short hl (fun x hx => hh x (by simp [hx])) s hs
/-- How long: what lies behind, and all that is new. -/
theorem tailR_len {l : List ByteArray} : ∀ {hs : List Hk} {a : Nat} {x : Int}, sortedB x hs = true → (a : Int) ≤ x → (∀ h ∈ hs, fitB l h) → a ≤ l.length → (tailR l hs a).length ≤ l.length - a + newLen hs
  | [], a, x, _, _, _, _ => by simp [tailR, newLen]
  | h :: r, a, x, hs, hx, hf, ha => by
    simp only [sortedB, Bool.and_eq_true, Bool.not_eq_true', decide_eq_false_iff_not] at hs
    have hat := rightB_at hs.1
    have f := hf h (by simp)
    have ih := tailR_len (l := l) (a := h.at_.toNat + h.old.length) hs.2.2 (by omega) (fun y hy => hf y (by simp [hy])) (by have := f.2.1; have := f.1; omega)
    have f1 := f.1
    have f2 := f.2.1
    simp only [tailR, List.length_append, newLen, List.length_drop, List.length_take]
    omega
theorem applyR_short {l : List ByteArray} {hs : List Hk} (hl : Short l) (hh : AllShort hs) (ht : l.length + newLen hs ≤ 100000000) : Short (applyR l hs).1 ∧ (applyR l hs).1.length ≤ l.length + newLen hs := by
  by_cases h : (applyR l hs).2 = 0
  · obtain ⟨h1, h2, h3, h4⟩ := applyR_iff.1 h
    rw [applyR_val h]
    have := tailR_len (a := 0) h2 (by simp) h3 (Nat.zero_le _)
    exact ⟨⟨by omega, tailR_short hl hh.2⟩, by omega⟩
  · rw [applyR_err h]
    exact ⟨Short.nil, Nat.zero_le _⟩
end Go.Proofs.Ytigmpablpmanpaa

/- Plain laws: the inverses undo; one by one from the last one on. -/
namespace Go.Proofs.Ytigmpablpmanpaa
open Go.RowKit
set_option linter.unusedVariables false
set_option linter.unusedSimpArgs false

theorem Hk.inv_short {h : Hk} (hs : h.short) : h.inv.short := ⟨hs.2, hs.1⟩

/-- The inverses, each at its place: n lines are made of L. -/
def backL (L : Nat) : Int → List Hk → List Hk
  | _, [] => []
  | n, h :: r => ⟨h.at_ + n - L, h.new, h.old⟩ :: backL L (n + h.new.length - h.old.length) r
def endN : Int → List Hk → Int
  | n, [] => n
  | n, h :: r => endN (n + h.new.length - h.old.length) r

theorem backL_length (L : Nat) : ∀ (n : Int) (hs : List Hk), (backL L n hs).length = hs.length
  | _, [] => rfl
  | n, h :: r => by simp [backL, backL_length L _ r]
theorem backL_app (L : Nat) : ∀ (n : Int) (hs : List Hk) (h : Hk), backL L n (hs ++ [h]) = backL L n hs ++ [⟨h.at_ + endN n hs - L, h.new, h.old⟩]
  | n, [], h => rfl
  | n, x :: r, h => by simp [backL, endN, backL_app L _ r h]
theorem endN_app : ∀ (n : Int) (hs : List Hk) (h : Hk), endN n (hs ++ [h]) = endN n hs + h.new.length - h.old.length
  | n, [], h => rfl
  | n, x :: r, h => by simp [endN, endN_app _ r h]

theorem drop_at {l old : List ByteArray} {n : Nat} (h : (l.drop n).take old.length = old) : l.drop n = old ++ l.drop (n + old.length) := by
  rw [← List.drop_drop]
  conv => lhs; rw [← List.take_append_drop old.length (l.drop n), h]
theorem take_seg {l : List ByteArray} {p n : Nat} (h : p ≤ n) : l.drop p = (l.take n).drop p ++ l.drop n := by
  conv => lhs; rw [← List.take_append_drop n l]
  rw [List.drop_append]
  by_cases hn : n ≤ l.length
  · have : p - (l.take n).length = 0 := by simp; omega
    rw [this, List.drop_zero]
  · rw [List.drop_of_length_le (l := l) (i := n) (by omega)]
    simp

theorem back_law {l a : List ByteArray} (ha1 : a.length ≤ 100000000) (hl1 : l.length ≤ 100000000) : ∀ {hs : List Hk} {p q : Nat} {n least : Int}, sortedB least hs = true → (p : Int) ≤ least → (∀ h ∈ hs, fitB l h) → p ≤ l.length → q ≤ a.length → a.drop q = tailR l hs p → n = (l.length : Int) + q - p →
    sortedB (least + n - l.length) (backL l.length n hs) = true ∧ (∀ h ∈ backL l.length n hs, fitB a h) ∧ tailR a (backL l.length n hs) q = l.drop p ∧ endN n hs = (a.length : Int) := by
  intro hs
  induction hs with
  | nil =>
    intro p q n least _ _ _ hp hq h hn
    refine ⟨rfl, by simp [backL], ?_, ?_⟩
    · simp only [backL, tailR]; simpa [tailR] using h
    · have := congrArg List.length h
      simp only [tailR, List.length_drop] at this
      simp only [endN]
      omega
  | cons h r ih =>
    intro p q n least hs hpl hf hp hq hd hn
    simp only [sortedB, Bool.and_eq_true, Bool.not_eq_true', decide_eq_false_iff_not] at hs
    obtain ⟨hr, hlt, hs'⟩ := hs
    have hat := rightB_at hr
    have f := hf h (by simp)
    obtain ⟨f1, f2, f3⟩ := f
    simp only [tailR] at hd
    have hseg : ((l.take h.at_.toNat).drop p).length = h.at_.toNat - p := by simp; omega
    have hlen := congrArg List.length hd
    simp only [List.length_append, hseg, List.length_drop] at hlen
    -- the place in a
    have e1 : (h.at_ + n - (l.length : Int)).toNat = q + (h.at_.toNat - p) := by omega
    have d1 : a.drop (q + (h.at_.toNat - p)) = h.new ++ tailR l r (h.at_.toNat + h.old.length) := by
      rw [← List.drop_drop, hd, ← hseg, List.drop_left]
    have d2 : (a.drop (q + (h.at_.toNat - p))).take h.new.length = h.new := by rw [d1, List.take_left]
    have d3 : a.drop (q + (h.at_.toNat - p) + h.new.length) = tailR l r (h.at_.toNat + h.old.length) := by
      rw [← List.drop_drop, d1, List.drop_left]
    have d4 : (a.take (q + (h.at_.toNat - p))).drop q = (l.take h.at_.toNat).drop p := by
      have : (a.drop q).take (h.at_.toNat - p) = (l.take h.at_.toNat).drop p := by rw [hd, ← hseg, List.take_left]
      rw [← this, List.drop_take]
      congr 1
      omega
    have hfit : q + (h.at_.toNat - p) + h.new.length ≤ a.length := by omega
    obtain ⟨i1, i2, i3, i4⟩ := ih (p := h.at_.toNat + h.old.length) (q := q + (h.at_.toNat - p) + h.new.length) (n := n + h.new.length - h.old.length) (least := h.at_ + h.old.length + 1) hs' (by omega) (fun x hx => hf x (by simp [hx])) (by omega) hfit d3 (by omega)
    simp only [backL, endN]
    refine ⟨?_, fun x hx => ?_, ?_, i4⟩
    · simp only [sortedB, Bool.and_eq_true, Bool.not_eq_true', decide_eq_false_iff_not]
      refine ⟨?_, by omega, ?_⟩
      · simp only [rightB, Bool.and_eq_true, decide_eq_true_eq] at hr ⊢
        refine ⟨by omega, by omega, hr.2.2.2.1, hr.2.2.1, ?_⟩
        have := hr.2.2.2.2
        simp only [Bool.not_eq_true', decide_eq_false_iff_not] at this ⊢
        exact fun e => this e.symm
      · have e : h.at_ + n - (l.length : Int) + (h.new.length : Int) + 1 = h.at_ + h.old.length + 1 + (n + h.new.length - h.old.length) - l.length := by omega
        rw [e]
        exact i1
    · rcases List.mem_cons.1 hx with rfl | hx
      · refine ⟨by show h.new.length ≤ a.length; omega, by show h.at_ + n - (l.length : Int) ≤ (a.length : Int) - h.new.length; omega, ?_⟩
        show (a.drop (h.at_ + n - (l.length : Int)).toNat).take h.new.length = h.new
        rw [e1]
        exact d2
      · exact i2 x hx
    · simp only [tailR, e1, d4, i3]
      rw [take_seg (l := l) (p := p) (n := h.at_.toNat) (by omega), drop_at f3]

/-- What was applied is undone. -/
theorem undone {l : List ByteArray} {hs : List Hk} (h : (applyR l hs).2 = 0) (ha : (applyR l hs).1.length ≤ 100000000) (hl : l.length ≤ 100000000) : applyR (applyR l hs).1 (backL l.length l.length hs) = (l, 0) ∧ endN l.length hs = ((applyR l hs).1.length : Int) := by
  obtain ⟨h1, h2, h3, h4⟩ := applyR_iff.1 h
  have hv := applyR_val h
  obtain ⟨i1, i2, i3, i4⟩ := back_law (a := (applyR l hs).1) ha hl (p := 0) (q := 0) (n := l.length) (least := 0) h2 (by simp) h3 (Nat.zero_le _) (Nat.zero_le _) (by rw [List.drop_zero, hv]) (by simp)
  refine ⟨applyR_of (by rw [hv]; exact h4) ?_ i2 (by rw [i3]; rfl) h1, i4⟩
  have e : (0 : Int) + l.length - l.length = 0 := by omega
  rwa [e] at i1
end Go.Proofs.Ytigmpablpmanpaa

/- Plain law: hunks may be applied one by one, from the last one on. -/
namespace Go.Proofs.Ytigmpablpmanpaa
open Go.RowKit
set_option linter.unusedVariables false
set_option linter.unusedSimpArgs false

def Hk.past (h : Hk) : Nat := h.at_.toNat + h.old.length
theorem tailR_split {l : List ByteArray} {h : Hk} {r : List Hk} : ∀ {pre : List Hk} {a : Nat} {x : Int}, sortedB x (pre ++ h :: r) = true → (a : Int) ≤ x → (∀ y ∈ pre ++ h :: r, fitB l y) →
    ∃ A p, tailR l (pre ++ h :: r) a = A ++ ((l.take h.at_.toNat).drop p ++ (h.new ++ tailR l r h.past)) ∧ p ≤ h.at_.toNat ∧ ((a : Int) < x ∨ pre ≠ [] → p < h.at_.toNat) ∧ (pre = [] → p = a)
  | [], a, x, hs, ha, _ => by
    simp only [List.nil_append, sortedB, Bool.and_eq_true, Bool.not_eq_true', decide_eq_false_iff_not] at hs
    have hat := rightB_at hs.1
    exact ⟨[], a, rfl, by omega, fun e => e.elim (fun e => by omega) (fun e => (e rfl).elim), fun _ => rfl⟩
  | y :: pre, a, x, hs, ha, hf => by
    simp only [List.cons_append, sortedB, Bool.and_eq_true, Bool.not_eq_true', decide_eq_false_iff_not] at hs
    have hat := rightB_at hs.1
    obtain ⟨A, p, i1, i2, i3, _⟩ := tailR_split (l := l) (h := h) (r := r) (pre := pre) (a := y.at_.toNat + y.old.length) hs.2.2 (by omega) (fun z hz => hf z (by simp at hz ⊢; exact .inr hz))
    refine ⟨(l.take y.at_.toNat).drop a ++ (y.new ++ A), p, ?_, i2, fun _ => i3 (.inl (by omega)), fun e => by simp at e⟩
    simp only [List.cons_append, tailR, i1, List.append_assoc]

theorem sorted_past {h : Hk} {r : List Hk} : ∀ {pre : List Hk} {x : Int}, sortedB x (pre ++ h :: r) = true → rightB h = true ∧ sortedB (h.at_ + h.old.length + 1) r = true ∧ x ≤ h.at_
  | [], x, hs => by
    simp only [List.nil_append, sortedB, Bool.and_eq_true, Bool.not_eq_true', decide_eq_false_iff_not] at hs
    exact ⟨hs.1, hs.2.2, by omega⟩
  | y :: pre, x, hs => by
    simp only [List.cons_append, sortedB, Bool.and_eq_true, Bool.not_eq_true', decide_eq_false_iff_not] at hs
    obtain ⟨i1, i2, i3⟩ := sorted_past hs.2.2
    exact ⟨i1, i2, by omega⟩

/-- The text with the hunks from h on applied. -/
theorem linesC {l : List ByteArray} {pre : List Hk} {h : Hk} {r : List Hk} (h1 : linesB l = true) (h2 : sortedB 0 (pre ++ h :: r) = true) (h3 : ∀ y ∈ pre ++ h :: r, fitB l y) (h4 : linesB (tailR l (pre ++ h :: r) 0) = true) :
    linesB (l.take h.at_.toNat ++ (h.new ++ tailR l r h.past)) = true := by
  obtain ⟨A, p, i1, i2, i3, i4⟩ := tailR_split h2 (a := 0) (by simp) h3
  have f := h3 h (by simp)
  have hat := rightB_at (sorted_past h2).1
  have e1 : l.take h.at_.toNat = l.take p ++ (l.take h.at_.toNat).drop p := by
    conv => lhs; rw [← List.take_append_drop p (l.take h.at_.toNat)]
    rw [List.take_take, Nat.min_eq_left i2]
  rw [e1]
  rw [i1] at h4
  have hne : l.take p ≠ [] → (l.take h.at_.toNat).drop p ≠ [] := by
    intro hp e
    have hlt : p < h.at_.toNat := by
      by_cases ep : pre = []
      · rw [i4 ep] at hp
        simp at hp
      · exact i3 (.inr ep)
    have := congrArg List.length e
    have f1 := f.1
    have f2 := f.2.1
    simp at this
    omega
  exact lines_mix (R := l.drop h.at_.toNat) (by rw [← e1, List.take_append_drop]; exact h1) h4 hne

/-- The text with the hunks from the k-th on applied. -/
def Ct (l : List ByteArray) (hs : List Hk) : Nat → List ByteArray
  | 0 => tailR l hs 0
  | k + 1 => l.take (nthH hs k).past ++ tailR l (hs.drop (k + 1)) (nthH hs k).past

theorem split_at {hs : List Hk} {k : Nat} (h : k < hs.length) : hs = hs.take k ++ nthH hs k :: hs.drop (k + 1) := by
  conv => lhs; rw [← List.take_append_drop k hs, List.drop_eq_getElem_cons h]
  rw [nthH_eq h]

theorem Ct_at {l : List ByteArray} {hs : List Hk} (h2 : sortedB 0 hs = true) {k : Nat} (h : k < hs.length) : Ct l hs k = l.take (nthH hs k).at_.toNat ++ ((nthH hs k).new ++ tailR l (hs.drop (k + 1)) (nthH hs k).past) := by
  cases k with
  | zero =>
    have e : hs = nthH hs 0 :: hs.drop 1 := split_at h
    show tailR l hs 0 = _
    conv => lhs; rw [e]
    rfl
  | succ j =>
    have hj : j < hs.length := by omega
    have e := split_at hj
    rw [e] at h2
    obtain ⟨i1, i2, i3⟩ := sorted_past h2
    have ed : hs.drop (j + 1) = nthH hs (j + 1) :: hs.drop (j + 2) := by rw [List.drop_eq_getElem_cons h, nthH_eq h]
    rw [ed] at i2
    simp only [sortedB, Bool.and_eq_true, Bool.not_eq_true', decide_eq_false_iff_not] at i2
    have hat := rightB_at i1
    have hat2 := rightB_at i2.1
    have hp : (nthH hs j).past ≤ (nthH hs (j + 1)).at_.toNat := by unfold Hk.past; omega
    show l.take (nthH hs j).past ++ tailR l (hs.drop (j + 1)) (nthH hs j).past = _
    rw [ed]
    simp only [tailR]
    rw [← List.append_assoc]
    congr 1
    conv => rhs; rw [← List.take_append_drop (nthH hs j).past (l.take (nthH hs (j + 1)).at_.toNat)]
    rw [List.take_take, Nat.min_eq_left hp]

theorem Ct_last {l : List ByteArray} {hs : List Hk} : Ct l hs hs.length = l := by
  cases e : hs.length with
  | zero =>
    have : hs = [] := List.length_eq_zero_iff.1 e
    subst this
    rfl
  | succ k =>
    show l.take (nthH hs k).past ++ tailR l (hs.drop (k + 1)) (nthH hs k).past = l
    rw [← e, List.drop_length]
    exact List.take_append_drop _ _

theorem Ct_lines {l : List ByteArray} {hs : List Hk} (h1 : linesB l = true) (h2 : sortedB 0 hs = true) (h3 : ∀ y ∈ hs, fitB l y) (h4 : linesB (tailR l hs 0) = true) {k : Nat} (h : k ≤ hs.length) : linesB (Ct l hs k) = true := by
  rcases Nat.lt_or_ge k hs.length with hk | hk
  · rw [Ct_at h2 hk]
    have e := split_at hk
    exact linesC h1 (e ▸ h2) (e ▸ h3) (e ▸ h4)
  · have : k = hs.length := by omega
    rw [this, Ct_last]
    exact h1

theorem Ct_len {l : List ByteArray} {hs : List Hk} (hl : Short l) (hh : AllShort hs) (h2 : sortedB 0 hs = true) (h3 : ∀ y ∈ hs, fitB l y) {k : Nat} (h : k ≤ hs.length) : (Ct l hs k).length ≤ l.length + newLen (hs.drop k) ∧ ∀ s ∈ Ct l hs k, s.size ≤ 100000000 := by
  cases k with
  | zero =>
    have := tailR_len (a := 0) h2 (by simp) h3 (Nat.zero_le _)
    exact ⟨by simpa [Ct] using this, tailR_short hl hh.2⟩
  | succ j =>
    have hj : j < hs.length := by omega
    have e := split_at hj
    have h2' := h2
    rw [e] at h2'
    obtain ⟨i1, i2, i3⟩ := sorted_past h2'
    have hat := rightB_at i1
    have hm : nthH hs j ∈ hs := by rw [nthH_eq hj]; exact List.getElem_mem _
    have f := h3 _ hm
    have f1 := f.1
    have f2 := f.2.1
    have hd : ∀ y ∈ hs.drop (j + 1), y ∈ hs := fun y hy => List.mem_of_mem_drop hy
    have hpl : (nthH hs j).past ≤ l.length := by unfold Hk.past; omega
    have := tailR_len (a := (nthH hs j).past) i2 (by unfold Hk.past; omega) (fun y hy => h3 y (hd y hy)) hpl
    refine ⟨?_, fun s hs' => ?_⟩
    · simp only [Ct, List.length_append, List.length_take]
      omega
    · simp only [Ct, List.mem_append] at hs'
      rcases hs' with hs' | hs'
      · exact hl.2 s (List.mem_of_mem_take hs')
      · exact tailR_short hl (fun y hy => hh.2 y (hd y hy)) s hs'

/-- One of them, behind all that stand behind it. -/
theorem one_by_one {l : List ByteArray} {hs : List Hk} (h : (applyR l hs).2 = 0) {k : Nat} (hk : k < hs.length) : applyR (Ct l hs (k + 1)) [nthH hs k] = (Ct l hs k, 0) := by
  obtain ⟨h1, h2, h3, h4⟩ := applyR_iff.1 h
  have e := split_at hk
  have h2' := h2
  rw [e] at h2'
  obtain ⟨i1, i2, i3⟩ := sorted_past h2'
  have hat := rightB_at i1
  have hm : nthH hs k ∈ hs := by rw [nthH_eq hk]; exact List.getElem_mem _
  obtain ⟨f1, f2, f3⟩ := h3 _ hm
  have hpl : (nthH hs k).past ≤ l.length := by unfold Hk.past; omega
  have hap : (nthH hs k).at_.toNat ≤ (nthH hs k).past := by unfold Hk.past; omega
  have hC : Ct l hs (k + 1) = l.take (nthH hs k).past ++ tailR l (hs.drop (k + 1)) (nthH hs k).past := rfl
  have hlen : (l.take (nthH hs k).past).length = (nthH hs k).past := by simp; omega
  have hlC : (nthH hs k).past ≤ (Ct l hs (k + 1)).length := by rw [hC]; simp only [List.length_append, hlen]; omega
  have d1 : (Ct l hs (k + 1)).drop (nthH hs k).past = tailR l (hs.drop (k + 1)) (nthH hs k).past := by
    rw [hC]
    conv => lhs; rw [← hlen]
    rw [hlen]
    have := List.drop_left (l₁ := l.take (nthH hs k).past) (l₂ := tailR l (hs.drop (k + 1)) (nthH hs k).past)
    rwa [hlen] at this
  have t1 : (Ct l hs (k + 1)).take (nthH hs k).at_.toNat = l.take (nthH hs k).at_.toNat := by
    rw [hC, List.take_append_of_le_length (by omega), List.take_take, Nat.min_eq_left hap]
  have m1 : ((Ct l hs (k + 1)).drop (nthH hs k).at_.toNat).take (nthH hs k).old.length = (nthH hs k).old := by
    rw [hC, List.drop_append_of_le_length (by omega), List.take_append_of_le_length (by rw [List.length_drop, hlen]; unfold Hk.past; omega)]
    conv => rhs; rw [← f3]
    rw [List.drop_take, List.take_take]
    congr 1
    unfold Hk.past
    omega
  refine applyR_of (Ct_lines h1 h2 h3 h4 (by omega)) ?_ ?_ ?_ (Ct_lines h1 h2 h3 h4 (by omega))
  · simp only [sortedB, i1, Bool.true_and, Bool.and_true, Bool.not_eq_true', decide_eq_false_iff_not]
    omega
  · intro y hy
    simp at hy
    subst hy
    exact ⟨by unfold Hk.past at hlC; omega, by unfold Hk.past at hlC; omega, m1⟩
  · rw [Ct_at h2 hk]
    simp only [tailR, List.drop_zero, t1]
    congr 2
end Go.Proofs.Ytigmpablpmanpaa
