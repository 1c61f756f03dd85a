/- The plain law of ShiftPast. -/
import Derived.Test.YtddhdlfafaobhaaS11
import Derived.Test.YtddhdlfafaobhaaSC
namespace Go.Proofs.Ytddhdlfafaobhaa
open Go.RowKit
set_option linter.unusedVariables false
set_option linter.unusedSimpArgs false

def Hk.sh (h : Hk) (d : Int) : Hk := ⟨h.at_ + d, h.old, h.new⟩
theorem Hk.sh_sh (h : Hk) (a b : Int) (e : a + b = 0) : (h.sh a).sh b = h := by
  cases h; simp only [Hk.sh]; congr 1; omega
theorem Hk.inv_inv (h : Hk) : h.inv.inv = h := rfl
theorem right_inv {h : Hk} (hr : rightB h = true) : rightB h.inv = true := by
  simp only [rightB, Bool.and_eq_true, decide_eq_true_eq, Bool.not_eq_true', decide_eq_false_iff_not] at hr
  simp only [rightB, Hk.inv, Bool.and_eq_true, Bool.not_eq_true']
  exact ⟨decide_eq_true hr.1, decide_eq_true hr.2.1, hr.2.2.2.1, hr.2.2.1, decide_eq_false fun e => hr.2.2.2.2 e.symm⟩
theorem right_sh {h : Hk} (hr : rightB h = true) {d : Int} (h1 : 0 ≤ h.at_ + d) (h2 : h.at_ + d ≤ 1099511627776) : rightB (h.sh d) = true := by
  simp only [rightB, Bool.and_eq_true] at hr
  simp only [rightB, Hk.sh, Bool.and_eq_true]
  exact ⟨decide_eq_true h1, decide_eq_true h2, hr.2.2⟩
theorem right_sh_at {h : Hk} {d : Int} (hr : rightB (h.sh d) = true) : 0 ≤ h.at_ + d ∧ h.at_ + d ≤ 1099511627776 := rightB_at hr
theorem mv_eq {h : Hk} {d : Int} (hr : rightB h = true) (hd : -100000000 ≤ d ∧ d ≤ 100000000) : h.mv d = h.sh d := by
  have := rightB_at hr
  unfold Hk.mv Hk.sh
  rw [wrap_i64 (by omega) (by omega)]
theorem sh_zero (h : Hk) : h.sh 0 = h := by cases h; simp [Hk.sh]

def z0 : Hk := ⟨0, [], []⟩
/-- Commute, Merge, without any wrap. -/
theorem commR_eq {p q : Hk} (hp : p.short) (hq : q.short) : commR p q = if (rightB p && rightB q) = true then
      (if q.at_ < p.at_ - q.old.length then (if (rightB q && rightB (p.sh q.more)) = true then (q, p.sh q.more, 0) else (z0, z0, 130))
       else if p.at_ < q.at_ - p.new.length then (if (rightB (q.sh (-p.more)) && rightB p) = true then (q.sh (-p.more), p, 0) else (z0, z0, 130)) else (z0, z0, 130)) else (z0, z0, 4) := by
  obtain ⟨p1, p2⟩ := hp.few
  obtain ⟨q1, q2⟩ := hq.few
  have m1 := more_rng hp.few
  have m2 := more_rng hq.few
  unfold commR firstR
  by_cases hr : (rightB p && rightB q) = true
  · rw [if_pos hr, if_pos hr]
    simp only [Bool.and_eq_true] at hr
    obtain ⟨r1, r2⟩ := hr
    have a1 := rightB_at r1
    have a2 := rightB_at r2
    rw [mv_eq r2 (by omega), mv_eq r1 (by omega), mv_eq r2 (by omega), mv_eq r1 (by omega), sh_zero, sh_zero, wrap_i64 (by omega) (by omega), wrap_i64 (by omega) (by omega), Int.zero_sub]
    by_cases c1 : q.at_ < p.at_ - q.old.length
    · simp only [c1, decide_true, if_true]; rfl
    · simp only [c1, decide_false, Bool.false_eq_true, if_false]
      by_cases c2 : p.at_ < q.at_ - p.new.length
      · simp only [c2, decide_true, if_true]; rfl
      · simp only [c2, decide_false, Bool.false_eq_true, if_false]; rfl
  · rw [if_neg hr, if_neg hr]; rfl
theorem mergR_eq {p q : Hk} (hp : p.short) (hq : q.short) : mergR p q = if (rightB p && rightB q) = true then
      (if p.at_ < q.at_ - p.old.length then (if (rightB p && rightB (q.sh p.more)) = true then (p, q.sh p.more, 0) else (z0, z0, 130))
       else if q.at_ < p.at_ - q.old.length then (if (rightB (p.sh q.more) && rightB q) = true then (p.sh q.more, q, 0) else (z0, z0, 130)) else (z0, z0, 130)) else (z0, z0, 4) := by
  obtain ⟨p1, p2⟩ := hp.few
  obtain ⟨q1, q2⟩ := hq.few
  have m1 := more_rng hp.few
  have m2 := more_rng hq.few
  unfold mergR firstR
  by_cases hr : (rightB p && rightB q) = true
  · rw [if_pos hr, if_pos hr]
    simp only [Bool.and_eq_true] at hr
    obtain ⟨r1, r2⟩ := hr
    have a1 := rightB_at r1
    have a2 := rightB_at r2
    rw [mv_eq r1 (by omega), mv_eq r2 (by omega), mv_eq r1 (by omega), mv_eq r2 (by omega), sh_zero, sh_zero, wrap_i64 (by omega) (by omega), wrap_i64 (by omega) (by omega)]
    by_cases c1 : p.at_ < q.at_ - p.old.length
    · simp only [c1, decide_true, if_true]; rfl
    · simp only [c1, decide_false, Bool.false_eq_true, if_false]
      by_cases c2 : q.at_ < p.at_ - q.old.length
      · simp only [c2, decide_true, if_true]; rfl
      · simp only [c2, decide_false, Bool.false_eq_true, if_false]; rfl
  · rw [if_neg hr, if_neg hr]; rfl

/-! ### What is applied, and undone -/
abbrev Lim (l : List ByteArray) : Prop := l.length ≤ 100000000
theorem und1 {l x : List ByteArray} {h : Hk} (e : applyR l [h] = (x, 0)) (hl : Lim l) (hx : Lim x) : applyR x [h.inv] = (l, 0) := by
  have := undone (l := l) (hs := [h]) (by rw [e]) (by rw [e]; exact hx) hl
  rw [e] at this
  have e2 : backL l.length l.length [h] = [h.inv] := by
    simp only [backL, Hk.inv]
    congr 2
    omega
  rw [e2] at this
  exact this.1
theorem fit_of {l x : List ByteArray} {h : Hk} (e : applyR l [h] = (x, 0)) : rightB h = true ∧ fitB l h ∧ linesB l = true ∧ linesB x = true ∧ x = l.take h.at_.toNat ++ (h.new ++ l.drop h.past) := by
  have h0 : (applyR l [h]).2 = 0 := by rw [e]
  obtain ⟨h1, h2, h3, h4⟩ := applyR_iff.1 h0
  have hv := applyR_val h0
  rw [e] at hv
  simp only [sortedB, Bool.and_true, Bool.and_eq_true] at h2
  have hv' : x = l.take h.at_.toNat ++ (h.new ++ l.drop h.past) := by simpa [tailR, Hk.past] using hv
  refine ⟨h2.1, h3 h (by simp), h1, ?_, hv'⟩
  have hv2 : tailR l [h] 0 = x := hv.symm
  rw [hv2] at h4
  exact h4

/-- Two hunks with a line between, each of which applies: both may be applied at once. -/
theorem at_once {t a b : List ByteArray} {g h : Hk} (e1 : applyR t [g] = (a, 0)) (e2 : applyR t [h] = (b, 0)) (hg : g.at_ + g.old.length < h.at_) : ∃ r, applyR t [g, h] = (r, 0) := by
  obtain ⟨r1, f1, l1, l2, x1⟩ := fit_of e1
  obtain ⟨r2, f2, _, l3, x2⟩ := fit_of e2
  have a1 := rightB_at r1
  have a2 := rightB_at r2
  refine ⟨_, applyR_of l1 ?_ ?_ rfl ?_⟩
  · simp only [sortedB, r1, r2, Bool.true_and, Bool.and_true, Bool.and_eq_true, Bool.not_eq_true', decide_eq_false_iff_not]
    omega
  · intro y hy
    simp at hy
    rcases hy with rfl | rfl
    · exact f1
    · exact f2
  · have hpast : g.past < h.at_.toNat := by unfold Hk.past; omega
    have hfit := f2.2.1
    have hfit1 := f2.1
    have e3 : tailR t [g, h] 0 = (t.take g.at_.toNat ++ g.new) ++ (t.take h.at_.toNat).drop g.past ++ (h.new ++ t.drop h.past) := by
      simp [tailR, Hk.past, List.append_assoc]
    have hseg : (t.take h.at_.toNat).drop g.past ≠ [] := by
      intro e
      have := congrArg List.length e
      simp at this
      omega
    rw [e3]
    refine lines_mix (R := t.drop h.at_.toNat) (A := t.take g.past) ?_ ?_ (fun _ => hseg)
    · have : (t.take g.at_.toNat ++ g.new) ++ (t.take h.at_.toNat).drop g.past ++ t.drop h.at_.toNat = a := by
        rw [x1, List.append_assoc, List.append_assoc, ← take_seg (by omega)]
      rw [this]
      exact l2
    · have : t.take g.past ++ ((t.take h.at_.toNat).drop g.past ++ (h.new ++ t.drop h.past)) = b := by
        rw [x2, ← List.append_assoc]
        congr 1
        conv => rhs; rw [← List.take_append_drop g.past (t.take h.at_.toNat)]
        rw [List.take_take, Nat.min_eq_left (by omega)]
      rw [this]
      exact l3

theorem bwd {t r : List ByteArray} {g h : Hk} (e : applyR t [g, h] = (r, 0)) : ∃ b, applyR t [h] = (b, 0) ∧ applyR b [g] = (r, 0) := by
  have h0 : (applyR t [g, h]).2 = 0 := by rw [e]
  have o1 := one_by_one h0 (k := 1) (by simp)
  have o0 := one_by_one h0 (k := 0) (by simp)
  have c2 : Ct t [g, h] 2 = t := Ct_last (hs := [g, h])
  have c0 : Ct t [g, h] 0 = r := by
    have := applyR_val h0
    rw [e] at this
    exact this.symm
  rw [c2] at o1
  rw [c0] at o0
  exact ⟨_, o1, o0⟩
theorem fwd {t r : List ByteArray} {g h : Hk} (e : applyR t [g, h] = (r, 0)) (ht : Lim t) (hr : Lim r) (hb : Short t) (hgh : AllShort [g, h]) (hlen : t.length + newLen [g, h] + h.old.length ≤ 100000000) :
    ∃ a, applyR t [g] = (a, 0) ∧ applyR a [h.sh g.more] = (r, 0) ∧ applyR r [(h.sh g.more).inv] = (a, 0) ∧ applyR a [g.inv] = (t, 0) := by
  have h0 : (applyR t [g, h]).2 = 0 := by rw [e]
  have u := undone h0 (by rw [e]; exact hr) ht
  rw [e] at u
  have e2 : backL t.length t.length [g, h] = [g.inv, (h.sh g.more).inv] := by
    simp only [backL, Hk.inv, Hk.sh, Hk.more]
    congr 2
    · omega
    · congr 2
      omega
  rw [e2] at u
  obtain ⟨a, b1, b2⟩ := bwd u.1
  have sr := applyR_short hb hgh (by omega)
  rw [e] at sr
  have hh : h.short := hgh.2 h (by simp)
  have sh' : AllShort [(h.sh g.more).inv] := short1 ⟨hh.2, hh.1⟩
  have en : newLen [(h.sh g.more).inv] = h.old.length := by simp [newLen, Hk.inv, Hk.sh]
  have sa := applyR_short sr.1 sh' (by rw [en]; have := sr.2; simp only at this ⊢; omega)
  rw [b1, en] at sa
  have la : Lim a := by have := sa.1.1; exact this
  exact ⟨a, und1 b2 la ht, und1 b1 hr la, b1, b2⟩

/-! ### The law -/
def twoR (l : List ByteArray) (p q : Hk) : List ByteArray × Bool := if (applyR l [p]).2 = 0 then ((applyR (applyR l [p]).1 [q]).1, decide ((applyR (applyR l [p]).1 [q]).2 = 0)) else ([], false)
theorem two_ok {l : List ByteArray} {p q : Hk} (h : (twoR l p q).2 = true) : ∃ a, applyR l [p] = (a, 0) ∧ applyR a [q] = ((twoR l p q).1, 0) := by
  unfold twoR at h ⊢
  by_cases e : (applyR l [p]).2 = 0
  · rw [if_pos e] at h ⊢
    simp only [decide_eq_true_eq] at h
    exact ⟨(applyR l [p]).1, Prod.ext rfl e, Prod.ext rfl h⟩
  · rw [if_neg e] at h
    simp at h
theorem two_of {l a r : List ByteArray} {p q : Hk} (h1 : applyR l [p] = (a, 0)) (h2 : applyR a [q] = (r, 0)) : twoR l p q = (r, true) := by
  unfold twoR
  rw [h1]
  simp only [if_true, h2, decide_true]

theorem short2 {p q : Hk} (hp : p.short) (hq : q.short) : AllShort [p, q] := ⟨by simp, fun z hz => by
  rcases List.mem_cons.1 hz with h | h
  · rw [h]; exact hp
  · rw [List.mem_singleton.1 h]; exact hq⟩
structure Fit (l : List ByteArray) (p q : Hk) : Prop where
  sl : Short l
  sp : p.short
  sq : q.short
  len : l.length + p.old.length + p.new.length + q.old.length + q.new.length ≤ 10000000

theorem Fit.swap {l : List ByteArray} {p q : Hk} (h : Fit l p q) : Fit l q p := ⟨h.sl, h.sq, h.sp, by have := h.len; omega⟩

/-- Commute of what Commute told. -/
theorem comm_back {p q a b : Hk} (hp : p.short) (hq : q.short) (e : commR p q = (a, b, 0)) : commR a b = (p, q, 0) ∧ a.short ∧ b.short ∧
    ((rightB p = true ∧ rightB q = true) ∧ ((q.at_ < p.at_ - q.old.length ∧ a = q ∧ b = p.sh q.more) ∨ (p.at_ < q.at_ - p.new.length ∧ a = q.sh (-p.more) ∧ b = p))) := by
  have ec := commR_eq hp hq
  rw [e] at ec
  by_cases hr : (rightB p && rightB q) = true
  · rw [if_pos hr] at ec
    simp only [Bool.and_eq_true] at hr
    obtain ⟨r1, r2⟩ := hr
    have a1 := rightB_at r1
    have a2 := rightB_at r2
    by_cases c1 : q.at_ < p.at_ - q.old.length
    · rw [if_pos c1] at ec
      by_cases c2 : (rightB q && rightB (p.sh q.more)) = true
      · rw [if_pos c2] at ec
        simp only [Bool.and_eq_true] at c2
        obtain ⟨ea, eb, _⟩ : a = q ∧ b = p.sh q.more ∧ True := by simpa using ec
        rw [ea, eb]
        have hb : (p.sh q.more).short := ⟨hp.1, hp.2⟩
        refine ⟨?_, hq, hb, ⟨r1, r2⟩, .inl ⟨c1, rfl, rfl⟩⟩
        rw [commR_eq hq hb, if_pos (by rw [r2, c2.2]; rfl)]
        have n1 : ¬ (p.sh q.more).at_ < q.at_ - (p.sh q.more).old.length := by simp only [Hk.sh, Hk.more]; omega
        have n2 : q.at_ < (p.sh q.more).at_ - q.new.length := by simp only [Hk.sh, Hk.more]; omega
        have e3 : (p.sh q.more).sh (-q.more) = p := Hk.sh_sh _ _ _ (by omega)
        rw [if_neg n1, if_pos n2, e3, if_pos (by rw [r1, r2]; rfl)]
      · rw [if_neg c2] at ec
        simp at ec
    · rw [if_neg c1] at ec
      by_cases c3 : p.at_ < q.at_ - p.new.length
      · rw [if_pos c3] at ec
        by_cases c2 : (rightB (q.sh (-p.more)) && rightB p) = true
        · rw [if_pos c2] at ec
          simp only [Bool.and_eq_true] at c2
          obtain ⟨ea, eb, _⟩ : a = q.sh (-p.more) ∧ b = p ∧ True := by simpa using ec
          rw [ea, eb]
          have ha : (q.sh (-p.more)).short := ⟨hq.1, hq.2⟩
          refine ⟨?_, ha, hp, ⟨r1, r2⟩, .inr ⟨c3, rfl, rfl⟩⟩
          rw [commR_eq ha hp, if_pos (by rw [r1, c2.1]; rfl)]
          have n1 : p.at_ < (q.sh (-p.more)).at_ - p.old.length := by simp only [Hk.sh, Hk.more]; omega
          have e3 : (q.sh (-p.more)).sh p.more = q := Hk.sh_sh _ _ _ (by omega)
          rw [if_pos n1, e3, if_pos (by rw [r1, r2]; rfl)]
        · rw [if_neg c2] at ec
          simp at ec
      · rw [if_neg c3] at ec
        simp at ec
  · rw [if_neg hr] at ec
    simp at ec

/-- Where p, then q, apply, so does what is told, and makes the same; and it is undone. -/
theorem comm_two {l x : List ByteArray} {p q a b : Hk} (hf : Fit l p q) (e : commR p q = (a, b, 0)) (h : twoR l p q = (x, true)) : twoR l a b = (x, true) ∧ twoR x b.inv a.inv = (l, true) := by
  obtain ⟨hl, hp, hq, hlen⟩ := hf
  obtain ⟨_, sa, sb, ⟨r1, r2⟩, hc⟩ := comm_back hp hq e
  obtain ⟨x1, h1, h2⟩ := two_ok (by rw [h])
  rw [h] at h2
  have a1 := rightB_at r1
  have a2 := rightB_at r2
  have s1 := applyR_short hl (short1 hp) (by simp only [newLen]; omega)
  rw [h1] at s1
  simp only [newLen] at s1
  have s2 := applyR_short s1.1 (short1 hq) (by have := s1.2; simp only [newLen]; omega)
  rw [h2] at s2
  simp only [newLen] at s2
  have i1 := und1 h1 hl.1 s1.1.1
  have m1 := s1.2
  have m2 := s2.2
  rcases hc with ⟨c, ea, eb⟩ | ⟨c, ea, eb⟩ <;> rw [ea, eb]
  · -- q lies ahead: on x1 there are q, and what undoes p
    obtain ⟨y, hy⟩ := at_once (t := x1) (g := q) (h := p.inv) h2 i1 (by simp only [Hk.inv]; omega)
    have sh2 : AllShort [q, p.inv] := short2 hq ⟨hp.2, hp.1⟩
    have sy := applyR_short s1.1 sh2 (by simp only [newLen, Hk.inv]; omega)
    rw [hy] at sy
    simp only [newLen, Hk.inv] at sy
    have my := sy.2
    obtain ⟨x', w1, w2, w3, w4⟩ := fwd hy s1.1.1 sy.1.1 s1.1 sh2 (by simp only [newLen, Hk.inv]; omega)
    obtain ⟨l', v1, v2⟩ := bwd hy
    have ex : x' = x := by rw [h2] at w1; exact (Prod.mk.inj w1).1.symm
    have el : l' = l := by rw [i1] at v1; exact (Prod.mk.inj v1).1.symm
    rw [ex] at w2
    rw [el] at v2
    have eb : (p.inv.sh q.more) = (p.sh q.more).inv := rfl
    rw [eb] at w2
    exact ⟨two_of v2 (und1 w2 s2.1.1 sy.1.1), two_of w2 (und1 v2 hl.1 sy.1.1)⟩
  · -- p lies ahead: on x1 there are what undoes p, and q
    obtain ⟨y, hy⟩ := at_once (t := x1) (g := p.inv) (h := q) i1 h2 (by simp only [Hk.inv]; omega)
    have sh2 : AllShort [p.inv, q] := short2 ⟨hp.2, hp.1⟩ hq
    have sy := applyR_short s1.1 sh2 (by simp only [newLen, Hk.inv]; omega)
    rw [hy] at sy
    simp only [newLen, Hk.inv] at sy
    have my := sy.2
    obtain ⟨l', w1, w2, w3, w4⟩ := fwd hy s1.1.1 sy.1.1 s1.1 sh2 (by simp only [newLen, Hk.inv]; omega)
    obtain ⟨x', v1, v2⟩ := bwd hy
    have ex : x' = x := by rw [h2] at v1; exact (Prod.mk.inj v1).1.symm
    have el : l' = l := by rw [i1] at w1; exact (Prod.mk.inj w1).1.symm
    rw [ex] at v2
    rw [el] at w2
    have em : p.inv.more = -p.more := by simp only [Hk.inv, Hk.more]; omega
    rw [em] at w2
    exact ⟨two_of w2 (und1 v2 s2.1.1 sy.1.1), two_of v2 (und1 w2 hl.1 sy.1.1)⟩

/-- Merge hangs on no order. -/
theorem merge_sym {p q : Hk} (hp : p.short) (hq : q.short) : mergR q p = ((mergR p q).2.1, (mergR p q).1, (mergR p q).2.2) := by
  rw [mergR_eq hp hq, mergR_eq hq hp]
  by_cases r1 : rightB p = true
  · by_cases r2 : rightB q = true
    · by_cases c1 : p.at_ < q.at_ - p.old.length
      · have c2 : ¬ q.at_ < p.at_ - q.old.length := by omega
        by_cases r3 : rightB (q.sh p.more) = true <;> simp [r1, r2, c1, c2, r3]
      · by_cases c2 : q.at_ < p.at_ - q.old.length
        · by_cases r3 : rightB (p.sh q.more) = true <;> simp [r1, r2, c1, c2, r3]
        · simp [r1, r2, c1, c2]
    · simp [r2]
  · simp [r1]

theorem merge_ok {p q s t : Hk} (hp : p.short) (hq : q.short) (e : mergR p q = (s, t, 0)) : (rightB p = true ∧ rightB q = true) ∧
    ((p.at_ < q.at_ - p.old.length ∧ s = p ∧ t = q.sh p.more ∧ rightB (q.sh p.more) = true) ∨ (q.at_ < p.at_ - q.old.length ∧ s = p.sh q.more ∧ t = q ∧ rightB (p.sh q.more) = true)) := by
  have ec := mergR_eq hp hq
  rw [e] at ec
  by_cases hr : (rightB p && rightB q) = true
  · rw [if_pos hr] at ec
    simp only [Bool.and_eq_true] at hr
    refine ⟨hr, ?_⟩
    by_cases c1 : p.at_ < q.at_ - p.old.length
    · rw [if_pos c1] at ec
      by_cases c2 : (rightB p && rightB (q.sh p.more)) = true
      · rw [if_pos c2] at ec
        simp only [Bool.and_eq_true] at c2
        obtain ⟨es, et, _⟩ := (by simpa using ec : s = p ∧ t = q.sh p.more ∧ True)
        exact .inl ⟨c1, es, et, c2.2⟩
      · rw [if_neg c2] at ec
        simp at ec
    · rw [if_neg c1] at ec
      by_cases c3 : q.at_ < p.at_ - q.old.length
      · rw [if_pos c3] at ec
        by_cases c2 : (rightB (p.sh q.more) && rightB q) = true
        · rw [if_pos c2] at ec
          simp only [Bool.and_eq_true] at c2
          obtain ⟨es, et, _⟩ := (by simpa using ec : s = p.sh q.more ∧ t = q ∧ True)
          exact .inr ⟨c3, es, et, c2.1⟩
        · rw [if_neg c2] at ec
          simp at ec
      · rw [if_neg c3] at ec
        simp at ec
  · rw [if_neg hr] at ec
    simp at ec

theorem merge_two {l : List ByteArray} {p q s t : Hk} (hf : Fit l p q) (e : mergR p q = (s, t, 0)) (h1 : (applyR l [p]).2 = 0) (h2 : (applyR l [q]).2 = 0) :
    ∃ r, twoR l p t = (r, true) ∧ twoR l q s = (r, true) ∧ commR p t = (q, s, 0) := by
  obtain ⟨hl, hp, hq, hlen⟩ := hf
  obtain ⟨⟨r1, r2⟩, hc⟩ := merge_ok hp hq e
  have a1 := rightB_at r1
  have a2 := rightB_at r2
  have k1 : applyR l [p] = ((applyR l [p]).1, 0) := Prod.ext rfl h1
  have k2 : applyR l [q] = ((applyR l [q]).1, 0) := Prod.ext rfl h2
  rcases hc with ⟨c, es, et, r3⟩ | ⟨c, es, et, r3⟩ <;> rw [es, et]
  · obtain ⟨r, hr⟩ := at_once (g := p) (h := q) k1 k2 (by omega)
    have sh2 : AllShort [p, q] := short2 hp hq
    have sr := applyR_short hl sh2 (by simp only [newLen]; omega)
    rw [hr] at sr
    obtain ⟨a, w1, w2, _, _⟩ := fwd hr hl.1 sr.1.1 hl sh2 (by simp only [newLen]; omega)
    obtain ⟨b, v1, v2⟩ := bwd hr
    refine ⟨r, two_of w1 w2, two_of v1 v2, ?_⟩
    have ht : (q.sh p.more).short := ⟨hq.1, hq.2⟩
    rw [commR_eq hp ht, if_pos (by rw [r1, r3]; rfl)]
    have n1 : ¬ (q.sh p.more).at_ < p.at_ - (q.sh p.more).old.length := by simp only [Hk.sh, Hk.more]; omega
    have n2 : p.at_ < (q.sh p.more).at_ - p.new.length := by simp only [Hk.sh, Hk.more]; omega
    have e3 : (q.sh p.more).sh (-p.more) = q := Hk.sh_sh _ _ _ (by omega)
    rw [if_neg n1, if_pos n2, e3, if_pos (by rw [r1, r2]; rfl)]
  · obtain ⟨r, hr⟩ := at_once (g := q) (h := p) k2 k1 (by omega)
    have sh2 : AllShort [q, p] := short2 hq hp
    have sr := applyR_short hl sh2 (by simp only [newLen]; omega)
    rw [hr] at sr
    obtain ⟨a, w1, w2, _, _⟩ := fwd hr hl.1 sr.1.1 hl sh2 (by simp only [newLen]; omega)
    obtain ⟨b, v1, v2⟩ := bwd hr
    refine ⟨r, two_of v1 v2, two_of w1 w2, ?_⟩
    rw [commR_eq hp hq, if_pos (by rw [r1, r2]; rfl), if_pos c, if_pos (by rw [r2, r3]; rfl)]
end Go.Proofs.Ytddhdlfafaobhaa
