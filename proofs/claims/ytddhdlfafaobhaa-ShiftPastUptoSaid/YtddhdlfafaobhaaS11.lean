/- The plain law of three hunks. -/
import Derived.Test.YtddhdlfafaobhaaSA
namespace Go.Proofs.Ytddhdlfafaobhaa
open Go.RowKit
set_option linter.unusedVariables false
set_option linter.unusedSimpArgs false

theorem comm_ok {p q : Hk} (hp : p.short) (hq : q.short) (h : (commR p q).2.2 = 0) :
    (commR p q).1.old = q.old ∧ (commR p q).1.new = q.new ∧ (commR p q).2.1.old = p.old ∧ (commR p q).2.1.new = p.new ∧
    ((q.at_ < p.at_ - q.old.length ∧ (commR p q).1.at_ = q.at_ ∧ (commR p q).2.1.at_ = p.at_ + q.new.length - q.old.length) ∨
     (¬ q.at_ < p.at_ - q.old.length ∧ p.at_ < q.at_ - p.new.length ∧ (commR p q).1.at_ = q.at_ - p.new.length + p.old.length ∧ (commR p q).2.1.at_ = p.at_)) := by
  obtain ⟨p1, p2⟩ := hp.few
  obtain ⟨q1, q2⟩ := hq.few
  unfold commR firstR at h ⊢
  by_cases hr : (rightB p && rightB q) = true
  · rw [if_pos hr] at h ⊢
    simp only [rightB, Bool.and_eq_true, decide_eq_true_eq] at hr
    obtain ⟨⟨a1, a2, _⟩, ⟨b1, b2, _⟩⟩ := hr
    have w1 : IntKind.i64.wrap (p.at_ - q.old.length) = p.at_ - q.old.length := wrap_i64 (by omega) (by omega)
    have w2 : IntKind.i64.wrap (q.at_ - p.new.length) = q.at_ - p.new.length := wrap_i64 (by omega) (by omega)
    have w3 : IntKind.i64.wrap (q.at_ + 0) = q.at_ := by rw [wrap_i64 (by omega) (by omega)]; omega
    have w4 : IntKind.i64.wrap (p.at_ + 0) = p.at_ := by rw [wrap_i64 (by omega) (by omega)]; omega
    have w5 : IntKind.i64.wrap (p.at_ + q.more) = p.at_ + q.new.length - q.old.length := by
      have := more_rng hq.few
      rw [wrap_i64 (by omega) (by omega)]; unfold Hk.more; omega
    have w6 : IntKind.i64.wrap (q.at_ + (0 - p.more)) = q.at_ - p.new.length + p.old.length := by
      have := more_rng hp.few
      rw [wrap_i64 (by omega) (by omega)]; unfold Hk.more; omega
    rw [w1, w2] at h ⊢
    by_cases c1 : q.at_ < p.at_ - q.old.length
    · simp only [c1, decide_true, if_true] at h ⊢
      by_cases r1 : (rightB (q.mv 0) && rightB (p.mv q.more)) = true
      · rw [if_pos r1]
        exact ⟨rfl, rfl, rfl, rfl, .inl ⟨trivial, w3, w5⟩⟩
      · rw [if_neg r1] at h
        simp at h
    · simp only [c1, decide_false, Bool.false_eq_true, if_false] at h ⊢
      by_cases c2 : p.at_ < q.at_ - p.new.length
      · simp only [c2, decide_true, if_true] at h ⊢
        by_cases r1 : (rightB (q.mv (0 - p.more)) && rightB (p.mv 0)) = true
        · rw [if_pos r1]
          exact ⟨rfl, rfl, rfl, rfl, .inr ⟨not_false, trivial, w6, w4⟩⟩
        · rw [if_neg r1] at h
          simp at h
      · simp only [c2, decide_false, Bool.false_eq_true, if_false] at h
        simp at h
  · rw [if_neg hr] at h
    simp at h

theorem comm_short {p q : Hk} (hp : p.short) (hq : q.short) : (commR p q).1.short ∧ (commR p q).2.1.short := firstR_short ⟨hq, hp⟩ ⟨hq, hp⟩

theorem three_law (p q r : Hk) (hp : p.short) (hq : q.short) (hr : r.short)
    (e : (commR p q).2.2 = 0) (f : (commR (commR p q).2.1 r).2.2 = 0) (i : (commR (commR p q).1 (commR (commR p q).2.1 r).1).2.2 = 0)
    (j : (commR q r).2.2 = 0) (k : (commR p (commR q r).1).2.2 = 0) (n : (commR (commR p (commR q r).1).2.1 (commR q r).2.1).2.2 = 0) :
    sameH (commR (commR p q).1 (commR (commR p q).2.1 r).1).1 (commR p (commR q r).1).1 = true ∧
    sameH (commR (commR p q).1 (commR (commR p q).2.1 r).1).2.1 (commR (commR p (commR q r).1).2.1 (commR q r).2.1).1 = true ∧
    sameH (commR (commR p q).2.1 r).2.1 (commR (commR p (commR q r).1).2.1 (commR q r).2.1).2.1 = true := by
  have sA := comm_short hp hq
  have sS := comm_short hq hr
  have sB := comm_short sA.2 hr
  have sU := comm_short hp sS.1
  obtain ⟨a1, a2, a3, a4, a5⟩ := comm_ok hp hq e
  obtain ⟨b1, b2, b3, b4, b5⟩ := comm_ok sA.2 hr f
  obtain ⟨c1, c2, c3, c4, c5⟩ := comm_ok sA.1 sB.1 i
  obtain ⟨s1, s2, s3, s4, s5⟩ := comm_ok hq hr j
  obtain ⟨u1, u2, u3, u4, u5⟩ := comm_ok hp sS.1 k
  obtain ⟨w1, w2, w3, w4, w5⟩ := comm_ok sU.2 sS.2 n
  simp only [a1, a2, a3, a4, b1, b2, b3, b4, c1, c2, c3, c4, s1, s2, s3, s4, u1, u2, u3, u4, w1, w2, w3, w4] at a5 b5 c5 s5 u5 w5
  simp only [sameH, Bool.and_eq_true, decide_eq_true_eq, a1, a2, a3, a4, b1, b2, b3, b4, c1, c2, c3, c4, s1, s2, s3, s4, u1, u2, u3, u4, w1, w2, w3, w4, and_true]
  generalize (commR (commR p q).1 (commR (commR p q).2.1 r).1).1.at_ = C1 at *
  generalize (commR (commR p q).1 (commR (commR p q).2.1 r).1).2.1.at_ = C2 at *
  generalize (commR (commR p q).2.1 r).1.at_ = B1 at *
  generalize (commR (commR p q).2.1 r).2.1.at_ = B2 at *
  generalize (commR p (commR q r).1).1.at_ = U1 at *
  generalize (commR (commR p (commR q r).1).2.1 (commR q r).2.1).1.at_ = W1 at *
  generalize (commR (commR p (commR q r).1).2.1 (commR q r).2.1).2.1.at_ = W2 at *
  generalize (commR p (commR q r).1).2.1.at_ = U2 at *
  generalize (commR p q).1.at_ = A1 at *
  generalize (commR p q).2.1.at_ = A2 at *
  generalize (commR q r).1.at_ = S1 at *
  generalize (commR q r).2.1.at_ = S2 at *
  rcases a5 with a5 | a5 <;> rcases b5 with b5 | b5 <;> rcases c5 with c5 | c5 <;> rcases s5 with s5 | s5 <;> rcases u5 with u5 | u5 <;> rcases w5 with w5 | w5 <;> omega
end Go.Proofs.Ytddhdlfafaobhaa
