/- The hunks that diff tells: sorted, and they make the other row. Plain. -/
import Derived.Test.YtigmpablpmanpaaS144
import Derived.Test.YtigmpablpmanpaaSB
import Derived.Test.YtigmpablpmanpaaSC
namespace Go.Proofs.Ytigmpablpmanpaa
open Go.RowKit
set_option linter.unusedVariables false
set_option linter.unusedSimpArgs false

theorem cmn_next {a b : List ByteArray} {i j x y : Nat} {r : List (Nat × Nat)} (h : cmn a b i j = (x, y) :: r) : r = cmn a b (x + 1) (y + 1) ∧ (i < a.length ∧ j < b.length ∧ nthS a i = nthS b j → x = i ∧ y = j) := by
  by_cases hd : i < a.length ∧ j < b.length
  · by_cases e : nthS a i = nthS b j
    · rw [cmn_eq hd.1 hd.2 e] at h
      cases h
      exact ⟨rfl, fun _ => ⟨rfl, rfl⟩⟩
    · by_cases g : lcd a b (i + 1) j ≥ lcd a b i (j + 1)
      · rw [cmn_i hd.1 hd.2 e g] at h
        exact ⟨(cmn_next h).1, fun q => absurd q.2.2 e⟩
      · rw [cmn_j hd.1 hd.2 e g] at h
        exact ⟨(cmn_next h).1, fun q => absurd q.2.2 e⟩
  · rw [cmn_end hd] at h
    simp at h
termination_by (a.length - i) + (b.length - j)
theorem cmn_none {a b : List ByteArray} {i j : Nat} (h : cmn a b i j = []) : ¬ (i < a.length ∧ j < b.length ∧ nthS a i = nthS b j) := by
  rintro ⟨h1, h2, h3⟩
  rw [cmn_eq h1 h2 h3] at h
  simp at h
/-- What stands between two places is no hunk of one row and itself. -/
theorem part_ne {a b : List ByteArray} {i j x y : Nat} (hx : x ≤ a.length) (hy : y ≤ b.length) (hi : i ≤ x) (hj : j ≤ y) (hz : (x - i) + (y - j) ≠ 0) (h : ¬ (i < a.length ∧ j < b.length ∧ nthS a i = nthS b j)) : (a.take x).drop i ≠ (b.take y).drop j := by
  intro e
  have hl := congrArg List.length e
  simp only [List.length_drop, List.length_take] at hl
  have h1 : i < x := by omega
  have h2 : j < y := by omega
  refine h ⟨by omega, by omega, ?_⟩
  have e0 := congrArg (fun l => l[0]?) e
  simp only [List.getElem?_drop, Nat.add_zero] at e0
  rw [List.getElem?_take_of_lt h1, List.getElem?_take_of_lt h2, List.getElem?_eq_getElem (by omega), List.getElem?_eq_getElem (by omega)] at e0
  rw [nthS_eq (by omega), nthS_eq (by omega)]
  exact Option.some.inj e0
theorem tk_nth {L : List ByteArray} {k : Nat} (h : k < L.length) : L.take k ++ [nthS L k] = L.take (k + 1) := by
  rw [List.take_add_one, nthS_eq h, List.getElem?_eq_getElem h]
  rfl
theorem lines_suf {P R : List ByteArray} (h : linesB (P ++ R) = true) : linesB R = true := by
  rw [linesB_eq] at h ⊢
  by_cases e : R = []
  · subst e; rfl
  · rw [linesL_app e, Bool.and_eq_true] at h
    exact h.2
theorem lines_part {a : List ByteArray} (h : linesB a = true) (i x : Nat) : linesB ((a.take x).drop i) = true := by
  have h1 : linesB (a.take x) = true := lines_pre (R := a.drop x) (by rw [List.take_append_drop]; exact h)
  exact lines_suf (P := (a.take x).take i) (by rw [List.take_append_drop]; exact h1)
theorem take_part (a : List ByteArray) {i x : Nat} (h : i ≤ x) : a.take i ++ (a.take x).drop i = a.take x := by
  have := List.take_append_drop i (a.take x)
  rwa [List.take_take, Nat.min_eq_left h] at this
/-- What is told from two places on. -/
theorem bet_ok {a b : List ByteArray} (ha : linesB a = true) (hb : linesB b = true) (hla : a.length ≤ 4096) (hlb : b.length ≤ 4096) : ∀ (n i j A : Nat) (least : Int) (out : List ByteArray), (a.length + 1 - i) + (b.length + 1 - j) ≤ n → i ≤ a.length → j ≤ b.length → A ≤ i → 0 ≤ least → least ≤ i → out ++ (a.take i).drop A = b.take j →
    sortedB least (bet a b i j (cmn a b i j ++ [(a.length, b.length)])) = true ∧ ∃ A' out', applyGo a (bet a b i j (cmn a b i j ++ [(a.length, b.length)])) A out = (0, A', out') ∧ out' ++ a.drop A' = b := by
  intro n
  induction n with
  | zero => intro i j A least out hn; omega
  | succ n ih =>
    intro i j A least out hn hi hj hA h0 hle ho
    have step : ∀ (x y : Nat) (rest : List (Nat × Nat)), i ≤ x → j ≤ y → x ≤ a.length → y ≤ b.length → ¬ ((x - i) + (y - j) ≠ 0 ∧ (i < a.length ∧ j < b.length ∧ nthS a i = nthS b j)) →
        (∀ (A : Nat) (least : Int) (out : List ByteArray), A ≤ x → 0 ≤ least → least ≤ x + 1 → out ++ (a.take x).drop A = b.take y → sortedB least (bet a b (x + 1) (y + 1) rest) = true ∧ ∃ A' out', applyGo a (bet a b (x + 1) (y + 1) rest) A out = (0, A', out') ∧ out' ++ a.drop A' = b) →
        sortedB least (bet a b i j ((x, y) :: rest)) = true ∧ ∃ A' out', applyGo a (bet a b i j ((x, y) :: rest)) A out = (0, A', out') ∧ out' ++ a.drop A' = b := by
      intro x y rest h1 h2 h3 h4 hq hr
      by_cases hz : (x - i) + (y - j) = 0
      · obtain rfl : x = i := by omega
        obtain rfl : y = j := by omega
        simp only [bet, if_pos hz]
        exact hr A least out hA h0 (by omega) ho
      · have hne := part_ne h3 h4 h1 h2 hz (fun q => hq ⟨hz, q⟩)
        have hl1 : ((a.take x).drop i).length = x - i := by rw [List.length_drop, List.length_take]; omega
        have hp1 := take_part a h1
        have hp2 := take_part b h2
        simp only [bet, if_neg hz, sortedB, applyGo, hl1]
        have ho2 : (out ++ (a.take i).drop A ++ (b.take y).drop j) ++ (a.take x).drop x = b.take y := by
          rw [ho, hp2, List.drop_of_length_le (by rw [List.length_take]; omega), List.append_nil]
        obtain ⟨s1, A', out', s2, s3⟩ := hr x ((i : Int) + ((x - i : Nat) : Int) + 1) (out ++ (a.take i).drop A ++ (b.take y).drop j) (Nat.le_refl _) (by omega) (by omega) ho2
        have hrb : rightB ⟨i, (a.take x).drop i, (b.take y).drop j⟩ = true := by
          unfold rightB
          simp only [lines_part ha, lines_part hb, hne, Bool.true_and, Bool.and_true, decide_eq_true_eq, Bool.and_eq_true, decide_false, Bool.not_false]
          exact ⟨by omega, by omega⟩
        refine ⟨?_, A', out', ?_, s3⟩
        · rw [hrb, s1]
          have : ¬ (i : Int) < least := by omega
          simp [this]
        · have e1 : ((i : Int)).toNat = i := Int.toNat_natCast _
          have e2 : ((i : Int) + ((x - i : Nat) : Int)).toNat = x := by omega
          rw [if_pos ⟨by omega, by omega⟩, e1, e2, if_pos (by rw [List.drop_take]), s2]
    cases hc : cmn a b i j with
    | nil =>
      have := cmn_none hc
      refine step a.length b.length [] hi hj (Nat.le_refl _) (Nat.le_refl _) (fun q => this q.2) fun A least out g1 g2 g3 g4 => ?_
      rw [List.take_length, List.take_length] at g4
      exact ⟨rfl, A, out, rfl, g4⟩
    | cons p r =>
      obtain ⟨x, y⟩ := p
      obtain ⟨q1, q2⟩ := cmn_next hc
      have hri := cmn_rise a b i j hi hj
      rw [hc] at hri
      obtain ⟨⟨r1, r2⟩, r3⟩ := hri
      have r4 := r3.le
      have hsm := cmn_same a b i j (x, y) (by rw [hc]; simp)
      rw [List.cons_append]
      refine step x y (r ++ [(a.length, b.length)]) r1 r2 (by omega) (by omega) (fun q => ?_) fun A least out g1 g2 g3 g4 => ?_
      · have := q2 q.2
        omega
      · rw [q1]
        refine ih (x + 1) (y + 1) A least out (by omega) (by omega) (by omega) (by omega) g2 (by omega) ?_
        rw [← tk_nth (show x < a.length by omega), ← tk_nth (show y < b.length by omega), List.drop_append_of_le_length (by rw [List.length_take]; omega), ← List.append_assoc, g4, hsm.1]
theorem difH_ok {a b : List ByteArray} (ha : linesB a = true) (hb : linesB b = true) (hla : a.length ≤ 4096) (hlb : b.length ≤ 4096) : sortedB 0 (difH a b) = true ∧ applyR a (difH a b) = (b, 0) := by
  obtain ⟨h1, A', out', h2, h3⟩ := bet_ok ha hb hla hlb _ 0 0 0 0 [] (Nat.le_refl _) (Nat.zero_le _) (Nat.zero_le _) (Nat.le_refl _) (by omega) (by omega) rfl
  refine ⟨h1, ?_⟩
  unfold applyR
  unfold difH at *
  rw [if_pos ⟨ha, h1⟩, h2]
  simp only [h3, hb, if_true]
end Go.Proofs.Ytigmpablpmanpaa
