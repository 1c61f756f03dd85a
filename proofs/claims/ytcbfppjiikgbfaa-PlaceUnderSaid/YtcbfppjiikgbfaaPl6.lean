/- The contracts of Compare, great. -/
import Derived.Test.YtcbfppjiikgbfaaPl5
namespace Go.Proofs.Ytcbfppjiikgbfaa
open Go.RowKit

def cmpI (x y : Int) : Int := if x < y then -1 else if y < x then 1 else 0

theorem isNaN_any (x : Int) (w : World) : Calls Try.prog 62 #[.int .i64 x] w fun e w' => e = .returned (.bool false) ∧ w = w' := by
  have h : (x != x) = false := by simp
  go_enter Try.func62, Try.ntmps62
  go_wp2
  go_ret
  exact ⟨rfl, rfl⟩

set_option maxHeartbeats 400000 in
theorem cmpCompare_any (x y : Int) (w : World) : Calls Try.prog 39 #[.int .i64 x, .int .i64 y] w fun e w' => e = .returned (.int .i64 (cmpI x y)) ∧ w = w' := by
  by_cases h1 : x < y
  · have Fin : Hid (cmpI x y = -1) := if_pos h1
    go_enter Try.func39, Try.ntmps39
    go_wp2_with (go_at_call 62; refine (isNaN_any _ _).mono ?_; rintro e w' ⟨rfl, rfl⟩)
    go_ret
    exact ⟨by rw [Fin.out]; rfl, rfl⟩
  · by_cases h2 : y < x
    · have Fin : Hid (cmpI x y = 1) := by unfold cmpI; rw [if_neg h1]; exact if_pos h2
      go_enter Try.func39, Try.ntmps39
      go_wp2_with (go_at_call 62; refine (isNaN_any _ _).mono ?_; rintro e w' ⟨rfl, rfl⟩)
      go_ret
      exact ⟨by rw [Fin.out]; rfl, rfl⟩
    · have Fin : Hid (cmpI x y = 0) := by unfold cmpI; rw [if_neg h1]; exact if_neg h2
      go_enter Try.func39, Try.ntmps39
      go_wp2_with (go_at_call 62; refine (isNaN_any _ _).mono ?_; rintro e w' ⟨rfl, rfl⟩)
      go_ret
      exact ⟨by rw [Fin.out]; rfl, rfl⟩

theorem cmpL_step {xs ys : List Int} {k : Nat} (h1 : k < xs.length) (h2 : k < ys.length) :
    cmpL (xs.drop k) (ys.drop k) = if cmpI (nth xs k) (nth ys k) = 0 then cmpL (xs.drop (k + 1)) (ys.drop (k + 1)) else cmpI (nth xs k) (nth ys k) := by
  rw [List.drop_eq_getElem_cons h1, List.drop_eq_getElem_cons h2, nth_eq h1, nth_eq h2]
  simp only [cmpL, cmpI]
  by_cases a : xs[k] < ys[k]
  · simp [a]
  · by_cases b : ys[k] < xs[k]
    · simp [a, b]
    · simp [a, b]

theorem cmpL_end {xs ys : List Int} {k : Nat} (h1 : k = xs.length) (h2 : k ≤ ys.length) : cmpL (xs.drop k) (ys.drop k) = if xs.length < ys.length then -1 else 0 := by
  subst h1
  rw [List.drop_length]
  by_cases h : xs.length < ys.length
  · rw [if_pos h]
    rw [List.drop_eq_getElem_cons h]
    rfl
  · rw [if_neg h, List.drop_of_length_le (by omega)]
    rfl

theorem cmpL_over {xs ys : List Int} {k : Nat} (h1 : k < xs.length) (h2 : k = ys.length) : cmpL (xs.drop k) (ys.drop k) = 1 := by
  subst h2
  rw [List.drop_length, List.drop_eq_getElem_cons h1]
  rfl

set_option maxHeartbeats 1000000 in
theorem slCompare_any (p q : Value) (xs ys : List Int) (w : World) (hp : Ints w p xs) (hq : Ints w q ys) :
    Calls Try.prog 32 #[p, q] w fun e w' => e = .returned (.int .i64 (cmpL xs ys)) ∧ w = w' := by
  obtain ⟨a, ca, rfl, ha1, ha2, ha3⟩ := hp.opened
  obtain ⟨b, cb, rfl, hb1, hb2, hb3⟩ := hq.opened
  clear hp hq
  go_enter Try.func32, Try.ntmps32
  go_wp2_with fail
  go_loop [11] (fun i => ∃ k : Nat, k ≤ xs.length ∧ k ≤ ys.length ∧ i = .int .i64 k ∧ cmpL (xs.drop k) (ys.drop k) = cmpL xs ys) (fun i => xs.length - (intOf i).toNat)
  case atStart => exact ⟨0, Nat.zero_le _, Nat.zero_le _, rfl, rfl⟩
  case round =>
    obtain ⟨k, hk, hky, rfl, hc⟩ := hrel
    have Hc := Lib.hid hc
    clear hc
    by_cases hlt : k < xs.length
    · obtain ⟨ba, oa, rfl, hca⟩ := ha3 (by intro e; subst e; simp at hlt)
      have c1 := hca k hlt
      have k1 : (0 : Int) ≤ (k : Int) := by omega
      have k2 : (k : Int) < (xs.length : Int) := by omega
      clear ha3 hca
      by_cases hly : k < ys.length
      · obtain ⟨bb, ob, rfl, hcb⟩ := hb3 (by intro e; subst e; simp at hly)
        have c2 := hcb k hly
        have k3 : (k : Int) < (ys.length : Int) := by omega
        have hd : decide ((ys.length : Int) ≤ (k : Int)) = false := by simp; omega
        clear hb3 hcb
        have hst := cmpL_step hlt hly
        by_cases he : cmpI (nth xs k) (nth ys k) = 0
        · have he' : (cmpI (nth xs k) (nth ys k) != 0) = false := by simp [he]
          rw [if_pos he] at hst
          have Hst := Lib.hid hst
          clear hst he
          go_wp2_with (go_at_call 39; refine (cmpCompare_any _ _ _).mono ?_; rintro e w' ⟨rfl, rfl⟩)
          go_round
          case rel => exact ⟨k + 1, by omega, by omega, by go_num, by rw [← Hst.out]; exact Hc.out⟩
          case measure => simp [intOf]; omega
        · have he' : (cmpI (nth xs k) (nth ys k) != 0) = true := by simpa using he
          rw [if_neg he] at hst
          have Hst := Lib.hid (hst.symm.trans Hc.out)
          clear hst he
          go_wp2_with (go_at_call 39; refine (cmpCompare_any _ _ _).mono ?_; rintro e w' ⟨rfl, rfl⟩)
          go_ret
          exact ⟨by rw [← Hst.out]; rfl, rfl⟩
      · have hd : decide ((ys.length : Int) ≤ (k : Int)) = true := by simp; omega
        have Hst := Lib.hid ((cmpL_over hlt (by omega : k = ys.length)).symm.trans Hc.out)
        go_wp2_with fail
        go_ret
        exact ⟨by rw [← Hst.out]; rfl, rfl⟩
    · have hst := cmpL_end (by omega : k = xs.length) hky
      by_cases hl : xs.length < ys.length
      · rw [if_pos hl] at hst
        have Hst := Lib.hid (hst.symm.trans Hc.out)
        clear hst
        have hd : (xs.length : Int) < (ys.length : Int) := by omega
        go_wp2_with fail
        go_ret
        exact ⟨by rw [← Hst.out]; rfl, rfl⟩
      · rw [if_neg hl] at hst
        have Hst := Lib.hid (hst.symm.trans Hc.out)
        clear hst
        have hd : ¬ (xs.length : Int) < (ys.length : Int) := by omega
        go_wp2_with fail
        go_ret
        exact ⟨by rw [← Hst.out]; rfl, rfl⟩

theorem compare_any (p q : Value) (xs ys : List Int) (w : World) (hp : Ints w p xs) (hq : Ints w q ys) :
    Calls Try.prog 17 #[p, q] w fun e w' => e = .returned (.int .i64 (cmpL xs ys)) ∧ w = w' := by
  have Hp := Lib.hid hp
  have Hq := Lib.hid hq
  clear hp hq
  go_enter Try.func17, Try.ntmps17
  go_wp2_with (go_at_call 32; refine (slCompare_any _ _ _ _ _ Hp.out Hq.out).mono ?_; rintro e w' ⟨rfl, rfl⟩)
  go_ret
  exact ⟨rfl, rfl⟩

/-- The numbers are within what the laws take. -/
def fineL (xs : List Int) : Bool := xs.all fun x => decide (-2147483648 ≤ x) && decide (x ≤ 2147483648)
def fineB (xs : List Int) (a t : Int) : Bool :=
  decide (xs.length ≤ 200) && (decide (a ≤ 2147483648) && (decide (-2147483648 ≤ a) && (decide (t ≤ 2147483648) && (decide (-2147483648 ≤ t) && fineL xs))))

theorem fineL_snoc {xs : List Int} {k : Nat} (h : k < xs.length) : fineL (xs.take (k + 1)) = (fineL (xs.take k) && (decide (-2147483648 ≤ nth xs k) && decide (nth xs k ≤ 2147483648))) := by
  unfold fineL
  rw [List.take_succ_eq_append_getElem h, List.all_append, nth_eq h]
  simp

theorem fineL_bad {xs : List Int} {k : Nat} (h : k < xs.length) (hb : ¬ (-2147483648 ≤ nth xs k ∧ nth xs k ≤ 2147483648)) : fineL xs = false := by
  cases hf : fineL xs with
  | false => rfl
  | true =>
    unfold fineL at hf
    rw [List.all_eq_true] at hf
    have := hf _ (List.getElem_mem h)
    rw [nth_eq h] at hb
    simp at this
    omega

set_option maxHeartbeats 1000000 in
theorem great_any (p : Value) (xs : List Int) (a t : Int) (w : World) (hp : Ints w p xs) :
    Calls Try.prog 9 #[p, .int .i64 a, .int .i64 t] w fun e w' => e = .returned (.bool (!fineB xs a t)) ∧ ∃ n, w.drewN n = w' := by
  obtain ⟨ad, ca, rfl, ha1, ha2, ha3⟩ := hp.opened
  clear hp
  by_cases h1 : xs.length ≤ 200
  · have d1 : decide ((200 : Int) < (xs.length : Int)) = false := by simp; omega
    by_cases h2 : a ≤ 2147483648
    · have d2 : decide ((2147483648 : Int) < a) = false := by simp; omega
      by_cases h3 : -2147483648 ≤ a
      · have d3 : decide (a < -2147483648) = false := by simp; omega
        by_cases h4 : t ≤ 2147483648
        · have d4 : decide ((2147483648 : Int) < t) = false := by simp; omega
          by_cases h5 : -2147483648 ≤ t
          · have d5 : decide (t < -2147483648) = false := by simp; omega
            have Fin : Hid (fineB xs a t = fineL xs) := by show fineB xs a t = fineL xs; simp [fineB, h1, h2, h3, h4, h5]
            go_enter Try.func9, Try.ntmps9
            go_wp2_with fail
            go_loop [7] (fun i => ∃ k : Nat, k ≤ xs.length ∧ i = .int .i64 k ∧ fineL (xs.take k) = true) (fun i => xs.length - (intOf i).toNat)
            case atStart => exact ⟨0, Nat.zero_le _, rfl, rfl⟩
            case round =>
              obtain ⟨k, hk, rfl, hf⟩ := hrel
              have Hf := Lib.hid hf
              clear hf
              by_cases hlt : k < xs.length
              · obtain ⟨ba, oa, rfl, hca⟩ := ha3 (by intro e; subst e; simp at hlt)
                have c1 := hca k hlt
                have k1 : (0 : Int) ≤ (k : Int) := by omega
                have k2 : (k : Int) < (xs.length : Int) := by omega
                clear ha3 hca
                have hsn := fineL_snoc hlt
                by_cases e1 : nth xs k ≤ 2147483648
                · have f1 : decide ((2147483648 : Int) < nth xs k) = false := by simp; omega
                  by_cases e2 : -2147483648 ≤ nth xs k
                  · have f2 : decide (nth xs k < -2147483648) = false := by simp; omega
                    have Hs : Hid (fineL (xs.take (k + 1)) = true) := by show _ = _; rw [hsn, Hf.out]; simp [e1, e2]
                    clear hsn
                    go_wp2_with fail
                    go_round
                    case rel => exact ⟨k + 1, by omega, by go_num, Hs.out⟩
                    case measure => simp [intOf]; omega
                  · have f2 : decide (nth xs k < -2147483648) = true := by simp; omega
                    have Hs : Hid (fineL xs = false) := fineL_bad hlt (by omega)
                    clear hsn
                    go_wp2_with fail
                    go_ret
                    exact ⟨by rw [Fin.out, Hs.out]; rfl, 0, rfl⟩
                · have f1 : decide ((2147483648 : Int) < nth xs k) = true := by simp; omega
                  have Hs : Hid (fineL xs = false) := fineL_bad hlt (by omega)
                  clear hsn
                  go_wp2_with fail
                  go_ret
                  exact ⟨by rw [Fin.out, Hs.out]; rfl, 0, rfl⟩
              · have Hs : Hid (fineL xs = true) := by show _ = _; rw [← Hf.out, List.take_of_length_le (by omega)]
                go_wp2_with fail
                go_ret
                exact ⟨by rw [Fin.out, Hs.out]; rfl, 0, rfl⟩
          · have d5 : decide (t < -2147483648) = true := by simp; omega
            have Fin : Hid (fineB xs a t = false) := by show fineB xs a t = false; simp [fineB, h5]
            go_enter Try.func9, Try.ntmps9
            go_wp2_with fail
            go_ret
            exact ⟨by rw [Fin.out]; rfl, 0, rfl⟩
        · have d4 : decide ((2147483648 : Int) < t) = true := by simp; omega
          have Fin : Hid (fineB xs a t = false) := by show fineB xs a t = false; simp [fineB, h4]
          go_enter Try.func9, Try.ntmps9
          go_wp2_with fail
          go_ret
          exact ⟨by rw [Fin.out]; rfl, 0, rfl⟩
      · have d3 : decide (a < -2147483648) = true := by simp; omega
        have Fin : Hid (fineB xs a t = false) := by show fineB xs a t = false; simp [fineB, h3]
        go_enter Try.func9, Try.ntmps9
        go_wp2_with fail
        go_ret
        exact ⟨by rw [Fin.out]; rfl, 0, rfl⟩
    · have d2 : decide ((2147483648 : Int) < a) = true := by simp; omega
      have Fin : Hid (fineB xs a t = false) := by show fineB xs a t = false; simp [fineB, h2]
      go_enter Try.func9, Try.ntmps9
      go_wp2_with fail
      go_ret
      exact ⟨by rw [Fin.out]; rfl, 0, rfl⟩
  · have d1 : decide ((200 : Int) < (xs.length : Int)) = true := by simp; omega
    have Fin : Hid (fineB xs a t = false) := by show fineB xs a t = false; simp [fineB, h1]
    go_enter Try.func9, Try.ntmps9
    go_wp2_with fail
    go_ret
    exact ⟨by rw [Fin.out]; rfl, 0, rfl⟩
end Go.Proofs.Ytcbfppjiikgbfaa
