/- PlaceBack: all ways together. -/
import Derived.Test.YtcbfppjiikgbfaaPl8
namespace Go.Proofs.Ytcbfppjiikgbfaa
open Go.RowKit

set_option maxHeartbeats 1000000 in
theorem back_any (p q : Value) (xs ys : List Int) (t f : Int) (w : World) (hp : Ints w p xs) (hq : Ints w q ys) :
    Calls Try.prog 5 #[p, q, .int .i64 t, .int .i64 f] w fun e w' => e = .returned (.bool true) ∧ Ext w w' := by
  cases h1 : fineB xs t f with
  | false =>
    have Hh1 : Hid ((!fineB xs t f) = true) := by show _ = _; rw [h1]; rfl
    clear h1
    go_enter Try.func5, Try.ntmps5
    go_wp2_with fail
    refine (awake_any w).mono ?_
    rintro e w1 ⟨rfl, hw⟩
    replace hp := hp.ext hw
    go_wp2_with fail
    refine (great_b _ _ xs t f _ hp Hh1.out).mono ?_
    rintro e w2 ⟨rfl, hx⟩
    go_wp2_with fail
    go_ret
    exact ⟨rfl, ext_trans hw hx⟩
  | true =>
    cases h2 : fineB ys t f with
    | false =>
      have Hh1 : Hid ((!fineB xs t f) = false) := by show _ = _; rw [h1]; rfl
      have Hh2 : Hid ((!fineB ys t f) = true) := by show _ = _; rw [h2]; rfl
      clear h1 h2
      go_enter Try.func5, Try.ntmps5
      go_wp2_with fail
      refine (awake_any w).mono ?_
      rintro e w1 ⟨rfl, hw⟩
      replace hp := hp.ext hw
      replace hq := hq.ext hw
      go_wp2_with fail
      refine (great_b _ _ xs t f _ hp Hh1.out).mono ?_
      rintro e w2 ⟨rfl, hx⟩
      go_wp2_with fail
      refine (great_b _ _ ys t f _ (hq.ext hx) Hh2.out).mono ?_
      rintro e w3 ⟨rfl, hx3⟩
      go_wp2_with fail
      go_ret
      exact ⟨rfl, ext_trans (ext_trans hw hx) hx3⟩
    | true =>
      by_cases ht : 0 ≤ t
      · by_cases hf : 0 ≤ f
        · by_cases hl : ys.length < xs.length
          · cases hu : under xs ys with
            | false => exact back_off p q xs ys t f w hp hq h1 h2 ht hf (by show _ = _; simp [gone, hu]) hu hl
            | true =>
              by_cases he : nth xs ys.length = t
              · exact back_gone p q xs ys t f w hp hq h1 h2 ht hf (by show _ = _; simp [gone, hu, he, hl]) hu (by simpa using he) hl
              · exact back_ne p q xs ys t f w hp hq h1 h2 ht hf (by show _ = _; simp [gone, he]) hu (by simpa using he) hl
          · exact back_short p q xs ys t f w hp hq h1 h2 ht hf (by show _ = _; simp [gone, hl]) hl
        · have d1 : decide (t < 0) = false := by simp; omega
          have d2 : decide (f < 0) = true := by simp; omega
          have Hh1 : Hid ((!fineB xs t f) = false) := by show _ = _; rw [h1]; rfl
          have Hh2 : Hid ((!fineB ys t f) = false) := by show _ = _; rw [h2]; rfl
          clear h1 h2
          go_enter Try.func5, Try.ntmps5
          go_wp2_with fail
          refine (awake_any w).mono ?_
          rintro e w1 ⟨rfl, hw⟩
          replace hp := hp.ext hw
          replace hq := hq.ext hw
          go_wp2_with fail
          refine (great_b _ _ xs t f _ hp Hh1.out).mono ?_
          rintro e w2 ⟨rfl, hx⟩
          go_wp2_with fail
          refine (great_b _ _ ys t f _ (hq.ext hx) Hh2.out).mono ?_
          rintro e w3 ⟨rfl, hx3⟩
          go_wp2_with fail
          go_ret
          exact ⟨rfl, ext_trans (ext_trans hw hx) hx3⟩
      · have d1 : decide (t < 0) = true := by simp; omega
        have Hh1 : Hid ((!fineB xs t f) = false) := by show _ = _; rw [h1]; rfl
        have Hh2 : Hid ((!fineB ys t f) = false) := by show _ = _; rw [h2]; rfl
        clear h1 h2
        go_enter Try.func5, Try.ntmps5
        go_wp2_with fail
        refine (awake_any w).mono ?_
        rintro e w1 ⟨rfl, hw⟩
        replace hp := hp.ext hw
        replace hq := hq.ext hw
        go_wp2_with fail
        refine (great_b _ _ xs t f _ hp Hh1.out).mono ?_
        rintro e w2 ⟨rfl, hx⟩
        go_wp2_with fail
        refine (great_b _ _ ys t f _ (hq.ext hx) Hh2.out).mono ?_
        rintro e w3 ⟨rfl, hx3⟩
        go_wp2_with fail
        go_ret
        exact ⟨rfl, ext_trans (ext_trans hw hx) hx3⟩
end Go.Proofs.Ytcbfppjiikgbfaa
