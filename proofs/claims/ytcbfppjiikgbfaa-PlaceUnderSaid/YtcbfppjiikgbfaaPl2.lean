/- The contracts of place.Under, up, down, and their closures. -/
import Derived.Test.YtcbfppjiikgbfaaPl1
import Derived.Test.YtcbfppjiikgbfaaGrow
namespace Go.Proofs.Ytcbfppjiikgbfaa
open Go.RowKit

theorem under_len {xs ys : List Int} (h : under xs ys = true) : ys.length ≤ xs.length := by
  unfold under at h
  have h := of_decide_eq_true h
  have := congrArg List.length h
  simp at this
  omega

theorem Ints.take {w : World} {a : Option Addr} {cap : Nat} {xs : List Int} (h : Ints w (.slice a xs.length cap) xs) (n : Nat) (hn : n ≤ xs.length) : Ints w (.slice a n cap) (xs.take n) := by
  obtain ⟨a', cap', hv, h1, h2, h3⟩ := h.opened
  cases hv
  have hl : (xs.take n).length = n := by simp; omega
  rw [← hl]
  rw [hl]
  have e : (Value.slice a n cap) = .slice a (xs.take n).length cap := by rw [hl]
  rw [e]
  refine Ints.mk (by omega) h2 fun hne => ?_
  obtain ⟨b, off, ha, hc⟩ := h3 (by intro e; subst e; simp at hne)
  refine ⟨b, off, ha, fun i hi => ?_⟩
  rw [hl] at hi
  rw [hc i (by omega)]
  rw [nth_eq (by omega), nth_eq (by omega)]
  simp

set_option maxHeartbeats 400000 in
theorem under_any (p q : Value) (xs ys : List Int) (w : World) (hp : Ints w p xs) (hq : Ints w q ys) :
    Calls Try.prog 19 #[p, q] w fun e w' => e = .returned (.bool (under xs ys)) ∧ ∃ n, w' = w.drewN n := by
  obtain ⟨a, ca, rfl, ha1, ha2, ha3⟩ := hp.opened
  have hq' := hq
  obtain ⟨b, cb, rfl, hb1, hb2, hb3⟩ := hq'.opened
  clear ha3 hb3 hq'
  by_cases hl : ys.length ≤ xs.length
  · have hd : decide ((ys.length : Int) ≤ (xs.length : Int)) = true := by simp; omega
    have ht := hp.take ys.length hl
    have k1 : (0 : Int) ≤ (ys.length : Int) := by omega
    have k2 : (ys.length : Int) ≤ (ca : Int) := by omega
    have k3 : (ca : Int) ≤ 9223372036854775807 := by omega
    clear hp
    go_enter Try.func19, Try.ntmps19
    go_wp2_with (go_at_call 33; refine (equal_any _ _ _ _ _ ht hq).mono ?_; rintro e w' ⟨rfl, n, rfl⟩)
    go_ret
    exact ⟨rfl, n, rfl⟩
  · have hd : decide ((ys.length : Int) ≤ (xs.length : Int)) = false := by simp; omega
    have Fin : Hid (under xs ys = false) := by
      cases h : under xs ys with
      | false => exact (rfl : false = false)
      | true => exact (hl (under_len h)).elim
    clear hp hq
    go_enter Try.func19, Try.ntmps19
    go_wp2
    go_ret
    exact ⟨by rw [Fin.out]; rfl, 0, rfl⟩

theorem up_any (t : Int) (w : World) : Calls Try.prog 27 #[.int .i64 t] w fun e w' => e = .returned (.func (.func 37) #[] #[.pointer (some ⟨w.heap.size, 0, none⟩)]) ∧ w.alloc (.cells #[.int .i64 t] 3) = w' := by
  go_enter Try.func27, Try.ntmps27
  go_wp2
  go_ret
  exact ⟨rfl, rfl⟩

theorem down_any (t : Int) (w : World) : Calls Try.prog 30 #[.int .i64 t] w fun e w' => e = .returned (.func (.func 38) #[] #[.pointer (some ⟨w.heap.size, 0, none⟩)]) ∧ w.alloc (.cells #[.int .i64 t] 3) = w' := by
  go_enter Try.func30, Try.ntmps30
  go_wp2
  go_ret
  exact ⟨rfl, rfl⟩

theorem up1_any (t k : Int) (b : Nat) (w : World) (hc : w.cell? ⟨b, 0, none⟩ = some (.int .i64 t)) (h1 : -1099511627776 ≤ k) (h2 : k ≤ 1099511627776) :
    Calls Try.prog 37 #[.int .i64 k, .pointer (some ⟨b, 0, none⟩)] w fun e w' => e = .returned (.int .i64 (upF t k)) ∧ w = w' := by
  by_cases h : t ≤ k
  · have hd : decide (t ≤ k) = true := by simpa using h
    go_enter Try.func37, Try.ntmps37
    go_wp2
    go_ret
    exact ⟨by simp [upF, h], rfl⟩
  · have hd : decide (t ≤ k) = false := by simpa using h
    have Fin : Hid (upF t k = k) := if_neg h
    go_enter Try.func37, Try.ntmps37
    go_wp2
    go_ret
    exact ⟨by rw [Fin.out]; rfl, rfl⟩

theorem down1_any (t k : Int) (b : Nat) (w : World) (hc : w.cell? ⟨b, 0, none⟩ = some (.int .i64 t)) (h1 : -1099511627776 ≤ k) (h2 : k ≤ 1099511627776) :
    Calls Try.prog 38 #[.int .i64 k, .pointer (some ⟨b, 0, none⟩)] w fun e w' => e = .returned (.int .i64 (downF t k)) ∧ w = w' := by
  by_cases h : t < k
  · have hd : decide (t < k) = true := by simpa using h
    go_enter Try.func38, Try.ntmps38
    go_wp2
    go_ret
    exact ⟨by simp [downF, h], rfl⟩
  · have hd : decide (t < k) = false := by simpa using h
    have Fin : Hid (downF t k = k) := if_neg h
    go_enter Try.func38, Try.ntmps38
    go_wp2
    go_ret
    exact ⟨by rw [Fin.out]; rfl, rfl⟩

set_option maxHeartbeats 400000 in
theorem moved1_any (f t k : Int) (b c : Nat) (w : World) (hb : w.cell? ⟨b, 0, none⟩ = some (.int .i64 f)) (hc : w.cell? ⟨c, 0, none⟩ = some (.int .i64 t))
    (h1 : -1099511627775 ≤ k) (h2 : k ≤ 1099511627775) :
    Calls Try.prog 31 #[.int .i64 k, .pointer (some ⟨b, 0, none⟩), .pointer (some ⟨c, 0, none⟩)] w fun e w' => e = .returned (.int .i64 (moveF f t k)) ∧ Ext w w' := by
  have hbs := cell_lt hb
  have hcs := cell_lt hc
  simp only at hbs hcs
  by_cases h : k = f
  · have hd : (k == f) = true := by simpa using h
    have Fin : Hid (moveF f t k = t) := if_pos h
    clear h
    go_enter Try.func31, Try.ntmps31
    go_wp2
    go_ret
    exact ⟨by rw [Fin.out]; rfl, ext_refl _⟩
  · have hd : (k == f) = false := by simpa using h
    have Fin : Hid (moveF f t k = upF t (downF f k)) := if_neg h
    clear h
    have hm1 : -1099511627776 ≤ downF f k := by unfold downF; split <;> omega
    have hm2 : downF f k ≤ 1099511627776 := by unfold downF; split <;> omega
    go_enter Try.func31, Try.ntmps31
    go_wp2_with fail
    refine wp_region_grow [.is (.int .i64 t), .sat (fun v w => ∃ b, v = .func (.func 37) #[] #[.pointer (some ⟨b, 0, none⟩)] ∧ w.cell? ⟨b, 0, none⟩ = some (.int .i64 t)), .is (.int .i64 f),
      .sat (fun v w => ∃ b, v = .func (.func 38) #[] #[.pointer (some ⟨b, 0, none⟩)] ∧ w.cell? ⟨b, 0, none⟩ = some (.int .i64 f)), .is (.int .i64 k), .is (.int .i64 (downF f k)), .is (.int .i64 (upF t (downF f k))), .is (.int .i64 (upF t (downF f k)))]
      16 (by kernel_rfl) (by kernel_rfl) rfl (by kernel_rfl) ?mono ?steps ?fin
    case mono =>
      simp only [monos, VSpec.mono, and_true, true_and]
      refine ⟨?_, ?_⟩
      · rintro v w1 w2 hb ⟨b, h1, h2⟩; exact ⟨b, h1, ext_cell hb h2⟩
      · rintro v w1 w2 hb ⟨b, h1, h2⟩; exact ⟨b, h1, ext_cell hb h2⟩
    case steps =>
      simp only [steps]
      refine ⟨?_, ?_, ?_, ?_, ?_, ?_, ?_, ?_, trivial⟩
      all_goals
        refine .inl ⟨by simp [gYes], fun vs w1 hx hd => ?_⟩
        simp [depFacts, edgeFact, Region.binds, VSpec.holds] at hd
        have hb' := ext_cell ((ext_drewN w 1).trans (hx.mono (Nat.le_refl _))) hb
        have hc' := ext_cell ((ext_drewN w 1).trans (hx.mono (Nat.le_refl _))) hc
        simp only [frm, VSpec.holds]
      · unfold StepVal; go_simp; exact ext_refl _
      · unfold StepVal; go_simp
        refine (up_any _ _).mono ?_
        rintro e w' ⟨rfl, rfl⟩
        exact ⟨_, rfl, ext_alloc w1 _, w1.heap.size, rfl, World.cell?_alloc_new _ _ _ _⟩
      · unfold StepVal; go_simp; exact ext_refl _
      · unfold StepVal; go_simp
        refine (down_any _ _).mono ?_
        rintro e w' ⟨rfl, rfl⟩
        exact ⟨_, rfl, ext_alloc w1 _, w1.heap.size, rfl, World.cell?_alloc_new _ _ _ _⟩
      · unfold StepVal; go_simp; exact ext_refl _
      · obtain ⟨⟨b1, e1, c1⟩, e2⟩ := hd
        unfold StepVal; go_simp
        refine (down1_any f k b1 _ c1 (by omega) (by omega)).mono ?_
        rintro e w' ⟨rfl, rfl⟩
        exact ⟨rfl, ext_refl _⟩
      · obtain ⟨⟨b1, e1, c1⟩, e2⟩ := hd
        unfold StepVal; go_simp
        refine (up1_any t _ b1 _ c1 (by omega) (by omega)).mono ?_
        rintro e w' ⟨rfl, rfl⟩
        exact ⟨rfl, ext_refl _⟩
      · unfold StepVal; go_simp; exact ext_refl _
    case fin =>
      simp only [fin, Act.put]
      intro v1 v2 w1 hx hC
      simp only [List.setIfInBounds_toArray, List.set_cons_succ, List.set_cons_zero]
      have hx' : Ext w w1 := (ext_drewN w 1).trans (hx.mono (Nat.le_refl _))
      clear hC hx
      go_wp2
      go_ret
      exact ⟨by rw [Fin.out]; rfl, hx'⟩
end Go.Proofs.Ytcbfppjiikgbfaa
