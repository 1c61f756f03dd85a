/- The walk of PlaceBack. -/
import Derived.Test.YtcbfppjiikgbfaaPl7
import Derived.Test.YtcbfppjiikgbfaaPlainB
namespace Go.Proofs.Ytcbfppjiikgbfaa
open Go.RowKit

theorem thr_length' (xs ys : List Int) (t : Int) : (insL xs ys t).length = xs.length := thr_length _ _ _
theorem thr_length2' (xs ys : List Int) (t : Int) : (delL xs ys t).length = xs.length := thr_length _ _ _
theorem thr_length3' (xs ys : List Int) (t f : Int) : (movL xs ys t f).length = xs.length := thr_length _ _ _

theorem great_b (b : Bool) (p : Value) (xs : List Int) (a t : Int) (w : World) (hp : Ints w p xs) (hb : (!fineB xs a t) = b) :
    Calls Try.prog 9 #[p, .int .i64 a, .int .i64 t] w fun e w' => e = .returned (.bool b) ∧ Ext w w' :=
  (great_any p xs a t w hp).mono fun e w' ⟨he, n, hw⟩ => ⟨by rw [he, hb], by rw [← hw]; exact ext_drewN _ _⟩

theorem fineB_spec {xs : List Int} {a t : Int} (h : fineB xs a t = true) : xs.length ≤ 200 ∧ a ≤ 2147483648 ∧ -2147483648 ≤ a ∧ t ≤ 2147483648 ∧ -2147483648 ≤ t ∧ Bd 2147483648 xs := by
  unfold fineB at h
  simp only [Bool.and_eq_true, decide_eq_true_eq] at h
  obtain ⟨h1, h2, h3, h4, h5, h6⟩ := h
  refine ⟨h1, h2, h3, h4, h5, fun x hx => ?_⟩
  unfold fineL at h6
  rw [List.all_eq_true] at h6
  have := h6 x hx
  simp at this
  exact this

set_option maxHeartbeats 4000000 in
theorem back_gone (p q : Value) (xs ys : List Int) (t f : Int) (w : World) (hp : Ints w p xs) (hq : Ints w q ys) (h1 : fineB xs t f = true) (h2 : fineB ys t f = true) (ht : 0 ≤ t) (hf : 0 ≤ f)
    (G : Hid (gone xs ys t = true)) (U : Hid (under xs ys = true)) (he : (nth xs ys.length == t) = true) (hlt : ys.length < xs.length) :
    Calls Try.prog 5 #[p, q, .int .i64 t, .int .i64 f] w fun e w' => e = .returned (.bool true) ∧ Ext w w' := by
  obtain ⟨l1, l2, l3, l4, l5, l6⟩ := fineB_spec h1
  obtain ⟨m1, m2, m3, m4, m5, m6⟩ := fineB_spec h2
  have Hh1 : Hid ((!fineB xs t f) = false) := by show _ = _; rw [h1]; rfl
  have Hh2 : Hid ((!fineB ys t f) = false) := by show _ = _; rw [h2]; rfl
  have B1 : Hid (Bd 1099511627775 xs) := l6.mono (by omega)
  have B2 : Hid (Bd 1099511627775 (insL xs ys t)) := (l6.ins).mono (by omega)
  have B3 : Hid (Bd 1099511627775 (delL xs ys t)) := (l6.del).mono (by omega)
  have B4 : Hid (Bd 1099511627775 (movL xs ys t f)) := (l6.mov (by omega) (by omega)).mono (by omega)
  have hp' := hp
  obtain ⟨a, ca, rfl, ha1, ha2, ha3⟩ := hp'.opened
  have hq' := hq
  obtain ⟨b, cb, rfl, hb1, hb2, hb3⟩ := hq'.opened
  have d1 : decide (t < 0) = false := by simp; omega
  have d2 : decide (f < 0) = false := by simp; omega
  have d3 : decide ((ys.length : Int) < (xs.length : Int)) = true := by simp; omega
  have hy0 : (0 : Int) ≤ (ys.length : Int) := by omega
  have hyx : (ys.length : Int) < (xs.length : Int) := by omega
  obtain ⟨ba, oa, rfl, hcy⟩ := ha3 (by intro e; subst e; simp at hlt)
  have Hcy := Lib.hid (hcy ys.length)
  clear hp' hq' hb3 h1 h2 hcy
  go_enter Try.func5, Try.ntmps5
  go_wp2_with fail
  refine (awake_any w).mono ?_
  rintro e w1 ⟨rfl, hw⟩
  replace hp := hp.ext hw
  replace hq := hq.ext hw
  go_wp2_with fail
  refine (great_b _ _ xs t f _ hp Hh1.out).mono ?_
  rintro e w2 ⟨rfl, hx⟩
  replace hp := hp.ext hx
  replace hq := hq.ext hx
  replace hw := ext_trans hw hx
  clear hx
  go_wp2_with fail
  refine (great_b _ _ ys t f _ hq Hh2.out).mono ?_
  rintro e w3 ⟨rfl, hx⟩
  replace hp := hp.ext hx
  replace hq := hq.ext hx
  replace hw := ext_trans hw hx
  clear hx
  go_wp2_with fail
  go_loop [9] (fun i => ∃ k : Nat, k ≤ xs.length ∧ i = .int .i64 k) (fun i => xs.length - (intOf i).toNat)
  case atStart => exact ⟨0, Nat.zero_le _, rfl⟩
  case round =>
    obtain ⟨k, hk, rfl⟩ := hrel
    by_cases hkl : k < xs.length
    · have hcx := hp.opened
      obtain ⟨a', ca', hv, hc1, hc2, hc3⟩ := hcx
      obtain ⟨bk, ok, rfl, hck⟩ := hc3 (by intro e; subst e; simp at hkl)
      cases hv
      have c1 := hck k hkl
      have k1 : (0 : Int) ≤ (k : Int) := by omega
      have k2 : (k : Int) < (xs.length : Int) := by omega
      clear hc3 hck
      by_cases hneg : nth xs k < 0
      · have e1 : nth xs k < 0 := hneg
        go_wp2_with fail
        go_ret
        exact ⟨rfl, hw⟩
      · go_wp2_with fail
        go_round
        case rel => exact ⟨k + 1, by omega, by go_num⟩
        case measure => simp [intOf]; omega
    · have hkn : ¬ (k : Int) < (xs.length : Int) := by omega
      go_wp2_with fail
      refine (inserted_v _ _ xs ys (insL xs ys t) t _ hp hq (by omega) (by omega) B1.out rfl).mono ?_
      rintro e w4 ⟨va, rfl, ha, hx⟩
      have hxw4 : Ext w3 w4 := hx
      clear hx
      replace hp := hp.ext hxw4
      replace hq := hq.ext hxw4
      replace hw := ext_trans hw hxw4
      clear hxw4
      go_wp2_with fail
      refine (deleted_v _ _ (insL xs ys t) ys xs t _ ha hq (by rw [thr_length' xs ys t]; omega) (by omega) B2.out (ins_not_gone xs ys t) (del_ins xs ys t)).mono ?_
      rintro e w5 ⟨vb, rfl, hb, hx⟩
      have hxw5 : Ext w4 w5 := hx
      clear hx
      replace hp := hp.ext hxw5
      replace hq := hq.ext hxw5
      replace ha := ha.ext hxw5
      replace hw := ext_trans hw hxw5
      clear hxw5
      go_wp2_with fail
      refine (same_b true _ _ xs xs _ hb hp (by simp)).mono ?_
      rintro e w6 ⟨rfl, hx⟩
      have hxw6 : Ext w5 w6 := hx
      clear hx
      replace hp := hp.ext hxw6
      replace hq := hq.ext hxw6
      replace ha := ha.ext hxw6
      replace hb := hb.ext hxw6
      replace hw := ext_trans hw hxw6
      clear hxw6
      go_wp2_with fail
      refine (deleted_gone _ _ xs ys t _ hp hq G.out (by omega) (by omega)).mono ?_
      rintro e w7 ⟨rfl, hx⟩
      have hxw7 : Ext w6 w7 := hx
      clear hx
      replace hp := hp.ext hxw7
      replace hq := hq.ext hxw7
      replace ha := ha.ext hxw7
      replace hb := hb.ext hxw7
      replace hw := ext_trans hw hxw7
      clear hxw7
      go_wp2_with fail
      refine (under_b true _ _ xs ys _ hp hq U.out).mono ?_
      rintro e w8 ⟨rfl, hx⟩
      have hxw8 : Ext w7 w8 := hx
      clear hx
      replace hp := hp.ext hxw8
      replace hq := hq.ext hxw8
      replace ha := ha.ext hxw8
      replace hb := hb.ext hxw8
      replace hw := ext_trans hw hxw8
      clear hxw8
      have hcl : w8.cell? ⟨ba, oa + ys.length, none⟩ = some (.int .i64 (nth xs ys.length)) := ext_cell hw (Hcy.out (by omega))
      go_wp2_with fail
      refine (moved_v _ _ xs ys (movL xs ys t f) t f _ hp hq (by omega) (by omega) B1.out rfl).mono ?_
      rintro e w9 ⟨vm, rfl, hm, hx⟩
      have hxw9 : Ext w8 w9 := hx
      clear hx
      replace hp := hp.ext hxw9
      replace hq := hq.ext hxw9
      replace ha := ha.ext hxw9
      replace hb := hb.ext hxw9
      replace hw := ext_trans hw hxw9
      clear hxw9
      go_wp2_with fail
      refine (moved_v _ _ (movL xs ys t f) ys xs f t _ hm hq (by rw [thr_length3' xs ys t f]; omega) (by omega) B4.out (mov_mov xs ys t f)).mono ?_
      rintro e w10 ⟨vn, rfl, hn, hx⟩
      have hxw10 : Ext w9 w10 := hx
      clear hx
      replace hp := hp.ext hxw10
      replace hq := hq.ext hxw10
      replace ha := ha.ext hxw10
      replace hb := hb.ext hxw10
      replace hm := hm.ext hxw10
      replace hw := ext_trans hw hxw10
      clear hxw10
      go_wp2_with fail
      refine (same_b true _ _ xs xs _ hn hp (by simp)).mono ?_
      rintro e w11 ⟨rfl, hx⟩
      have hxw11 : Ext w10 w11 := hx
      clear hx
      replace hp := hp.ext hxw11
      replace hq := hq.ext hxw11
      replace ha := ha.ext hxw11
      replace hb := hb.ext hxw11
      replace hm := hm.ext hxw11
      replace hn := hn.ext hxw11
      replace hw := ext_trans hw hxw11
      clear hxw11
      go_wp2_with fail
      go_ret
      exact ⟨rfl, hw⟩


set_option maxHeartbeats 4000000 in
theorem back_ne (p q : Value) (xs ys : List Int) (t f : Int) (w : World) (hp : Ints w p xs) (hq : Ints w q ys) (h1 : fineB xs t f = true) (h2 : fineB ys t f = true) (ht : 0 ≤ t) (hf : 0 ≤ f)
    (G : Hid (gone xs ys t = false)) (U : Hid (under xs ys = true)) (he : (nth xs ys.length == t) = false) (hlt : ys.length < xs.length) :
    Calls Try.prog 5 #[p, q, .int .i64 t, .int .i64 f] w fun e w' => e = .returned (.bool true) ∧ Ext w w' := by
  obtain ⟨l1, l2, l3, l4, l5, l6⟩ := fineB_spec h1
  obtain ⟨m1, m2, m3, m4, m5, m6⟩ := fineB_spec h2
  have Hh1 : Hid ((!fineB xs t f) = false) := by show _ = _; rw [h1]; rfl
  have Hh2 : Hid ((!fineB ys t f) = false) := by show _ = _; rw [h2]; rfl
  have B1 : Hid (Bd 1099511627775 xs) := l6.mono (by omega)
  have B2 : Hid (Bd 1099511627775 (insL xs ys t)) := (l6.ins).mono (by omega)
  have B3 : Hid (Bd 1099511627775 (delL xs ys t)) := (l6.del).mono (by omega)
  have B4 : Hid (Bd 1099511627775 (movL xs ys t f)) := (l6.mov (by omega) (by omega)).mono (by omega)
  have hp' := hp
  obtain ⟨a, ca, rfl, ha1, ha2, ha3⟩ := hp'.opened
  have hq' := hq
  obtain ⟨b, cb, rfl, hb1, hb2, hb3⟩ := hq'.opened
  have d1 : decide (t < 0) = false := by simp; omega
  have d2 : decide (f < 0) = false := by simp; omega
  have d3 : decide ((ys.length : Int) < (xs.length : Int)) = true := by simp; omega
  have hy0 : (0 : Int) ≤ (ys.length : Int) := by omega
  have hyx : (ys.length : Int) < (xs.length : Int) := by omega
  obtain ⟨ba, oa, rfl, hcy⟩ := ha3 (by intro e; subst e; simp at hlt)
  have Hcy := Lib.hid (hcy ys.length)
  clear hp' hq' hb3 h1 h2 hcy
  go_enter Try.func5, Try.ntmps5
  go_wp2_with fail
  refine (awake_any w).mono ?_
  rintro e w1 ⟨rfl, hw⟩
  replace hp := hp.ext hw
  replace hq := hq.ext hw
  go_wp2_with fail
  refine (great_b _ _ xs t f _ hp Hh1.out).mono ?_
  rintro e w2 ⟨rfl, hx⟩
  replace hp := hp.ext hx
  replace hq := hq.ext hx
  replace hw := ext_trans hw hx
  clear hx
  go_wp2_with fail
  refine (great_b _ _ ys t f _ hq Hh2.out).mono ?_
  rintro e w3 ⟨rfl, hx⟩
  replace hp := hp.ext hx
  replace hq := hq.ext hx
  replace hw := ext_trans hw hx
  clear hx
  go_wp2_with fail
  go_loop [9] (fun i => ∃ k : Nat, k ≤ xs.length ∧ i = .int .i64 k) (fun i => xs.length - (intOf i).toNat)
  case atStart => exact ⟨0, Nat.zero_le _, rfl⟩
  case round =>
    obtain ⟨k, hk, rfl⟩ := hrel
    by_cases hkl : k < xs.length
    · have hcx := hp.opened
      obtain ⟨a', ca', hv, hc1, hc2, hc3⟩ := hcx
      obtain ⟨bk, ok, rfl, hck⟩ := hc3 (by intro e; subst e; simp at hkl)
      cases hv
      have c1 := hck k hkl
      have k1 : (0 : Int) ≤ (k : Int) := by omega
      have k2 : (k : Int) < (xs.length : Int) := by omega
      clear hc3 hck
      by_cases hneg : nth xs k < 0
      · have e1 : nth xs k < 0 := hneg
        go_wp2_with fail
        go_ret
        exact ⟨rfl, hw⟩
      · go_wp2_with fail
        go_round
        case rel => exact ⟨k + 1, by omega, by go_num⟩
        case measure => simp [intOf]; omega
    · have hkn : ¬ (k : Int) < (xs.length : Int) := by omega
      go_wp2_with fail
      refine (inserted_v _ _ xs ys (insL xs ys t) t _ hp hq (by omega) (by omega) B1.out rfl).mono ?_
      rintro e w4 ⟨va, rfl, ha, hx⟩
      have hxw4 : Ext w3 w4 := hx
      clear hx
      replace hp := hp.ext hxw4
      replace hq := hq.ext hxw4
      replace hw := ext_trans hw hxw4
      clear hxw4
      go_wp2_with fail
      refine (deleted_v _ _ (insL xs ys t) ys xs t _ ha hq (by rw [thr_length' xs ys t]; omega) (by omega) B2.out (ins_not_gone xs ys t) (del_ins xs ys t)).mono ?_
      rintro e w5 ⟨vb, rfl, hb, hx⟩
      have hxw5 : Ext w4 w5 := hx
      clear hx
      replace hp := hp.ext hxw5
      replace hq := hq.ext hxw5
      replace ha := ha.ext hxw5
      replace hw := ext_trans hw hxw5
      clear hxw5
      go_wp2_with fail
      refine (same_b true _ _ xs xs _ hb hp (by simp)).mono ?_
      rintro e w6 ⟨rfl, hx⟩
      have hxw6 : Ext w5 w6 := hx
      clear hx
      replace hp := hp.ext hxw6
      replace hq := hq.ext hxw6
      replace ha := ha.ext hxw6
      replace hb := hb.ext hxw6
      replace hw := ext_trans hw hxw6
      clear hxw6
      go_wp2_with fail
      refine (deleted_v _ _ xs ys (delL xs ys t) t _ hp hq (by omega) (by omega) B1.out G.out rfl).mono ?_
      rintro e w7 ⟨vc, rfl, hc, hx⟩
      have hxw7 : Ext w6 w7 := hx
      clear hx
      replace hp := hp.ext hxw7
      replace hq := hq.ext hxw7
      replace ha := ha.ext hxw7
      replace hb := hb.ext hxw7
      replace hw := ext_trans hw hxw7
      clear hxw7
      go_wp2_with fail
      refine (inserted_v _ _ (delL xs ys t) ys xs t _ hc hq (by rw [thr_length2' xs ys t]; omega) (by omega) B3.out (ins_del G.out)).mono ?_
      rintro e w8 ⟨vd, rfl, hd, hx⟩
      have hxw8 : Ext w7 w8 := hx
      clear hx
      replace hp := hp.ext hxw8
      replace hq := hq.ext hxw8
      replace ha := ha.ext hxw8
      replace hb := hb.ext hxw8
      replace hc := hc.ext hxw8
      replace hw := ext_trans hw hxw8
      clear hxw8
      go_wp2_with fail
      refine (same_b true _ _ xs xs _ hd hp (by simp)).mono ?_
      rintro e w9 ⟨rfl, hx⟩
      have hxw9 : Ext w8 w9 := hx
      clear hx
      replace hp := hp.ext hxw9
      replace hq := hq.ext hxw9
      replace ha := ha.ext hxw9
      replace hb := hb.ext hxw9
      replace hc := hc.ext hxw9
      replace hd := hd.ext hxw9
      replace hw := ext_trans hw hxw9
      clear hxw9
      go_wp2_with fail
      refine (under_b true _ _ xs ys _ hp hq U.out).mono ?_
      rintro e w10 ⟨rfl, hx⟩
      have hxw10 : Ext w9 w10 := hx
      clear hx
      replace hp := hp.ext hxw10
      replace hq := hq.ext hxw10
      replace ha := ha.ext hxw10
      replace hb := hb.ext hxw10
      replace hc := hc.ext hxw10
      replace hd := hd.ext hxw10
      replace hw := ext_trans hw hxw10
      clear hxw10
      have hcl : w10.cell? ⟨ba, oa + ys.length, none⟩ = some (.int .i64 (nth xs ys.length)) := ext_cell hw (Hcy.out (by omega))
      go_wp2_with fail
      refine (moved_v _ _ xs ys (movL xs ys t f) t f _ hp hq (by omega) (by omega) B1.out rfl).mono ?_
      rintro e w11 ⟨vm, rfl, hm, hx⟩
      have hxw11 : Ext w10 w11 := hx
      clear hx
      replace hp := hp.ext hxw11
      replace hq := hq.ext hxw11
      replace ha := ha.ext hxw11
      replace hb := hb.ext hxw11
      replace hc := hc.ext hxw11
      replace hd := hd.ext hxw11
      replace hw := ext_trans hw hxw11
      clear hxw11
      go_wp2_with fail
      refine (moved_v _ _ (movL xs ys t f) ys xs f t _ hm hq (by rw [thr_length3' xs ys t f]; omega) (by omega) B4.out (mov_mov xs ys t f)).mono ?_
      rintro e w12 ⟨vn, rfl, hn, hx⟩
      have hxw12 : Ext w11 w12 := hx
      clear hx
      replace hp := hp.ext hxw12
      replace hq := hq.ext hxw12
      replace ha := ha.ext hxw12
      replace hb := hb.ext hxw12
      replace hc := hc.ext hxw12
      replace hd := hd.ext hxw12
      replace hm := hm.ext hxw12
      replace hw := ext_trans hw hxw12
      clear hxw12
      go_wp2_with fail
      refine (same_b true _ _ xs xs _ hn hp (by simp)).mono ?_
      rintro e w13 ⟨rfl, hx⟩
      have hxw13 : Ext w12 w13 := hx
      clear hx
      replace hp := hp.ext hxw13
      replace hq := hq.ext hxw13
      replace ha := ha.ext hxw13
      replace hb := hb.ext hxw13
      replace hc := hc.ext hxw13
      replace hd := hd.ext hxw13
      replace hm := hm.ext hxw13
      replace hn := hn.ext hxw13
      replace hw := ext_trans hw hxw13
      clear hxw13
      go_wp2_with fail
      go_ret
      exact ⟨rfl, hw⟩


set_option maxHeartbeats 4000000 in
theorem back_off (p q : Value) (xs ys : List Int) (t f : Int) (w : World) (hp : Ints w p xs) (hq : Ints w q ys) (h1 : fineB xs t f = true) (h2 : fineB ys t f = true) (ht : 0 ≤ t) (hf : 0 ≤ f)
    (G : Hid (gone xs ys t = false)) (U : Hid (under xs ys = false)) (hlt : ys.length < xs.length) :
    Calls Try.prog 5 #[p, q, .int .i64 t, .int .i64 f] w fun e w' => e = .returned (.bool true) ∧ Ext w w' := by
  obtain ⟨l1, l2, l3, l4, l5, l6⟩ := fineB_spec h1
  obtain ⟨m1, m2, m3, m4, m5, m6⟩ := fineB_spec h2
  have Hh1 : Hid ((!fineB xs t f) = false) := by show _ = _; rw [h1]; rfl
  have Hh2 : Hid ((!fineB ys t f) = false) := by show _ = _; rw [h2]; rfl
  have B1 : Hid (Bd 1099511627775 xs) := l6.mono (by omega)
  have B2 : Hid (Bd 1099511627775 (insL xs ys t)) := (l6.ins).mono (by omega)
  have B3 : Hid (Bd 1099511627775 (delL xs ys t)) := (l6.del).mono (by omega)
  have B4 : Hid (Bd 1099511627775 (movL xs ys t f)) := (l6.mov (by omega) (by omega)).mono (by omega)
  have hp' := hp
  obtain ⟨a, ca, rfl, ha1, ha2, ha3⟩ := hp'.opened
  have hq' := hq
  obtain ⟨b, cb, rfl, hb1, hb2, hb3⟩ := hq'.opened
  have d1 : decide (t < 0) = false := by simp; omega
  have d2 : decide (f < 0) = false := by simp; omega
  have d3 : decide ((ys.length : Int) < (xs.length : Int)) = true := by simp; omega
  have hy0 : (0 : Int) ≤ (ys.length : Int) := by omega
  have hyx : (ys.length : Int) < (xs.length : Int) := by omega
  skip
  skip
  clear hp' hq' hb3 h1 h2 
  go_enter Try.func5, Try.ntmps5
  go_wp2_with fail
  refine (awake_any w).mono ?_
  rintro e w1 ⟨rfl, hw⟩
  replace hp := hp.ext hw
  replace hq := hq.ext hw
  go_wp2_with fail
  refine (great_b _ _ xs t f _ hp Hh1.out).mono ?_
  rintro e w2 ⟨rfl, hx⟩
  replace hp := hp.ext hx
  replace hq := hq.ext hx
  replace hw := ext_trans hw hx
  clear hx
  go_wp2_with fail
  refine (great_b _ _ ys t f _ hq Hh2.out).mono ?_
  rintro e w3 ⟨rfl, hx⟩
  replace hp := hp.ext hx
  replace hq := hq.ext hx
  replace hw := ext_trans hw hx
  clear hx
  go_wp2_with fail
  go_loop [9] (fun i => ∃ k : Nat, k ≤ xs.length ∧ i = .int .i64 k) (fun i => xs.length - (intOf i).toNat)
  case atStart => exact ⟨0, Nat.zero_le _, rfl⟩
  case round =>
    obtain ⟨k, hk, rfl⟩ := hrel
    by_cases hkl : k < xs.length
    · have hcx := hp.opened
      obtain ⟨a', ca', hv, hc1, hc2, hc3⟩ := hcx
      obtain ⟨bk, ok, rfl, hck⟩ := hc3 (by intro e; subst e; simp at hkl)
      cases hv
      have c1 := hck k hkl
      have k1 : (0 : Int) ≤ (k : Int) := by omega
      have k2 : (k : Int) < (xs.length : Int) := by omega
      clear hc3 hck
      by_cases hneg : nth xs k < 0
      · have e1 : nth xs k < 0 := hneg
        go_wp2_with fail
        go_ret
        exact ⟨rfl, hw⟩
      · go_wp2_with fail
        go_round
        case rel => exact ⟨k + 1, by omega, by go_num⟩
        case measure => simp [intOf]; omega
    · have hkn : ¬ (k : Int) < (xs.length : Int) := by omega
      go_wp2_with fail
      refine (inserted_v _ _ xs ys (insL xs ys t) t _ hp hq (by omega) (by omega) B1.out rfl).mono ?_
      rintro e w4 ⟨va, rfl, ha, hx⟩
      have hxw4 : Ext w3 w4 := hx
      clear hx
      replace hp := hp.ext hxw4
      replace hq := hq.ext hxw4
      replace hw := ext_trans hw hxw4
      clear hxw4
      go_wp2_with fail
      refine (deleted_v _ _ (insL xs ys t) ys xs t _ ha hq (by rw [thr_length' xs ys t]; omega) (by omega) B2.out (ins_not_gone xs ys t) (del_ins xs ys t)).mono ?_
      rintro e w5 ⟨vb, rfl, hb, hx⟩
      have hxw5 : Ext w4 w5 := hx
      clear hx
      replace hp := hp.ext hxw5
      replace hq := hq.ext hxw5
      replace ha := ha.ext hxw5
      replace hw := ext_trans hw hxw5
      clear hxw5
      go_wp2_with fail
      refine (same_b true _ _ xs xs _ hb hp (by simp)).mono ?_
      rintro e w6 ⟨rfl, hx⟩
      have hxw6 : Ext w5 w6 := hx
      clear hx
      replace hp := hp.ext hxw6
      replace hq := hq.ext hxw6
      replace ha := ha.ext hxw6
      replace hb := hb.ext hxw6
      replace hw := ext_trans hw hxw6
      clear hxw6
      go_wp2_with fail
      refine (deleted_v _ _ xs ys (delL xs ys t) t _ hp hq (by omega) (by omega) B1.out G.out rfl).mono ?_
      rintro e w7 ⟨vc, rfl, hc, hx⟩
      have hxw7 : Ext w6 w7 := hx
      clear hx
      replace hp := hp.ext hxw7
      replace hq := hq.ext hxw7
      replace ha := ha.ext hxw7
      replace hb := hb.ext hxw7
      replace hw := ext_trans hw hxw7
      clear hxw7
      go_wp2_with fail
      refine (inserted_v _ _ (delL xs ys t) ys xs t _ hc hq (by rw [thr_length2' xs ys t]; omega) (by omega) B3.out (ins_del G.out)).mono ?_
      rintro e w8 ⟨vd, rfl, hd, hx⟩
      have hxw8 : Ext w7 w8 := hx
      clear hx
      replace hp := hp.ext hxw8
      replace hq := hq.ext hxw8
      replace ha := ha.ext hxw8
      replace hb := hb.ext hxw8
      replace hc := hc.ext hxw8
      replace hw := ext_trans hw hxw8
      clear hxw8
      go_wp2_with fail
      refine (same_b true _ _ xs xs _ hd hp (by simp)).mono ?_
      rintro e w9 ⟨rfl, hx⟩
      have hxw9 : Ext w8 w9 := hx
      clear hx
      replace hp := hp.ext hxw9
      replace hq := hq.ext hxw9
      replace ha := ha.ext hxw9
      replace hb := hb.ext hxw9
      replace hc := hc.ext hxw9
      replace hd := hd.ext hxw9
      replace hw := ext_trans hw hxw9
      clear hxw9
      go_wp2_with fail
      refine (under_b false _ _ xs ys _ hp hq U.out).mono ?_
      rintro e w10 ⟨rfl, hx⟩
      have hxw10 : Ext w9 w10 := hx
      clear hx
      replace hp := hp.ext hxw10
      replace hq := hq.ext hxw10
      replace ha := ha.ext hxw10
      replace hb := hb.ext hxw10
      replace hc := hc.ext hxw10
      replace hd := hd.ext hxw10
      replace hw := ext_trans hw hxw10
      clear hxw10
      go_wp2_with fail
      refine (moved_v _ _ xs ys (movL xs ys t f) t f _ hp hq (by omega) (by omega) B1.out rfl).mono ?_
      rintro e w11 ⟨vm, rfl, hm, hx⟩
      have hxw11 : Ext w10 w11 := hx
      clear hx
      replace hp := hp.ext hxw11
      replace hq := hq.ext hxw11
      replace ha := ha.ext hxw11
      replace hb := hb.ext hxw11
      replace hc := hc.ext hxw11
      replace hd := hd.ext hxw11
      replace hw := ext_trans hw hxw11
      clear hxw11
      go_wp2_with fail
      refine (moved_v _ _ (movL xs ys t f) ys xs f t _ hm hq (by rw [thr_length3' xs ys t f]; omega) (by omega) B4.out (mov_mov xs ys t f)).mono ?_
      rintro e w12 ⟨vn, rfl, hn, hx⟩
      have hxw12 : Ext w11 w12 := hx
      clear hx
      replace hp := hp.ext hxw12
      replace hq := hq.ext hxw12
      replace ha := ha.ext hxw12
      replace hb := hb.ext hxw12
      replace hc := hc.ext hxw12
      replace hd := hd.ext hxw12
      replace hm := hm.ext hxw12
      replace hw := ext_trans hw hxw12
      clear hxw12
      go_wp2_with fail
      refine (same_b true _ _ xs xs _ hn hp (by simp)).mono ?_
      rintro e w13 ⟨rfl, hx⟩
      have hxw13 : Ext w12 w13 := hx
      clear hx
      replace hp := hp.ext hxw13
      replace hq := hq.ext hxw13
      replace ha := ha.ext hxw13
      replace hb := hb.ext hxw13
      replace hc := hc.ext hxw13
      replace hd := hd.ext hxw13
      replace hm := hm.ext hxw13
      replace hn := hn.ext hxw13
      replace hw := ext_trans hw hxw13
      clear hxw13
      go_wp2_with fail
      go_ret
      exact ⟨rfl, hw⟩


set_option maxHeartbeats 4000000 in
theorem back_short (p q : Value) (xs ys : List Int) (t f : Int) (w : World) (hp : Ints w p xs) (hq : Ints w q ys) (h1 : fineB xs t f = true) (h2 : fineB ys t f = true) (ht : 0 ≤ t) (hf : 0 ≤ f)
    (G : Hid (gone xs ys t = false)) (hlt : ¬ ys.length < xs.length) :
    Calls Try.prog 5 #[p, q, .int .i64 t, .int .i64 f] w fun e w' => e = .returned (.bool true) ∧ Ext w w' := by
  obtain ⟨l1, l2, l3, l4, l5, l6⟩ := fineB_spec h1
  obtain ⟨m1, m2, m3, m4, m5, m6⟩ := fineB_spec h2
  have Hh1 : Hid ((!fineB xs t f) = false) := by show _ = _; rw [h1]; rfl
  have Hh2 : Hid ((!fineB ys t f) = false) := by show _ = _; rw [h2]; rfl
  have B1 : Hid (Bd 1099511627775 xs) := l6.mono (by omega)
  have B2 : Hid (Bd 1099511627775 (insL xs ys t)) := (l6.ins).mono (by omega)
  have B3 : Hid (Bd 1099511627775 (delL xs ys t)) := (l6.del).mono (by omega)
  have B4 : Hid (Bd 1099511627775 (movL xs ys t f)) := (l6.mov (by omega) (by omega)).mono (by omega)
  have hp' := hp
  obtain ⟨a, ca, rfl, ha1, ha2, ha3⟩ := hp'.opened
  have hq' := hq
  obtain ⟨b, cb, rfl, hb1, hb2, hb3⟩ := hq'.opened
  have d1 : decide (t < 0) = false := by simp; omega
  have d2 : decide (f < 0) = false := by simp; omega
  have d3 : decide ((ys.length : Int) < (xs.length : Int)) = false := by simp; omega
  have hy0 : (0 : Int) ≤ (ys.length : Int) := by omega
  have hyx : ¬ (ys.length : Int) < (xs.length : Int) := by omega
  skip
  skip
  clear hp' hq' hb3 h1 h2 
  go_enter Try.func5, Try.ntmps5
  go_wp2_with fail
  refine (awake_any w).mono ?_
  rintro e w1 ⟨rfl, hw⟩
  replace hp := hp.ext hw
  replace hq := hq.ext hw
  go_wp2_with fail
  refine (great_b _ _ xs t f _ hp Hh1.out).mono ?_
  rintro e w2 ⟨rfl, hx⟩
  replace hp := hp.ext hx
  replace hq := hq.ext hx
  replace hw := ext_trans hw hx
  clear hx
  go_wp2_with fail
  refine (great_b _ _ ys t f _ hq Hh2.out).mono ?_
  rintro e w3 ⟨rfl, hx⟩
  replace hp := hp.ext hx
  replace hq := hq.ext hx
  replace hw := ext_trans hw hx
  clear hx
  go_wp2_with fail
  go_loop [9] (fun i => ∃ k : Nat, k ≤ xs.length ∧ i = .int .i64 k) (fun i => xs.length - (intOf i).toNat)
  case atStart => exact ⟨0, Nat.zero_le _, rfl⟩
  case round =>
    obtain ⟨k, hk, rfl⟩ := hrel
    by_cases hkl : k < xs.length
    · have hcx := hp.opened
      obtain ⟨a', ca', hv, hc1, hc2, hc3⟩ := hcx
      obtain ⟨bk, ok, rfl, hck⟩ := hc3 (by intro e; subst e; simp at hkl)
      cases hv
      have c1 := hck k hkl
      have k1 : (0 : Int) ≤ (k : Int) := by omega
      have k2 : (k : Int) < (xs.length : Int) := by omega
      clear hc3 hck
      by_cases hneg : nth xs k < 0
      · have e1 : nth xs k < 0 := hneg
        go_wp2_with fail
        go_ret
        exact ⟨rfl, hw⟩
      · go_wp2_with fail
        go_round
        case rel => exact ⟨k + 1, by omega, by go_num⟩
        case measure => simp [intOf]; omega
    · have hkn : ¬ (k : Int) < (xs.length : Int) := by omega
      go_wp2_with fail
      refine (inserted_v _ _ xs ys (insL xs ys t) t _ hp hq (by omega) (by omega) B1.out rfl).mono ?_
      rintro e w4 ⟨va, rfl, ha, hx⟩
      have hxw4 : Ext w3 w4 := hx
      clear hx
      replace hp := hp.ext hxw4
      replace hq := hq.ext hxw4
      replace hw := ext_trans hw hxw4
      clear hxw4
      go_wp2_with fail
      refine (deleted_v _ _ (insL xs ys t) ys xs t _ ha hq (by rw [thr_length' xs ys t]; omega) (by omega) B2.out (ins_not_gone xs ys t) (del_ins xs ys t)).mono ?_
      rintro e w5 ⟨vb, rfl, hb, hx⟩
      have hxw5 : Ext w4 w5 := hx
      clear hx
      replace hp := hp.ext hxw5
      replace hq := hq.ext hxw5
      replace ha := ha.ext hxw5
      replace hw := ext_trans hw hxw5
      clear hxw5
      go_wp2_with fail
      refine (same_b true _ _ xs xs _ hb hp (by simp)).mono ?_
      rintro e w6 ⟨rfl, hx⟩
      have hxw6 : Ext w5 w6 := hx
      clear hx
      replace hp := hp.ext hxw6
      replace hq := hq.ext hxw6
      replace ha := ha.ext hxw6
      replace hb := hb.ext hxw6
      replace hw := ext_trans hw hxw6
      clear hxw6
      go_wp2_with fail
      refine (deleted_v _ _ xs ys (delL xs ys t) t _ hp hq (by omega) (by omega) B1.out G.out rfl).mono ?_
      rintro e w7 ⟨vc, rfl, hc, hx⟩
      have hxw7 : Ext w6 w7 := hx
      clear hx
      replace hp := hp.ext hxw7
      replace hq := hq.ext hxw7
      replace ha := ha.ext hxw7
      replace hb := hb.ext hxw7
      replace hw := ext_trans hw hxw7
      clear hxw7
      go_wp2_with fail
      refine (inserted_v _ _ (delL xs ys t) ys xs t _ hc hq (by rw [thr_length2' xs ys t]; omega) (by omega) B3.out (ins_del G.out)).mono ?_
      rintro e w8 ⟨vd, rfl, hd, hx⟩
      have hxw8 : Ext w7 w8 := hx
      clear hx
      replace hp := hp.ext hxw8
      replace hq := hq.ext hxw8
      replace ha := ha.ext hxw8
      replace hb := hb.ext hxw8
      replace hc := hc.ext hxw8
      replace hw := ext_trans hw hxw8
      clear hxw8
      go_wp2_with fail
      refine (same_b true _ _ xs xs _ hd hp (by simp)).mono ?_
      rintro e w9 ⟨rfl, hx⟩
      have hxw9 : Ext w8 w9 := hx
      clear hx
      replace hp := hp.ext hxw9
      replace hq := hq.ext hxw9
      replace ha := ha.ext hxw9
      replace hb := hb.ext hxw9
      replace hc := hc.ext hxw9
      replace hd := hd.ext hxw9
      replace hw := ext_trans hw hxw9
      clear hxw9
      go_wp2_with fail
      refine (moved_v _ _ xs ys (movL xs ys t f) t f _ hp hq (by omega) (by omega) B1.out rfl).mono ?_
      rintro e w10 ⟨vm, rfl, hm, hx⟩
      have hxw10 : Ext w9 w10 := hx
      clear hx
      replace hp := hp.ext hxw10
      replace hq := hq.ext hxw10
      replace ha := ha.ext hxw10
      replace hb := hb.ext hxw10
      replace hc := hc.ext hxw10
      replace hd := hd.ext hxw10
      replace hw := ext_trans hw hxw10
      clear hxw10
      go_wp2_with fail
      refine (moved_v _ _ (movL xs ys t f) ys xs f t _ hm hq (by rw [thr_length3' xs ys t f]; omega) (by omega) B4.out (mov_mov xs ys t f)).mono ?_
      rintro e w11 ⟨vn, rfl, hn, hx⟩
      have hxw11 : Ext w10 w11 := hx
      clear hx
      replace hp := hp.ext hxw11
      replace hq := hq.ext hxw11
      replace ha := ha.ext hxw11
      replace hb := hb.ext hxw11
      replace hc := hc.ext hxw11
      replace hd := hd.ext hxw11
      replace hm := hm.ext hxw11
      replace hw := ext_trans hw hxw11
      clear hxw11
      go_wp2_with fail
      refine (same_b true _ _ xs xs _ hn hp (by simp)).mono ?_
      rintro e w12 ⟨rfl, hx⟩
      have hxw12 : Ext w11 w12 := hx
      clear hx
      replace hp := hp.ext hxw12
      replace hq := hq.ext hxw12
      replace ha := ha.ext hxw12
      replace hb := hb.ext hxw12
      replace hc := hc.ext hxw12
      replace hd := hd.ext hxw12
      replace hm := hm.ext hxw12
      replace hn := hn.ext hxw12
      replace hw := ext_trans hw hxw12
      clear hxw12
      go_wp2_with fail
      go_ret
      exact ⟨rfl, hw⟩

end Go.Proofs.Ytcbfppjiikgbfaa
