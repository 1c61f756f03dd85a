/- The walk of PlaceOrder. -/
import Derived.Test.YtcbfppjiikgbfaaPl8
import Derived.Test.YtcbfppjiikgbfaaPlainC
namespace Go.Proofs.Ytcbfppjiikgbfaa
open Go.RowKit
set_option linter.unusedVariables false

set_option maxHeartbeats 1000000 in
theorem order_out0 (p q r s : Value) (a b c l : List Int) (t : Int) (w : World) (hp : Ints w p a) (hq : Ints w q b) (hr : Ints w r c) (hl : Ints w s l) (F1 : Hid ((!fineB a t 0) = true)) :
    Calls Try.prog 6 #[p, q, r, s, .int .i64 t] w fun e w' => e = .returned (.bool true) ∧ Ext w w' := by
  go_enter Try.func6, Try.ntmps6
  go_wp2_with fail
  refine (awake_any w).mono ?_
  rintro e w1 ⟨rfl, hw⟩
  replace hp := hp.ext hw
  replace hq := hq.ext hw
  replace hr := hr.ext hw
  replace hl := hl.ext hw
  go_wp2_with fail
  refine (great_b _ _ a t 0 _ hp F1.out).mono ?_
  rintro e w2 ⟨rfl, hx⟩
  replace hp := hp.ext hx
  replace hq := hq.ext hx
  replace hr := hr.ext hx
  replace hl := hl.ext hx
  replace hw := ext_trans hw hx
  clear hx
  go_wp2_with fail
  go_ret
  exact ⟨rfl, hw⟩

set_option maxHeartbeats 1000000 in
theorem order_out1 (p q r s : Value) (a b c l : List Int) (t : Int) (w : World) (hp : Ints w p a) (hq : Ints w q b) (hr : Ints w r c) (hl : Ints w s l) (F1 : Hid ((!fineB a t 0) = false)) (F2 : Hid ((!fineB b t 0) = true)) :
    Calls Try.prog 6 #[p, q, r, s, .int .i64 t] w fun e w' => e = .returned (.bool true) ∧ Ext w w' := by
  go_enter Try.func6, Try.ntmps6
  go_wp2_with fail
  refine (awake_any w).mono ?_
  rintro e w1 ⟨rfl, hw⟩
  replace hp := hp.ext hw
  replace hq := hq.ext hw
  replace hr := hr.ext hw
  replace hl := hl.ext hw
  go_wp2_with fail
  refine (great_b _ _ a t 0 _ hp F1.out).mono ?_
  rintro e w2 ⟨rfl, hx⟩
  replace hp := hp.ext hx
  replace hq := hq.ext hx
  replace hr := hr.ext hx
  replace hl := hl.ext hx
  replace hw := ext_trans hw hx
  clear hx
  go_wp2_with fail
  refine (great_b _ _ b t 0 _ hq F2.out).mono ?_
  rintro e w3 ⟨rfl, hx⟩
  replace hp := hp.ext hx
  replace hq := hq.ext hx
  replace hr := hr.ext hx
  replace hl := hl.ext hx
  replace hw := ext_trans hw hx
  clear hx
  go_wp2_with fail
  go_ret
  exact ⟨rfl, hw⟩

set_option maxHeartbeats 1000000 in
theorem order_out2 (p q r s : Value) (a b c l : List Int) (t : Int) (w : World) (hp : Ints w p a) (hq : Ints w q b) (hr : Ints w r c) (hl : Ints w s l) (F1 : Hid ((!fineB a t 0) = false)) (F2 : Hid ((!fineB b t 0) = false)) (F3 : Hid ((!fineB c t 0) = true)) :
    Calls Try.prog 6 #[p, q, r, s, .int .i64 t] w fun e w' => e = .returned (.bool true) ∧ Ext w w' := by
  go_enter Try.func6, Try.ntmps6
  go_wp2_with fail
  refine (awake_any w).mono ?_
  rintro e w1 ⟨rfl, hw⟩
  replace hp := hp.ext hw
  replace hq := hq.ext hw
  replace hr := hr.ext hw
  replace hl := hl.ext hw
  go_wp2_with fail
  refine (great_b _ _ a t 0 _ hp F1.out).mono ?_
  rintro e w2 ⟨rfl, hx⟩
  replace hp := hp.ext hx
  replace hq := hq.ext hx
  replace hr := hr.ext hx
  replace hl := hl.ext hx
  replace hw := ext_trans hw hx
  clear hx
  go_wp2_with fail
  refine (great_b _ _ b t 0 _ hq F2.out).mono ?_
  rintro e w3 ⟨rfl, hx⟩
  replace hp := hp.ext hx
  replace hq := hq.ext hx
  replace hr := hr.ext hx
  replace hl := hl.ext hx
  replace hw := ext_trans hw hx
  clear hx
  go_wp2_with fail
  refine (great_b _ _ c t 0 _ hr F3.out).mono ?_
  rintro e w4 ⟨rfl, hx⟩
  replace hp := hp.ext hx
  replace hq := hq.ext hx
  replace hr := hr.ext hx
  replace hl := hl.ext hx
  replace hw := ext_trans hw hx
  clear hx
  go_wp2_with fail
  go_ret
  exact ⟨rfl, hw⟩

set_option maxHeartbeats 1000000 in
theorem order_out3 (p q r s : Value) (a b c l : List Int) (t : Int) (w : World) (hp : Ints w p a) (hq : Ints w q b) (hr : Ints w r c) (hl : Ints w s l) (F1 : Hid ((!fineB a t 0) = false)) (F2 : Hid ((!fineB b t 0) = false)) (F3 : Hid ((!fineB c t 0) = false)) (F4 : Hid ((!fineB l t 0) = true)) :
    Calls Try.prog 6 #[p, q, r, s, .int .i64 t] w fun e w' => e = .returned (.bool true) ∧ Ext w w' := by
  go_enter Try.func6, Try.ntmps6
  go_wp2_with fail
  refine (awake_any w).mono ?_
  rintro e w1 ⟨rfl, hw⟩
  replace hp := hp.ext hw
  replace hq := hq.ext hw
  replace hr := hr.ext hw
  replace hl := hl.ext hw
  go_wp2_with fail
  refine (great_b _ _ a t 0 _ hp F1.out).mono ?_
  rintro e w2 ⟨rfl, hx⟩
  replace hp := hp.ext hx
  replace hq := hq.ext hx
  replace hr := hr.ext hx
  replace hl := hl.ext hx
  replace hw := ext_trans hw hx
  clear hx
  go_wp2_with fail
  refine (great_b _ _ b t 0 _ hq F2.out).mono ?_
  rintro e w3 ⟨rfl, hx⟩
  replace hp := hp.ext hx
  replace hq := hq.ext hx
  replace hr := hr.ext hx
  replace hl := hl.ext hx
  replace hw := ext_trans hw hx
  clear hx
  go_wp2_with fail
  refine (great_b _ _ c t 0 _ hr F3.out).mono ?_
  rintro e w4 ⟨rfl, hx⟩
  replace hp := hp.ext hx
  replace hq := hq.ext hx
  replace hr := hr.ext hx
  replace hl := hl.ext hx
  replace hw := ext_trans hw hx
  clear hx
  go_wp2_with fail
  refine (great_b _ _ l t 0 _ hl F4.out).mono ?_
  rintro e w5 ⟨rfl, hx⟩
  replace hp := hp.ext hx
  replace hq := hq.ext hx
  replace hr := hr.ext hx
  replace hl := hl.ext hx
  replace hw := ext_trans hw hx
  clear hx
  go_wp2_with fail
  go_ret
  exact ⟨rfl, hw⟩

set_option maxHeartbeats 4000000 in
theorem order_A11 (p q r s : Value) (a b c l : List Int) (t : Int) (w : World) (hp : Ints w p a) (hq : Ints w q b) (hr : Ints w r c) (hl : Ints w s l) (F1 : Hid ((!fineB a t 0) = false)) (F2 : Hid ((!fineB b t 0) = false)) (F3 : Hid ((!fineB c t 0) = false)) (F4 : Hid ((!fineB l t 0) = false))
    (za : a.length ≤ 200) (zb : b.length ≤ 200) (zl : l.length ≤ 200) (B1 : Hid (Bd 1099511627775 a)) (B2 : Hid (Bd 1099511627775 b))
    (n1 : Int) (N1 : Hid (cmpL a b = n1)) (c1 : -1 ≤ n1) (c2 : n1 ≤ 1) (c3 : 0 ≤ n1) (G1 : Hid (gone a l t = true)) (G2 : Hid (gone b l t = true)) :
    Calls Try.prog 6 #[p, q, r, s, .int .i64 t] w fun e w' => e = .returned (.bool true) ∧ Ext w w' := by
  have e0 : (n1 != n1) = false := by simp
  have e1 : decide (n1 < 0) = false := by simp; omega
  go_enter Try.func6, Try.ntmps6
  go_wp2_with fail
  refine (awake_any w).mono ?_
  rintro e w1 ⟨rfl, hw⟩
  replace hp := hp.ext hw
  replace hq := hq.ext hw
  replace hr := hr.ext hw
  replace hl := hl.ext hw
  go_wp2_with fail
  refine (great_b _ _ a t 0 _ hp F1.out).mono ?_
  rintro e w2 ⟨rfl, hx⟩
  replace hp := hp.ext hx
  replace hq := hq.ext hx
  replace hr := hr.ext hx
  replace hl := hl.ext hx
  replace hw := ext_trans hw hx
  clear hx
  go_wp2_with fail
  refine (great_b _ _ b t 0 _ hq F2.out).mono ?_
  rintro e w3 ⟨rfl, hx⟩
  replace hp := hp.ext hx
  replace hq := hq.ext hx
  replace hr := hr.ext hx
  replace hl := hl.ext hx
  replace hw := ext_trans hw hx
  clear hx
  go_wp2_with fail
  refine (great_b _ _ c t 0 _ hr F3.out).mono ?_
  rintro e w4 ⟨rfl, hx⟩
  replace hp := hp.ext hx
  replace hq := hq.ext hx
  replace hr := hr.ext hx
  replace hl := hl.ext hx
  replace hw := ext_trans hw hx
  clear hx
  go_wp2_with fail
  refine (great_b _ _ l t 0 _ hl F4.out).mono ?_
  rintro e w5 ⟨rfl, hx⟩
  replace hp := hp.ext hx
  replace hq := hq.ext hx
  replace hr := hr.ext hx
  replace hl := hl.ext hx
  replace hw := ext_trans hw hx
  clear hx
  go_wp2_with fail
  refine (compare_v (n1) _ _ a b _ hp hq N1.out).mono ?_
  rintro e w6 ⟨rfl, hx⟩
  have hxw6 : Ext w5 w6 := hx
  clear hx
  replace hp := hp.ext hxw6
  replace hq := hq.ext hxw6
  replace hr := hr.ext hxw6
  replace hl := hl.ext hxw6
  replace hw := ext_trans hw hxw6
  clear hxw6
  go_wp2_with fail
  refine (compare_v (-n1) _ _ b a _ hq hp (by rw [cmpL_neg, N1.out])).mono ?_
  rintro e w7 ⟨rfl, hx⟩
  have hxw7 : Ext w6 w7 := hx
  clear hx
  replace hp := hp.ext hxw7
  replace hq := hq.ext hxw7
  replace hr := hr.ext hxw7
  replace hl := hl.ext hxw7
  replace hw := ext_trans hw hxw7
  clear hxw7
  go_wp2_with fail
  refine (compare_v (0) _ _ a a _ hp hp (cmpL_self a)).mono ?_
  rintro e w8 ⟨rfl, hx⟩
  have hxw8 : Ext w7 w8 := hx
  clear hx
  replace hp := hp.ext hxw8
  replace hq := hq.ext hxw8
  replace hr := hr.ext hxw8
  replace hl := hl.ext hxw8
  replace hw := ext_trans hw hxw8
  clear hxw8
  go_wp2_with fail
  refine (compare_v (n1) _ _ a b _ hp hq N1.out).mono ?_
  rintro e w9 ⟨rfl, hx⟩
  have hxw9 : Ext w8 w9 := hx
  clear hx
  replace hp := hp.ext hxw9
  replace hq := hq.ext hxw9
  replace hr := hr.ext hxw9
  replace hl := hl.ext hxw9
  replace hw := ext_trans hw hxw9
  clear hxw9
  go_wp2_with fail
  refine (same_b (n1 == 0) _ _ a b _ hp hq (by rw [← N1.out, cmpL_zero])).mono ?_
  rintro e w10 ⟨rfl, hx⟩
  have hxw10 : Ext w9 w10 := hx
  clear hx
  replace hp := hp.ext hxw10
  replace hq := hq.ext hxw10
  replace hr := hr.ext hxw10
  replace hl := hl.ext hxw10
  replace hw := ext_trans hw hxw10
  clear hxw10
  go_wp2_with fail
  refine (compare_v (n1) _ _ a b _ hp hq N1.out).mono ?_
  rintro e w11 ⟨rfl, hx⟩
  have hxw11 : Ext w10 w11 := hx
  clear hx
  replace hp := hp.ext hxw11
  replace hq := hq.ext hxw11
  replace hr := hr.ext hxw11
  replace hl := hl.ext hxw11
  replace hw := ext_trans hw hxw11
  clear hxw11
  go_wp2_with fail
  refine (inserted_v _ _ a l (insL a l t) t _ hp hl (by omega) (by omega) B1.out rfl).mono ?_
  rintro e w12 ⟨va, rfl, ha, hx⟩
  have hxw12 : Ext w11 w12 := hx
  clear hx
  replace hp := hp.ext hxw12
  replace hq := hq.ext hxw12
  replace hr := hr.ext hxw12
  replace hl := hl.ext hxw12
  replace hw := ext_trans hw hxw12
  clear hxw12
  go_wp2_with fail
  refine (inserted_v _ _ b l (insL b l t) t _ hq hl (by omega) (by omega) B2.out rfl).mono ?_
  rintro e w13 ⟨vb, rfl, hb, hx⟩
  have hxw13 : Ext w12 w13 := hx
  clear hx
  replace hp := hp.ext hxw13
  replace hq := hq.ext hxw13
  replace hr := hr.ext hxw13
  replace hl := hl.ext hxw13
  replace ha := ha.ext hxw13
  replace hw := ext_trans hw hxw13
  clear hxw13
  go_wp2_with fail
  refine (compare_v (n1) _ _ (insL a l t) (insL b l t) _ ha hb (by rw [cmpL_ins, N1.out])).mono ?_
  rintro e w14 ⟨rfl, hx⟩
  have hxw14 : Ext w13 w14 := hx
  clear hx
  replace hp := hp.ext hxw14
  replace hq := hq.ext hxw14
  replace hr := hr.ext hxw14
  replace hl := hl.ext hxw14
  replace ha := ha.ext hxw14
  replace hb := hb.ext hxw14
  replace hw := ext_trans hw hxw14
  clear hxw14
  go_wp2_with fail
  refine (compare_v (n1) _ _ a b _ hp hq N1.out).mono ?_
  rintro e w15 ⟨rfl, hx⟩
  have hxw15 : Ext w14 w15 := hx
  clear hx
  replace hp := hp.ext hxw15
  replace hq := hq.ext hxw15
  replace hr := hr.ext hxw15
  replace hl := hl.ext hxw15
  replace ha := ha.ext hxw15
  replace hb := hb.ext hxw15
  replace hw := ext_trans hw hxw15
  clear hxw15
  clear ha hb
  go_wp2_with fail
  refine (deleted_gone _ _ a l t _ hp hl G1.out (by omega) (by omega)).mono ?_
  rintro e w16 ⟨rfl, hx⟩
  have hxw16 : Ext w15 w16 := hx
  clear hx
  replace hp := hp.ext hxw16
  replace hq := hq.ext hxw16
  replace hr := hr.ext hxw16
  replace hl := hl.ext hxw16
  replace hw := ext_trans hw hxw16
  clear hxw16
  go_wp2_with fail
  refine (deleted_gone _ _ b l t _ hq hl G2.out (by omega) (by omega)).mono ?_
  rintro e w17 ⟨rfl, hx⟩
  have hxw17 : Ext w16 w17 := hx
  clear hx
  replace hp := hp.ext hxw17
  replace hq := hq.ext hxw17
  replace hr := hr.ext hxw17
  replace hl := hl.ext hxw17
  replace hw := ext_trans hw hxw17
  clear hxw17
  go_wp2_with fail
  go_ret
  exact ⟨by simp, hw⟩

set_option maxHeartbeats 4000000 in
theorem order_A10 (p q r s : Value) (a b c l : List Int) (t : Int) (w : World) (hp : Ints w p a) (hq : Ints w q b) (hr : Ints w r c) (hl : Ints w s l) (F1 : Hid ((!fineB a t 0) = false)) (F2 : Hid ((!fineB b t 0) = false)) (F3 : Hid ((!fineB c t 0) = false)) (F4 : Hid ((!fineB l t 0) = false))
    (za : a.length ≤ 200) (zb : b.length ≤ 200) (zl : l.length ≤ 200) (B1 : Hid (Bd 1099511627775 a)) (B2 : Hid (Bd 1099511627775 b))
    (n1 : Int) (N1 : Hid (cmpL a b = n1)) (c1 : -1 ≤ n1) (c2 : n1 ≤ 1) (c3 : 0 ≤ n1) (G1 : Hid (gone a l t = true)) (G2 : Hid (gone b l t = false)) :
    Calls Try.prog 6 #[p, q, r, s, .int .i64 t] w fun e w' => e = .returned (.bool true) ∧ Ext w w' := by
  have e0 : (n1 != n1) = false := by simp
  have e1 : decide (n1 < 0) = false := by simp; omega
  go_enter Try.func6, Try.ntmps6
  go_wp2_with fail
  refine (awake_any w).mono ?_
  rintro e w1 ⟨rfl, hw⟩
  replace hp := hp.ext hw
  replace hq := hq.ext hw
  replace hr := hr.ext hw
  replace hl := hl.ext hw
  go_wp2_with fail
  refine (great_b _ _ a t 0 _ hp F1.out).mono ?_
  rintro e w2 ⟨rfl, hx⟩
  replace hp := hp.ext hx
  replace hq := hq.ext hx
  replace hr := hr.ext hx
  replace hl := hl.ext hx
  replace hw := ext_trans hw hx
  clear hx
  go_wp2_with fail
  refine (great_b _ _ b t 0 _ hq F2.out).mono ?_
  rintro e w3 ⟨rfl, hx⟩
  replace hp := hp.ext hx
  replace hq := hq.ext hx
  replace hr := hr.ext hx
  replace hl := hl.ext hx
  replace hw := ext_trans hw hx
  clear hx
  go_wp2_with fail
  refine (great_b _ _ c t 0 _ hr F3.out).mono ?_
  rintro e w4 ⟨rfl, hx⟩
  replace hp := hp.ext hx
  replace hq := hq.ext hx
  replace hr := hr.ext hx
  replace hl := hl.ext hx
  replace hw := ext_trans hw hx
  clear hx
  go_wp2_with fail
  refine (great_b _ _ l t 0 _ hl F4.out).mono ?_
  rintro e w5 ⟨rfl, hx⟩
  replace hp := hp.ext hx
  replace hq := hq.ext hx
  replace hr := hr.ext hx
  replace hl := hl.ext hx
  replace hw := ext_trans hw hx
  clear hx
  go_wp2_with fail
  refine (compare_v (n1) _ _ a b _ hp hq N1.out).mono ?_
  rintro e w6 ⟨rfl, hx⟩
  have hxw6 : Ext w5 w6 := hx
  clear hx
  replace hp := hp.ext hxw6
  replace hq := hq.ext hxw6
  replace hr := hr.ext hxw6
  replace hl := hl.ext hxw6
  replace hw := ext_trans hw hxw6
  clear hxw6
  go_wp2_with fail
  refine (compare_v (-n1) _ _ b a _ hq hp (by rw [cmpL_neg, N1.out])).mono ?_
  rintro e w7 ⟨rfl, hx⟩
  have hxw7 : Ext w6 w7 := hx
  clear hx
  replace hp := hp.ext hxw7
  replace hq := hq.ext hxw7
  replace hr := hr.ext hxw7
  replace hl := hl.ext hxw7
  replace hw := ext_trans hw hxw7
  clear hxw7
  go_wp2_with fail
  refine (compare_v (0) _ _ a a _ hp hp (cmpL_self a)).mono ?_
  rintro e w8 ⟨rfl, hx⟩
  have hxw8 : Ext w7 w8 := hx
  clear hx
  replace hp := hp.ext hxw8
  replace hq := hq.ext hxw8
  replace hr := hr.ext hxw8
  replace hl := hl.ext hxw8
  replace hw := ext_trans hw hxw8
  clear hxw8
  go_wp2_with fail
  refine (compare_v (n1) _ _ a b _ hp hq N1.out).mono ?_
  rintro e w9 ⟨rfl, hx⟩
  have hxw9 : Ext w8 w9 := hx
  clear hx
  replace hp := hp.ext hxw9
  replace hq := hq.ext hxw9
  replace hr := hr.ext hxw9
  replace hl := hl.ext hxw9
  replace hw := ext_trans hw hxw9
  clear hxw9
  go_wp2_with fail
  refine (same_b (n1 == 0) _ _ a b _ hp hq (by rw [← N1.out, cmpL_zero])).mono ?_
  rintro e w10 ⟨rfl, hx⟩
  have hxw10 : Ext w9 w10 := hx
  clear hx
  replace hp := hp.ext hxw10
  replace hq := hq.ext hxw10
  replace hr := hr.ext hxw10
  replace hl := hl.ext hxw10
  replace hw := ext_trans hw hxw10
  clear hxw10
  go_wp2_with fail
  refine (compare_v (n1) _ _ a b _ hp hq N1.out).mono ?_
  rintro e w11 ⟨rfl, hx⟩
  have hxw11 : Ext w10 w11 := hx
  clear hx
  replace hp := hp.ext hxw11
  replace hq := hq.ext hxw11
  replace hr := hr.ext hxw11
  replace hl := hl.ext hxw11
  replace hw := ext_trans hw hxw11
  clear hxw11
  go_wp2_with fail
  refine (inserted_v _ _ a l (insL a l t) t _ hp hl (by omega) (by omega) B1.out rfl).mono ?_
  rintro e w12 ⟨va, rfl, ha, hx⟩
  have hxw12 : Ext w11 w12 := hx
  clear hx
  replace hp := hp.ext hxw12
  replace hq := hq.ext hxw12
  replace hr := hr.ext hxw12
  replace hl := hl.ext hxw12
  replace hw := ext_trans hw hxw12
  clear hxw12
  go_wp2_with fail
  refine (inserted_v _ _ b l (insL b l t) t _ hq hl (by omega) (by omega) B2.out rfl).mono ?_
  rintro e w13 ⟨vb, rfl, hb, hx⟩
  have hxw13 : Ext w12 w13 := hx
  clear hx
  replace hp := hp.ext hxw13
  replace hq := hq.ext hxw13
  replace hr := hr.ext hxw13
  replace hl := hl.ext hxw13
  replace ha := ha.ext hxw13
  replace hw := ext_trans hw hxw13
  clear hxw13
  go_wp2_with fail
  refine (compare_v (n1) _ _ (insL a l t) (insL b l t) _ ha hb (by rw [cmpL_ins, N1.out])).mono ?_
  rintro e w14 ⟨rfl, hx⟩
  have hxw14 : Ext w13 w14 := hx
  clear hx
  replace hp := hp.ext hxw14
  replace hq := hq.ext hxw14
  replace hr := hr.ext hxw14
  replace hl := hl.ext hxw14
  replace ha := ha.ext hxw14
  replace hb := hb.ext hxw14
  replace hw := ext_trans hw hxw14
  clear hxw14
  go_wp2_with fail
  refine (compare_v (n1) _ _ a b _ hp hq N1.out).mono ?_
  rintro e w15 ⟨rfl, hx⟩
  have hxw15 : Ext w14 w15 := hx
  clear hx
  replace hp := hp.ext hxw15
  replace hq := hq.ext hxw15
  replace hr := hr.ext hxw15
  replace hl := hl.ext hxw15
  replace ha := ha.ext hxw15
  replace hb := hb.ext hxw15
  replace hw := ext_trans hw hxw15
  clear hxw15
  clear ha hb
  go_wp2_with fail
  refine (deleted_gone _ _ a l t _ hp hl G1.out (by omega) (by omega)).mono ?_
  rintro e w16 ⟨rfl, hx⟩
  have hxw16 : Ext w15 w16 := hx
  clear hx
  replace hp := hp.ext hxw16
  replace hq := hq.ext hxw16
  replace hr := hr.ext hxw16
  replace hl := hl.ext hxw16
  replace hw := ext_trans hw hxw16
  clear hxw16
  go_wp2_with fail
  refine (deleted_v _ _ b l (delL b l t) t _ hq hl (by omega) (by omega) B2.out G2.out rfl).mono ?_
  rintro e w17 ⟨vd, rfl, hd, hx⟩
  have hxw17 : Ext w16 w17 := hx
  clear hx
  replace hp := hp.ext hxw17
  replace hq := hq.ext hxw17
  replace hr := hr.ext hxw17
  replace hl := hl.ext hxw17
  replace hw := ext_trans hw hxw17
  clear hxw17
  go_wp2_with fail
  go_ret
  exact ⟨by simp, hw⟩

set_option maxHeartbeats 4000000 in
theorem order_A01 (p q r s : Value) (a b c l : List Int) (t : Int) (w : World) (hp : Ints w p a) (hq : Ints w q b) (hr : Ints w r c) (hl : Ints w s l) (F1 : Hid ((!fineB a t 0) = false)) (F2 : Hid ((!fineB b t 0) = false)) (F3 : Hid ((!fineB c t 0) = false)) (F4 : Hid ((!fineB l t 0) = false))
    (za : a.length ≤ 200) (zb : b.length ≤ 200) (zl : l.length ≤ 200) (B1 : Hid (Bd 1099511627775 a)) (B2 : Hid (Bd 1099511627775 b))
    (n1 : Int) (N1 : Hid (cmpL a b = n1)) (c1 : -1 ≤ n1) (c2 : n1 ≤ 1) (c3 : 0 ≤ n1) (G1 : Hid (gone a l t = false)) (G2 : Hid (gone b l t = true)) :
    Calls Try.prog 6 #[p, q, r, s, .int .i64 t] w fun e w' => e = .returned (.bool true) ∧ Ext w w' := by
  have e0 : (n1 != n1) = false := by simp
  have e1 : decide (n1 < 0) = false := by simp; omega
  go_enter Try.func6, Try.ntmps6
  go_wp2_with fail
  refine (awake_any w).mono ?_
  rintro e w1 ⟨rfl, hw⟩
  replace hp := hp.ext hw
  replace hq := hq.ext hw
  replace hr := hr.ext hw
  replace hl := hl.ext hw
  go_wp2_with fail
  refine (great_b _ _ a t 0 _ hp F1.out).mono ?_
  rintro e w2 ⟨rfl, hx⟩
  replace hp := hp.ext hx
  replace hq := hq.ext hx
  replace hr := hr.ext hx
  replace hl := hl.ext hx
  replace hw := ext_trans hw hx
  clear hx
  go_wp2_with fail
  refine (great_b _ _ b t 0 _ hq F2.out).mono ?_
  rintro e w3 ⟨rfl, hx⟩
  replace hp := hp.ext hx
  replace hq := hq.ext hx
  replace hr := hr.ext hx
  replace hl := hl.ext hx
  replace hw := ext_trans hw hx
  clear hx
  go_wp2_with fail
  refine (great_b _ _ c t 0 _ hr F3.out).mono ?_
  rintro e w4 ⟨rfl, hx⟩
  replace hp := hp.ext hx
  replace hq := hq.ext hx
  replace hr := hr.ext hx
  replace hl := hl.ext hx
  replace hw := ext_trans hw hx
  clear hx
  go_wp2_with fail
  refine (great_b _ _ l t 0 _ hl F4.out).mono ?_
  rintro e w5 ⟨rfl, hx⟩
  replace hp := hp.ext hx
  replace hq := hq.ext hx
  replace hr := hr.ext hx
  replace hl := hl.ext hx
  replace hw := ext_trans hw hx
  clear hx
  go_wp2_with fail
  refine (compare_v (n1) _ _ a b _ hp hq N1.out).mono ?_
  rintro e w6 ⟨rfl, hx⟩
  have hxw6 : Ext w5 w6 := hx
  clear hx
  replace hp := hp.ext hxw6
  replace hq := hq.ext hxw6
  replace hr := hr.ext hxw6
  replace hl := hl.ext hxw6
  replace hw := ext_trans hw hxw6
  clear hxw6
  go_wp2_with fail
  refine (compare_v (-n1) _ _ b a _ hq hp (by rw [cmpL_neg, N1.out])).mono ?_
  rintro e w7 ⟨rfl, hx⟩
  have hxw7 : Ext w6 w7 := hx
  clear hx
  replace hp := hp.ext hxw7
  replace hq := hq.ext hxw7
  replace hr := hr.ext hxw7
  replace hl := hl.ext hxw7
  replace hw := ext_trans hw hxw7
  clear hxw7
  go_wp2_with fail
  refine (compare_v (0) _ _ a a _ hp hp (cmpL_self a)).mono ?_
  rintro e w8 ⟨rfl, hx⟩
  have hxw8 : Ext w7 w8 := hx
  clear hx
  replace hp := hp.ext hxw8
  replace hq := hq.ext hxw8
  replace hr := hr.ext hxw8
  replace hl := hl.ext hxw8
  replace hw := ext_trans hw hxw8
  clear hxw8
  go_wp2_with fail
  refine (compare_v (n1) _ _ a b _ hp hq N1.out).mono ?_
  rintro e w9 ⟨rfl, hx⟩
  have hxw9 : Ext w8 w9 := hx
  clear hx
  replace hp := hp.ext hxw9
  replace hq := hq.ext hxw9
  replace hr := hr.ext hxw9
  replace hl := hl.ext hxw9
  replace hw := ext_trans hw hxw9
  clear hxw9
  go_wp2_with fail
  refine (same_b (n1 == 0) _ _ a b _ hp hq (by rw [← N1.out, cmpL_zero])).mono ?_
  rintro e w10 ⟨rfl, hx⟩
  have hxw10 : Ext w9 w10 := hx
  clear hx
  replace hp := hp.ext hxw10
  replace hq := hq.ext hxw10
  replace hr := hr.ext hxw10
  replace hl := hl.ext hxw10
  replace hw := ext_trans hw hxw10
  clear hxw10
  go_wp2_with fail
  refine (compare_v (n1) _ _ a b _ hp hq N1.out).mono ?_
  rintro e w11 ⟨rfl, hx⟩
  have hxw11 : Ext w10 w11 := hx
  clear hx
  replace hp := hp.ext hxw11
  replace hq := hq.ext hxw11
  replace hr := hr.ext hxw11
  replace hl := hl.ext hxw11
  replace hw := ext_trans hw hxw11
  clear hxw11
  go_wp2_with fail
  refine (inserted_v _ _ a l (insL a l t) t _ hp hl (by omega) (by omega) B1.out rfl).mono ?_
  rintro e w12 ⟨va, rfl, ha, hx⟩
  have hxw12 : Ext w11 w12 := hx
  clear hx
  replace hp := hp.ext hxw12
  replace hq := hq.ext hxw12
  replace hr := hr.ext hxw12
  replace hl := hl.ext hxw12
  replace hw := ext_trans hw hxw12
  clear hxw12
  go_wp2_with fail
  refine (inserted_v _ _ b l (insL b l t) t _ hq hl (by omega) (by omega) B2.out rfl).mono ?_
  rintro e w13 ⟨vb, rfl, hb, hx⟩
  have hxw13 : Ext w12 w13 := hx
  clear hx
  replace hp := hp.ext hxw13
  replace hq := hq.ext hxw13
  replace hr := hr.ext hxw13
  replace hl := hl.ext hxw13
  replace ha := ha.ext hxw13
  replace hw := ext_trans hw hxw13
  clear hxw13
  go_wp2_with fail
  refine (compare_v (n1) _ _ (insL a l t) (insL b l t) _ ha hb (by rw [cmpL_ins, N1.out])).mono ?_
  rintro e w14 ⟨rfl, hx⟩
  have hxw14 : Ext w13 w14 := hx
  clear hx
  replace hp := hp.ext hxw14
  replace hq := hq.ext hxw14
  replace hr := hr.ext hxw14
  replace hl := hl.ext hxw14
  replace ha := ha.ext hxw14
  replace hb := hb.ext hxw14
  replace hw := ext_trans hw hxw14
  clear hxw14
  go_wp2_with fail
  refine (compare_v (n1) _ _ a b _ hp hq N1.out).mono ?_
  rintro e w15 ⟨rfl, hx⟩
  have hxw15 : Ext w14 w15 := hx
  clear hx
  replace hp := hp.ext hxw15
  replace hq := hq.ext hxw15
  replace hr := hr.ext hxw15
  replace hl := hl.ext hxw15
  replace ha := ha.ext hxw15
  replace hb := hb.ext hxw15
  replace hw := ext_trans hw hxw15
  clear hxw15
  clear ha hb
  go_wp2_with fail
  refine (deleted_v _ _ a l (delL a l t) t _ hp hl (by omega) (by omega) B1.out G1.out rfl).mono ?_
  rintro e w16 ⟨vc, rfl, hc, hx⟩
  have hxw16 : Ext w15 w16 := hx
  clear hx
  replace hp := hp.ext hxw16
  replace hq := hq.ext hxw16
  replace hr := hr.ext hxw16
  replace hl := hl.ext hxw16
  replace hw := ext_trans hw hxw16
  clear hxw16
  go_wp2_with fail
  refine (deleted_gone _ _ b l t _ hq hl G2.out (by omega) (by omega)).mono ?_
  rintro e w17 ⟨rfl, hx⟩
  have hxw17 : Ext w16 w17 := hx
  clear hx
  replace hp := hp.ext hxw17
  replace hq := hq.ext hxw17
  replace hr := hr.ext hxw17
  replace hl := hl.ext hxw17
  replace hc := hc.ext hxw17
  replace hw := ext_trans hw hxw17
  clear hxw17
  go_wp2_with fail
  go_ret
  exact ⟨by simp, hw⟩

set_option maxHeartbeats 4000000 in
theorem order_A00 (p q r s : Value) (a b c l : List Int) (t : Int) (w : World) (hp : Ints w p a) (hq : Ints w q b) (hr : Ints w r c) (hl : Ints w s l) (F1 : Hid ((!fineB a t 0) = false)) (F2 : Hid ((!fineB b t 0) = false)) (F3 : Hid ((!fineB c t 0) = false)) (F4 : Hid ((!fineB l t 0) = false))
    (za : a.length ≤ 200) (zb : b.length ≤ 200) (zl : l.length ≤ 200) (B1 : Hid (Bd 1099511627775 a)) (B2 : Hid (Bd 1099511627775 b))
    (n1 : Int) (N1 : Hid (cmpL a b = n1)) (c1 : -1 ≤ n1) (c2 : n1 ≤ 1) (c3 : 0 ≤ n1) (G1 : Hid (gone a l t = false)) (G2 : Hid (gone b l t = false)) :
    Calls Try.prog 6 #[p, q, r, s, .int .i64 t] w fun e w' => e = .returned (.bool true) ∧ Ext w w' := by
  have e0 : (n1 != n1) = false := by simp
  have e1 : decide (n1 < 0) = false := by simp; omega
  go_enter Try.func6, Try.ntmps6
  go_wp2_with fail
  refine (awake_any w).mono ?_
  rintro e w1 ⟨rfl, hw⟩
  replace hp := hp.ext hw
  replace hq := hq.ext hw
  replace hr := hr.ext hw
  replace hl := hl.ext hw
  go_wp2_with fail
  refine (great_b _ _ a t 0 _ hp F1.out).mono ?_
  rintro e w2 ⟨rfl, hx⟩
  replace hp := hp.ext hx
  replace hq := hq.ext hx
  replace hr := hr.ext hx
  replace hl := hl.ext hx
  replace hw := ext_trans hw hx
  clear hx
  go_wp2_with fail
  refine (great_b _ _ b t 0 _ hq F2.out).mono ?_
  rintro e w3 ⟨rfl, hx⟩
  replace hp := hp.ext hx
  replace hq := hq.ext hx
  replace hr := hr.ext hx
  replace hl := hl.ext hx
  replace hw := ext_trans hw hx
  clear hx
  go_wp2_with fail
  refine (great_b _ _ c t 0 _ hr F3.out).mono ?_
  rintro e w4 ⟨rfl, hx⟩
  replace hp := hp.ext hx
  replace hq := hq.ext hx
  replace hr := hr.ext hx
  replace hl := hl.ext hx
  replace hw := ext_trans hw hx
  clear hx
  go_wp2_with fail
  refine (great_b _ _ l t 0 _ hl F4.out).mono ?_
  rintro e w5 ⟨rfl, hx⟩
  replace hp := hp.ext hx
  replace hq := hq.ext hx
  replace hr := hr.ext hx
  replace hl := hl.ext hx
  replace hw := ext_trans hw hx
  clear hx
  go_wp2_with fail
  refine (compare_v (n1) _ _ a b _ hp hq N1.out).mono ?_
  rintro e w6 ⟨rfl, hx⟩
  have hxw6 : Ext w5 w6 := hx
  clear hx
  replace hp := hp.ext hxw6
  replace hq := hq.ext hxw6
  replace hr := hr.ext hxw6
  replace hl := hl.ext hxw6
  replace hw := ext_trans hw hxw6
  clear hxw6
  go_wp2_with fail
  refine (compare_v (-n1) _ _ b a _ hq hp (by rw [cmpL_neg, N1.out])).mono ?_
  rintro e w7 ⟨rfl, hx⟩
  have hxw7 : Ext w6 w7 := hx
  clear hx
  replace hp := hp.ext hxw7
  replace hq := hq.ext hxw7
  replace hr := hr.ext hxw7
  replace hl := hl.ext hxw7
  replace hw := ext_trans hw hxw7
  clear hxw7
  go_wp2_with fail
  refine (compare_v (0) _ _ a a _ hp hp (cmpL_self a)).mono ?_
  rintro e w8 ⟨rfl, hx⟩
  have hxw8 : Ext w7 w8 := hx
  clear hx
  replace hp := hp.ext hxw8
  replace hq := hq.ext hxw8
  replace hr := hr.ext hxw8
  replace hl := hl.ext hxw8
  replace hw := ext_trans hw hxw8
  clear hxw8
  go_wp2_with fail
  refine (compare_v (n1) _ _ a b _ hp hq N1.out).mono ?_
  rintro e w9 ⟨rfl, hx⟩
  have hxw9 : Ext w8 w9 := hx
  clear hx
  replace hp := hp.ext hxw9
  replace hq := hq.ext hxw9
  replace hr := hr.ext hxw9
  replace hl := hl.ext hxw9
  replace hw := ext_trans hw hxw9
  clear hxw9
  go_wp2_with fail
  refine (same_b (n1 == 0) _ _ a b _ hp hq (by rw [← N1.out, cmpL_zero])).mono ?_
  rintro e w10 ⟨rfl, hx⟩
  have hxw10 : Ext w9 w10 := hx
  clear hx
  replace hp := hp.ext hxw10
  replace hq := hq.ext hxw10
  replace hr := hr.ext hxw10
  replace hl := hl.ext hxw10
  replace hw := ext_trans hw hxw10
  clear hxw10
  go_wp2_with fail
  refine (compare_v (n1) _ _ a b _ hp hq N1.out).mono ?_
  rintro e w11 ⟨rfl, hx⟩
  have hxw11 : Ext w10 w11 := hx
  clear hx
  replace hp := hp.ext hxw11
  replace hq := hq.ext hxw11
  replace hr := hr.ext hxw11
  replace hl := hl.ext hxw11
  replace hw := ext_trans hw hxw11
  clear hxw11
  go_wp2_with fail
  refine (inserted_v _ _ a l (insL a l t) t _ hp hl (by omega) (by omega) B1.out rfl).mono ?_
  rintro e w12 ⟨va, rfl, ha, hx⟩
  have hxw12 : Ext w11 w12 := hx
  clear hx
  replace hp := hp.ext hxw12
  replace hq := hq.ext hxw12
  replace hr := hr.ext hxw12
  replace hl := hl.ext hxw12
  replace hw := ext_trans hw hxw12
  clear hxw12
  go_wp2_with fail
  refine (inserted_v _ _ b l (insL b l t) t _ hq hl (by omega) (by omega) B2.out rfl).mono ?_
  rintro e w13 ⟨vb, rfl, hb, hx⟩
  have hxw13 : Ext w12 w13 := hx
  clear hx
  replace hp := hp.ext hxw13
  replace hq := hq.ext hxw13
  replace hr := hr.ext hxw13
  replace hl := hl.ext hxw13
  replace ha := ha.ext hxw13
  replace hw := ext_trans hw hxw13
  clear hxw13
  go_wp2_with fail
  refine (compare_v (n1) _ _ (insL a l t) (insL b l t) _ ha hb (by rw [cmpL_ins, N1.out])).mono ?_
  rintro e w14 ⟨rfl, hx⟩
  have hxw14 : Ext w13 w14 := hx
  clear hx
  replace hp := hp.ext hxw14
  replace hq := hq.ext hxw14
  replace hr := hr.ext hxw14
  replace hl := hl.ext hxw14
  replace ha := ha.ext hxw14
  replace hb := hb.ext hxw14
  replace hw := ext_trans hw hxw14
  clear hxw14
  go_wp2_with fail
  refine (compare_v (n1) _ _ a b _ hp hq N1.out).mono ?_
  rintro e w15 ⟨rfl, hx⟩
  have hxw15 : Ext w14 w15 := hx
  clear hx
  replace hp := hp.ext hxw15
  replace hq := hq.ext hxw15
  replace hr := hr.ext hxw15
  replace hl := hl.ext hxw15
  replace ha := ha.ext hxw15
  replace hb := hb.ext hxw15
  replace hw := ext_trans hw hxw15
  clear hxw15
  clear ha hb
  go_wp2_with fail
  refine (deleted_v _ _ a l (delL a l t) t _ hp hl (by omega) (by omega) B1.out G1.out rfl).mono ?_
  rintro e w16 ⟨vc, rfl, hc, hx⟩
  have hxw16 : Ext w15 w16 := hx
  clear hx
  replace hp := hp.ext hxw16
  replace hq := hq.ext hxw16
  replace hr := hr.ext hxw16
  replace hl := hl.ext hxw16
  replace hw := ext_trans hw hxw16
  clear hxw16
  go_wp2_with fail
  refine (deleted_v _ _ b l (delL b l t) t _ hq hl (by omega) (by omega) B2.out G2.out rfl).mono ?_
  rintro e w17 ⟨vd, rfl, hd, hx⟩
  have hxw17 : Ext w16 w17 := hx
  clear hx
  replace hp := hp.ext hxw17
  replace hq := hq.ext hxw17
  replace hr := hr.ext hxw17
  replace hl := hl.ext hxw17
  replace hc := hc.ext hxw17
  replace hw := ext_trans hw hxw17
  clear hxw17
  go_wp2_with fail
  refine (compare_v (n1) _ _ (delL a l t) (delL b l t) _ hc hd (by rw [cmpL_del G1.out G2.out, N1.out])).mono ?_
  rintro e w18 ⟨rfl, hx⟩
  have hxw18 : Ext w17 w18 := hx
  clear hx
  replace hp := hp.ext hxw18
  replace hq := hq.ext hxw18
  replace hr := hr.ext hxw18
  replace hl := hl.ext hxw18
  replace hc := hc.ext hxw18
  replace hd := hd.ext hxw18
  replace hw := ext_trans hw hxw18
  clear hxw18
  go_wp2_with fail
  refine (compare_v (n1) _ _ a b _ hp hq N1.out).mono ?_
  rintro e w19 ⟨rfl, hx⟩
  have hxw19 : Ext w18 w19 := hx
  clear hx
  replace hp := hp.ext hxw19
  replace hq := hq.ext hxw19
  replace hr := hr.ext hxw19
  replace hl := hl.ext hxw19
  replace hc := hc.ext hxw19
  replace hd := hd.ext hxw19
  replace hw := ext_trans hw hxw19
  clear hxw19
  go_wp2_with fail
  go_ret
  exact ⟨by simp, hw⟩

set_option maxHeartbeats 4000000 in
theorem order_B11 (p q r s : Value) (a b c l : List Int) (t : Int) (w : World) (hp : Ints w p a) (hq : Ints w q b) (hr : Ints w r c) (hl : Ints w s l) (F1 : Hid ((!fineB a t 0) = false)) (F2 : Hid ((!fineB b t 0) = false)) (F3 : Hid ((!fineB c t 0) = false)) (F4 : Hid ((!fineB l t 0) = false))
    (za : a.length ≤ 200) (zb : b.length ≤ 200) (zl : l.length ≤ 200) (B1 : Hid (Bd 1099511627775 a)) (B2 : Hid (Bd 1099511627775 b))
    (n1 n2 : Int) (N1 : Hid (cmpL a b = n1)) (c1 : -1 ≤ n1) (c2 : n1 ≤ 1) (c3 : n1 < 0) (N2 : Hid (cmpL b c = n2)) (c4 : 0 ≤ n2) (G1 : Hid (gone a l t = true)) (G2 : Hid (gone b l t = true)) :
    Calls Try.prog 6 #[p, q, r, s, .int .i64 t] w fun e w' => e = .returned (.bool true) ∧ Ext w w' := by
  have e0 : (n1 != n1) = false := by simp
  have e1 : decide (n1 < 0) = true := by simp; omega
  have e2 : decide (n2 < 0) = false := by simp; omega
  go_enter Try.func6, Try.ntmps6
  go_wp2_with fail
  refine (awake_any w).mono ?_
  rintro e w1 ⟨rfl, hw⟩
  replace hp := hp.ext hw
  replace hq := hq.ext hw
  replace hr := hr.ext hw
  replace hl := hl.ext hw
  go_wp2_with fail
  refine (great_b _ _ a t 0 _ hp F1.out).mono ?_
  rintro e w2 ⟨rfl, hx⟩
  replace hp := hp.ext hx
  replace hq := hq.ext hx
  replace hr := hr.ext hx
  replace hl := hl.ext hx
  replace hw := ext_trans hw hx
  clear hx
  go_wp2_with fail
  refine (great_b _ _ b t 0 _ hq F2.out).mono ?_
  rintro e w3 ⟨rfl, hx⟩
  replace hp := hp.ext hx
  replace hq := hq.ext hx
  replace hr := hr.ext hx
  replace hl := hl.ext hx
  replace hw := ext_trans hw hx
  clear hx
  go_wp2_with fail
  refine (great_b _ _ c t 0 _ hr F3.out).mono ?_
  rintro e w4 ⟨rfl, hx⟩
  replace hp := hp.ext hx
  replace hq := hq.ext hx
  replace hr := hr.ext hx
  replace hl := hl.ext hx
  replace hw := ext_trans hw hx
  clear hx
  go_wp2_with fail
  refine (great_b _ _ l t 0 _ hl F4.out).mono ?_
  rintro e w5 ⟨rfl, hx⟩
  replace hp := hp.ext hx
  replace hq := hq.ext hx
  replace hr := hr.ext hx
  replace hl := hl.ext hx
  replace hw := ext_trans hw hx
  clear hx
  go_wp2_with fail
  refine (compare_v (n1) _ _ a b _ hp hq N1.out).mono ?_
  rintro e w6 ⟨rfl, hx⟩
  have hxw6 : Ext w5 w6 := hx
  clear hx
  replace hp := hp.ext hxw6
  replace hq := hq.ext hxw6
  replace hr := hr.ext hxw6
  replace hl := hl.ext hxw6
  replace hw := ext_trans hw hxw6
  clear hxw6
  go_wp2_with fail
  refine (compare_v (-n1) _ _ b a _ hq hp (by rw [cmpL_neg, N1.out])).mono ?_
  rintro e w7 ⟨rfl, hx⟩
  have hxw7 : Ext w6 w7 := hx
  clear hx
  replace hp := hp.ext hxw7
  replace hq := hq.ext hxw7
  replace hr := hr.ext hxw7
  replace hl := hl.ext hxw7
  replace hw := ext_trans hw hxw7
  clear hxw7
  go_wp2_with fail
  refine (compare_v (0) _ _ a a _ hp hp (cmpL_self a)).mono ?_
  rintro e w8 ⟨rfl, hx⟩
  have hxw8 : Ext w7 w8 := hx
  clear hx
  replace hp := hp.ext hxw8
  replace hq := hq.ext hxw8
  replace hr := hr.ext hxw8
  replace hl := hl.ext hxw8
  replace hw := ext_trans hw hxw8
  clear hxw8
  go_wp2_with fail
  refine (compare_v (n1) _ _ a b _ hp hq N1.out).mono ?_
  rintro e w9 ⟨rfl, hx⟩
  have hxw9 : Ext w8 w9 := hx
  clear hx
  replace hp := hp.ext hxw9
  replace hq := hq.ext hxw9
  replace hr := hr.ext hxw9
  replace hl := hl.ext hxw9
  replace hw := ext_trans hw hxw9
  clear hxw9
  go_wp2_with fail
  refine (same_b (n1 == 0) _ _ a b _ hp hq (by rw [← N1.out, cmpL_zero])).mono ?_
  rintro e w10 ⟨rfl, hx⟩
  have hxw10 : Ext w9 w10 := hx
  clear hx
  replace hp := hp.ext hxw10
  replace hq := hq.ext hxw10
  replace hr := hr.ext hxw10
  replace hl := hl.ext hxw10
  replace hw := ext_trans hw hxw10
  clear hxw10
  go_wp2_with fail
  refine (compare_v (n1) _ _ a b _ hp hq N1.out).mono ?_
  rintro e w11 ⟨rfl, hx⟩
  have hxw11 : Ext w10 w11 := hx
  clear hx
  replace hp := hp.ext hxw11
  replace hq := hq.ext hxw11
  replace hr := hr.ext hxw11
  replace hl := hl.ext hxw11
  replace hw := ext_trans hw hxw11
  clear hxw11
  go_wp2_with fail
  refine (compare_v (n2) _ _ b c _ hq hr N2.out).mono ?_
  rintro e w12 ⟨rfl, hx⟩
  have hxw12 : Ext w11 w12 := hx
  clear hx
  replace hp := hp.ext hxw12
  replace hq := hq.ext hxw12
  replace hr := hr.ext hxw12
  replace hl := hl.ext hxw12
  replace hw := ext_trans hw hxw12
  clear hxw12
  go_wp2_with fail
  refine (inserted_v _ _ a l (insL a l t) t _ hp hl (by omega) (by omega) B1.out rfl).mono ?_
  rintro e w13 ⟨va, rfl, ha, hx⟩
  have hxw13 : Ext w12 w13 := hx
  clear hx
  replace hp := hp.ext hxw13
  replace hq := hq.ext hxw13
  replace hr := hr.ext hxw13
  replace hl := hl.ext hxw13
  replace hw := ext_trans hw hxw13
  clear hxw13
  go_wp2_with fail
  refine (inserted_v _ _ b l (insL b l t) t _ hq hl (by omega) (by omega) B2.out rfl).mono ?_
  rintro e w14 ⟨vb, rfl, hb, hx⟩
  have hxw14 : Ext w13 w14 := hx
  clear hx
  replace hp := hp.ext hxw14
  replace hq := hq.ext hxw14
  replace hr := hr.ext hxw14
  replace hl := hl.ext hxw14
  replace ha := ha.ext hxw14
  replace hw := ext_trans hw hxw14
  clear hxw14
  go_wp2_with fail
  refine (compare_v (n1) _ _ (insL a l t) (insL b l t) _ ha hb (by rw [cmpL_ins, N1.out])).mono ?_
  rintro e w15 ⟨rfl, hx⟩
  have hxw15 : Ext w14 w15 := hx
  clear hx
  replace hp := hp.ext hxw15
  replace hq := hq.ext hxw15
  replace hr := hr.ext hxw15
  replace hl := hl.ext hxw15
  replace ha := ha.ext hxw15
  replace hb := hb.ext hxw15
  replace hw := ext_trans hw hxw15
  clear hxw15
  go_wp2_with fail
  refine (compare_v (n1) _ _ a b _ hp hq N1.out).mono ?_
  rintro e w16 ⟨rfl, hx⟩
  have hxw16 : Ext w15 w16 := hx
  clear hx
  replace hp := hp.ext hxw16
  replace hq := hq.ext hxw16
  replace hr := hr.ext hxw16
  replace hl := hl.ext hxw16
  replace ha := ha.ext hxw16
  replace hb := hb.ext hxw16
  replace hw := ext_trans hw hxw16
  clear hxw16
  clear ha hb
  go_wp2_with fail
  refine (deleted_gone _ _ a l t _ hp hl G1.out (by omega) (by omega)).mono ?_
  rintro e w17 ⟨rfl, hx⟩
  have hxw17 : Ext w16 w17 := hx
  clear hx
  replace hp := hp.ext hxw17
  replace hq := hq.ext hxw17
  replace hr := hr.ext hxw17
  replace hl := hl.ext hxw17
  replace hw := ext_trans hw hxw17
  clear hxw17
  go_wp2_with fail
  refine (deleted_gone _ _ b l t _ hq hl G2.out (by omega) (by omega)).mono ?_
  rintro e w18 ⟨rfl, hx⟩
  have hxw18 : Ext w17 w18 := hx
  clear hx
  replace hp := hp.ext hxw18
  replace hq := hq.ext hxw18
  replace hr := hr.ext hxw18
  replace hl := hl.ext hxw18
  replace hw := ext_trans hw hxw18
  clear hxw18
  go_wp2_with fail
  go_ret
  exact ⟨by simp, hw⟩

set_option maxHeartbeats 4000000 in
theorem order_B10 (p q r s : Value) (a b c l : List Int) (t : Int) (w : World) (hp : Ints w p a) (hq : Ints w q b) (hr : Ints w r c) (hl : Ints w s l) (F1 : Hid ((!fineB a t 0) = false)) (F2 : Hid ((!fineB b t 0) = false)) (F3 : Hid ((!fineB c t 0) = false)) (F4 : Hid ((!fineB l t 0) = false))
    (za : a.length ≤ 200) (zb : b.length ≤ 200) (zl : l.length ≤ 200) (B1 : Hid (Bd 1099511627775 a)) (B2 : Hid (Bd 1099511627775 b))
    (n1 n2 : Int) (N1 : Hid (cmpL a b = n1)) (c1 : -1 ≤ n1) (c2 : n1 ≤ 1) (c3 : n1 < 0) (N2 : Hid (cmpL b c = n2)) (c4 : 0 ≤ n2) (G1 : Hid (gone a l t = true)) (G2 : Hid (gone b l t = false)) :
    Calls Try.prog 6 #[p, q, r, s, .int .i64 t] w fun e w' => e = .returned (.bool true) ∧ Ext w w' := by
  have e0 : (n1 != n1) = false := by simp
  have e1 : decide (n1 < 0) = true := by simp; omega
  have e2 : decide (n2 < 0) = false := by simp; omega
  go_enter Try.func6, Try.ntmps6
  go_wp2_with fail
  refine (awake_any w).mono ?_
  rintro e w1 ⟨rfl, hw⟩
  replace hp := hp.ext hw
  replace hq := hq.ext hw
  replace hr := hr.ext hw
  replace hl := hl.ext hw
  go_wp2_with fail
  refine (great_b _ _ a t 0 _ hp F1.out).mono ?_
  rintro e w2 ⟨rfl, hx⟩
  replace hp := hp.ext hx
  replace hq := hq.ext hx
  replace hr := hr.ext hx
  replace hl := hl.ext hx
  replace hw := ext_trans hw hx
  clear hx
  go_wp2_with fail
  refine (great_b _ _ b t 0 _ hq F2.out).mono ?_
  rintro e w3 ⟨rfl, hx⟩
  replace hp := hp.ext hx
  replace hq := hq.ext hx
  replace hr := hr.ext hx
  replace hl := hl.ext hx
  replace hw := ext_trans hw hx
  clear hx
  go_wp2_with fail
  refine (great_b _ _ c t 0 _ hr F3.out).mono ?_
  rintro e w4 ⟨rfl, hx⟩
  replace hp := hp.ext hx
  replace hq := hq.ext hx
  replace hr := hr.ext hx
  replace hl := hl.ext hx
  replace hw := ext_trans hw hx
  clear hx
  go_wp2_with fail
  refine (great_b _ _ l t 0 _ hl F4.out).mono ?_
  rintro e w5 ⟨rfl, hx⟩
  replace hp := hp.ext hx
  replace hq := hq.ext hx
  replace hr := hr.ext hx
  replace hl := hl.ext hx
  replace hw := ext_trans hw hx
  clear hx
  go_wp2_with fail
  refine (compare_v (n1) _ _ a b _ hp hq N1.out).mono ?_
  rintro e w6 ⟨rfl, hx⟩
  have hxw6 : Ext w5 w6 := hx
  clear hx
  replace hp := hp.ext hxw6
  replace hq := hq.ext hxw6
  replace hr := hr.ext hxw6
  replace hl := hl.ext hxw6
  replace hw := ext_trans hw hxw6
  clear hxw6
  go_wp2_with fail
  refine (compare_v (-n1) _ _ b a _ hq hp (by rw [cmpL_neg, N1.out])).mono ?_
  rintro e w7 ⟨rfl, hx⟩
  have hxw7 : Ext w6 w7 := hx
  clear hx
  replace hp := hp.ext hxw7
  replace hq := hq.ext hxw7
  replace hr := hr.ext hxw7
  replace hl := hl.ext hxw7
  replace hw := ext_trans hw hxw7
  clear hxw7
  go_wp2_with fail
  refine (compare_v (0) _ _ a a _ hp hp (cmpL_self a)).mono ?_
  rintro e w8 ⟨rfl, hx⟩
  have hxw8 : Ext w7 w8 := hx
  clear hx
  replace hp := hp.ext hxw8
  replace hq := hq.ext hxw8
  replace hr := hr.ext hxw8
  replace hl := hl.ext hxw8
  replace hw := ext_trans hw hxw8
  clear hxw8
  go_wp2_with fail
  refine (compare_v (n1) _ _ a b _ hp hq N1.out).mono ?_
  rintro e w9 ⟨rfl, hx⟩
  have hxw9 : Ext w8 w9 := hx
  clear hx
  replace hp := hp.ext hxw9
  replace hq := hq.ext hxw9
  replace hr := hr.ext hxw9
  replace hl := hl.ext hxw9
  replace hw := ext_trans hw hxw9
  clear hxw9
  go_wp2_with fail
  refine (same_b (n1 == 0) _ _ a b _ hp hq (by rw [← N1.out, cmpL_zero])).mono ?_
  rintro e w10 ⟨rfl, hx⟩
  have hxw10 : Ext w9 w10 := hx
  clear hx
  replace hp := hp.ext hxw10
  replace hq := hq.ext hxw10
  replace hr := hr.ext hxw10
  replace hl := hl.ext hxw10
  replace hw := ext_trans hw hxw10
  clear hxw10
  go_wp2_with fail
  refine (compare_v (n1) _ _ a b _ hp hq N1.out).mono ?_
  rintro e w11 ⟨rfl, hx⟩
  have hxw11 : Ext w10 w11 := hx
  clear hx
  replace hp := hp.ext hxw11
  replace hq := hq.ext hxw11
  replace hr := hr.ext hxw11
  replace hl := hl.ext hxw11
  replace hw := ext_trans hw hxw11
  clear hxw11
  go_wp2_with fail
  refine (compare_v (n2) _ _ b c _ hq hr N2.out).mono ?_
  rintro e w12 ⟨rfl, hx⟩
  have hxw12 : Ext w11 w12 := hx
  clear hx
  replace hp := hp.ext hxw12
  replace hq := hq.ext hxw12
  replace hr := hr.ext hxw12
  replace hl := hl.ext hxw12
  replace hw := ext_trans hw hxw12
  clear hxw12
  go_wp2_with fail
  refine (inserted_v _ _ a l (insL a l t) t _ hp hl (by omega) (by omega) B1.out rfl).mono ?_
  rintro e w13 ⟨va, rfl, ha, hx⟩
  have hxw13 : Ext w12 w13 := hx
  clear hx
  replace hp := hp.ext hxw13
  replace hq := hq.ext hxw13
  replace hr := hr.ext hxw13
  replace hl := hl.ext hxw13
  replace hw := ext_trans hw hxw13
  clear hxw13
  go_wp2_with fail
  refine (inserted_v _ _ b l (insL b l t) t _ hq hl (by omega) (by omega) B2.out rfl).mono ?_
  rintro e w14 ⟨vb, rfl, hb, hx⟩
  have hxw14 : Ext w13 w14 := hx
  clear hx
  replace hp := hp.ext hxw14
  replace hq := hq.ext hxw14
  replace hr := hr.ext hxw14
  replace hl := hl.ext hxw14
  replace ha := ha.ext hxw14
  replace hw := ext_trans hw hxw14
  clear hxw14
  go_wp2_with fail
  refine (compare_v (n1) _ _ (insL a l t) (insL b l t) _ ha hb (by rw [cmpL_ins, N1.out])).mono ?_
  rintro e w15 ⟨rfl, hx⟩
  have hxw15 : Ext w14 w15 := hx
  clear hx
  replace hp := hp.ext hxw15
  replace hq := hq.ext hxw15
  replace hr := hr.ext hxw15
  replace hl := hl.ext hxw15
  replace ha := ha.ext hxw15
  replace hb := hb.ext hxw15
  replace hw := ext_trans hw hxw15
  clear hxw15
  go_wp2_with fail
  refine (compare_v (n1) _ _ a b _ hp hq N1.out).mono ?_
  rintro e w16 ⟨rfl, hx⟩
  have hxw16 : Ext w15 w16 := hx
  clear hx
  replace hp := hp.ext hxw16
  replace hq := hq.ext hxw16
  replace hr := hr.ext hxw16
  replace hl := hl.ext hxw16
  replace ha := ha.ext hxw16
  replace hb := hb.ext hxw16
  replace hw := ext_trans hw hxw16
  clear hxw16
  clear ha hb
  go_wp2_with fail
  refine (deleted_gone _ _ a l t _ hp hl G1.out (by omega) (by omega)).mono ?_
  rintro e w17 ⟨rfl, hx⟩
  have hxw17 : Ext w16 w17 := hx
  clear hx
  replace hp := hp.ext hxw17
  replace hq := hq.ext hxw17
  replace hr := hr.ext hxw17
  replace hl := hl.ext hxw17
  replace hw := ext_trans hw hxw17
  clear hxw17
  go_wp2_with fail
  refine (deleted_v _ _ b l (delL b l t) t _ hq hl (by omega) (by omega) B2.out G2.out rfl).mono ?_
  rintro e w18 ⟨vd, rfl, hd, hx⟩
  have hxw18 : Ext w17 w18 := hx
  clear hx
  replace hp := hp.ext hxw18
  replace hq := hq.ext hxw18
  replace hr := hr.ext hxw18
  replace hl := hl.ext hxw18
  replace hw := ext_trans hw hxw18
  clear hxw18
  go_wp2_with fail
  go_ret
  exact ⟨by simp, hw⟩

set_option maxHeartbeats 4000000 in
theorem order_B01 (p q r s : Value) (a b c l : List Int) (t : Int) (w : World) (hp : Ints w p a) (hq : Ints w q b) (hr : Ints w r c) (hl : Ints w s l) (F1 : Hid ((!fineB a t 0) = false)) (F2 : Hid ((!fineB b t 0) = false)) (F3 : Hid ((!fineB c t 0) = false)) (F4 : Hid ((!fineB l t 0) = false))
    (za : a.length ≤ 200) (zb : b.length ≤ 200) (zl : l.length ≤ 200) (B1 : Hid (Bd 1099511627775 a)) (B2 : Hid (Bd 1099511627775 b))
    (n1 n2 : Int) (N1 : Hid (cmpL a b = n1)) (c1 : -1 ≤ n1) (c2 : n1 ≤ 1) (c3 : n1 < 0) (N2 : Hid (cmpL b c = n2)) (c4 : 0 ≤ n2) (G1 : Hid (gone a l t = false)) (G2 : Hid (gone b l t = true)) :
    Calls Try.prog 6 #[p, q, r, s, .int .i64 t] w fun e w' => e = .returned (.bool true) ∧ Ext w w' := by
  have e0 : (n1 != n1) = false := by simp
  have e1 : decide (n1 < 0) = true := by simp; omega
  have e2 : decide (n2 < 0) = false := by simp; omega
  go_enter Try.func6, Try.ntmps6
  go_wp2_with fail
  refine (awake_any w).mono ?_
  rintro e w1 ⟨rfl, hw⟩
  replace hp := hp.ext hw
  replace hq := hq.ext hw
  replace hr := hr.ext hw
  replace hl := hl.ext hw
  go_wp2_with fail
  refine (great_b _ _ a t 0 _ hp F1.out).mono ?_
  rintro e w2 ⟨rfl, hx⟩
  replace hp := hp.ext hx
  replace hq := hq.ext hx
  replace hr := hr.ext hx
  replace hl := hl.ext hx
  replace hw := ext_trans hw hx
  clear hx
  go_wp2_with fail
  refine (great_b _ _ b t 0 _ hq F2.out).mono ?_
  rintro e w3 ⟨rfl, hx⟩
  replace hp := hp.ext hx
  replace hq := hq.ext hx
  replace hr := hr.ext hx
  replace hl := hl.ext hx
  replace hw := ext_trans hw hx
  clear hx
  go_wp2_with fail
  refine (great_b _ _ c t 0 _ hr F3.out).mono ?_
  rintro e w4 ⟨rfl, hx⟩
  replace hp := hp.ext hx
  replace hq := hq.ext hx
  replace hr := hr.ext hx
  replace hl := hl.ext hx
  replace hw := ext_trans hw hx
  clear hx
  go_wp2_with fail
  refine (great_b _ _ l t 0 _ hl F4.out).mono ?_
  rintro e w5 ⟨rfl, hx⟩
  replace hp := hp.ext hx
  replace hq := hq.ext hx
  replace hr := hr.ext hx
  replace hl := hl.ext hx
  replace hw := ext_trans hw hx
  clear hx
  go_wp2_with fail
  refine (compare_v (n1) _ _ a b _ hp hq N1.out).mono ?_
  rintro e w6 ⟨rfl, hx⟩
  have hxw6 : Ext w5 w6 := hx
  clear hx
  replace hp := hp.ext hxw6
  replace hq := hq.ext hxw6
  replace hr := hr.ext hxw6
  replace hl := hl.ext hxw6
  replace hw := ext_trans hw hxw6
  clear hxw6
  go_wp2_with fail
  refine (compare_v (-n1) _ _ b a _ hq hp (by rw [cmpL_neg, N1.out])).mono ?_
  rintro e w7 ⟨rfl, hx⟩
  have hxw7 : Ext w6 w7 := hx
  clear hx
  replace hp := hp.ext hxw7
  replace hq := hq.ext hxw7
  replace hr := hr.ext hxw7
  replace hl := hl.ext hxw7
  replace hw := ext_trans hw hxw7
  clear hxw7
  go_wp2_with fail
  refine (compare_v (0) _ _ a a _ hp hp (cmpL_self a)).mono ?_
  rintro e w8 ⟨rfl, hx⟩
  have hxw8 : Ext w7 w8 := hx
  clear hx
  replace hp := hp.ext hxw8
  replace hq := hq.ext hxw8
  replace hr := hr.ext hxw8
  replace hl := hl.ext hxw8
  replace hw := ext_trans hw hxw8
  clear hxw8
  go_wp2_with fail
  refine (compare_v (n1) _ _ a b _ hp hq N1.out).mono ?_
  rintro e w9 ⟨rfl, hx⟩
  have hxw9 : Ext w8 w9 := hx
  clear hx
  replace hp := hp.ext hxw9
  replace hq := hq.ext hxw9
  replace hr := hr.ext hxw9
  replace hl := hl.ext hxw9
  replace hw := ext_trans hw hxw9
  clear hxw9
  go_wp2_with fail
  refine (same_b (n1 == 0) _ _ a b _ hp hq (by rw [← N1.out, cmpL_zero])).mono ?_
  rintro e w10 ⟨rfl, hx⟩
  have hxw10 : Ext w9 w10 := hx
  clear hx
  replace hp := hp.ext hxw10
  replace hq := hq.ext hxw10
  replace hr := hr.ext hxw10
  replace hl := hl.ext hxw10
  replace hw := ext_trans hw hxw10
  clear hxw10
  go_wp2_with fail
  refine (compare_v (n1) _ _ a b _ hp hq N1.out).mono ?_
  rintro e w11 ⟨rfl, hx⟩
  have hxw11 : Ext w10 w11 := hx
  clear hx
  replace hp := hp.ext hxw11
  replace hq := hq.ext hxw11
  replace hr := hr.ext hxw11
  replace hl := hl.ext hxw11
  replace hw := ext_trans hw hxw11
  clear hxw11
  go_wp2_with fail
  refine (compare_v (n2) _ _ b c _ hq hr N2.out).mono ?_
  rintro e w12 ⟨rfl, hx⟩
  have hxw12 : Ext w11 w12 := hx
  clear hx
  replace hp := hp.ext hxw12
  replace hq := hq.ext hxw12
  replace hr := hr.ext hxw12
  replace hl := hl.ext hxw12
  replace hw := ext_trans hw hxw12
  clear hxw12
  go_wp2_with fail
  refine (inserted_v _ _ a l (insL a l t) t _ hp hl (by omega) (by omega) B1.out rfl).mono ?_
  rintro e w13 ⟨va, rfl, ha, hx⟩
  have hxw13 : Ext w12 w13 := hx
  clear hx
  replace hp := hp.ext hxw13
  replace hq := hq.ext hxw13
  replace hr := hr.ext hxw13
  replace hl := hl.ext hxw13
  replace hw := ext_trans hw hxw13
  clear hxw13
  go_wp2_with fail
  refine (inserted_v _ _ b l (insL b l t) t _ hq hl (by omega) (by omega) B2.out rfl).mono ?_
  rintro e w14 ⟨vb, rfl, hb, hx⟩
  have hxw14 : Ext w13 w14 := hx
  clear hx
  replace hp := hp.ext hxw14
  replace hq := hq.ext hxw14
  replace hr := hr.ext hxw14
  replace hl := hl.ext hxw14
  replace ha := ha.ext hxw14
  replace hw := ext_trans hw hxw14
  clear hxw14
  go_wp2_with fail
  refine (compare_v (n1) _ _ (insL a l t) (insL b l t) _ ha hb (by rw [cmpL_ins, N1.out])).mono ?_
  rintro e w15 ⟨rfl, hx⟩
  have hxw15 : Ext w14 w15 := hx
  clear hx
  replace hp := hp.ext hxw15
  replace hq := hq.ext hxw15
  replace hr := hr.ext hxw15
  replace hl := hl.ext hxw15
  replace ha := ha.ext hxw15
  replace hb := hb.ext hxw15
  replace hw := ext_trans hw hxw15
  clear hxw15
  go_wp2_with fail
  refine (compare_v (n1) _ _ a b _ hp hq N1.out).mono ?_
  rintro e w16 ⟨rfl, hx⟩
  have hxw16 : Ext w15 w16 := hx
  clear hx
  replace hp := hp.ext hxw16
  replace hq := hq.ext hxw16
  replace hr := hr.ext hxw16
  replace hl := hl.ext hxw16
  replace ha := ha.ext hxw16
  replace hb := hb.ext hxw16
  replace hw := ext_trans hw hxw16
  clear hxw16
  clear ha hb
  go_wp2_with fail
  refine (deleted_v _ _ a l (delL a l t) t _ hp hl (by omega) (by omega) B1.out G1.out rfl).mono ?_
  rintro e w17 ⟨vc, rfl, hc, hx⟩
  have hxw17 : Ext w16 w17 := hx
  clear hx
  replace hp := hp.ext hxw17
  replace hq := hq.ext hxw17
  replace hr := hr.ext hxw17
  replace hl := hl.ext hxw17
  replace hw := ext_trans hw hxw17
  clear hxw17
  go_wp2_with fail
  refine (deleted_gone _ _ b l t _ hq hl G2.out (by omega) (by omega)).mono ?_
  rintro e w18 ⟨rfl, hx⟩
  have hxw18 : Ext w17 w18 := hx
  clear hx
  replace hp := hp.ext hxw18
  replace hq := hq.ext hxw18
  replace hr := hr.ext hxw18
  replace hl := hl.ext hxw18
  replace hc := hc.ext hxw18
  replace hw := ext_trans hw hxw18
  clear hxw18
  go_wp2_with fail
  go_ret
  exact ⟨by simp, hw⟩

set_option maxHeartbeats 4000000 in
theorem order_B00 (p q r s : Value) (a b c l : List Int) (t : Int) (w : World) (hp : Ints w p a) (hq : Ints w q b) (hr : Ints w r c) (hl : Ints w s l) (F1 : Hid ((!fineB a t 0) = false)) (F2 : Hid ((!fineB b t 0) = false)) (F3 : Hid ((!fineB c t 0) = false)) (F4 : Hid ((!fineB l t 0) = false))
    (za : a.length ≤ 200) (zb : b.length ≤ 200) (zl : l.length ≤ 200) (B1 : Hid (Bd 1099511627775 a)) (B2 : Hid (Bd 1099511627775 b))
    (n1 n2 : Int) (N1 : Hid (cmpL a b = n1)) (c1 : -1 ≤ n1) (c2 : n1 ≤ 1) (c3 : n1 < 0) (N2 : Hid (cmpL b c = n2)) (c4 : 0 ≤ n2) (G1 : Hid (gone a l t = false)) (G2 : Hid (gone b l t = false)) :
    Calls Try.prog 6 #[p, q, r, s, .int .i64 t] w fun e w' => e = .returned (.bool true) ∧ Ext w w' := by
  have e0 : (n1 != n1) = false := by simp
  have e1 : decide (n1 < 0) = true := by simp; omega
  have e2 : decide (n2 < 0) = false := by simp; omega
  go_enter Try.func6, Try.ntmps6
  go_wp2_with fail
  refine (awake_any w).mono ?_
  rintro e w1 ⟨rfl, hw⟩
  replace hp := hp.ext hw
  replace hq := hq.ext hw
  replace hr := hr.ext hw
  replace hl := hl.ext hw
  go_wp2_with fail
  refine (great_b _ _ a t 0 _ hp F1.out).mono ?_
  rintro e w2 ⟨rfl, hx⟩
  replace hp := hp.ext hx
  replace hq := hq.ext hx
  replace hr := hr.ext hx
  replace hl := hl.ext hx
  replace hw := ext_trans hw hx
  clear hx
  go_wp2_with fail
  refine (great_b _ _ b t 0 _ hq F2.out).mono ?_
  rintro e w3 ⟨rfl, hx⟩
  replace hp := hp.ext hx
  replace hq := hq.ext hx
  replace hr := hr.ext hx
  replace hl := hl.ext hx
  replace hw := ext_trans hw hx
  clear hx
  go_wp2_with fail
  refine (great_b _ _ c t 0 _ hr F3.out).mono ?_
  rintro e w4 ⟨rfl, hx⟩
  replace hp := hp.ext hx
  replace hq := hq.ext hx
  replace hr := hr.ext hx
  replace hl := hl.ext hx
  replace hw := ext_trans hw hx
  clear hx
  go_wp2_with fail
  refine (great_b _ _ l t 0 _ hl F4.out).mono ?_
  rintro e w5 ⟨rfl, hx⟩
  replace hp := hp.ext hx
  replace hq := hq.ext hx
  replace hr := hr.ext hx
  replace hl := hl.ext hx
  replace hw := ext_trans hw hx
  clear hx
  go_wp2_with fail
  refine (compare_v (n1) _ _ a b _ hp hq N1.out).mono ?_
  rintro e w6 ⟨rfl, hx⟩
  have hxw6 : Ext w5 w6 := hx
  clear hx
  replace hp := hp.ext hxw6
  replace hq := hq.ext hxw6
  replace hr := hr.ext hxw6
  replace hl := hl.ext hxw6
  replace hw := ext_trans hw hxw6
  clear hxw6
  go_wp2_with fail
  refine (compare_v (-n1) _ _ b a _ hq hp (by rw [cmpL_neg, N1.out])).mono ?_
  rintro e w7 ⟨rfl, hx⟩
  have hxw7 : Ext w6 w7 := hx
  clear hx
  replace hp := hp.ext hxw7
  replace hq := hq.ext hxw7
  replace hr := hr.ext hxw7
  replace hl := hl.ext hxw7
  replace hw := ext_trans hw hxw7
  clear hxw7
  go_wp2_with fail
  refine (compare_v (0) _ _ a a _ hp hp (cmpL_self a)).mono ?_
  rintro e w8 ⟨rfl, hx⟩
  have hxw8 : Ext w7 w8 := hx
  clear hx
  replace hp := hp.ext hxw8
  replace hq := hq.ext hxw8
  replace hr := hr.ext hxw8
  replace hl := hl.ext hxw8
  replace hw := ext_trans hw hxw8
  clear hxw8
  go_wp2_with fail
  refine (compare_v (n1) _ _ a b _ hp hq N1.out).mono ?_
  rintro e w9 ⟨rfl, hx⟩
  have hxw9 : Ext w8 w9 := hx
  clear hx
  replace hp := hp.ext hxw9
  replace hq := hq.ext hxw9
  replace hr := hr.ext hxw9
  replace hl := hl.ext hxw9
  replace hw := ext_trans hw hxw9
  clear hxw9
  go_wp2_with fail
  refine (same_b (n1 == 0) _ _ a b _ hp hq (by rw [← N1.out, cmpL_zero])).mono ?_
  rintro e w10 ⟨rfl, hx⟩
  have hxw10 : Ext w9 w10 := hx
  clear hx
  replace hp := hp.ext hxw10
  replace hq := hq.ext hxw10
  replace hr := hr.ext hxw10
  replace hl := hl.ext hxw10
  replace hw := ext_trans hw hxw10
  clear hxw10
  go_wp2_with fail
  refine (compare_v (n1) _ _ a b _ hp hq N1.out).mono ?_
  rintro e w11 ⟨rfl, hx⟩
  have hxw11 : Ext w10 w11 := hx
  clear hx
  replace hp := hp.ext hxw11
  replace hq := hq.ext hxw11
  replace hr := hr.ext hxw11
  replace hl := hl.ext hxw11
  replace hw := ext_trans hw hxw11
  clear hxw11
  go_wp2_with fail
  refine (compare_v (n2) _ _ b c _ hq hr N2.out).mono ?_
  rintro e w12 ⟨rfl, hx⟩
  have hxw12 : Ext w11 w12 := hx
  clear hx
  replace hp := hp.ext hxw12
  replace hq := hq.ext hxw12
  replace hr := hr.ext hxw12
  replace hl := hl.ext hxw12
  replace hw := ext_trans hw hxw12
  clear hxw12
  go_wp2_with fail
  refine (inserted_v _ _ a l (insL a l t) t _ hp hl (by omega) (by omega) B1.out rfl).mono ?_
  rintro e w13 ⟨va, rfl, ha, hx⟩
  have hxw13 : Ext w12 w13 := hx
  clear hx
  replace hp := hp.ext hxw13
  replace hq := hq.ext hxw13
  replace hr := hr.ext hxw13
  replace hl := hl.ext hxw13
  replace hw := ext_trans hw hxw13
  clear hxw13
  go_wp2_with fail
  refine (inserted_v _ _ b l (insL b l t) t _ hq hl (by omega) (by omega) B2.out rfl).mono ?_
  rintro e w14 ⟨vb, rfl, hb, hx⟩
  have hxw14 : Ext w13 w14 := hx
  clear hx
  replace hp := hp.ext hxw14
  replace hq := hq.ext hxw14
  replace hr := hr.ext hxw14
  replace hl := hl.ext hxw14
  replace ha := ha.ext hxw14
  replace hw := ext_trans hw hxw14
  clear hxw14
  go_wp2_with fail
  refine (compare_v (n1) _ _ (insL a l t) (insL b l t) _ ha hb (by rw [cmpL_ins, N1.out])).mono ?_
  rintro e w15 ⟨rfl, hx⟩
  have hxw15 : Ext w14 w15 := hx
  clear hx
  replace hp := hp.ext hxw15
  replace hq := hq.ext hxw15
  replace hr := hr.ext hxw15
  replace hl := hl.ext hxw15
  replace ha := ha.ext hxw15
  replace hb := hb.ext hxw15
  replace hw := ext_trans hw hxw15
  clear hxw15
  go_wp2_with fail
  refine (compare_v (n1) _ _ a b _ hp hq N1.out).mono ?_
  rintro e w16 ⟨rfl, hx⟩
  have hxw16 : Ext w15 w16 := hx
  clear hx
  replace hp := hp.ext hxw16
  replace hq := hq.ext hxw16
  replace hr := hr.ext hxw16
  replace hl := hl.ext hxw16
  replace ha := ha.ext hxw16
  replace hb := hb.ext hxw16
  replace hw := ext_trans hw hxw16
  clear hxw16
  clear ha hb
  go_wp2_with fail
  refine (deleted_v _ _ a l (delL a l t) t _ hp hl (by omega) (by omega) B1.out G1.out rfl).mono ?_
  rintro e w17 ⟨vc, rfl, hc, hx⟩
  have hxw17 : Ext w16 w17 := hx
  clear hx
  replace hp := hp.ext hxw17
  replace hq := hq.ext hxw17
  replace hr := hr.ext hxw17
  replace hl := hl.ext hxw17
  replace hw := ext_trans hw hxw17
  clear hxw17
  go_wp2_with fail
  refine (deleted_v _ _ b l (delL b l t) t _ hq hl (by omega) (by omega) B2.out G2.out rfl).mono ?_
  rintro e w18 ⟨vd, rfl, hd, hx⟩
  have hxw18 : Ext w17 w18 := hx
  clear hx
  replace hp := hp.ext hxw18
  replace hq := hq.ext hxw18
  replace hr := hr.ext hxw18
  replace hl := hl.ext hxw18
  replace hc := hc.ext hxw18
  replace hw := ext_trans hw hxw18
  clear hxw18
  go_wp2_with fail
  refine (compare_v (n1) _ _ (delL a l t) (delL b l t) _ hc hd (by rw [cmpL_del G1.out G2.out, N1.out])).mono ?_
  rintro e w19 ⟨rfl, hx⟩
  have hxw19 : Ext w18 w19 := hx
  clear hx
  replace hp := hp.ext hxw19
  replace hq := hq.ext hxw19
  replace hr := hr.ext hxw19
  replace hl := hl.ext hxw19
  replace hc := hc.ext hxw19
  replace hd := hd.ext hxw19
  replace hw := ext_trans hw hxw19
  clear hxw19
  go_wp2_with fail
  refine (compare_v (n1) _ _ a b _ hp hq N1.out).mono ?_
  rintro e w20 ⟨rfl, hx⟩
  have hxw20 : Ext w19 w20 := hx
  clear hx
  replace hp := hp.ext hxw20
  replace hq := hq.ext hxw20
  replace hr := hr.ext hxw20
  replace hl := hl.ext hxw20
  replace hc := hc.ext hxw20
  replace hd := hd.ext hxw20
  replace hw := ext_trans hw hxw20
  clear hxw20
  go_wp2_with fail
  go_ret
  exact ⟨by simp, hw⟩

set_option maxHeartbeats 4000000 in
theorem order_C11 (p q r s : Value) (a b c l : List Int) (t : Int) (w : World) (hp : Ints w p a) (hq : Ints w q b) (hr : Ints w r c) (hl : Ints w s l) (F1 : Hid ((!fineB a t 0) = false)) (F2 : Hid ((!fineB b t 0) = false)) (F3 : Hid ((!fineB c t 0) = false)) (F4 : Hid ((!fineB l t 0) = false))
    (za : a.length ≤ 200) (zb : b.length ≤ 200) (zl : l.length ≤ 200) (B1 : Hid (Bd 1099511627775 a)) (B2 : Hid (Bd 1099511627775 b))
    (n1 n2 n3 : Int) (N1 : Hid (cmpL a b = n1)) (c1 : -1 ≤ n1) (c2 : n1 ≤ 1) (c3 : n1 < 0) (N2 : Hid (cmpL b c = n2)) (c4 : n2 < 0) (N3 : Hid (cmpL a c = n3)) (c5 : n3 < 0) (G1 : Hid (gone a l t = true)) (G2 : Hid (gone b l t = true)) :
    Calls Try.prog 6 #[p, q, r, s, .int .i64 t] w fun e w' => e = .returned (.bool true) ∧ Ext w w' := by
  have e0 : (n1 != n1) = false := by simp
  have e1 : decide (n1 < 0) = true := by simp; omega
  have e2 : decide (n2 < 0) = true := by simp; omega
  have e3 : decide (0 ≤ n3) = false := by simp; omega
  go_enter Try.func6, Try.ntmps6
  go_wp2_with fail
  refine (awake_any w).mono ?_
  rintro e w1 ⟨rfl, hw⟩
  replace hp := hp.ext hw
  replace hq := hq.ext hw
  replace hr := hr.ext hw
  replace hl := hl.ext hw
  go_wp2_with fail
  refine (great_b _ _ a t 0 _ hp F1.out).mono ?_
  rintro e w2 ⟨rfl, hx⟩
  replace hp := hp.ext hx
  replace hq := hq.ext hx
  replace hr := hr.ext hx
  replace hl := hl.ext hx
  replace hw := ext_trans hw hx
  clear hx
  go_wp2_with fail
  refine (great_b _ _ b t 0 _ hq F2.out).mono ?_
  rintro e w3 ⟨rfl, hx⟩
  replace hp := hp.ext hx
  replace hq := hq.ext hx
  replace hr := hr.ext hx
  replace hl := hl.ext hx
  replace hw := ext_trans hw hx
  clear hx
  go_wp2_with fail
  refine (great_b _ _ c t 0 _ hr F3.out).mono ?_
  rintro e w4 ⟨rfl, hx⟩
  replace hp := hp.ext hx
  replace hq := hq.ext hx
  replace hr := hr.ext hx
  replace hl := hl.ext hx
  replace hw := ext_trans hw hx
  clear hx
  go_wp2_with fail
  refine (great_b _ _ l t 0 _ hl F4.out).mono ?_
  rintro e w5 ⟨rfl, hx⟩
  replace hp := hp.ext hx
  replace hq := hq.ext hx
  replace hr := hr.ext hx
  replace hl := hl.ext hx
  replace hw := ext_trans hw hx
  clear hx
  go_wp2_with fail
  refine (compare_v (n1) _ _ a b _ hp hq N1.out).mono ?_
  rintro e w6 ⟨rfl, hx⟩
  have hxw6 : Ext w5 w6 := hx
  clear hx
  replace hp := hp.ext hxw6
  replace hq := hq.ext hxw6
  replace hr := hr.ext hxw6
  replace hl := hl.ext hxw6
  replace hw := ext_trans hw hxw6
  clear hxw6
  go_wp2_with fail
  refine (compare_v (-n1) _ _ b a _ hq hp (by rw [cmpL_neg, N1.out])).mono ?_
  rintro e w7 ⟨rfl, hx⟩
  have hxw7 : Ext w6 w7 := hx
  clear hx
  replace hp := hp.ext hxw7
  replace hq := hq.ext hxw7
  replace hr := hr.ext hxw7
  replace hl := hl.ext hxw7
  replace hw := ext_trans hw hxw7
  clear hxw7
  go_wp2_with fail
  refine (compare_v (0) _ _ a a _ hp hp (cmpL_self a)).mono ?_
  rintro e w8 ⟨rfl, hx⟩
  have hxw8 : Ext w7 w8 := hx
  clear hx
  replace hp := hp.ext hxw8
  replace hq := hq.ext hxw8
  replace hr := hr.ext hxw8
  replace hl := hl.ext hxw8
  replace hw := ext_trans hw hxw8
  clear hxw8
  go_wp2_with fail
  refine (compare_v (n1) _ _ a b _ hp hq N1.out).mono ?_
  rintro e w9 ⟨rfl, hx⟩
  have hxw9 : Ext w8 w9 := hx
  clear hx
  replace hp := hp.ext hxw9
  replace hq := hq.ext hxw9
  replace hr := hr.ext hxw9
  replace hl := hl.ext hxw9
  replace hw := ext_trans hw hxw9
  clear hxw9
  go_wp2_with fail
  refine (same_b (n1 == 0) _ _ a b _ hp hq (by rw [← N1.out, cmpL_zero])).mono ?_
  rintro e w10 ⟨rfl, hx⟩
  have hxw10 : Ext w9 w10 := hx
  clear hx
  replace hp := hp.ext hxw10
  replace hq := hq.ext hxw10
  replace hr := hr.ext hxw10
  replace hl := hl.ext hxw10
  replace hw := ext_trans hw hxw10
  clear hxw10
  go_wp2_with fail
  refine (compare_v (n1) _ _ a b _ hp hq N1.out).mono ?_
  rintro e w11 ⟨rfl, hx⟩
  have hxw11 : Ext w10 w11 := hx
  clear hx
  replace hp := hp.ext hxw11
  replace hq := hq.ext hxw11
  replace hr := hr.ext hxw11
  replace hl := hl.ext hxw11
  replace hw := ext_trans hw hxw11
  clear hxw11
  go_wp2_with fail
  refine (compare_v (n2) _ _ b c _ hq hr N2.out).mono ?_
  rintro e w12 ⟨rfl, hx⟩
  have hxw12 : Ext w11 w12 := hx
  clear hx
  replace hp := hp.ext hxw12
  replace hq := hq.ext hxw12
  replace hr := hr.ext hxw12
  replace hl := hl.ext hxw12
  replace hw := ext_trans hw hxw12
  clear hxw12
  go_wp2_with fail
  refine (compare_v (n3) _ _ a c _ hp hr N3.out).mono ?_
  rintro e w13 ⟨rfl, hx⟩
  have hxw13 : Ext w12 w13 := hx
  clear hx
  replace hp := hp.ext hxw13
  replace hq := hq.ext hxw13
  replace hr := hr.ext hxw13
  replace hl := hl.ext hxw13
  replace hw := ext_trans hw hxw13
  clear hxw13
  go_wp2_with fail
  refine (inserted_v _ _ a l (insL a l t) t _ hp hl (by omega) (by omega) B1.out rfl).mono ?_
  rintro e w14 ⟨va, rfl, ha, hx⟩
  have hxw14 : Ext w13 w14 := hx
  clear hx
  replace hp := hp.ext hxw14
  replace hq := hq.ext hxw14
  replace hr := hr.ext hxw14
  replace hl := hl.ext hxw14
  replace hw := ext_trans hw hxw14
  clear hxw14
  go_wp2_with fail
  refine (inserted_v _ _ b l (insL b l t) t _ hq hl (by omega) (by omega) B2.out rfl).mono ?_
  rintro e w15 ⟨vb, rfl, hb, hx⟩
  have hxw15 : Ext w14 w15 := hx
  clear hx
  replace hp := hp.ext hxw15
  replace hq := hq.ext hxw15
  replace hr := hr.ext hxw15
  replace hl := hl.ext hxw15
  replace ha := ha.ext hxw15
  replace hw := ext_trans hw hxw15
  clear hxw15
  go_wp2_with fail
  refine (compare_v (n1) _ _ (insL a l t) (insL b l t) _ ha hb (by rw [cmpL_ins, N1.out])).mono ?_
  rintro e w16 ⟨rfl, hx⟩
  have hxw16 : Ext w15 w16 := hx
  clear hx
  replace hp := hp.ext hxw16
  replace hq := hq.ext hxw16
  replace hr := hr.ext hxw16
  replace hl := hl.ext hxw16
  replace ha := ha.ext hxw16
  replace hb := hb.ext hxw16
  replace hw := ext_trans hw hxw16
  clear hxw16
  go_wp2_with fail
  refine (compare_v (n1) _ _ a b _ hp hq N1.out).mono ?_
  rintro e w17 ⟨rfl, hx⟩
  have hxw17 : Ext w16 w17 := hx
  clear hx
  replace hp := hp.ext hxw17
  replace hq := hq.ext hxw17
  replace hr := hr.ext hxw17
  replace hl := hl.ext hxw17
  replace ha := ha.ext hxw17
  replace hb := hb.ext hxw17
  replace hw := ext_trans hw hxw17
  clear hxw17
  clear ha hb
  go_wp2_with fail
  refine (deleted_gone _ _ a l t _ hp hl G1.out (by omega) (by omega)).mono ?_
  rintro e w18 ⟨rfl, hx⟩
  have hxw18 : Ext w17 w18 := hx
  clear hx
  replace hp := hp.ext hxw18
  replace hq := hq.ext hxw18
  replace hr := hr.ext hxw18
  replace hl := hl.ext hxw18
  replace hw := ext_trans hw hxw18
  clear hxw18
  go_wp2_with fail
  refine (deleted_gone _ _ b l t _ hq hl G2.out (by omega) (by omega)).mono ?_
  rintro e w19 ⟨rfl, hx⟩
  have hxw19 : Ext w18 w19 := hx
  clear hx
  replace hp := hp.ext hxw19
  replace hq := hq.ext hxw19
  replace hr := hr.ext hxw19
  replace hl := hl.ext hxw19
  replace hw := ext_trans hw hxw19
  clear hxw19
  go_wp2_with fail
  go_ret
  exact ⟨by simp, hw⟩

set_option maxHeartbeats 4000000 in
theorem order_C10 (p q r s : Value) (a b c l : List Int) (t : Int) (w : World) (hp : Ints w p a) (hq : Ints w q b) (hr : Ints w r c) (hl : Ints w s l) (F1 : Hid ((!fineB a t 0) = false)) (F2 : Hid ((!fineB b t 0) = false)) (F3 : Hid ((!fineB c t 0) = false)) (F4 : Hid ((!fineB l t 0) = false))
    (za : a.length ≤ 200) (zb : b.length ≤ 200) (zl : l.length ≤ 200) (B1 : Hid (Bd 1099511627775 a)) (B2 : Hid (Bd 1099511627775 b))
    (n1 n2 n3 : Int) (N1 : Hid (cmpL a b = n1)) (c1 : -1 ≤ n1) (c2 : n1 ≤ 1) (c3 : n1 < 0) (N2 : Hid (cmpL b c = n2)) (c4 : n2 < 0) (N3 : Hid (cmpL a c = n3)) (c5 : n3 < 0) (G1 : Hid (gone a l t = true)) (G2 : Hid (gone b l t = false)) :
    Calls Try.prog 6 #[p, q, r, s, .int .i64 t] w fun e w' => e = .returned (.bool true) ∧ Ext w w' := by
  have e0 : (n1 != n1) = false := by simp
  have e1 : decide (n1 < 0) = true := by simp; omega
  have e2 : decide (n2 < 0) = true := by simp; omega
  have e3 : decide (0 ≤ n3) = false := by simp; omega
  go_enter Try.func6, Try.ntmps6
  go_wp2_with fail
  refine (awake_any w).mono ?_
  rintro e w1 ⟨rfl, hw⟩
  replace hp := hp.ext hw
  replace hq := hq.ext hw
  replace hr := hr.ext hw
  replace hl := hl.ext hw
  go_wp2_with fail
  refine (great_b _ _ a t 0 _ hp F1.out).mono ?_
  rintro e w2 ⟨rfl, hx⟩
  replace hp := hp.ext hx
  replace hq := hq.ext hx
  replace hr := hr.ext hx
  replace hl := hl.ext hx
  replace hw := ext_trans hw hx
  clear hx
  go_wp2_with fail
  refine (great_b _ _ b t 0 _ hq F2.out).mono ?_
  rintro e w3 ⟨rfl, hx⟩
  replace hp := hp.ext hx
  replace hq := hq.ext hx
  replace hr := hr.ext hx
  replace hl := hl.ext hx
  replace hw := ext_trans hw hx
  clear hx
  go_wp2_with fail
  refine (great_b _ _ c t 0 _ hr F3.out).mono ?_
  rintro e w4 ⟨rfl, hx⟩
  replace hp := hp.ext hx
  replace hq := hq.ext hx
  replace hr := hr.ext hx
  replace hl := hl.ext hx
  replace hw := ext_trans hw hx
  clear hx
  go_wp2_with fail
  refine (great_b _ _ l t 0 _ hl F4.out).mono ?_
  rintro e w5 ⟨rfl, hx⟩
  replace hp := hp.ext hx
  replace hq := hq.ext hx
  replace hr := hr.ext hx
  replace hl := hl.ext hx
  replace hw := ext_trans hw hx
  clear hx
  go_wp2_with fail
  refine (compare_v (n1) _ _ a b _ hp hq N1.out).mono ?_
  rintro e w6 ⟨rfl, hx⟩
  have hxw6 : Ext w5 w6 := hx
  clear hx
  replace hp := hp.ext hxw6
  replace hq := hq.ext hxw6
  replace hr := hr.ext hxw6
  replace hl := hl.ext hxw6
  replace hw := ext_trans hw hxw6
  clear hxw6
  go_wp2_with fail
  refine (compare_v (-n1) _ _ b a _ hq hp (by rw [cmpL_neg, N1.out])).mono ?_
  rintro e w7 ⟨rfl, hx⟩
  have hxw7 : Ext w6 w7 := hx
  clear hx
  replace hp := hp.ext hxw7
  replace hq := hq.ext hxw7
  replace hr := hr.ext hxw7
  replace hl := hl.ext hxw7
  replace hw := ext_trans hw hxw7
  clear hxw7
  go_wp2_with fail
  refine (compare_v (0) _ _ a a _ hp hp (cmpL_self a)).mono ?_
  rintro e w8 ⟨rfl, hx⟩
  have hxw8 : Ext w7 w8 := hx
  clear hx
  replace hp := hp.ext hxw8
  replace hq := hq.ext hxw8
  replace hr := hr.ext hxw8
  replace hl := hl.ext hxw8
  replace hw := ext_trans hw hxw8
  clear hxw8
  go_wp2_with fail
  refine (compare_v (n1) _ _ a b _ hp hq N1.out).mono ?_
  rintro e w9 ⟨rfl, hx⟩
  have hxw9 : Ext w8 w9 := hx
  clear hx
  replace hp := hp.ext hxw9
  replace hq := hq.ext hxw9
  replace hr := hr.ext hxw9
  replace hl := hl.ext hxw9
  replace hw := ext_trans hw hxw9
  clear hxw9
  go_wp2_with fail
  refine (same_b (n1 == 0) _ _ a b _ hp hq (by rw [← N1.out, cmpL_zero])).mono ?_
  rintro e w10 ⟨rfl, hx⟩
  have hxw10 : Ext w9 w10 := hx
  clear hx
  replace hp := hp.ext hxw10
  replace hq := hq.ext hxw10
  replace hr := hr.ext hxw10
  replace hl := hl.ext hxw10
  replace hw := ext_trans hw hxw10
  clear hxw10
  go_wp2_with fail
  refine (compare_v (n1) _ _ a b _ hp hq N1.out).mono ?_
  rintro e w11 ⟨rfl, hx⟩
  have hxw11 : Ext w10 w11 := hx
  clear hx
  replace hp := hp.ext hxw11
  replace hq := hq.ext hxw11
  replace hr := hr.ext hxw11
  replace hl := hl.ext hxw11
  replace hw := ext_trans hw hxw11
  clear hxw11
  go_wp2_with fail
  refine (compare_v (n2) _ _ b c _ hq hr N2.out).mono ?_
  rintro e w12 ⟨rfl, hx⟩
  have hxw12 : Ext w11 w12 := hx
  clear hx
  replace hp := hp.ext hxw12
  replace hq := hq.ext hxw12
  replace hr := hr.ext hxw12
  replace hl := hl.ext hxw12
  replace hw := ext_trans hw hxw12
  clear hxw12
  go_wp2_with fail
  refine (compare_v (n3) _ _ a c _ hp hr N3.out).mono ?_
  rintro e w13 ⟨rfl, hx⟩
  have hxw13 : Ext w12 w13 := hx
  clear hx
  replace hp := hp.ext hxw13
  replace hq := hq.ext hxw13
  replace hr := hr.ext hxw13
  replace hl := hl.ext hxw13
  replace hw := ext_trans hw hxw13
  clear hxw13
  go_wp2_with fail
  refine (inserted_v _ _ a l (insL a l t) t _ hp hl (by omega) (by omega) B1.out rfl).mono ?_
  rintro e w14 ⟨va, rfl, ha, hx⟩
  have hxw14 : Ext w13 w14 := hx
  clear hx
  replace hp := hp.ext hxw14
  replace hq := hq.ext hxw14
  replace hr := hr.ext hxw14
  replace hl := hl.ext hxw14
  replace hw := ext_trans hw hxw14
  clear hxw14
  go_wp2_with fail
  refine (inserted_v _ _ b l (insL b l t) t _ hq hl (by omega) (by omega) B2.out rfl).mono ?_
  rintro e w15 ⟨vb, rfl, hb, hx⟩
  have hxw15 : Ext w14 w15 := hx
  clear hx
  replace hp := hp.ext hxw15
  replace hq := hq.ext hxw15
  replace hr := hr.ext hxw15
  replace hl := hl.ext hxw15
  replace ha := ha.ext hxw15
  replace hw := ext_trans hw hxw15
  clear hxw15
  go_wp2_with fail
  refine (compare_v (n1) _ _ (insL a l t) (insL b l t) _ ha hb (by rw [cmpL_ins, N1.out])).mono ?_
  rintro e w16 ⟨rfl, hx⟩
  have hxw16 : Ext w15 w16 := hx
  clear hx
  replace hp := hp.ext hxw16
  replace hq := hq.ext hxw16
  replace hr := hr.ext hxw16
  replace hl := hl.ext hxw16
  replace ha := ha.ext hxw16
  replace hb := hb.ext hxw16
  replace hw := ext_trans hw hxw16
  clear hxw16
  go_wp2_with fail
  refine (compare_v (n1) _ _ a b _ hp hq N1.out).mono ?_
  rintro e w17 ⟨rfl, hx⟩
  have hxw17 : Ext w16 w17 := hx
  clear hx
  replace hp := hp.ext hxw17
  replace hq := hq.ext hxw17
  replace hr := hr.ext hxw17
  replace hl := hl.ext hxw17
  replace ha := ha.ext hxw17
  replace hb := hb.ext hxw17
  replace hw := ext_trans hw hxw17
  clear hxw17
  clear ha hb
  go_wp2_with fail
  refine (deleted_gone _ _ a l t _ hp hl G1.out (by omega) (by omega)).mono ?_
  rintro e w18 ⟨rfl, hx⟩
  have hxw18 : Ext w17 w18 := hx
  clear hx
  replace hp := hp.ext hxw18
  replace hq := hq.ext hxw18
  replace hr := hr.ext hxw18
  replace hl := hl.ext hxw18
  replace hw := ext_trans hw hxw18
  clear hxw18
  go_wp2_with fail
  refine (deleted_v _ _ b l (delL b l t) t _ hq hl (by omega) (by omega) B2.out G2.out rfl).mono ?_
  rintro e w19 ⟨vd, rfl, hd, hx⟩
  have hxw19 : Ext w18 w19 := hx
  clear hx
  replace hp := hp.ext hxw19
  replace hq := hq.ext hxw19
  replace hr := hr.ext hxw19
  replace hl := hl.ext hxw19
  replace hw := ext_trans hw hxw19
  clear hxw19
  go_wp2_with fail
  go_ret
  exact ⟨by simp, hw⟩

set_option maxHeartbeats 4000000 in
theorem order_C01 (p q r s : Value) (a b c l : List Int) (t : Int) (w : World) (hp : Ints w p a) (hq : Ints w q b) (hr : Ints w r c) (hl : Ints w s l) (F1 : Hid ((!fineB a t 0) = false)) (F2 : Hid ((!fineB b t 0) = false)) (F3 : Hid ((!fineB c t 0) = false)) (F4 : Hid ((!fineB l t 0) = false))
    (za : a.length ≤ 200) (zb : b.length ≤ 200) (zl : l.length ≤ 200) (B1 : Hid (Bd 1099511627775 a)) (B2 : Hid (Bd 1099511627775 b))
    (n1 n2 n3 : Int) (N1 : Hid (cmpL a b = n1)) (c1 : -1 ≤ n1) (c2 : n1 ≤ 1) (c3 : n1 < 0) (N2 : Hid (cmpL b c = n2)) (c4 : n2 < 0) (N3 : Hid (cmpL a c = n3)) (c5 : n3 < 0) (G1 : Hid (gone a l t = false)) (G2 : Hid (gone b l t = true)) :
    Calls Try.prog 6 #[p, q, r, s, .int .i64 t] w fun e w' => e = .returned (.bool true) ∧ Ext w w' := by
  have e0 : (n1 != n1) = false := by simp
  have e1 : decide (n1 < 0) = true := by simp; omega
  have e2 : decide (n2 < 0) = true := by simp; omega
  have e3 : decide (0 ≤ n3) = false := by simp; omega
  go_enter Try.func6, Try.ntmps6
  go_wp2_with fail
  refine (awake_any w).mono ?_
  rintro e w1 ⟨rfl, hw⟩
  replace hp := hp.ext hw
  replace hq := hq.ext hw
  replace hr := hr.ext hw
  replace hl := hl.ext hw
  go_wp2_with fail
  refine (great_b _ _ a t 0 _ hp F1.out).mono ?_
  rintro e w2 ⟨rfl, hx⟩
  replace hp := hp.ext hx
  replace hq := hq.ext hx
  replace hr := hr.ext hx
  replace hl := hl.ext hx
  replace hw := ext_trans hw hx
  clear hx
  go_wp2_with fail
  refine (great_b _ _ b t 0 _ hq F2.out).mono ?_
  rintro e w3 ⟨rfl, hx⟩
  replace hp := hp.ext hx
  replace hq := hq.ext hx
  replace hr := hr.ext hx
  replace hl := hl.ext hx
  replace hw := ext_trans hw hx
  clear hx
  go_wp2_with fail
  refine (great_b _ _ c t 0 _ hr F3.out).mono ?_
  rintro e w4 ⟨rfl, hx⟩
  replace hp := hp.ext hx
  replace hq := hq.ext hx
  replace hr := hr.ext hx
  replace hl := hl.ext hx
  replace hw := ext_trans hw hx
  clear hx
  go_wp2_with fail
  refine (great_b _ _ l t 0 _ hl F4.out).mono ?_
  rintro e w5 ⟨rfl, hx⟩
  replace hp := hp.ext hx
  replace hq := hq.ext hx
  replace hr := hr.ext hx
  replace hl := hl.ext hx
  replace hw := ext_trans hw hx
  clear hx
  go_wp2_with fail
  refine (compare_v (n1) _ _ a b _ hp hq N1.out).mono ?_
  rintro e w6 ⟨rfl, hx⟩
  have hxw6 : Ext w5 w6 := hx
  clear hx
  replace hp := hp.ext hxw6
  replace hq := hq.ext hxw6
  replace hr := hr.ext hxw6
  replace hl := hl.ext hxw6
  replace hw := ext_trans hw hxw6
  clear hxw6
  go_wp2_with fail
  refine (compare_v (-n1) _ _ b a _ hq hp (by rw [cmpL_neg, N1.out])).mono ?_
  rintro e w7 ⟨rfl, hx⟩
  have hxw7 : Ext w6 w7 := hx
  clear hx
  replace hp := hp.ext hxw7
  replace hq := hq.ext hxw7
  replace hr := hr.ext hxw7
  replace hl := hl.ext hxw7
  replace hw := ext_trans hw hxw7
  clear hxw7
  go_wp2_with fail
  refine (compare_v (0) _ _ a a _ hp hp (cmpL_self a)).mono ?_
  rintro e w8 ⟨rfl, hx⟩
  have hxw8 : Ext w7 w8 := hx
  clear hx
  replace hp := hp.ext hxw8
  replace hq := hq.ext hxw8
  replace hr := hr.ext hxw8
  replace hl := hl.ext hxw8
  replace hw := ext_trans hw hxw8
  clear hxw8
  go_wp2_with fail
  refine (compare_v (n1) _ _ a b _ hp hq N1.out).mono ?_
  rintro e w9 ⟨rfl, hx⟩
  have hxw9 : Ext w8 w9 := hx
  clear hx
  replace hp := hp.ext hxw9
  replace hq := hq.ext hxw9
  replace hr := hr.ext hxw9
  replace hl := hl.ext hxw9
  replace hw := ext_trans hw hxw9
  clear hxw9
  go_wp2_with fail
  refine (same_b (n1 == 0) _ _ a b _ hp hq (by rw [← N1.out, cmpL_zero])).mono ?_
  rintro e w10 ⟨rfl, hx⟩
  have hxw10 : Ext w9 w10 := hx
  clear hx
  replace hp := hp.ext hxw10
  replace hq := hq.ext hxw10
  replace hr := hr.ext hxw10
  replace hl := hl.ext hxw10
  replace hw := ext_trans hw hxw10
  clear hxw10
  go_wp2_with fail
  refine (compare_v (n1) _ _ a b _ hp hq N1.out).mono ?_
  rintro e w11 ⟨rfl, hx⟩
  have hxw11 : Ext w10 w11 := hx
  clear hx
  replace hp := hp.ext hxw11
  replace hq := hq.ext hxw11
  replace hr := hr.ext hxw11
  replace hl := hl.ext hxw11
  replace hw := ext_trans hw hxw11
  clear hxw11
  go_wp2_with fail
  refine (compare_v (n2) _ _ b c _ hq hr N2.out).mono ?_
  rintro e w12 ⟨rfl, hx⟩
  have hxw12 : Ext w11 w12 := hx
  clear hx
  replace hp := hp.ext hxw12
  replace hq := hq.ext hxw12
  replace hr := hr.ext hxw12
  replace hl := hl.ext hxw12
  replace hw := ext_trans hw hxw12
  clear hxw12
  go_wp2_with fail
  refine (compare_v (n3) _ _ a c _ hp hr N3.out).mono ?_
  rintro e w13 ⟨rfl, hx⟩
  have hxw13 : Ext w12 w13 := hx
  clear hx
  replace hp := hp.ext hxw13
  replace hq := hq.ext hxw13
  replace hr := hr.ext hxw13
  replace hl := hl.ext hxw13
  replace hw := ext_trans hw hxw13
  clear hxw13
  go_wp2_with fail
  refine (inserted_v _ _ a l (insL a l t) t _ hp hl (by omega) (by omega) B1.out rfl).mono ?_
  rintro e w14 ⟨va, rfl, ha, hx⟩
  have hxw14 : Ext w13 w14 := hx
  clear hx
  replace hp := hp.ext hxw14
  replace hq := hq.ext hxw14
  replace hr := hr.ext hxw14
  replace hl := hl.ext hxw14
  replace hw := ext_trans hw hxw14
  clear hxw14
  go_wp2_with fail
  refine (inserted_v _ _ b l (insL b l t) t _ hq hl (by omega) (by omega) B2.out rfl).mono ?_
  rintro e w15 ⟨vb, rfl, hb, hx⟩
  have hxw15 : Ext w14 w15 := hx
  clear hx
  replace hp := hp.ext hxw15
  replace hq := hq.ext hxw15
  replace hr := hr.ext hxw15
  replace hl := hl.ext hxw15
  replace ha := ha.ext hxw15
  replace hw := ext_trans hw hxw15
  clear hxw15
  go_wp2_with fail
  refine (compare_v (n1) _ _ (insL a l t) (insL b l t) _ ha hb (by rw [cmpL_ins, N1.out])).mono ?_
  rintro e w16 ⟨rfl, hx⟩
  have hxw16 : Ext w15 w16 := hx
  clear hx
  replace hp := hp.ext hxw16
  replace hq := hq.ext hxw16
  replace hr := hr.ext hxw16
  replace hl := hl.ext hxw16
  replace ha := ha.ext hxw16
  replace hb := hb.ext hxw16
  replace hw := ext_trans hw hxw16
  clear hxw16
  go_wp2_with fail
  refine (compare_v (n1) _ _ a b _ hp hq N1.out).mono ?_
  rintro e w17 ⟨rfl, hx⟩
  have hxw17 : Ext w16 w17 := hx
  clear hx
  replace hp := hp.ext hxw17
  replace hq := hq.ext hxw17
  replace hr := hr.ext hxw17
  replace hl := hl.ext hxw17
  replace ha := ha.ext hxw17
  replace hb := hb.ext hxw17
  replace hw := ext_trans hw hxw17
  clear hxw17
  clear ha hb
  go_wp2_with fail
  refine (deleted_v _ _ a l (delL a l t) t _ hp hl (by omega) (by omega) B1.out G1.out rfl).mono ?_
  rintro e w18 ⟨vc, rfl, hc, hx⟩
  have hxw18 : Ext w17 w18 := hx
  clear hx
  replace hp := hp.ext hxw18
  replace hq := hq.ext hxw18
  replace hr := hr.ext hxw18
  replace hl := hl.ext hxw18
  replace hw := ext_trans hw hxw18
  clear hxw18
  go_wp2_with fail
  refine (deleted_gone _ _ b l t _ hq hl G2.out (by omega) (by omega)).mono ?_
  rintro e w19 ⟨rfl, hx⟩
  have hxw19 : Ext w18 w19 := hx
  clear hx
  replace hp := hp.ext hxw19
  replace hq := hq.ext hxw19
  replace hr := hr.ext hxw19
  replace hl := hl.ext hxw19
  replace hc := hc.ext hxw19
  replace hw := ext_trans hw hxw19
  clear hxw19
  go_wp2_with fail
  go_ret
  exact ⟨by simp, hw⟩

set_option maxHeartbeats 4000000 in
theorem order_C00 (p q r s : Value) (a b c l : List Int) (t : Int) (w : World) (hp : Ints w p a) (hq : Ints w q b) (hr : Ints w r c) (hl : Ints w s l) (F1 : Hid ((!fineB a t 0) = false)) (F2 : Hid ((!fineB b t 0) = false)) (F3 : Hid ((!fineB c t 0) = false)) (F4 : Hid ((!fineB l t 0) = false))
    (za : a.length ≤ 200) (zb : b.length ≤ 200) (zl : l.length ≤ 200) (B1 : Hid (Bd 1099511627775 a)) (B2 : Hid (Bd 1099511627775 b))
    (n1 n2 n3 : Int) (N1 : Hid (cmpL a b = n1)) (c1 : -1 ≤ n1) (c2 : n1 ≤ 1) (c3 : n1 < 0) (N2 : Hid (cmpL b c = n2)) (c4 : n2 < 0) (N3 : Hid (cmpL a c = n3)) (c5 : n3 < 0) (G1 : Hid (gone a l t = false)) (G2 : Hid (gone b l t = false)) :
    Calls Try.prog 6 #[p, q, r, s, .int .i64 t] w fun e w' => e = .returned (.bool true) ∧ Ext w w' := by
  have e0 : (n1 != n1) = false := by simp
  have e1 : decide (n1 < 0) = true := by simp; omega
  have e2 : decide (n2 < 0) = true := by simp; omega
  have e3 : decide (0 ≤ n3) = false := by simp; omega
  go_enter Try.func6, Try.ntmps6
  go_wp2_with fail
  refine (awake_any w).mono ?_
  rintro e w1 ⟨rfl, hw⟩
  replace hp := hp.ext hw
  replace hq := hq.ext hw
  replace hr := hr.ext hw
  replace hl := hl.ext hw
  go_wp2_with fail
  refine (great_b _ _ a t 0 _ hp F1.out).mono ?_
  rintro e w2 ⟨rfl, hx⟩
  replace hp := hp.ext hx
  replace hq := hq.ext hx
  replace hr := hr.ext hx
  replace hl := hl.ext hx
  replace hw := ext_trans hw hx
  clear hx
  go_wp2_with fail
  refine (great_b _ _ b t 0 _ hq F2.out).mono ?_
  rintro e w3 ⟨rfl, hx⟩
  replace hp := hp.ext hx
  replace hq := hq.ext hx
  replace hr := hr.ext hx
  replace hl := hl.ext hx
  replace hw := ext_trans hw hx
  clear hx
  go_wp2_with fail
  refine (great_b _ _ c t 0 _ hr F3.out).mono ?_
  rintro e w4 ⟨rfl, hx⟩
  replace hp := hp.ext hx
  replace hq := hq.ext hx
  replace hr := hr.ext hx
  replace hl := hl.ext hx
  replace hw := ext_trans hw hx
  clear hx
  go_wp2_with fail
  refine (great_b _ _ l t 0 _ hl F4.out).mono ?_
  rintro e w5 ⟨rfl, hx⟩
  replace hp := hp.ext hx
  replace hq := hq.ext hx
  replace hr := hr.ext hx
  replace hl := hl.ext hx
  replace hw := ext_trans hw hx
  clear hx
  go_wp2_with fail
  refine (compare_v (n1) _ _ a b _ hp hq N1.out).mono ?_
  rintro e w6 ⟨rfl, hx⟩
  have hxw6 : Ext w5 w6 := hx
  clear hx
  replace hp := hp.ext hxw6
  replace hq := hq.ext hxw6
  replace hr := hr.ext hxw6
  replace hl := hl.ext hxw6
  replace hw := ext_trans hw hxw6
  clear hxw6
  go_wp2_with fail
  refine (compare_v (-n1) _ _ b a _ hq hp (by rw [cmpL_neg, N1.out])).mono ?_
  rintro e w7 ⟨rfl, hx⟩
  have hxw7 : Ext w6 w7 := hx
  clear hx
  replace hp := hp.ext hxw7
  replace hq := hq.ext hxw7
  replace hr := hr.ext hxw7
  replace hl := hl.ext hxw7
  replace hw := ext_trans hw hxw7
  clear hxw7
  go_wp2_with fail
  refine (compare_v (0) _ _ a a _ hp hp (cmpL_self a)).mono ?_
  rintro e w8 ⟨rfl, hx⟩
  have hxw8 : Ext w7 w8 := hx
  clear hx
  replace hp := hp.ext hxw8
  replace hq := hq.ext hxw8
  replace hr := hr.ext hxw8
  replace hl := hl.ext hxw8
  replace hw := ext_trans hw hxw8
  clear hxw8
  go_wp2_with fail
  refine (compare_v (n1) _ _ a b _ hp hq N1.out).mono ?_
  rintro e w9 ⟨rfl, hx⟩
  have hxw9 : Ext w8 w9 := hx
  clear hx
  replace hp := hp.ext hxw9
  replace hq := hq.ext hxw9
  replace hr := hr.ext hxw9
  replace hl := hl.ext hxw9
  replace hw := ext_trans hw hxw9
  clear hxw9
  go_wp2_with fail
  refine (same_b (n1 == 0) _ _ a b _ hp hq (by rw [← N1.out, cmpL_zero])).mono ?_
  rintro e w10 ⟨rfl, hx⟩
  have hxw10 : Ext w9 w10 := hx
  clear hx
  replace hp := hp.ext hxw10
  replace hq := hq.ext hxw10
  replace hr := hr.ext hxw10
  replace hl := hl.ext hxw10
  replace hw := ext_trans hw hxw10
  clear hxw10
  go_wp2_with fail
  refine (compare_v (n1) _ _ a b _ hp hq N1.out).mono ?_
  rintro e w11 ⟨rfl, hx⟩
  have hxw11 : Ext w10 w11 := hx
  clear hx
  replace hp := hp.ext hxw11
  replace hq := hq.ext hxw11
  replace hr := hr.ext hxw11
  replace hl := hl.ext hxw11
  replace hw := ext_trans hw hxw11
  clear hxw11
  go_wp2_with fail
  refine (compare_v (n2) _ _ b c _ hq hr N2.out).mono ?_
  rintro e w12 ⟨rfl, hx⟩
  have hxw12 : Ext w11 w12 := hx
  clear hx
  replace hp := hp.ext hxw12
  replace hq := hq.ext hxw12
  replace hr := hr.ext hxw12
  replace hl := hl.ext hxw12
  replace hw := ext_trans hw hxw12
  clear hxw12
  go_wp2_with fail
  refine (compare_v (n3) _ _ a c _ hp hr N3.out).mono ?_
  rintro e w13 ⟨rfl, hx⟩
  have hxw13 : Ext w12 w13 := hx
  clear hx
  replace hp := hp.ext hxw13
  replace hq := hq.ext hxw13
  replace hr := hr.ext hxw13
  replace hl := hl.ext hxw13
  replace hw := ext_trans hw hxw13
  clear hxw13
  go_wp2_with fail
  refine (inserted_v _ _ a l (insL a l t) t _ hp hl (by omega) (by omega) B1.out rfl).mono ?_
  rintro e w14 ⟨va, rfl, ha, hx⟩
  have hxw14 : Ext w13 w14 := hx
  clear hx
  replace hp := hp.ext hxw14
  replace hq := hq.ext hxw14
  replace hr := hr.ext hxw14
  replace hl := hl.ext hxw14
  replace hw := ext_trans hw hxw14
  clear hxw14
  go_wp2_with fail
  refine (inserted_v _ _ b l (insL b l t) t _ hq hl (by omega) (by omega) B2.out rfl).mono ?_
  rintro e w15 ⟨vb, rfl, hb, hx⟩
  have hxw15 : Ext w14 w15 := hx
  clear hx
  replace hp := hp.ext hxw15
  replace hq := hq.ext hxw15
  replace hr := hr.ext hxw15
  replace hl := hl.ext hxw15
  replace ha := ha.ext hxw15
  replace hw := ext_trans hw hxw15
  clear hxw15
  go_wp2_with fail
  refine (compare_v (n1) _ _ (insL a l t) (insL b l t) _ ha hb (by rw [cmpL_ins, N1.out])).mono ?_
  rintro e w16 ⟨rfl, hx⟩
  have hxw16 : Ext w15 w16 := hx
  clear hx
  replace hp := hp.ext hxw16
  replace hq := hq.ext hxw16
  replace hr := hr.ext hxw16
  replace hl := hl.ext hxw16
  replace ha := ha.ext hxw16
  replace hb := hb.ext hxw16
  replace hw := ext_trans hw hxw16
  clear hxw16
  go_wp2_with fail
  refine (compare_v (n1) _ _ a b _ hp hq N1.out).mono ?_
  rintro e w17 ⟨rfl, hx⟩
  have hxw17 : Ext w16 w17 := hx
  clear hx
  replace hp := hp.ext hxw17
  replace hq := hq.ext hxw17
  replace hr := hr.ext hxw17
  replace hl := hl.ext hxw17
  replace ha := ha.ext hxw17
  replace hb := hb.ext hxw17
  replace hw := ext_trans hw hxw17
  clear hxw17
  clear ha hb
  go_wp2_with fail
  refine (deleted_v _ _ a l (delL a l t) t _ hp hl (by omega) (by omega) B1.out G1.out rfl).mono ?_
  rintro e w18 ⟨vc, rfl, hc, hx⟩
  have hxw18 : Ext w17 w18 := hx
  clear hx
  replace hp := hp.ext hxw18
  replace hq := hq.ext hxw18
  replace hr := hr.ext hxw18
  replace hl := hl.ext hxw18
  replace hw := ext_trans hw hxw18
  clear hxw18
  go_wp2_with fail
  refine (deleted_v _ _ b l (delL b l t) t _ hq hl (by omega) (by omega) B2.out G2.out rfl).mono ?_
  rintro e w19 ⟨vd, rfl, hd, hx⟩
  have hxw19 : Ext w18 w19 := hx
  clear hx
  replace hp := hp.ext hxw19
  replace hq := hq.ext hxw19
  replace hr := hr.ext hxw19
  replace hl := hl.ext hxw19
  replace hc := hc.ext hxw19
  replace hw := ext_trans hw hxw19
  clear hxw19
  go_wp2_with fail
  refine (compare_v (n1) _ _ (delL a l t) (delL b l t) _ hc hd (by rw [cmpL_del G1.out G2.out, N1.out])).mono ?_
  rintro e w20 ⟨rfl, hx⟩
  have hxw20 : Ext w19 w20 := hx
  clear hx
  replace hp := hp.ext hxw20
  replace hq := hq.ext hxw20
  replace hr := hr.ext hxw20
  replace hl := hl.ext hxw20
  replace hc := hc.ext hxw20
  replace hd := hd.ext hxw20
  replace hw := ext_trans hw hxw20
  clear hxw20
  go_wp2_with fail
  refine (compare_v (n1) _ _ a b _ hp hq N1.out).mono ?_
  rintro e w21 ⟨rfl, hx⟩
  have hxw21 : Ext w20 w21 := hx
  clear hx
  replace hp := hp.ext hxw21
  replace hq := hq.ext hxw21
  replace hr := hr.ext hxw21
  replace hl := hl.ext hxw21
  replace hc := hc.ext hxw21
  replace hd := hd.ext hxw21
  replace hw := ext_trans hw hxw21
  clear hxw21
  go_wp2_with fail
  go_ret
  exact ⟨by simp, hw⟩


theorem order_any (p q r s : Value) (a b c l : List Int) (t : Int) (w : World) (hp : Ints w p a) (hq : Ints w q b) (hr : Ints w r c) (hl : Ints w s l) :
    Calls Try.prog 6 #[p, q, r, s, .int .i64 t] w fun e w' => e = .returned (.bool true) ∧ Ext w w' := by
  have hid {P : Prop} (h : P) : Hid P := h
  cases h1 : fineB a t 0 with
  | false => exact order_out0 p q r s a b c l t w hp hq hr hl (by show _ = _; rw [h1]; rfl)
  | true =>
  have F1 : Hid ((!fineB a t 0) = false) := by show _ = _; rw [h1]; rfl
  cases h2 : fineB b t 0 with
  | false => exact order_out1 p q r s a b c l t w hp hq hr hl F1 (by show _ = _; rw [h2]; rfl)
  | true =>
  have F2 : Hid ((!fineB b t 0) = false) := by show _ = _; rw [h2]; rfl
  cases h3 : fineB c t 0 with
  | false => exact order_out2 p q r s a b c l t w hp hq hr hl F1 F2 (by show _ = _; rw [h3]; rfl)
  | true =>
  have F3 : Hid ((!fineB c t 0) = false) := by show _ = _; rw [h3]; rfl
  cases h4 : fineB l t 0 with
  | false => exact order_out3 p q r s a b c l t w hp hq hr hl F1 F2 F3 (by show _ = _; rw [h4]; rfl)
  | true =>
  have F4 : Hid ((!fineB l t 0) = false) := by show _ = _; rw [h4]; rfl
  obtain ⟨za, _, _, _, _, ba⟩ := fineB_spec h1
  obtain ⟨zb, _, _, _, _, bb⟩ := fineB_spec h2
  obtain ⟨zl, _, _, _, _, _⟩ := fineB_spec h4
  have B1 : Hid (Bd 1099511627775 a) := ba.mono (by omega)
  have B2 : Hid (Bd 1099511627775 b) := bb.mono (by omega)
  have r1 := cmpL_rng a b
  by_cases c3 : cmpL a b < 0
  · by_cases c4 : cmpL b c < 0
    · have c5 := cmpL_trans a b c c3 c4
      cases g1 : gone a l t with
      | true =>
        cases g2 : gone b l t with
        | true => exact order_C11 p q r s a b c l t w hp hq hr hl F1 F2 F3 F4 za zb zl B1 B2 _ _ _ (hid rfl) r1.1 r1.2 c3 (hid rfl) c4 (hid rfl) c5 g1 g2
        | false => exact order_C10 p q r s a b c l t w hp hq hr hl F1 F2 F3 F4 za zb zl B1 B2 _ _ _ (hid rfl) r1.1 r1.2 c3 (hid rfl) c4 (hid rfl) c5 g1 g2
      | false =>
        cases g2 : gone b l t with
        | true => exact order_C01 p q r s a b c l t w hp hq hr hl F1 F2 F3 F4 za zb zl B1 B2 _ _ _ (hid rfl) r1.1 r1.2 c3 (hid rfl) c4 (hid rfl) c5 g1 g2
        | false => exact order_C00 p q r s a b c l t w hp hq hr hl F1 F2 F3 F4 za zb zl B1 B2 _ _ _ (hid rfl) r1.1 r1.2 c3 (hid rfl) c4 (hid rfl) c5 g1 g2
    · have c4' : 0 ≤ cmpL b c := by omega
      cases g1 : gone a l t with
      | true =>
        cases g2 : gone b l t with
        | true => exact order_B11 p q r s a b c l t w hp hq hr hl F1 F2 F3 F4 za zb zl B1 B2 _ _ (hid rfl) r1.1 r1.2 c3 (hid rfl) c4' g1 g2
        | false => exact order_B10 p q r s a b c l t w hp hq hr hl F1 F2 F3 F4 za zb zl B1 B2 _ _ (hid rfl) r1.1 r1.2 c3 (hid rfl) c4' g1 g2
      | false =>
        cases g2 : gone b l t with
        | true => exact order_B01 p q r s a b c l t w hp hq hr hl F1 F2 F3 F4 za zb zl B1 B2 _ _ (hid rfl) r1.1 r1.2 c3 (hid rfl) c4' g1 g2
        | false => exact order_B00 p q r s a b c l t w hp hq hr hl F1 F2 F3 F4 za zb zl B1 B2 _ _ (hid rfl) r1.1 r1.2 c3 (hid rfl) c4' g1 g2
  · have c3' : 0 ≤ cmpL a b := by omega
    cases g1 : gone a l t with
    | true =>
      cases g2 : gone b l t with
      | true => exact order_A11 p q r s a b c l t w hp hq hr hl F1 F2 F3 F4 za zb zl B1 B2 _ (hid rfl) r1.1 r1.2 c3' g1 g2
      | false => exact order_A10 p q r s a b c l t w hp hq hr hl F1 F2 F3 F4 za zb zl B1 B2 _ (hid rfl) r1.1 r1.2 c3' g1 g2
    | false =>
      cases g2 : gone b l t with
      | true => exact order_A01 p q r s a b c l t w hp hq hr hl F1 F2 F3 F4 za zb zl B1 B2 _ (hid rfl) r1.1 r1.2 c3' g1 g2
      | false => exact order_A00 p q r s a b c l t w hp hq hr hl F1 F2 F3 F4 za zb zl B1 B2 _ (hid rfl) r1.1 r1.2 c3' g1 g2

end Go.Proofs.Ytcbfppjiikgbfaa

