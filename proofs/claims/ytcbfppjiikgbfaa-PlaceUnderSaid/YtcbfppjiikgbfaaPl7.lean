/- The contract of awake. -/
import Derived.Test.YtcbfppjiikgbfaaPl6
import Derived.Test.YtcbfppjiikgbfaaSame
namespace Go.Proofs.Ytcbfppjiikgbfaa
open Go.RowKit

theorem ints_new (xs : List Int) (w : World) (n : Nat) (t : TypeId) (hn : n = w.heap.size) (hs : xs.length ≤ 1000000) : Ints (w.alloc (.cells (xs.map intV).toArray t)) (.slice (some ⟨n, 0, none⟩) xs.length xs.length) xs := by
  subst hn
  refine Ints.mk (Nat.le_refl _) (by omega) fun _ => ⟨_, 0, rfl, fun i hi => ?_⟩
  rw [World.cell?_alloc_new]
  simp [hi, nth_eq hi, intV]

theorem same_b (b : Bool) (p q : Value) (xs ys : List Int) (w : World) (hp : Ints w p xs) (hq : Ints w q ys) (hb : decide (xs = ys) = b) :
    Calls Try.prog 21 #[p, q] w fun e w' => e = .returned (.bool b) ∧ Ext w w' :=
  (sameInts_any p q xs ys w hp hq).mono fun e w' ⟨he, n, hw⟩ => ⟨by rw [he, hb], by rw [hw]; exact ext_drewN _ _⟩

theorem under_b (b : Bool) (p q : Value) (xs ys : List Int) (w : World) (hp : Ints w p xs) (hq : Ints w q ys) (hb : under xs ys = b) :
    Calls Try.prog 19 #[p, q] w fun e w' => e = .returned (.bool b) ∧ Ext w w' :=
  (under_any p q xs ys w hp hq).mono fun e w' ⟨he, n, hw⟩ => ⟨by rw [he, hb], by rw [hw]; exact ext_drewN _ _⟩

theorem inserted_v (p q : Value) (xs ys zs : List Int) (t : Int) (w : World) (hp : Ints w p xs) (hq : Ints w q ys) (hsm : xs.length ≤ 1000000) (hsy : ys.length ≤ 1000000) (hbd : Bd 1099511627775 xs) (hz : insL xs ys t = zs) :
    Calls Try.prog 11 #[p, q, .int .i64 t] w fun e w' => ∃ v, e = .returned v ∧ Ints w' v zs ∧ Ext w w' :=
  (inserted_any p q xs ys t w hp hq hsm hsy hbd).mono fun e w' ⟨v, he, ho, hx⟩ => ⟨v, he, by rw [← hz]; exact Reads.of_own ho, hx⟩
theorem moved_v (p q : Value) (xs ys zs : List Int) (f t : Int) (w : World) (hp : Ints w p xs) (hq : Ints w q ys) (hsm : xs.length ≤ 1000000) (hsy : ys.length ≤ 1000000) (hbd : Bd 1099511627775 xs) (hz : movL xs ys f t = zs) :
    Calls Try.prog 15 #[p, q, .int .i64 f, .int .i64 t] w fun e w' => ∃ v, e = .returned v ∧ Ints w' v zs ∧ Ext w w' :=
  (moved_any p q xs ys f t w hp hq hsm hsy hbd).mono fun e w' ⟨v, he, ho, hx⟩ => ⟨v, he, by rw [← hz]; exact Reads.of_own ho, hx⟩
theorem deleted_v (p q : Value) (xs ys zs : List Int) (t : Int) (w : World) (hp : Ints w p xs) (hq : Ints w q ys) (hsm : xs.length ≤ 1000000) (hsy : ys.length ≤ 1000000) (hbd : Bd 1099511627775 xs) (hg : gone xs ys t = false) (hz : delL xs ys t = zs) :
    Calls Try.prog 13 #[p, q, .int .i64 t] w fun e w' => ∃ v, e = .returned (.tuple #[v, .bool true]) ∧ Ints w' v zs ∧ Ext w w' :=
  (deleted_kept p q xs ys t w hp hq hg hsm hsy hbd).mono fun e w' ⟨v, he, ho, hx⟩ => ⟨v, he, by rw [← hz]; exact Reads.of_own ho, hx⟩

theorem bd_of (xs : List Int) (h : xs.all (fun x => decide (-1099511627775 ≤ x) && decide (x ≤ 1099511627775)) = true) : Bd 1099511627775 xs := by
  intro x hx
  rw [List.all_eq_true] at h
  have := h x hx
  simp at this
  exact this

theorem compare_v (n : Int) (p q : Value) (xs ys : List Int) (w : World) (hp : Ints w p xs) (hq : Ints w q ys) (hn : cmpL xs ys = n) :
    Calls Try.prog 17 #[p, q] w fun e w' => e = .returned (.int .i64 n) ∧ Ext w w' :=
  (compare_any p q xs ys w hp hq).mono fun e w' ⟨he, hw⟩ => ⟨by rw [he, hn], by rw [← hw]; exact ext_refl _⟩

set_option maxHeartbeats 4000000 in
theorem awake_any (w : World) : Calls Try.prog 8 #[] w fun e w' => e = .returned (.bool true) ∧ Ext w w' := by
  go_enter Try.func8, Try.ntmps8
  go_wp2_with fail
  refine (inserted_v _ _ [0, 2, 5] [0] [0, 3, 5] 2 _ ((ints_new [0, 2, 5] w _ 3 rfl (by decide)).ext (ext_alloc _ _)) (ints_new [0] _ _ 3 (by simp) (by decide)) (by decide) (by decide) (bd_of _ (by decide)) (by decide)).mono ?_
  rintro e w1 ⟨va, rfl, ha, hx⟩
  have hx1 : Ext w w1 := ext_trans (ext_trans (ext_alloc _ _) (ext_alloc _ _)) hx
  clear hx
  have hw := hx1
  clear hx1
  go_wp2_with fail
  refine (deleted_gone _ _ [0, 2, 5] [0] 2 _ ((ints_new [0, 2, 5] w1 _ 3 rfl (by decide)).ext (ext_alloc _ _)) (ints_new [0] _ _ 3 (by simp) (by decide)) (by decide) (by decide) (by decide)).mono ?_
  rintro e w2 ⟨rfl, hx⟩
  have hx2 : Ext w1 w2 := ext_trans (ext_trans (ext_alloc _ _) (ext_alloc _ _)) hx
  clear hx
  replace ha := ha.ext hx2
  replace hw := ext_trans hw hx2
  clear hx2
  go_wp2_with fail
  refine (deleted_v _ _ [0, 3] [0] [0, 2] 2 _ ((ints_new [0, 3] w2 _ 3 rfl (by decide)).ext (ext_alloc _ _)) (ints_new [0] _ _ 3 (by simp) (by decide)) (by decide) (by decide) (bd_of _ (by decide)) (by decide) (by decide)).mono ?_
  rintro e w3 ⟨vb, rfl, hb, hx⟩
  have hx3 : Ext w2 w3 := ext_trans (ext_trans (ext_alloc _ _) (ext_alloc _ _)) hx
  clear hx
  replace ha := ha.ext hx3
  replace hw := ext_trans hw hx3
  clear hx3
  go_wp2_with fail
  refine (moved_v _ _ [0, 1] [0] [0, 3] 1 3 _ ((ints_new [0, 1] w3 _ 3 rfl (by decide)).ext (ext_alloc _ _)) (ints_new [0] _ _ 3 (by simp) (by decide)) (by decide) (by decide) (bd_of _ (by decide)) (by decide)).mono ?_
  rintro e w4 ⟨vc, rfl, hc, hx⟩
  have hx4 : Ext w3 w4 := ext_trans (ext_trans (ext_alloc _ _) (ext_alloc _ _)) hx
  clear hx
  replace ha := ha.ext hx4
  replace hb := hb.ext hx4
  replace hw := ext_trans hw hx4
  clear hx4
  go_wp2_with fail
  refine (moved_v _ _ [0, 2] [0] [0, 1] 1 3 _ ((ints_new [0, 2] w4 _ 3 rfl (by decide)).ext (ext_alloc _ _)) (ints_new [0] _ _ 3 (by simp) (by decide)) (by decide) (by decide) (bd_of _ (by decide)) (by decide)).mono ?_
  rintro e w5 ⟨vd, rfl, hd, hx⟩
  have hx5 : Ext w4 w5 := ext_trans (ext_trans (ext_alloc _ _) (ext_alloc _ _)) hx
  clear hx
  replace ha := ha.ext hx5
  replace hb := hb.ext hx5
  replace hc := hc.ext hx5
  replace hw := ext_trans hw hx5
  clear hx5
  go_wp2_with fail
  refine (moved_v _ _ [0, 4] [0] [0, 4] 1 3 _ ((ints_new [0, 4] w5 _ 3 rfl (by decide)).ext (ext_alloc _ _)) (ints_new [0] _ _ 3 (by simp) (by decide)) (by decide) (by decide) (bd_of _ (by decide)) (by decide)).mono ?_
  rintro e w6 ⟨ve, rfl, he, hx⟩
  have hx6 : Ext w5 w6 := ext_trans (ext_trans (ext_alloc _ _) (ext_alloc _ _)) hx
  clear hx
  replace ha := ha.ext hx6
  replace hb := hb.ext hx6
  replace hc := hc.ext hx6
  replace hd := hd.ext hx6
  replace hw := ext_trans hw hx6
  clear hx6
  go_wp2_with fail
  refine (same_b true _ _ [0, 3, 5] [0, 3, 5] _ (ha.ext (ext_alloc _ _)) (ints_new [0, 3, 5] w6 _ 3 rfl (by decide)) (by decide)).mono ?_
  rintro e w7 ⟨rfl, hx⟩
  clear ha
  have hx7 : Ext w6 w7 := ext_trans (ext_alloc _ _) hx
  clear hx
  replace hb := hb.ext hx7
  replace hc := hc.ext hx7
  replace hd := hd.ext hx7
  replace he := he.ext hx7
  replace hw := ext_trans hw hx7
  clear hx7
  go_wp2_with fail
  refine (same_b true _ _ [0, 2] [0, 2] _ (hb.ext (ext_alloc _ _)) (ints_new [0, 2] w7 _ 3 rfl (by decide)) (by decide)).mono ?_
  rintro e w8 ⟨rfl, hx⟩
  clear hb
  have hx8 : Ext w7 w8 := ext_trans (ext_alloc _ _) hx
  clear hx
  replace hc := hc.ext hx8
  replace hd := hd.ext hx8
  replace he := he.ext hx8
  replace hw := ext_trans hw hx8
  clear hx8
  go_wp2_with fail
  refine (same_b true _ _ [0, 3] [0, 3] _ (hc.ext (ext_alloc _ _)) (ints_new [0, 3] w8 _ 3 rfl (by decide)) (by decide)).mono ?_
  rintro e w9 ⟨rfl, hx⟩
  clear hc
  have hx9 : Ext w8 w9 := ext_trans (ext_alloc _ _) hx
  clear hx
  replace hd := hd.ext hx9
  replace he := he.ext hx9
  replace hw := ext_trans hw hx9
  clear hx9
  go_wp2_with fail
  refine (same_b true _ _ [0, 1] [0, 1] _ (hd.ext (ext_alloc _ _)) (ints_new [0, 1] w9 _ 3 rfl (by decide)) (by decide)).mono ?_
  rintro e w10 ⟨rfl, hx⟩
  clear hd
  have hx10 : Ext w9 w10 := ext_trans (ext_alloc _ _) hx
  clear hx
  replace he := he.ext hx10
  replace hw := ext_trans hw hx10
  clear hx10
  go_wp2_with fail
  refine (same_b true _ _ [0, 4] [0, 4] _ (he.ext (ext_alloc _ _)) (ints_new [0, 4] w10 _ 3 rfl (by decide)) (by decide)).mono ?_
  rintro e w11 ⟨rfl, hx⟩
  clear he
  have hx11 : Ext w10 w11 := ext_trans (ext_alloc _ _) hx
  clear hx
  replace hw := ext_trans hw hx11
  clear hx11
  go_wp2_with fail
  refine (under_b true _ _ [1, 2] [1] _ ((ints_new [1, 2] w11 _ 3 rfl (by decide)).ext (ext_alloc _ _)) (ints_new [1] _ _ 3 (by simp) (by decide)) (by decide)).mono ?_
  rintro e w12 ⟨rfl, hx⟩
  have hx12 : Ext w11 w12 := ext_trans (ext_trans (ext_alloc _ _) (ext_alloc _ _)) hx
  clear hx
  replace hw := ext_trans hw hx12
  clear hx12
  go_wp2_with fail
  refine (compare_v (-1) _ _ [1] [1, 2] _ ((ints_new [1] w12 _ 3 rfl (by decide)).ext (ext_alloc _ _)) (ints_new [1, 2] _ _ 3 (by simp) (by decide)) (by decide)).mono ?_
  rintro e w13 ⟨rfl, hx⟩
  have hx13 : Ext w12 w13 := ext_trans (ext_trans (ext_alloc _ _) (ext_alloc _ _)) hx
  clear hx
  replace hw := ext_trans hw hx13
  clear hx13
  go_wp2_with fail
  go_ret
  exact ⟨rfl, hw⟩
end Go.Proofs.Ytcbfppjiikgbfaa
