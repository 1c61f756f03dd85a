/- The walk of PlaceUnder. -/
import Derived.Test.YtcbfppjiikgbfaaPl8
import Derived.Test.YtcbfppjiikgbfaaPlainC
import Derived.Laws.AppendOwnNone
namespace Go.Proofs.Ytcbfppjiikgbfaa
open Go.RowKit
set_option linter.unusedVariables false

theorem wpList_append_reads {P : Program} {w : World} {ops : Array Oper} {rest : List Oper} {o : Oper} {a : Act} {Q : Exit → Act → World → Prop} (hgd : o.guard = none) (s x : Operand) (t : TypeId)
    (ho : o.op = .call { callee := .builtin .append, args := #[s, x], argTypes := #[t, t] })
    (base : Nat) (e : TypeId) (i : TypeInfo) (z : Value) (bytes : Nat) (ht : P.underlying t = some (.slice e)) (hi : P.info? e = some i) (hz : i.zero = some z)
    (hsize : i.size = 1) (hby : i.bytes = bytes) (hzs : z.cells.size = 1)
    (v sv : Value) (n : Nat) (xs us : List Value) (hs : a.eval s = v) (hown : w.ownsRow base e 1 v n xs) (hx : a.eval x = sv) (hr : Reads w sv us) (hnn : sv = .slice none 0 0 ∨ ∃ ad c, sv = .slice (some ad) us.length c)
    (h1 : ∀ u ∈ us, u.oneCell' = true) (h63 : n + us.length ≤ 1000000) (hbytes : bytes ≤ 1000) (hbase : base ≤ w.heap.size)
    (h : ∀ v' w', w'.ownsRow base e 1 v' (n + us.length) (xs ++ us) → w.grownBy w' v.ownBlock → wpList P ops Q rest (a.put o.dst v') w') : wpList P ops Q (o :: rest) a w := by
  obtain ⟨ad, cap, hv, h2, h3, h4⟩ := hr
  rcases hnn with hnn | ⟨ad', c', hnn⟩
  · rw [hnn] at hv
    simp only [Value.slice.injEq] at hv
    have hus : us = [] := List.length_eq_zero_iff.1 hv.2.1.symm
    subst hus
    refine wpList_append_own_none hgd s x t ho base e i 1 ht hi v n xs hs hown (by rw [hx, hnn]) ?_
    exact h v w (by simpa using hown) ⟨rfl, rfl, rfl, Nat.le_refl _, fun _ _ _ => rfl⟩
  · rw [hnn] at hv
    simp only [Value.slice.injEq, true_and] at hv
    obtain ⟨rfl, hcc⟩ := hv
    subst hcc
    refine wpList_append_own w hgd s x t ho base e i z 1 bytes ht hi hz hsize hby hzs (by decide) v n xs hs hown ad' us.length c' us (by rw [hx, hnn]) (by simp) ?_ h1 (by unfold maxLen; omega) ?_ hbase fun v' w' a1 a2 _ => h v' w' a1 a2
    · intro j u hj
      have hne : us ≠ [] := by intro e; subst e; simp at hj
      obtain ⟨b, off, hb, hc⟩ := h4 hne
      cases hb
      rw [Addr.add_lit]
      exact hc j u hj
    · have : (n + us.length) * bytes ≤ 1000000 * 1000 := Nat.mul_le_mul h63 hbytes
      omega

theorem nilOrSome {w : World} {a : Option Addr} {cap : Nat} {xs : List Int} (h : Ints w (.slice a xs.length cap) xs) : a = none ∨ ∃ ad, a = some ad := by
  cases a with
  | none => exact .inl rfl
  | some ad => exact .inr ⟨ad, rfl⟩

set_option maxHeartbeats 1000000 in
theorem undr_out0 (p r : Value) (xs zs ys : List Int) (c : Option Addr) (cc : Nat) (t f : Int) (w : World) (hcn : Hid (c = none → cc = 0)) (hp : Ints w p xs) (hq : Ints w (.slice c zs.length cc) zs) (hr : Ints w r ys) (F1 : Hid ((!fineB xs t f) = true)) :
    Calls Try.prog 7 #[p, .slice c zs.length cc, r, .int .i64 t, .int .i64 f] w fun e w' => e = .returned (.bool true) ∧ Ext w w' := by
  go_enter Try.func7, Try.ntmps7
  go_wp2_with fail
  refine (awake_any w).mono ?_
  rintro e w1 ⟨rfl, hw⟩
  replace hp := hp.ext hw
  replace hq := hq.ext hw
  replace hr := hr.ext hw
  go_wp2_with fail
  refine (great_b _ _ xs t f _ hp F1.out).mono ?_
  rintro e w2 ⟨rfl, hx⟩
  replace hp := hp.ext hx
  replace hq := hq.ext hx
  replace hr := hr.ext hx
  replace hw := ext_trans hw hx
  clear hx
  go_wp2_with fail
  go_ret
  exact ⟨rfl, hw⟩

set_option maxHeartbeats 1000000 in
theorem undr_out1 (p r : Value) (xs zs ys : List Int) (c : Option Addr) (cc : Nat) (t f : Int) (w : World) (hcn : Hid (c = none → cc = 0)) (hp : Ints w p xs) (hq : Ints w (.slice c zs.length cc) zs) (hr : Ints w r ys) (F1 : Hid ((!fineB xs t f) = false)) (F2 : Hid ((!fineB zs t f) = true)) :
    Calls Try.prog 7 #[p, .slice c zs.length cc, r, .int .i64 t, .int .i64 f] w fun e w' => e = .returned (.bool true) ∧ Ext w w' := by
  go_enter Try.func7, Try.ntmps7
  go_wp2_with fail
  refine (awake_any w).mono ?_
  rintro e w1 ⟨rfl, hw⟩
  replace hp := hp.ext hw
  replace hq := hq.ext hw
  replace hr := hr.ext hw
  go_wp2_with fail
  refine (great_b _ _ xs t f _ hp F1.out).mono ?_
  rintro e w2 ⟨rfl, hx⟩
  replace hp := hp.ext hx
  replace hq := hq.ext hx
  replace hr := hr.ext hx
  replace hw := ext_trans hw hx
  clear hx
  go_wp2_with fail
  refine (great_b _ _ zs t f _ hq F2.out).mono ?_
  rintro e w3 ⟨rfl, hx⟩
  replace hp := hp.ext hx
  replace hq := hq.ext hx
  replace hr := hr.ext hx
  replace hw := ext_trans hw hx
  clear hx
  go_wp2_with fail
  go_ret
  exact ⟨rfl, hw⟩

set_option maxHeartbeats 1000000 in
theorem undr_out2 (p r : Value) (xs zs ys : List Int) (c : Option Addr) (cc : Nat) (t f : Int) (w : World) (hcn : Hid (c = none → cc = 0)) (hp : Ints w p xs) (hq : Ints w (.slice c zs.length cc) zs) (hr : Ints w r ys) (F1 : Hid ((!fineB xs t f) = false)) (F2 : Hid ((!fineB zs t f) = false)) (F3 : Hid ((!fineB ys t f) = true)) :
    Calls Try.prog 7 #[p, .slice c zs.length cc, r, .int .i64 t, .int .i64 f] w fun e w' => e = .returned (.bool true) ∧ Ext w w' := by
  go_enter Try.func7, Try.ntmps7
  go_wp2_with fail
  refine (awake_any w).mono ?_
  rintro e w1 ⟨rfl, hw⟩
  replace hp := hp.ext hw
  replace hq := hq.ext hw
  replace hr := hr.ext hw
  go_wp2_with fail
  refine (great_b _ _ xs t f _ hp F1.out).mono ?_
  rintro e w2 ⟨rfl, hx⟩
  replace hp := hp.ext hx
  replace hq := hq.ext hx
  replace hr := hr.ext hx
  replace hw := ext_trans hw hx
  clear hx
  go_wp2_with fail
  refine (great_b _ _ zs t f _ hq F2.out).mono ?_
  rintro e w3 ⟨rfl, hx⟩
  replace hp := hp.ext hx
  replace hq := hq.ext hx
  replace hr := hr.ext hx
  replace hw := ext_trans hw hx
  clear hx
  go_wp2_with fail
  refine (great_b _ _ ys t f _ hr F3.out).mono ?_
  rintro e w4 ⟨rfl, hx⟩
  replace hp := hp.ext hx
  replace hq := hq.ext hx
  replace hr := hr.ext hx
  replace hw := ext_trans hw hx
  clear hx
  go_wp2_with fail
  go_ret
  exact ⟨rfl, hw⟩

set_option maxHeartbeats 1000000 in
theorem undr_short (p r : Value) (xs zs ys : List Int) (c : Option Addr) (cc : Nat) (t f : Int) (w : World) (hcn : Hid (c = none → cc = 0)) (hp : Ints w p xs) (hq : Ints w (.slice c zs.length cc) zs) (hr : Ints w r ys) (F1 : Hid ((!fineB xs t f) = false)) (F2 : Hid ((!fineB zs t f) = false)) (F3 : Hid ((!fineB ys t f) = false)) (hle : xs.length ≤ ys.length) :
    Calls Try.prog 7 #[p, .slice c zs.length cc, r, .int .i64 t, .int .i64 f] w fun e w' => e = .returned (.bool true) ∧ Ext w w' := by
  have hp' := hp
  obtain ⟨a, ca, rfl, ha1, ha2, ha3⟩ := hp'.opened
  have hr' := hr
  obtain ⟨b, cb, rfl, hb1, hb2, hb3⟩ := hr'.opened
  clear hp' hr' ha3 hb3
  have d3 : decide ((xs.length : Int) ≤ (ys.length : Int)) = true := by simp; omega
  go_enter Try.func7, Try.ntmps7
  go_wp2_with fail
  refine (awake_any w).mono ?_
  rintro e w1 ⟨rfl, hw⟩
  replace hp := hp.ext hw
  replace hq := hq.ext hw
  replace hr := hr.ext hw
  go_wp2_with fail
  refine (great_b _ _ xs t f _ hp F1.out).mono ?_
  rintro e w2 ⟨rfl, hx⟩
  replace hp := hp.ext hx
  replace hq := hq.ext hx
  replace hr := hr.ext hx
  replace hw := ext_trans hw hx
  clear hx
  go_wp2_with fail
  refine (great_b _ _ zs t f _ hq F2.out).mono ?_
  rintro e w3 ⟨rfl, hx⟩
  replace hp := hp.ext hx
  replace hq := hq.ext hx
  replace hr := hr.ext hx
  replace hw := ext_trans hw hx
  clear hx
  go_wp2_with fail
  refine (great_b _ _ ys t f _ hr F3.out).mono ?_
  rintro e w4 ⟨rfl, hx⟩
  replace hp := hp.ext hx
  replace hq := hq.ext hx
  replace hr := hr.ext hx
  replace hw := ext_trans hw hx
  clear hx
  go_wp2_with fail
  go_ret
  exact ⟨rfl, hw⟩

set_option maxHeartbeats 4000000 in
set_option maxRecDepth 100000 in
theorem undr_00 (p r : Value) (xs zs ys : List Int) (c : Option Addr) (cc : Nat) (t f : Int) (w : World) (hcn : Hid (c = none → cc = 0)) (hp : Ints w p xs) (hq : Ints w (.slice c zs.length cc) zs) (hr : Ints w r ys) (F1 : Hid ((!fineB xs t f) = false)) (F2 : Hid ((!fineB zs t f) = false)) (F3 : Hid ((!fineB ys t f) = false)) (hlt : ys.length < xs.length) (zx : xs.length ≤ 200) (zz : zs.length ≤ 200) (B1 : Hid (Bd 1099511627775 xs)) (B2 : Hid (Bd 1099511627775 (xs ++ zs)))
    (U : Hid (under xs ys = false)) (G : Hid (gone xs ys t = false)) (G2 : Hid (gone (xs ++ zs) ys t = false)) :
    Calls Try.prog 7 #[p, .slice c zs.length cc, r, .int .i64 t, .int .i64 f] w fun e w' => e = .returned (.bool true) ∧ Ext w w' := by
  have Z : Hid ((xs ++ zs).length ≤ 1000000) := by show _ ≤ _; rw [List.length_append]; omega
  have hp' := hp
  obtain ⟨a, ca, rfl, ha1, ha2, ha3⟩ := hp'.opened
  have hr' := hr
  obtain ⟨b, cb, rfl, hb1, hb2, hb3⟩ := hr'.opened
  obtain ⟨ba, oa, rfl, hcx⟩ := ha3 (by intro e; subst e; simp at hlt)
  clear hp' hr' ha3 hb3 hcx
  have d3 : decide ((xs.length : Int) ≤ (ys.length : Int)) = false := by simp; omega
  obtain ⟨i0, hi, hz0, hz1, hz2⟩ := info_parts Try.info3
  go_enter Try.func7, Try.ntmps7
  go_wp2_with fail
  refine (awake_any w).mono ?_
  rintro e w1 ⟨rfl, hw⟩
  replace hp := hp.ext hw
  replace hq := hq.ext hw
  replace hr := hr.ext hw
  go_wp2_with fail
  refine (great_b _ _ xs t f _ hp F1.out).mono ?_
  rintro e w2 ⟨rfl, hx⟩
  replace hp := hp.ext hx
  replace hq := hq.ext hx
  replace hr := hr.ext hx
  replace hw := ext_trans hw hx
  clear hx
  go_wp2_with fail
  refine (great_b _ _ zs t f _ hq F2.out).mono ?_
  rintro e w3 ⟨rfl, hx⟩
  replace hp := hp.ext hx
  replace hq := hq.ext hx
  replace hr := hr.ext hx
  replace hw := ext_trans hw hx
  clear hx
  go_wp2_with fail
  refine (great_b _ _ ys t f _ hr F3.out).mono ?_
  rintro e w4 ⟨rfl, hx⟩
  replace hp := hp.ext hx
  replace hq := hq.ext hx
  replace hr := hr.ext hx
  replace hw := ext_trans hw hx
  clear hx
  go_wp2_with (at_builtin; refine wpList_append_reads rfl (.tmp 45) (.tmp 46) 22 rfl w4.heap.size 3 i0 (.int .i64 0) 8 Try.underlying22 hi hz0 hz1 hz2 rfl _ _ 0 [] (xs.map intV) rfl (World.ownsRow_made w4 #[] 0 (Nat.le_refl _) (Nat.zero_le _) rfl) rfl (hp.ext (ext_alloc _ _)) ?q1 ?q2 ?q3 (by decide) (by simp) ?_)
  case q1 => exact .inr ⟨⟨ba, oa, none⟩, ca, by rw [List.length_map]; rfl⟩
  case q2 => intro u hu; obtain ⟨x, _, rfl⟩ := List.mem_map.1 hu; rfl
  case q3 => rw [List.length_map]; omega
  intro v5 w5 hown5 hgrow5
  have hx5 : Ext w4 w5 := ((Below.refl _ w4).alloc (Nat.le_refl _) _).grown hgrow5 (by simp) (by intro k hk; simp [Value.ownBlock] at hk; omega)
  replace hown5 : w5.ownsRow w4.heap.size 3 1 v5 xs.length (xs.map intV) := by simpa using hown5
  replace hq := hq.ext hx5
  have hb5 : w4.heap.size ≤ w5.heap.size := hx5.size
  clear hgrow5
  go_wp2_with (at_builtin; refine wpList_append_reads rfl (.tmp 47) (.tmp 48) 22 rfl w4.heap.size 3 i0 (.int .i64 0) 8 Try.underlying22 hi hz0 hz1 hz2 rfl v5 _ xs.length (xs.map intV) (zs.map intV) rfl hown5 rfl hq ?r1 ?r2 ?r3 (by decide) hb5 ?_)
  case r1 =>
    cases c with
    | none => 
      have := hcn.out rfl
      subst this
      have hz : zs.length = 0 := by obtain ⟨_, _, hv, h1, _⟩ := hq.opened; cases hv; omega
      exact .inl (by rw [← hz]; rfl)
    | some ad => exact .inr ⟨ad, cc, by rw [List.length_map]; rfl⟩
  case r2 => intro u hu; obtain ⟨x, _, rfl⟩ := List.mem_map.1 hu; rfl
  case r3 => rw [List.length_map]; omega
  intro v6 w6 hown6 hgrow6
  have hx6 : Below w4.heap.size w5 w6 := (Below.refl _ w5).grown hgrow6 (by omega) (fun k hk => (hown5.lt k hk).1)
  have ho : Ints w6 v6 (xs ++ zs) := by
    have h := Reads.of_own hown6
    rw [← List.map_append] at h
    exact h
  have hx46 : Ext w4 w6 := hx5.trans hx6
  replace hp := hp.ext hx46
  replace hr := hr.ext hx46
  replace hw := ext_trans hw hx46
  clear hown5 hown6 hgrow6 hx5 hx6 hb5 hx46 hq
  go_wp2_with fail
  refine (inserted_v _ _ xs ys (insL xs ys t) t _ hp hr (by omega) (by omega) B1.out rfl).mono ?_
  rintro e w7 ⟨va, rfl, ha, hx⟩
  have hxw7 : Ext w6 w7 := hx
  clear hx
  replace hp := hp.ext hxw7
  replace hr := hr.ext hxw7
  replace ho := ho.ext hxw7
  replace hw := ext_trans hw hxw7
  clear hxw7
  go_wp2_with fail
  refine (inserted_v _ _ (xs ++ zs) ys (insL (xs ++ zs) ys t) t _ ho hr Z.out (by omega) B2.out rfl).mono ?_
  rintro e w8 ⟨vb, rfl, hb, hx⟩
  have hxw8 : Ext w7 w8 := hx
  clear hx
  replace hp := hp.ext hxw8
  replace hr := hr.ext hxw8
  replace ho := ho.ext hxw8
  replace ha := ha.ext hxw8
  replace hw := ext_trans hw hxw8
  clear hxw8
  go_wp2_with fail
  refine (moved_v _ _ xs ys (movL xs ys t f) t f _ hp hr (by omega) (by omega) B1.out rfl).mono ?_
  rintro e w9 ⟨vc, rfl, hc, hx⟩
  have hxw9 : Ext w8 w9 := hx
  clear hx
  replace hp := hp.ext hxw9
  replace hr := hr.ext hxw9
  replace ho := ho.ext hxw9
  replace ha := ha.ext hxw9
  replace hb := hb.ext hxw9
  replace hw := ext_trans hw hxw9
  clear hxw9
  go_wp2_with fail
  refine (moved_v _ _ (xs ++ zs) ys (movL (xs ++ zs) ys t f) t f _ ho hr Z.out (by omega) B2.out rfl).mono ?_
  rintro e w10 ⟨vd, rfl, hd, hx⟩
  have hxw10 : Ext w9 w10 := hx
  clear hx
  replace hp := hp.ext hxw10
  replace hr := hr.ext hxw10
  replace ho := ho.ext hxw10
  replace ha := ha.ext hxw10
  replace hb := hb.ext hxw10
  replace hc := hc.ext hxw10
  replace hw := ext_trans hw hxw10
  clear hxw10
  go_wp2_with fail
  refine (deleted_v _ _ xs ys (delL xs ys t) t _ hp hr (by omega) (by omega) B1.out G.out rfl).mono ?_
  rintro e w11 ⟨vx, rfl, hvx, hx⟩
  have hxw11 : Ext w10 w11 := hx
  clear hx
  replace hp := hp.ext hxw11
  replace hr := hr.ext hxw11
  replace ho := ho.ext hxw11
  replace ha := ha.ext hxw11
  replace hb := hb.ext hxw11
  replace hc := hc.ext hxw11
  replace hd := hd.ext hxw11
  replace hw := ext_trans hw hxw11
  clear hxw11
  go_wp2_with fail
  refine (deleted_v _ _ (xs ++ zs) ys (delL (xs ++ zs) ys t) t _ ho hr Z.out (by omega) B2.out G2.out rfl).mono ?_
  rintro e w12 ⟨vy, rfl, hvy, hx⟩
  have hxw12 : Ext w11 w12 := hx
  clear hx
  replace hp := hp.ext hxw12
  replace hr := hr.ext hxw12
  replace ho := ho.ext hxw12
  replace ha := ha.ext hxw12
  replace hb := hb.ext hxw12
  replace hc := hc.ext hxw12
  replace hd := hd.ext hxw12
  replace hvx := hvx.ext hxw12
  replace hw := ext_trans hw hxw12
  clear hxw12
  go_wp2_with fail
  refine (under_b true _ _ (insL (xs ++ zs) ys t) (insL xs ys t) _ hb ha (ins_app hlt)).mono ?_
  rintro e w13 ⟨rfl, hx⟩
  have hxw13 : Ext w12 w13 := hx
  clear hx
  replace hp := hp.ext hxw13
  replace hr := hr.ext hxw13
  replace ho := ho.ext hxw13
  replace ha := ha.ext hxw13
  replace hb := hb.ext hxw13
  replace hc := hc.ext hxw13
  replace hd := hd.ext hxw13
  replace hvx := hvx.ext hxw13
  replace hvy := hvy.ext hxw13
  replace hw := ext_trans hw hxw13
  clear hxw13
  go_wp2_with fail
  refine (under_b true _ _ (movL (xs ++ zs) ys t f) (movL xs ys t f) _ hd hc (mov_app hlt)).mono ?_
  rintro e w14 ⟨rfl, hx⟩
  have hxw14 : Ext w13 w14 := hx
  clear hx
  replace hp := hp.ext hxw14
  replace hr := hr.ext hxw14
  replace ho := ho.ext hxw14
  replace ha := ha.ext hxw14
  replace hb := hb.ext hxw14
  replace hc := hc.ext hxw14
  replace hd := hd.ext hxw14
  replace hvx := hvx.ext hxw14
  replace hvy := hvy.ext hxw14
  replace hw := ext_trans hw hxw14
  clear hxw14
  go_wp2_with fail
  refine (under_b true _ _ (delL (xs ++ zs) ys t) (delL xs ys t) _ hvy hvx (del_app hlt)).mono ?_
  rintro e w15 ⟨rfl, hx⟩
  have hxw15 : Ext w14 w15 := hx
  clear hx
  replace hp := hp.ext hxw15
  replace hr := hr.ext hxw15
  replace ho := ho.ext hxw15
  replace ha := ha.ext hxw15
  replace hb := hb.ext hxw15
  replace hc := hc.ext hxw15
  replace hd := hd.ext hxw15
  replace hvx := hvx.ext hxw15
  replace hvy := hvy.ext hxw15
  replace hw := ext_trans hw hxw15
  clear hxw15
  go_wp2_with fail
  refine (under_b false _ _ xs ys _ hp hr U.out).mono ?_
  rintro e w16 ⟨rfl, hx⟩
  have hxw16 : Ext w15 w16 := hx
  clear hx
  replace hp := hp.ext hxw16
  replace hr := hr.ext hxw16
  replace ho := ho.ext hxw16
  replace ha := ha.ext hxw16
  replace hb := hb.ext hxw16
  replace hc := hc.ext hxw16
  replace hd := hd.ext hxw16
  replace hvx := hvx.ext hxw16
  replace hvy := hvy.ext hxw16
  replace hw := ext_trans hw hxw16
  clear hxw16
  go_wp2_with fail
  refine (same_b true _ _ (insL xs ys t) xs _ ha hp (by rw [show insL xs ys t = xs from thr_not U.out]; simp)).mono ?_
  rintro e w17 ⟨rfl, hx⟩
  have hxw17 : Ext w16 w17 := hx
  clear hx
  replace hp := hp.ext hxw17
  replace hr := hr.ext hxw17
  replace ho := ho.ext hxw17
  replace ha := ha.ext hxw17
  replace hb := hb.ext hxw17
  replace hc := hc.ext hxw17
  replace hd := hd.ext hxw17
  replace hvx := hvx.ext hxw17
  replace hvy := hvy.ext hxw17
  replace hw := ext_trans hw hxw17
  clear hxw17
  go_wp2_with fail
  refine (same_b true _ _ (movL xs ys t f) xs _ hc hp (by rw [show movL xs ys t f = xs from thr_not U.out]; simp)).mono ?_
  rintro e w18 ⟨rfl, hx⟩
  have hxw18 : Ext w17 w18 := hx
  clear hx
  replace hp := hp.ext hxw18
  replace hr := hr.ext hxw18
  replace ho := ho.ext hxw18
  replace ha := ha.ext hxw18
  replace hb := hb.ext hxw18
  replace hc := hc.ext hxw18
  replace hd := hd.ext hxw18
  replace hvx := hvx.ext hxw18
  replace hvy := hvy.ext hxw18
  replace hw := ext_trans hw hxw18
  clear hxw18
  go_wp2_with fail
  refine (same_b true _ _ (delL xs ys t) xs _ hvx hp (by rw [show delL xs ys t = xs from thr_not U.out]; simp)).mono ?_
  rintro e w19 ⟨rfl, hx⟩
  have hxw19 : Ext w18 w19 := hx
  clear hx
  replace hp := hp.ext hxw19
  replace hr := hr.ext hxw19
  replace ho := ho.ext hxw19
  replace ha := ha.ext hxw19
  replace hb := hb.ext hxw19
  replace hc := hc.ext hxw19
  replace hd := hd.ext hxw19
  replace hvx := hvx.ext hxw19
  replace hvy := hvy.ext hxw19
  replace hw := ext_trans hw hxw19
  clear hxw19
  go_wp2_with fail
  go_ret
  exact ⟨rfl, hw⟩

set_option maxHeartbeats 4000000 in
set_option maxRecDepth 100000 in
theorem undr_11 (p r : Value) (xs zs ys : List Int) (c : Option Addr) (cc : Nat) (t f : Int) (w : World) (hcn : Hid (c = none → cc = 0)) (hp : Ints w p xs) (hq : Ints w (.slice c zs.length cc) zs) (hr : Ints w r ys) (F1 : Hid ((!fineB xs t f) = false)) (F2 : Hid ((!fineB zs t f) = false)) (F3 : Hid ((!fineB ys t f) = false)) (hlt : ys.length < xs.length) (zx : xs.length ≤ 200) (zz : zs.length ≤ 200) (B1 : Hid (Bd 1099511627775 xs)) (B2 : Hid (Bd 1099511627775 (xs ++ zs)))
    (U : Hid (under xs ys = true)) (G : Hid (gone xs ys t = true)) (G2 : Hid (gone (xs ++ zs) ys t = true)) :
    Calls Try.prog 7 #[p, .slice c zs.length cc, r, .int .i64 t, .int .i64 f] w fun e w' => e = .returned (.bool true) ∧ Ext w w' := by
  have Z : Hid ((xs ++ zs).length ≤ 1000000) := by show _ ≤ _; rw [List.length_append]; omega
  have hp' := hp
  obtain ⟨a, ca, rfl, ha1, ha2, ha3⟩ := hp'.opened
  have hr' := hr
  obtain ⟨b, cb, rfl, hb1, hb2, hb3⟩ := hr'.opened
  obtain ⟨ba, oa, rfl, hcx⟩ := ha3 (by intro e; subst e; simp at hlt)
  clear hp' hr' ha3 hb3 hcx
  have d3 : decide ((xs.length : Int) ≤ (ys.length : Int)) = false := by simp; omega
  obtain ⟨i0, hi, hz0, hz1, hz2⟩ := info_parts Try.info3
  go_enter Try.func7, Try.ntmps7
  go_wp2_with fail
  refine (awake_any w).mono ?_
  rintro e w1 ⟨rfl, hw⟩
  replace hp := hp.ext hw
  replace hq := hq.ext hw
  replace hr := hr.ext hw
  go_wp2_with fail
  refine (great_b _ _ xs t f _ hp F1.out).mono ?_
  rintro e w2 ⟨rfl, hx⟩
  replace hp := hp.ext hx
  replace hq := hq.ext hx
  replace hr := hr.ext hx
  replace hw := ext_trans hw hx
  clear hx
  go_wp2_with fail
  refine (great_b _ _ zs t f _ hq F2.out).mono ?_
  rintro e w3 ⟨rfl, hx⟩
  replace hp := hp.ext hx
  replace hq := hq.ext hx
  replace hr := hr.ext hx
  replace hw := ext_trans hw hx
  clear hx
  go_wp2_with fail
  refine (great_b _ _ ys t f _ hr F3.out).mono ?_
  rintro e w4 ⟨rfl, hx⟩
  replace hp := hp.ext hx
  replace hq := hq.ext hx
  replace hr := hr.ext hx
  replace hw := ext_trans hw hx
  clear hx
  go_wp2_with (at_builtin; refine wpList_append_reads rfl (.tmp 45) (.tmp 46) 22 rfl w4.heap.size 3 i0 (.int .i64 0) 8 Try.underlying22 hi hz0 hz1 hz2 rfl _ _ 0 [] (xs.map intV) rfl (World.ownsRow_made w4 #[] 0 (Nat.le_refl _) (Nat.zero_le _) rfl) rfl (hp.ext (ext_alloc _ _)) ?q1 ?q2 ?q3 (by decide) (by simp) ?_)
  case q1 => exact .inr ⟨⟨ba, oa, none⟩, ca, by rw [List.length_map]; rfl⟩
  case q2 => intro u hu; obtain ⟨x, _, rfl⟩ := List.mem_map.1 hu; rfl
  case q3 => rw [List.length_map]; omega
  intro v5 w5 hown5 hgrow5
  have hx5 : Ext w4 w5 := ((Below.refl _ w4).alloc (Nat.le_refl _) _).grown hgrow5 (by simp) (by intro k hk; simp [Value.ownBlock] at hk; omega)
  replace hown5 : w5.ownsRow w4.heap.size 3 1 v5 xs.length (xs.map intV) := by simpa using hown5
  replace hq := hq.ext hx5
  have hb5 : w4.heap.size ≤ w5.heap.size := hx5.size
  clear hgrow5
  go_wp2_with (at_builtin; refine wpList_append_reads rfl (.tmp 47) (.tmp 48) 22 rfl w4.heap.size 3 i0 (.int .i64 0) 8 Try.underlying22 hi hz0 hz1 hz2 rfl v5 _ xs.length (xs.map intV) (zs.map intV) rfl hown5 rfl hq ?r1 ?r2 ?r3 (by decide) hb5 ?_)
  case r1 =>
    cases c with
    | none => 
      have := hcn.out rfl
      subst this
      have hz : zs.length = 0 := by obtain ⟨_, _, hv, h1, _⟩ := hq.opened; cases hv; omega
      exact .inl (by rw [← hz]; rfl)
    | some ad => exact .inr ⟨ad, cc, by rw [List.length_map]; rfl⟩
  case r2 => intro u hu; obtain ⟨x, _, rfl⟩ := List.mem_map.1 hu; rfl
  case r3 => rw [List.length_map]; omega
  intro v6 w6 hown6 hgrow6
  have hx6 : Below w4.heap.size w5 w6 := (Below.refl _ w5).grown hgrow6 (by omega) (fun k hk => (hown5.lt k hk).1)
  have ho : Ints w6 v6 (xs ++ zs) := by
    have h := Reads.of_own hown6
    rw [← List.map_append] at h
    exact h
  have hx46 : Ext w4 w6 := hx5.trans hx6
  replace hp := hp.ext hx46
  replace hr := hr.ext hx46
  replace hw := ext_trans hw hx46
  clear hown5 hown6 hgrow6 hx5 hx6 hb5 hx46 hq
  go_wp2_with fail
  refine (inserted_v _ _ xs ys (insL xs ys t) t _ hp hr (by omega) (by omega) B1.out rfl).mono ?_
  rintro e w7 ⟨va, rfl, ha, hx⟩
  have hxw7 : Ext w6 w7 := hx
  clear hx
  replace hp := hp.ext hxw7
  replace hr := hr.ext hxw7
  replace ho := ho.ext hxw7
  replace hw := ext_trans hw hxw7
  clear hxw7
  go_wp2_with fail
  refine (inserted_v _ _ (xs ++ zs) ys (insL (xs ++ zs) ys t) t _ ho hr Z.out (by omega) B2.out rfl).mono ?_
  rintro e w8 ⟨vb, rfl, hb, hx⟩
  have hxw8 : Ext w7 w8 := hx
  clear hx
  replace hp := hp.ext hxw8
  replace hr := hr.ext hxw8
  replace ho := ho.ext hxw8
  replace ha := ha.ext hxw8
  replace hw := ext_trans hw hxw8
  clear hxw8
  go_wp2_with fail
  refine (moved_v _ _ xs ys (movL xs ys t f) t f _ hp hr (by omega) (by omega) B1.out rfl).mono ?_
  rintro e w9 ⟨vc, rfl, hc, hx⟩
  have hxw9 : Ext w8 w9 := hx
  clear hx
  replace hp := hp.ext hxw9
  replace hr := hr.ext hxw9
  replace ho := ho.ext hxw9
  replace ha := ha.ext hxw9
  replace hb := hb.ext hxw9
  replace hw := ext_trans hw hxw9
  clear hxw9
  go_wp2_with fail
  refine (moved_v _ _ (xs ++ zs) ys (movL (xs ++ zs) ys t f) t f _ ho hr Z.out (by omega) B2.out rfl).mono ?_
  rintro e w10 ⟨vd, rfl, hd, hx⟩
  have hxw10 : Ext w9 w10 := hx
  clear hx
  replace hp := hp.ext hxw10
  replace hr := hr.ext hxw10
  replace ho := ho.ext hxw10
  replace ha := ha.ext hxw10
  replace hb := hb.ext hxw10
  replace hc := hc.ext hxw10
  replace hw := ext_trans hw hxw10
  clear hxw10
  go_wp2_with fail
  refine (deleted_gone _ _ xs ys t _ hp hr G.out (by omega) (by omega)).mono ?_
  rintro e w11 ⟨rfl, hx⟩
  have hxw11 : Ext w10 w11 := hx
  clear hx
  replace hp := hp.ext hxw11
  replace hr := hr.ext hxw11
  replace ho := ho.ext hxw11
  replace ha := ha.ext hxw11
  replace hb := hb.ext hxw11
  replace hc := hc.ext hxw11
  replace hd := hd.ext hxw11
  replace hw := ext_trans hw hxw11
  clear hxw11
  go_wp2_with fail
  refine (deleted_gone _ _ (xs ++ zs) ys t _ ho hr G2.out Z.out (by omega)).mono ?_
  rintro e w12 ⟨rfl, hx⟩
  have hxw12 : Ext w11 w12 := hx
  clear hx
  replace hp := hp.ext hxw12
  replace hr := hr.ext hxw12
  replace ho := ho.ext hxw12
  replace ha := ha.ext hxw12
  replace hb := hb.ext hxw12
  replace hc := hc.ext hxw12
  replace hd := hd.ext hxw12
  replace hw := ext_trans hw hxw12
  clear hxw12
  go_wp2_with fail
  refine (under_b true _ _ (insL (xs ++ zs) ys t) (insL xs ys t) _ hb ha (ins_app hlt)).mono ?_
  rintro e w13 ⟨rfl, hx⟩
  have hxw13 : Ext w12 w13 := hx
  clear hx
  replace hp := hp.ext hxw13
  replace hr := hr.ext hxw13
  replace ho := ho.ext hxw13
  replace ha := ha.ext hxw13
  replace hb := hb.ext hxw13
  replace hc := hc.ext hxw13
  replace hd := hd.ext hxw13
  replace hw := ext_trans hw hxw13
  clear hxw13
  go_wp2_with fail
  refine (under_b true _ _ (movL (xs ++ zs) ys t f) (movL xs ys t f) _ hd hc (mov_app hlt)).mono ?_
  rintro e w14 ⟨rfl, hx⟩
  have hxw14 : Ext w13 w14 := hx
  clear hx
  replace hp := hp.ext hxw14
  replace hr := hr.ext hxw14
  replace ho := ho.ext hxw14
  replace ha := ha.ext hxw14
  replace hb := hb.ext hxw14
  replace hc := hc.ext hxw14
  replace hd := hd.ext hxw14
  replace hw := ext_trans hw hxw14
  clear hxw14
  go_wp2_with fail
  refine (under_b true _ _ xs ys _ hp hr U.out).mono ?_
  rintro e w15 ⟨rfl, hx⟩
  have hxw15 : Ext w14 w15 := hx
  clear hx
  replace hp := hp.ext hxw15
  replace hr := hr.ext hxw15
  replace ho := ho.ext hxw15
  replace ha := ha.ext hxw15
  replace hb := hb.ext hxw15
  replace hc := hc.ext hxw15
  replace hd := hd.ext hxw15
  replace hw := ext_trans hw hxw15
  clear hxw15
  go_wp2_with fail
  go_ret
  exact ⟨rfl, hw⟩

set_option maxHeartbeats 4000000 in
set_option maxRecDepth 100000 in
theorem undr_10 (p r : Value) (xs zs ys : List Int) (c : Option Addr) (cc : Nat) (t f : Int) (w : World) (hcn : Hid (c = none → cc = 0)) (hp : Ints w p xs) (hq : Ints w (.slice c zs.length cc) zs) (hr : Ints w r ys) (F1 : Hid ((!fineB xs t f) = false)) (F2 : Hid ((!fineB zs t f) = false)) (F3 : Hid ((!fineB ys t f) = false)) (hlt : ys.length < xs.length) (zx : xs.length ≤ 200) (zz : zs.length ≤ 200) (B1 : Hid (Bd 1099511627775 xs)) (B2 : Hid (Bd 1099511627775 (xs ++ zs)))
    (U : Hid (under xs ys = true)) (G : Hid (gone xs ys t = false)) (G2 : Hid (gone (xs ++ zs) ys t = false)) :
    Calls Try.prog 7 #[p, .slice c zs.length cc, r, .int .i64 t, .int .i64 f] w fun e w' => e = .returned (.bool true) ∧ Ext w w' := by
  have Z : Hid ((xs ++ zs).length ≤ 1000000) := by show _ ≤ _; rw [List.length_append]; omega
  have hp' := hp
  obtain ⟨a, ca, rfl, ha1, ha2, ha3⟩ := hp'.opened
  have hr' := hr
  obtain ⟨b, cb, rfl, hb1, hb2, hb3⟩ := hr'.opened
  obtain ⟨ba, oa, rfl, hcx⟩ := ha3 (by intro e; subst e; simp at hlt)
  clear hp' hr' ha3 hb3 hcx
  have d3 : decide ((xs.length : Int) ≤ (ys.length : Int)) = false := by simp; omega
  obtain ⟨i0, hi, hz0, hz1, hz2⟩ := info_parts Try.info3
  go_enter Try.func7, Try.ntmps7
  go_wp2_with fail
  refine (awake_any w).mono ?_
  rintro e w1 ⟨rfl, hw⟩
  replace hp := hp.ext hw
  replace hq := hq.ext hw
  replace hr := hr.ext hw
  go_wp2_with fail
  refine (great_b _ _ xs t f _ hp F1.out).mono ?_
  rintro e w2 ⟨rfl, hx⟩
  replace hp := hp.ext hx
  replace hq := hq.ext hx
  replace hr := hr.ext hx
  replace hw := ext_trans hw hx
  clear hx
  go_wp2_with fail
  refine (great_b _ _ zs t f _ hq F2.out).mono ?_
  rintro e w3 ⟨rfl, hx⟩
  replace hp := hp.ext hx
  replace hq := hq.ext hx
  replace hr := hr.ext hx
  replace hw := ext_trans hw hx
  clear hx
  go_wp2_with fail
  refine (great_b _ _ ys t f _ hr F3.out).mono ?_
  rintro e w4 ⟨rfl, hx⟩
  replace hp := hp.ext hx
  replace hq := hq.ext hx
  replace hr := hr.ext hx
  replace hw := ext_trans hw hx
  clear hx
  go_wp2_with (at_builtin; refine wpList_append_reads rfl (.tmp 45) (.tmp 46) 22 rfl w4.heap.size 3 i0 (.int .i64 0) 8 Try.underlying22 hi hz0 hz1 hz2 rfl _ _ 0 [] (xs.map intV) rfl (World.ownsRow_made w4 #[] 0 (Nat.le_refl _) (Nat.zero_le _) rfl) rfl (hp.ext (ext_alloc _ _)) ?q1 ?q2 ?q3 (by decide) (by simp) ?_)
  case q1 => exact .inr ⟨⟨ba, oa, none⟩, ca, by rw [List.length_map]; rfl⟩
  case q2 => intro u hu; obtain ⟨x, _, rfl⟩ := List.mem_map.1 hu; rfl
  case q3 => rw [List.length_map]; omega
  intro v5 w5 hown5 hgrow5
  have hx5 : Ext w4 w5 := ((Below.refl _ w4).alloc (Nat.le_refl _) _).grown hgrow5 (by simp) (by intro k hk; simp [Value.ownBlock] at hk; omega)
  replace hown5 : w5.ownsRow w4.heap.size 3 1 v5 xs.length (xs.map intV) := by simpa using hown5
  replace hq := hq.ext hx5
  have hb5 : w4.heap.size ≤ w5.heap.size := hx5.size
  clear hgrow5
  go_wp2_with (at_builtin; refine wpList_append_reads rfl (.tmp 47) (.tmp 48) 22 rfl w4.heap.size 3 i0 (.int .i64 0) 8 Try.underlying22 hi hz0 hz1 hz2 rfl v5 _ xs.length (xs.map intV) (zs.map intV) rfl hown5 rfl hq ?r1 ?r2 ?r3 (by decide) hb5 ?_)
  case r1 =>
    cases c with
    | none => 
      have := hcn.out rfl
      subst this
      have hz : zs.length = 0 := by obtain ⟨_, _, hv, h1, _⟩ := hq.opened; cases hv; omega
      exact .inl (by rw [← hz]; rfl)
    | some ad => exact .inr ⟨ad, cc, by rw [List.length_map]; rfl⟩
  case r2 => intro u hu; obtain ⟨x, _, rfl⟩ := List.mem_map.1 hu; rfl
  case r3 => rw [List.length_map]; omega
  intro v6 w6 hown6 hgrow6
  have hx6 : Below w4.heap.size w5 w6 := (Below.refl _ w5).grown hgrow6 (by omega) (fun k hk => (hown5.lt k hk).1)
  have ho : Ints w6 v6 (xs ++ zs) := by
    have h := Reads.of_own hown6
    rw [← List.map_append] at h
    exact h
  have hx46 : Ext w4 w6 := hx5.trans hx6
  replace hp := hp.ext hx46
  replace hr := hr.ext hx46
  replace hw := ext_trans hw hx46
  clear hown5 hown6 hgrow6 hx5 hx6 hb5 hx46 hq
  go_wp2_with fail
  refine (inserted_v _ _ xs ys (insL xs ys t) t _ hp hr (by omega) (by omega) B1.out rfl).mono ?_
  rintro e w7 ⟨va, rfl, ha, hx⟩
  have hxw7 : Ext w6 w7 := hx
  clear hx
  replace hp := hp.ext hxw7
  replace hr := hr.ext hxw7
  replace ho := ho.ext hxw7
  replace hw := ext_trans hw hxw7
  clear hxw7
  go_wp2_with fail
  refine (inserted_v _ _ (xs ++ zs) ys (insL (xs ++ zs) ys t) t _ ho hr Z.out (by omega) B2.out rfl).mono ?_
  rintro e w8 ⟨vb, rfl, hb, hx⟩
  have hxw8 : Ext w7 w8 := hx
  clear hx
  replace hp := hp.ext hxw8
  replace hr := hr.ext hxw8
  replace ho := ho.ext hxw8
  replace ha := ha.ext hxw8
  replace hw := ext_trans hw hxw8
  clear hxw8
  go_wp2_with fail
  refine (moved_v _ _ xs ys (movL xs ys t f) t f _ hp hr (by omega) (by omega) B1.out rfl).mono ?_
  rintro e w9 ⟨vc, rfl, hc, hx⟩
  have hxw9 : Ext w8 w9 := hx
  clear hx
  replace hp := hp.ext hxw9
  replace hr := hr.ext hxw9
  replace ho := ho.ext hxw9
  replace ha := ha.ext hxw9
  replace hb := hb.ext hxw9
  replace hw := ext_trans hw hxw9
  clear hxw9
  go_wp2_with fail
  refine (moved_v _ _ (xs ++ zs) ys (movL (xs ++ zs) ys t f) t f _ ho hr Z.out (by omega) B2.out rfl).mono ?_
  rintro e w10 ⟨vd, rfl, hd, hx⟩
  have hxw10 : Ext w9 w10 := hx
  clear hx
  replace hp := hp.ext hxw10
  replace hr := hr.ext hxw10
  replace ho := ho.ext hxw10
  replace ha := ha.ext hxw10
  replace hb := hb.ext hxw10
  replace hc := hc.ext hxw10
  replace hw := ext_trans hw hxw10
  clear hxw10
  go_wp2_with fail
  refine (deleted_v _ _ xs ys (delL xs ys t) t _ hp hr (by omega) (by omega) B1.out G.out rfl).mono ?_
  rintro e w11 ⟨vx, rfl, hvx, hx⟩
  have hxw11 : Ext w10 w11 := hx
  clear hx
  replace hp := hp.ext hxw11
  replace hr := hr.ext hxw11
  replace ho := ho.ext hxw11
  replace ha := ha.ext hxw11
  replace hb := hb.ext hxw11
  replace hc := hc.ext hxw11
  replace hd := hd.ext hxw11
  replace hw := ext_trans hw hxw11
  clear hxw11
  go_wp2_with fail
  refine (deleted_v _ _ (xs ++ zs) ys (delL (xs ++ zs) ys t) t _ ho hr Z.out (by omega) B2.out G2.out rfl).mono ?_
  rintro e w12 ⟨vy, rfl, hvy, hx⟩
  have hxw12 : Ext w11 w12 := hx
  clear hx
  replace hp := hp.ext hxw12
  replace hr := hr.ext hxw12
  replace ho := ho.ext hxw12
  replace ha := ha.ext hxw12
  replace hb := hb.ext hxw12
  replace hc := hc.ext hxw12
  replace hd := hd.ext hxw12
  replace hvx := hvx.ext hxw12
  replace hw := ext_trans hw hxw12
  clear hxw12
  go_wp2_with fail
  refine (under_b true _ _ (insL (xs ++ zs) ys t) (insL xs ys t) _ hb ha (ins_app hlt)).mono ?_
  rintro e w13 ⟨rfl, hx⟩
  have hxw13 : Ext w12 w13 := hx
  clear hx
  replace hp := hp.ext hxw13
  replace hr := hr.ext hxw13
  replace ho := ho.ext hxw13
  replace ha := ha.ext hxw13
  replace hb := hb.ext hxw13
  replace hc := hc.ext hxw13
  replace hd := hd.ext hxw13
  replace hvx := hvx.ext hxw13
  replace hvy := hvy.ext hxw13
  replace hw := ext_trans hw hxw13
  clear hxw13
  go_wp2_with fail
  refine (under_b true _ _ (movL (xs ++ zs) ys t f) (movL xs ys t f) _ hd hc (mov_app hlt)).mono ?_
  rintro e w14 ⟨rfl, hx⟩
  have hxw14 : Ext w13 w14 := hx
  clear hx
  replace hp := hp.ext hxw14
  replace hr := hr.ext hxw14
  replace ho := ho.ext hxw14
  replace ha := ha.ext hxw14
  replace hb := hb.ext hxw14
  replace hc := hc.ext hxw14
  replace hd := hd.ext hxw14
  replace hvx := hvx.ext hxw14
  replace hvy := hvy.ext hxw14
  replace hw := ext_trans hw hxw14
  clear hxw14
  go_wp2_with fail
  refine (under_b true _ _ (delL (xs ++ zs) ys t) (delL xs ys t) _ hvy hvx (del_app hlt)).mono ?_
  rintro e w15 ⟨rfl, hx⟩
  have hxw15 : Ext w14 w15 := hx
  clear hx
  replace hp := hp.ext hxw15
  replace hr := hr.ext hxw15
  replace ho := ho.ext hxw15
  replace ha := ha.ext hxw15
  replace hb := hb.ext hxw15
  replace hc := hc.ext hxw15
  replace hd := hd.ext hxw15
  replace hvx := hvx.ext hxw15
  replace hvy := hvy.ext hxw15
  replace hw := ext_trans hw hxw15
  clear hxw15
  go_wp2_with fail
  refine (under_b true _ _ xs ys _ hp hr U.out).mono ?_
  rintro e w16 ⟨rfl, hx⟩
  have hxw16 : Ext w15 w16 := hx
  clear hx
  replace hp := hp.ext hxw16
  replace hr := hr.ext hxw16
  replace ho := ho.ext hxw16
  replace ha := ha.ext hxw16
  replace hb := hb.ext hxw16
  replace hc := hc.ext hxw16
  replace hd := hd.ext hxw16
  replace hvx := hvx.ext hxw16
  replace hvy := hvy.ext hxw16
  replace hw := ext_trans hw hxw16
  clear hxw16
  go_wp2_with fail
  go_ret
  exact ⟨rfl, hw⟩


theorem undr_any (p r : Value) (xs zs ys : List Int) (c : Option Addr) (cc : Nat) (t f : Int) (w : World) (hcn : Hid (c = none → cc = 0)) (hp : Ints w p xs) (hq : Ints w (.slice c zs.length cc) zs) (hr : Ints w r ys) :
    Calls Try.prog 7 #[p, .slice c zs.length cc, r, .int .i64 t, .int .i64 f] w fun e w' => e = .returned (.bool true) ∧ Ext w w' := by
  cases h1 : fineB xs t f with
  | false => exact undr_out0 p r xs zs ys c cc t f w hcn hp hq hr (by show _ = _; rw [h1]; rfl)
  | true =>
  have F1 : Hid ((!fineB xs t f) = false) := by show _ = _; rw [h1]; rfl
  cases h2 : fineB zs t f with
  | false => exact undr_out1 p r xs zs ys c cc t f w hcn hp hq hr F1 (by show _ = _; rw [h2]; rfl)
  | true =>
  have F2 : Hid ((!fineB zs t f) = false) := by show _ = _; rw [h2]; rfl
  cases h3 : fineB ys t f with
  | false => exact undr_out2 p r xs zs ys c cc t f w hcn hp hq hr F1 F2 (by show _ = _; rw [h3]; rfl)
  | true =>
  have F3 : Hid ((!fineB ys t f) = false) := by show _ = _; rw [h3]; rfl
  obtain ⟨za, _, _, _, _, ba⟩ := fineB_spec h1
  obtain ⟨zb, _, _, _, _, bb⟩ := fineB_spec h2
  by_cases hlt : ys.length < xs.length
  · have B1 : Hid (Bd 1099511627775 xs) := ba.mono (by omega)
    have B2 : Hid (Bd 1099511627775 (xs ++ zs)) := by
      intro x hx
      rcases List.mem_append.1 hx with h | h
      · have := ba x h; omega
      · have := bb x h; omega
    cases g : gone xs ys t with
    | true =>
      have hu : under xs ys = true := by unfold gone at g; simp only [Bool.and_eq_true] at g; exact g.2.1
      exact undr_11 p r xs zs ys c cc t f w hcn hp hq hr F1 F2 F3 hlt za zb B1 B2 hu g (by show _ = _; rw [gone_app hlt, g])
    | false =>
      cases hu : under xs ys with
      | true => exact undr_10 p r xs zs ys c cc t f w hcn hp hq hr F1 F2 F3 hlt za zb B1 B2 hu g (by show _ = _; rw [gone_app hlt, g])
      | false => exact undr_00 p r xs zs ys c cc t f w hcn hp hq hr F1 F2 F3 hlt za zb B1 B2 hu g (by show _ = _; rw [gone_app hlt, g])
  · exact undr_short p r xs zs ys c cc t f w hcn hp hq hr F1 F2 F3 (by omega)

end Go.Proofs.Ytcbfppjiikgbfaa

