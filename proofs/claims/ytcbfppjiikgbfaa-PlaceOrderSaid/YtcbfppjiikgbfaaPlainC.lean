/- Plain laws of paths: their order, and what is under them. -/
import Derived.Test.YtcbfppjiikgbfaaPlainB
namespace Go.Proofs.Ytcbfppjiikgbfaa

theorem cmpL_self : ∀ a : List Int, cmpL a a = 0
  | [] => rfl
  | x :: xs => by simp [cmpL, cmpL_self xs]

theorem cmpL_neg : ∀ a b : List Int, cmpL a b = -cmpL b a
  | [], [] => rfl
  | [], _ :: _ => rfl
  | _ :: _, [] => rfl
  | x :: xs, y :: ys => by
    simp only [cmpL]
    by_cases h1 : x < y
    · rw [if_pos h1, if_neg (by omega), if_pos h1]
    · by_cases h2 : y < x
      · rw [if_neg h1, if_pos h2, if_pos h2]; rfl
      · rw [if_neg h1, if_neg h2, if_neg h2, if_neg h1]; exact cmpL_neg xs ys

theorem cmpL_rng : ∀ a b : List Int, -1 ≤ cmpL a b ∧ cmpL a b ≤ 1
  | [], [] => by simp [cmpL]
  | [], _ :: _ => by simp [cmpL]
  | _ :: _, [] => by simp [cmpL]
  | x :: xs, y :: ys => by
    simp only [cmpL]
    split
    · omega
    · split
      · omega
      · exact cmpL_rng xs ys

theorem cmpL_eq : ∀ a b : List Int, cmpL a b = 0 → a = b
  | [], [], _ => rfl
  | [], _ :: _, h => by simp [cmpL] at h
  | _ :: _, [], h => by simp [cmpL] at h
  | x :: xs, y :: ys, h => by
    simp only [cmpL] at h
    by_cases h1 : x < y
    · rw [if_pos h1] at h; omega
    · by_cases h2 : y < x
      · rw [if_neg h1, if_pos h2] at h; omega
      · rw [if_neg h1, if_neg h2] at h
        rw [cmpL_eq xs ys h, show x = y from by omega]

theorem cmpL_zero (a b : List Int) : (cmpL a b == 0) = decide (a = b) := by
  by_cases h : a = b
  · subst h; simp [cmpL_self]
  · have : cmpL a b ≠ 0 := fun e => h (cmpL_eq a b e)
    simp [h, this]

theorem cmpL_trans : ∀ a b c : List Int, cmpL a b < 0 → cmpL b c < 0 → cmpL a c < 0
  | [], [], _, h, _ => by simp [cmpL] at h
  | [], _ :: _, [], _, h => by simp [cmpL] at h
  | [], _ :: _, _ :: _, _, _ => by simp [cmpL]
  | _ :: _, [], _, h, _ => by simp [cmpL] at h
  | _ :: _, _ :: _, [], _, h => by simp [cmpL] at h
  | x :: xs, y :: ys, z :: zs, h, k => by
    simp only [cmpL] at h k ⊢
    by_cases h1 : x < y
    · by_cases k1 : y < z
      · rw [if_pos (by omega)]; omega
      · by_cases k2 : z < y
        · rw [if_neg k1, if_pos k2] at k; omega
        · rw [if_pos (by omega)]; omega
    · by_cases h2 : y < x
      · rw [if_neg h1, if_pos h2] at h; omega
      · rw [if_neg h1, if_neg h2] at h
        by_cases k1 : y < z
        · rw [if_pos (by omega)]; omega
        · by_cases k2 : z < y
          · rw [if_neg k1, if_pos k2] at k; omega
          · rw [if_neg k1, if_neg k2] at k
            rw [if_neg (by omega), if_neg (by omega)]
            exact cmpL_trans xs ys zs h k

theorem thr_nil (g : Int → Int) : ∀ a : List Int, thr a [] g = match a with | [] => [] | x :: as => g x :: as
  | [] => by simp [thr, under, stepAt]
  | x :: as => by simp [thr, under, stepAt, nth]

theorem thr_cons (g : Int → Int) (m : Int) (l : List Int) : ∀ a : List Int, thr a (m :: l) g = match a with | [] => [] | x :: as => if x = m then x :: thr as l g else x :: as
  | [] => by simp [thr, under]
  | x :: as => by
    by_cases h : x = m
    · subst h
      simp only [if_true, thr, under, stepAt, List.length_cons, List.take_succ_cons, List.cons.injEq, true_and, Nat.add_lt_add_iff_right, List.set_cons_succ]
      by_cases hu : List.take l.length as = l
      · simp only [hu, decide_true, if_true]
        by_cases hl : l.length < as.length
        · simp only [hl, if_true]
          simp [nth]
        · simp only [hl, if_false]
      · simp only [hu, decide_false, Bool.false_eq_true, if_false]
    · simp only [thr, under, List.length_cons, List.take_succ_cons, List.cons.injEq, h, false_and, decide_false, Bool.false_eq_true, if_false]

theorem gone_nil (t : Int) : ∀ a : List Int, gone a [] t = match a with | [] => false | x :: _ => decide (x = t)
  | [] => by simp [gone]
  | x :: as => by simp [gone, under, nth]

theorem gone_cons (t m : Int) (l : List Int) : ∀ a : List Int, gone a (m :: l) t = match a with | [] => false | x :: as => if x = m then gone as l t else false
  | [] => by simp [gone]
  | x :: as => by
    by_cases h : x = m
    · subst h; simp [gone, under, nth]
    · simp [gone, under, h]

theorem cmpL_thr (g : Int → Int) (ok : Int → Bool) (hg : ∀ x y, ok x = true → ok y = true → (x < y → g x < g y)) : ∀ (l a b : List Int),
    (under a l = true → l.length < a.length → ok (nth a l.length) = true) → (under b l = true → l.length < b.length → ok (nth b l.length) = true) → cmpL (thr a l g) (thr b l g) = cmpL a b
  | [], a, b, ha, hb => by
    rw [thr_nil, thr_nil]
    cases a with
    | nil => cases b <;> simp [cmpL]
    | cons x as =>
      cases b with
      | nil => simp [cmpL]
      | cons y bs =>
        have hx : ok x = true := by simpa [under, nth] using ha
        have hy : ok y = true := by simpa [under, nth] using hb
        simp only [cmpL]
        by_cases h1 : x < y
        · rw [if_pos h1, if_pos (hg x y hx hy h1)]
        · by_cases h2 : y < x
          · have := hg y x hy hx h2
            rw [if_neg h1, if_pos h2, if_neg (by omega), if_pos this]
          · have : x = y := by omega
            subst this
            simp
  | m :: l, a, b, ha, hb => by
    rw [thr_cons, thr_cons]
    cases a with
    | nil => cases b with
      | nil => rfl
      | cons y bs => simp only; split <;> rfl
    | cons x as =>
      cases b with
      | nil => simp only; split <;> rfl
      | cons y bs =>
        simp only
        by_cases hx : x = m
        · by_cases hy : y = m
          · subst hx
            subst hy
            simp only [if_true, cmpL]
            rw [if_neg (by omega), if_neg (by omega), if_neg (by omega), if_neg (by omega)]
            refine cmpL_thr g ok hg l as bs ?_ ?_
            · intro h1 h2
              have := ha (by simpa [under] using h1) (by simpa using h2)
              simpa [nth] using this
            · intro h1 h2
              have := hb (by simpa [under] using h1) (by simpa using h2)
              simpa [nth] using this
          · rw [if_pos hx, if_neg hy]
            simp only [cmpL]
            by_cases h1 : x < y
            · simp [h1]
            · have : y < x := by omega
              simp [h1, this]
        · rw [if_neg hx]
          by_cases hy : y = m
          · rw [if_pos hy]
            simp only [cmpL]
            by_cases h1 : x < y
            · simp [h1]
            · have : y < x := by omega
              simp [h1, this]
          · rw [if_neg hy]

theorem cmpL_ins (a b l : List Int) (t : Int) : cmpL (insL a l t) (insL b l t) = cmpL a b :=
  cmpL_thr (upF t) (fun _ => true) (fun x y _ _ h => by unfold upF; split <;> split <;> omega) l a b (fun _ _ => rfl) (fun _ _ => rfl)

theorem cmpL_del {a b l : List Int} {t : Int} (ha : gone a l t = false) (hb : gone b l t = false) : cmpL (delL a l t) (delL b l t) = cmpL a b := by
  refine cmpL_thr (downF t) (fun x => decide (x ≠ t)) (fun x y h1 h2 h => ?_) l a b ?_ ?_
  · simp at h1 h2
    unfold downF; split <;> split <;> omega
  · intro h1 h2
    simp [gone, h1, h2] at ha
    simpa using ha
  · intro h1 h2
    simp [gone, h1, h2] at hb
    simpa using hb

theorem under_app {xs zs ys : List Int} (h : ys.length ≤ xs.length) : under (xs ++ zs) ys = under xs ys := by
  unfold under
  rw [List.take_append_of_le_length h]

theorem nth_app {xs zs : List Int} {k : Nat} (h : k < xs.length) : nth (xs ++ zs) k = nth xs k := by
  rw [nth_eq h, nth_eq (by simp; omega)]
  simp [h]

theorem thr_app {xs zs ys : List Int} (g : Int → Int) (h : ys.length < xs.length) : thr (xs ++ zs) ys g = thr xs ys g ++ zs := by
  unfold thr stepAt
  have h2 : ys.length < (xs ++ zs).length := by rw [List.length_append]; omega
  rw [under_app (by omega), nth_app h, if_pos h, if_pos h2]
  by_cases hu : under xs ys = true
  · rw [if_pos hu, if_pos hu, List.set_append_left _ _ h]
  · rw [if_neg hu, if_neg hu]

theorem gone_app {xs zs ys : List Int} {t : Int} (h : ys.length < xs.length) : gone (xs ++ zs) ys t = gone xs ys t := by
  unfold gone
  rw [under_app (by omega), nth_app h]
  have h2 : ys.length < (xs ++ zs).length := by rw [List.length_append]; omega
  rw [decide_eq_true h, decide_eq_true h2]

theorem under_self_app (xs zs : List Int) : under (xs ++ zs) xs = true := by simp [under]

theorem ins_app {xs zs ys : List Int} {t : Int} (h : ys.length < xs.length) : under (insL (xs ++ zs) ys t) (insL xs ys t) = true := by unfold insL; rw [thr_app _ h]; exact under_self_app _ _
theorem del_app {xs zs ys : List Int} {t : Int} (h : ys.length < xs.length) : under (delL (xs ++ zs) ys t) (delL xs ys t) = true := by unfold delL; rw [thr_app _ h]; exact under_self_app _ _
theorem mov_app {xs zs ys : List Int} {f t : Int} (h : ys.length < xs.length) : under (movL (xs ++ zs) ys f t) (movL xs ys f t) = true := by unfold movL; rw [thr_app _ h]; exact under_self_app _ _
theorem thr_not {xs ys : List Int} {g : Int → Int} (h : under xs ys = false) : thr xs ys g = xs := thr_off g (by rw [h]; simp)

end Go.Proofs.Ytcbfppjiikgbfaa
