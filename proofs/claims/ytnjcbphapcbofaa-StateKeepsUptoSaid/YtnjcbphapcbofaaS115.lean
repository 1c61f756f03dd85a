/- Plain laws of states: what a state has; what is put again changes nothing; two may be put in either order. -/
import Derived.Test.YtnjcbphapcbofaaS101
import Derived.Test.YtnjcbphapcbofaaSK
namespace Go.Proofs.Ytnjcbphapcbofaa
open Go.RowKit
set_option linter.unusedVariables false
set_option linter.unusedSimpArgs false

/-- What a state has of a name. -/
def gt (n : ByteArray) : List Dc → Option ByteArray := mGet n
theorem gt_none {n : ByteArray} : ∀ {l : List Dc}, (∀ y ∈ l, n ≠ y.1) → gt n l = none
  | [], _ => rfl
  | x :: r, h => by
    show (if n = x.1 then _ else mGet n r) = none
    rw [if_neg (h x (by simp))]
    exact gt_none (l := r) fun y hy => h y (by simp [hy])
theorem lt_ne {a b : ByteArray} (h : lt a b = true) : a ≠ b := fun e => by rw [e, lt_irrefl] at h; simp at h
theorem lt_asymm {a b : ByteArray} (h : lt a b = true) : lt b a = false := by
  cases e : lt b a with
  | false => rfl
  | true => have := lt_trans h e; rw [lt_irrefl] at this; simp at this
theorem gt_putL {n : ByteArray} {d : Dc} : ∀ {l : List Dc}, Rise l → gt n (putL l d) = if n = d.1 then some d.2 else gt n l
  | [], _ => rfl
  | x :: r, h => by
    rw [putL_cons]
    have ih := gt_putL (n := n) (d := d) h.2
    unfold gt at ih ⊢
    split
    · rename_i hlt
      simp only [mGet, ih]
      by_cases e : n = x.1
      · have : ¬ n = d.1 := fun e2 => lt_ne hlt (e.symm.trans e2)
        simp [e, this]
        intro e3
        exact (lt_ne hlt e3).elim
      · simp [e]
    · rename_i hlt
      split
      · rename_i e
        simp only [mGet]
        by_cases e2 : n = d.1
        · simp [e2]
        · have : ¬ n = x.1 := fun e3 => e2 (e3.trans e)
          simp [e2, this]
      · simp only [mGet]
theorem gt_ext : ∀ {l m : List Dc}, Rise l → Rise m → (∀ n, gt n l = gt n m) → l = m
  | [], [], _, _, _ => rfl
  | [], y :: s, _, _, h => by have := h y.1; simp [gt, mGet] at this
  | x :: r, [], _, _, h => by have := h x.1; simp [gt, mGet] at this
  | x :: r, y :: s, hl, hm, h => by
    have key : x.1 = y.1 := by
      cases e : lt x.1 y.1 with
      | true =>
        have h1 := h x.1
        have : gt x.1 (y :: s) = none := gt_none fun z hz => by
          rcases List.mem_cons.1 hz with rfl | hz
          · exact lt_ne e
          · exact lt_ne (lt_trans e (hm.1 z hz))
        rw [this] at h1
        simp [gt, mGet] at h1
      | false =>
        cases e2 : lt y.1 x.1 with
        | true =>
          have h1 := h y.1
          have : gt y.1 (x :: r) = none := gt_none fun z hz => by
            rcases List.mem_cons.1 hz with rfl | hz
            · exact lt_ne e2
            · exact lt_ne (lt_trans e2 (hl.1 z hz))
          rw [this] at h1
          simp [gt, mGet] at h1
        | false => exact lt_total e e2
    have hv : x.2 = y.2 := by
      have := h x.1
      simpa [gt, mGet, key] using this
    have hxy : x = y := Prod.ext key hv
    subst hxy
    rw [gt_ext hl.2 hm.2 fun n => ?_]
    have h1 := h n
    unfold gt at h1
    simp only [mGet] at h1
    by_cases e : n = x.1
    · have a1 : gt n r = none := gt_none fun z hz => by rw [e]; exact lt_ne (hl.1 z hz)
      have a2 : gt n s = none := gt_none fun z hz => by rw [e]; exact lt_ne (hm.1 z hz)
      rw [a1, a2]
    · rwa [if_neg e, if_neg e] at h1
/-- The last of its name. -/
def lastT (n : ByteArray) : List Dc → Option ByteArray
  | [] => none
  | d :: r => (lastT n r).or (if n = d.1 then some d.2 else none)
theorem lastT_cons {n : ByteArray} {d : Dc} {r : List Dc} : lastT n (d :: r) = (lastT n r).or (if n = d.1 then some d.2 else none) := rfl
theorem gt_putAll {n : ByteArray} : ∀ {ds l : List Dc}, Rise l → gt n (putAll l ds) = (lastT n ds).or (gt n l)
  | [], l, _ => by simp [putAll, lastT]
  | d :: r, l, h => by
    have ih := gt_putAll (n := n) (ds := r) (rise_putL (d := d) h)
    show gt n (putAll (putL l d) r) = _
    rw [ih, gt_putL h, lastT_cons]
    cases lastT n r with
    | some t => rfl
    | none =>
      by_cases e : n = d.1 <;> simp [e]
theorem put_again {l ds : List Dc} (h : Rise l) : putAll (putAll l ds) ds = putAll l ds := by
  refine gt_ext (rise_putAll (rise_putAll h ds) ds) (rise_putAll h ds) fun n => ?_
  rw [gt_putAll (rise_putAll h ds), gt_putAll h]
  cases lastT n ds <;> simp
theorem put_two {l : List Dc} {a b : Dc} (h : Rise l) (hn : a.1 = b.1 → a.2 = b.2) : putAll l [a, b] = putAll l [b, a] := by
  refine gt_ext (rise_putAll h _) (rise_putAll h _) fun n => ?_
  rw [gt_putAll h, gt_putAll h]
  simp only [lastT, Option.none_or]
  by_cases e1 : n = a.1
  · by_cases e2 : n = b.1
    · have := hn (e1.symm.trans e2)
      simp [← e1, ← e2, this]
    · simp [← e1, e2]
  · simp [e1]
theorem rise_nodup : ∀ {l : List Dc}, Rise l → (l.map (·.1)).Nodup
  | [], _ => List.nodup_nil
  | x :: r, h => by
    simp only [List.map_cons, List.nodup_cons]
    refine ⟨fun hm => ?_, rise_nodup h.2⟩
    obtain ⟨y, hy, e⟩ := List.mem_map.1 hm
    exact lt_ne (h.1 y hy) e.symm
/-- What is wanted: texts by names, as they are put into a map. -/
def wantL (M : List Dc) (l : List Dc) : List Dc := l.foldl (fun M d => mSetL d.1 d.2 M) M
theorem wantL_step {M l : List Dc} {k : Nat} (h : k < l.length) : wantL M (l.take (k + 1)) = mSetL (nthD l k).1 (nthD l k).2 (wantL M (l.take k)) := by
  unfold wantL
  rw [List.take_succ_eq_append_getElem h, nthD_eq h, List.foldl_append]
  rfl
theorem get_wantL {n : ByteArray} : ∀ {l M : List Dc}, mGet n (wantL M l) = (lastT n l).or (mGet n M)
  | [], M => by simp [wantL, lastT]
  | d :: r, M => by
    have ih := get_wantL (n := n) (l := r) (M := mSetL d.1 d.2 M)
    show mGet n (wantL (mSetL d.1 d.2 M) r) = _
    rw [ih, mGet_set, lastT_cons]
    cases lastT n r with
    | some t => rfl
    | none => by_cases e : n = d.1 <;> simp [e]
theorem wantL_nodup {l : List Dc} : ∀ {M : List Dc}, (M.map (·.1)).Nodup → ((wantL M l).map (·.1)).Nodup := by
  induction l with
  | nil => intro M h; exact h
  | cons d r ih => intro M h; exact ih (mSetL_nodup h)
theorem wantL_length {l : List Dc} : ∀ {M : List Dc}, (wantL M l).length ≤ M.length + l.length := by
  induction l with
  | nil => intro M; simp [wantL]
  | cons d r ih =>
    intro M
    have h1 := ih (M := mSetL d.1 d.2 M)
    have h2 := mSetL_length_le (k := d.1) (a := d.2) (M := M)
    show (wantL (mSetL d.1 d.2 M) r).length ≤ _
    simp only [List.length_cons]
    omega
theorem gt_rise {l : List Dc} {d : Dc} (h : Rise l) (hm : d ∈ l) : gt d.1 l = some d.2 := by
  induction l with
  | nil => simp at hm
  | cons x r ih =>
    unfold gt at ih ⊢
    rcases List.mem_cons.1 hm with rfl | hm
    · simp [mGet]
    · have : ¬ d.1 = x.1 := fun e => lt_ne (h.1 d hm) e.symm
      simp only [mGet, if_neg this]
      exact ih h.2 hm
/-- What was put is what is wanted. -/
theorem want_put {s ds : List Dc} (h : Rise s) (n : ByteArray) : mGet n (wantL (wantL [] s) ds) = gt n (putAll s ds) := by
  rw [get_wantL, get_wantL, gt_putAll h]
  have : mGet n ([] : List Dc) = none := rfl
  rw [this, Option.or_none]
  congr 1
  -- a state has its own last
  have key : ∀ {l : List Dc}, Rise l → lastT n l = gt n l := by
    intro l hl
    induction l with
    | nil => rfl
    | cons x r ih =>
      rw [lastT_cons, ih hl.2]
      unfold gt
      simp only [mGet]
      by_cases e : n = x.1
      · have : gt n r = none := gt_none fun z hz => by rw [e]; exact lt_ne (hl.1 z hz)
        unfold gt at this
        rw [this, e]; simp
      · simp [e]
  exact key h
theorem want_length {s ds : List Dc} (h : Rise s) : (wantL (wantL [] s) ds).length = (putAll s ds).length := by
  have n1 : ((wantL (wantL [] s) ds).map (·.1)).Nodup := wantL_nodup (wantL_nodup (by simp))
  have n2 := rise_nodup (rise_putAll h ds)
  have e : ∀ x, x ∈ (wantL (wantL [] s) ds).map (·.1) ↔ x ∈ (putAll s ds).map (·.1) := fun x => by
    rw [mGet_mem, mGet_mem, want_put h]; rfl
  have h1 := nodup_le n1 fun x hx => (e x).1 hx
  have h2 := nodup_le n2 fun x hx => (e x).2 hx
  simp only [List.length_map] at h1 h2
  omega
theorem putL_names {l : List Dc} {d : Dc} (h1 : ∀ x ∈ l, badN x = false) (h2 : badN d = false) : ∀ x ∈ putL l d, badN x = false := fun x hx => by
  rcases mem_putL hx with rfl | hx
  · exact h2
  · exact h1 x hx
theorem putAll_names {ds : List Dc} : ∀ {l : List Dc}, (∀ x ∈ l, badN x = false) → (∀ x ∈ ds, badN x = false) → ∀ x ∈ putAll l ds, badN x = false := by
  induction ds with
  | nil => intro l h1 _; exact h1
  | cons d r ih => intro l h1 h2; exact ih (putL_names h1 (h2 d (by simp))) (fun x hx => h2 x (by simp [hx]))
theorem riseB_of : ∀ {l : List Dc}, Rise l → riseB l = true := by
  intro l h
  refine List.all_eq_true.2 fun k hk => ?_
  have hk := List.mem_range.1 hk
  unfold upAt
  cases k with
  | zero => simp
  | succ k =>
    have key : ∀ {l : List Dc} {k : Nat}, Rise l → k + 1 < l.length → lt (nthD l k).1 (nthD l (k + 1)).1 = true := by
      intro l
      induction l with
      | nil => intro k _ h; simp at h
      | cons x r ih =>
        intro k hr hk
        cases k with
        | zero =>
          cases r with
          | nil => simp at hk
          | cons y s => exact hr.1 y (by simp)
        | succ k =>
          have := ih (k := k) hr.2 (by simpa using hk)
          simpa [nthD] using this
    simp only [Nat.add_sub_cancel]
    rw [key h hk]; simp
theorem right_put {s ds : List Dc} (h : rightS s = true) (hd : ds.any badN = false) : Rise s ∧ rightS (putAll s ds) = true := by
  simp only [rightS, Bool.and_eq_true, Bool.not_eq_true', List.any_eq_false] at h
  have hr := rise_of_B h.1
  refine ⟨hr, ?_⟩
  have hn := putAll_names (l := s) (ds := ds) (fun x hx => by simpa using h.2 x hx) (fun x hx => by simpa using List.any_eq_false.1 hd x hx)
  simp only [rightS, Bool.and_eq_true, Bool.not_eq_true', List.any_eq_false]
  exact ⟨riseB_of (rise_putAll hr ds), fun x hx => by simpa using hn x hx⟩
theorem putR_ok {s ds : List Dc} (h : (putR s ds).2 = 0) : rightS s = true ∧ ds.any badN = false ∧ (putR s ds).1 = putAll s ds := by
  unfold putR at h ⊢
  by_cases c0 : rightS s = true
  · rw [if_pos c0] at h ⊢
    by_cases c1 : ds.any badN = true
    · rw [if_pos c1] at h
      simp at h
    · rw [if_neg c1]
      exact ⟨c0, by simpa using c1, rfl⟩
  · rw [if_neg c0] at h
    simp at h
theorem putR_no {s ds : List Dc} (h : (putR s ds).2 ≠ 0) : (putR s ds).1 = [] := by
  unfold putR at h ⊢
  by_cases c0 : rightS s = true
  · rw [if_pos c0] at h ⊢
    by_cases c1 : ds.any badN = true
    · rw [if_pos c1]
    · rw [if_neg c1] at h
      simp at h
  · rw [if_neg c0]
end Go.Proofs.Ytnjcbphapcbofaa
