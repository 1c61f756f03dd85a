/- Plain laws of paths: what undoes what. -/
import Derived.Test.YtcbfppjiikgbfaaPlain
namespace Go.Proofs.Ytcbfppjiikgbfaa

theorem thr_length (xs ys : List Int) (g : Int → Int) : (thr xs ys g).length = xs.length := by
  unfold thr stepAt
  split
  · split <;> simp
  · rfl

theorem thr_off {xs ys : List Int} (g : Int → Int) (h : ¬ (under xs ys = true ∧ ys.length < xs.length)) : thr xs ys g = xs := by
  unfold thr stepAt
  split
  · rename_i hu
    rw [if_neg (fun hl => h ⟨hu, hl⟩)]
  · rfl

theorem thr_on {xs ys : List Int} (g : Int → Int) (h1 : under xs ys = true) (h2 : ys.length < xs.length) : thr xs ys g = xs.set ys.length (g (nth xs ys.length)) := by
  unfold thr stepAt
  rw [if_pos h1, if_pos h2]

theorem thr_under (xs ys : List Int) (g : Int → Int) : under (thr xs ys g) ys = under xs ys := by
  by_cases h : under xs ys = true ∧ ys.length < xs.length
  · rw [thr_on g h.1 h.2]
    unfold under
    rw [List.take_set_of_le (Nat.le_refl _)]
  · rw [thr_off g h]

theorem thr_nth {xs ys : List Int} (g : Int → Int) (h1 : under xs ys = true) (h2 : ys.length < xs.length) : nth (thr xs ys g) ys.length = g (nth xs ys.length) := by
  rw [thr_on g h1 h2, nth_eq (by simpa using h2)]
  simp

theorem thr_thr (xs ys : List Int) (g h : Int → Int) : thr (thr xs ys g) ys h = thr xs ys fun k => h (g k) := by
  by_cases hh : under xs ys = true ∧ ys.length < xs.length
  · rw [thr_on (xs := thr xs ys g) h (by rw [thr_under]; exact hh.1) (by rw [thr_length]; exact hh.2), thr_nth g hh.1 hh.2, thr_on g hh.1 hh.2, thr_on _ hh.1 hh.2]
    simp
  · rw [thr_off (xs := thr xs ys g) h (by rw [thr_under, thr_length]; exact hh), thr_off g hh, thr_off _ hh]

theorem thr_id {xs ys : List Int} {g : Int → Int} (h : under xs ys = true → ys.length < xs.length → g (nth xs ys.length) = nth xs ys.length) : thr xs ys g = xs := by
  by_cases hh : under xs ys = true ∧ ys.length < xs.length
  · rw [thr_on g hh.1 hh.2, h hh.1 hh.2, nth_eq hh.2]
    simp
  · exact thr_off g hh

theorem down_up (t k : Int) : downF t (upF t k) = k := by unfold downF upF; split <;> split <;> omega
theorem up_ne (t k : Int) : upF t k ≠ t := by unfold upF; split <;> omega
theorem up_down {t k : Int} (h : k ≠ t) : upF t (downF t k) = k := by unfold downF upF; split <;> split <;> omega
theorem move_move (f t k : Int) : moveF t f (moveF f t k) = k := by
  unfold moveF
  by_cases h : k = f
  · rw [if_pos h, if_pos rfl, h]
  · rw [if_neg h, if_neg (up_ne _ _), down_up, up_down h]

theorem ins_not_gone (xs ys : List Int) (t : Int) : gone (insL xs ys t) ys t = false := by
  unfold gone insL
  rw [thr_under, thr_length]
  by_cases hh : under xs ys = true ∧ ys.length < xs.length
  · rw [thr_nth _ hh.1 hh.2]
    simp [up_ne]
  · by_cases h1 : ys.length < xs.length
    · have : under xs ys = false := by
        cases h : under xs ys with
        | false => rfl
        | true => exact (hh ⟨h, h1⟩).elim
      simp [this]
    · simp [h1]

theorem del_ins (xs ys : List Int) (t : Int) : delL (insL xs ys t) ys t = xs := by
  unfold delL insL
  rw [thr_thr]
  exact thr_id fun _ _ => down_up _ _

theorem ins_del {xs ys : List Int} {t : Int} (h : gone xs ys t = false) : insL (delL xs ys t) ys t = xs := by
  unfold delL insL
  rw [thr_thr]
  refine thr_id fun h1 h2 => up_down fun he => ?_
  unfold gone at h
  simp [h1, h2, he] at h

theorem mov_mov (xs ys : List Int) (f t : Int) : movL (movL xs ys f t) ys t f = xs := by
  unfold movL
  rw [thr_thr]
  exact thr_id fun _ _ => move_move _ _ _

theorem Bd.mono {B C : Int} {xs : List Int} (h : Bd B xs) (hb : B ≤ C) : Bd C xs := fun x hx => by have := h x hx; omega

theorem Bd.thr {B C : Int} {xs ys : List Int} {g : Int → Int} (h : Bd B xs) (hBC : B ≤ C) (hg : ∀ k, -B ≤ k → k ≤ B → -C ≤ g k ∧ g k ≤ C) : Bd C (thr xs ys g) := by
  by_cases hh : under xs ys = true ∧ ys.length < xs.length
  · rw [thr_on g hh.1 hh.2]
    intro x hx
    rcases List.mem_or_eq_of_mem_set hx with h1 | h1
    · have := h x h1; omega
    · rw [h1]
      have := h.nth hh.2
      exact hg _ this.1 this.2
  · rw [thr_off g hh]; exact h.mono hBC

theorem up_bd {B t k : Int} (h1 : -B ≤ k) (h2 : k ≤ B) : -(B + 1) ≤ upF t k ∧ upF t k ≤ B + 1 := by unfold upF; split <;> omega
theorem down_bd {B t k : Int} (h1 : -B ≤ k) (h2 : k ≤ B) : -(B + 1) ≤ downF t k ∧ downF t k ≤ B + 1 := by unfold downF; split <;> omega
theorem move_bd {B f t k : Int} (h1 : -B ≤ k) (h2 : k ≤ B) (h3 : -B ≤ t) (h4 : t ≤ B) : -(B + 1) ≤ moveF f t k ∧ moveF f t k ≤ B + 1 := by
  unfold moveF upF downF; split <;> (try split) <;> (try split) <;> omega

theorem Bd.ins {B t : Int} {xs ys : List Int} (h : Bd B xs) : Bd (B + 1) (insL xs ys t) := h.thr (by omega) fun _ a b => up_bd a b
theorem Bd.del {B t : Int} {xs ys : List Int} (h : Bd B xs) : Bd (B + 1) (delL xs ys t) := h.thr (by omega) fun _ a b => down_bd a b
theorem Bd.mov {B f t : Int} {xs ys : List Int} (h : Bd B xs) (h3 : -B ≤ t) (h4 : t ≤ B) : Bd (B + 1) (movL xs ys f t) := h.thr (by omega) fun _ a b => move_bd a b h3 h4

end Go.Proofs.Ytcbfppjiikgbfaa
