/- Longest common rows, plain; tables of numbers. -/
import Derived.Test.YtigmpablpmanpaaSA
namespace Go.Proofs.Ytigmpablpmanpaa
open Go.RowKit
set_option linter.unusedVariables false
set_option linter.unusedSimpArgs false

/-- How long a longest common row is. -/
def lcs : List ByteArray → List ByteArray → Nat
  | [], _ => 0
  | _ :: _, [] => 0
  | x :: xs, y :: ys => if x = y then lcs xs ys + 1 else max (lcs xs (y :: ys)) (lcs (x :: xs) ys)
termination_by a b => a.length + b.length
theorem lcs_nil (b : List ByteArray) : lcs [] b = 0 := by rw [lcs.eq_def]
theorem lcs_nil' : ∀ a : List ByteArray, lcs a [] = 0
  | [] => lcs_nil _
  | x :: r => by rw [lcs.eq_def]
theorem lcs_cons (x y : ByteArray) (xs ys : List ByteArray) : lcs (x :: xs) (y :: ys) = if x = y then lcs xs ys + 1 else max (lcs xs (y :: ys)) (lcs (x :: xs) ys) := by rw [lcs.eq_def]
theorem lcs_le : ∀ a b : List ByteArray, lcs a b ≤ a.length ∧ lcs a b ≤ b.length
  | [], b => by rw [lcs_nil]; simp
  | x :: xs, [] => by rw [lcs_nil']; simp
  | x :: xs, y :: ys => by
    rw [lcs_cons]
    have h1 := lcs_le xs ys
    have h2 := lcs_le xs (y :: ys)
    have h3 := lcs_le (x :: xs) ys
    simp only [List.length_cons] at *
    split <;> omega
termination_by a b => a.length + b.length
theorem drop_nth {L : List ByteArray} {k : Nat} (h : k < L.length) : L.drop k = nthS L k :: L.drop (k + 1) := by
  rw [nthS_eq h]
  exact List.drop_eq_getElem_cons h
/-- From two places on. -/
def lcd (a b : List ByteArray) (i j : Nat) : Nat := lcs (a.drop i) (b.drop j)
theorem lcd_step {a b : List ByteArray} {i j : Nat} (hi : i < a.length) (hj : j < b.length) : lcd a b i j = if nthS a i = nthS b j then lcd a b (i + 1) (j + 1) + 1 else max (lcd a b (i + 1) j) (lcd a b i (j + 1)) := by
  unfold lcd
  rw [drop_nth hi, drop_nth hj, lcs_cons]
theorem lcd_end {a b : List ByteArray} {i j : Nat} (h : a.length ≤ i ∨ b.length ≤ j) : lcd a b i j = 0 := by
  unfold lcd
  rcases h with h | h
  · rw [List.drop_of_length_le h, lcs_nil]
  · rw [List.drop_of_length_le h, lcs_nil']
theorem lcd_le (a b : List ByteArray) (i j : Nat) : lcd a b i j ≤ a.length ∧ lcd a b i j ≤ b.length := by
  have := lcs_le (a.drop i) (b.drop j)
  simp only [List.length_drop] at this
  unfold lcd
  omega

/-- A table of small numbers. -/
def tabL (N : Nat) (f : Nat → Nat) : List AV := (List.range N).map fun k => .sc (.int .u16 (f k))
theorem tabL_length (N : Nat) (f : Nat → Nat) : (tabL N f).length = N := by simp [tabL]
theorem tabL_get {N : Nat} {f : Nat → Nat} {k : Nat} (h : k < N) : (tabL N f).getD k .top = .sc (.int .u16 (f k)) := by
  simp [tabL, List.getD, h]
theorem tabL_set {N : Nat} {f : Nat → Nat} {m v : Nat} : (tabL N f).set m (.sc (.int .u16 v)) = tabL N (fun k => if k = m then v else f k) := by
  apply List.ext_getElem
  · simp [tabL]
  · intro k h1 h2
    simp only [tabL, List.getElem_set, List.getElem_map, List.getElem_range]
    by_cases e : m = k
    · subst e; simp
    · rw [if_neg e, if_neg (fun h => e h.symm)]
theorem tabL_zero (N : Nat) : tabL N (fun _ => 0) = List.replicate N (.sc (.int .u16 0)) := by
  apply List.ext_getElem
  · simp [tabL]
  · intro k h1 h2
    simp [tabL]
theorem tabL_congr {N : Nat} {f g : Nat → Nat} (h : ∀ k, k < N → f k = g k) : tabL N f = tabL N g := by
  unfold tabL
  apply List.map_congr_left
  intro k hk
  rw [h k (List.mem_range.1 hk)]
/-- The table, right from some place on. -/
def tabF (a b : List ByteArray) (p k : Nat) : Nat := if p ≤ k then lcd a b (k / (b.length + 1)) (k % (b.length + 1)) else 0
theorem tabF_at {a b : List ByteArray} {p i j : Nat} (hj : j ≤ b.length) (h : p ≤ i * (b.length + 1) + j) : tabF a b p (i * (b.length + 1) + j) = lcd a b i j := by
  unfold tabF
  rw [if_pos h]
  have h1 : (i * (b.length + 1) + j) / (b.length + 1) = i := by
    rw [Nat.add_comm, Nat.add_mul_div_right _ _ (by omega), Nat.div_eq_of_lt (by omega), Nat.zero_add]
  have h2 : (i * (b.length + 1) + j) % (b.length + 1) = j := by
    rw [Nat.add_comm, Nat.add_mul_mod_self_right, Nat.mod_eq_of_lt (by omega)]
  rw [h1, h2]
theorem tabF_le (a b : List ByteArray) (p k : Nat) : tabF a b p k ≤ a.length := by
  unfold tabF
  split
  · exact (lcd_le a b _ _).1
  · exact Nat.zero_le _
/-- A step of the filling. -/
theorem tabF_step {a b : List ByteArray} {p : Nat} (N : Nat) : tabL N (fun k => if k = p then lcd a b (p / (b.length + 1)) (p % (b.length + 1)) else tabF a b (p + 1) k) = tabL N (tabF a b p) := by
  refine tabL_congr fun k hk => ?_
  by_cases e : k = p
  · subst e
    rw [if_pos rfl]
    unfold tabF
    rw [if_pos (Nat.le_refl _)]
  · rw [if_neg e]
    unfold tabF
    by_cases h : p ≤ k
    · rw [if_pos h, if_pos (by omega)]
    · rw [if_neg h, if_neg (by omega)]
/-- The last column is there from the beginning. -/
theorem tabF_edge {a b : List ByteArray} {i : Nat} (N : Nat) : tabL N (tabF a b ((i + 1) * (b.length + 1))) = tabL N (tabF a b (i * (b.length + 1) + b.length)) := by
  refine tabL_congr fun k hk => ?_
  have e0 : (i + 1) * (b.length + 1) = i * (b.length + 1) + b.length + 1 := by rw [Nat.add_mul]; omega
  by_cases e : k = i * (b.length + 1) + b.length
  · subst e
    rw [tabF_at (Nat.le_refl _) (Nat.le_refl _), lcd_end (.inr (Nat.le_refl _))]
    unfold tabF
    rw [if_neg (by omega)]
  · unfold tabF
    by_cases h : (i + 1) * (b.length + 1) ≤ k
    · rw [if_pos h, if_pos (by omega)]
    · rw [if_neg h, if_neg (by omega)]
theorem tabF_start {a b : List ByteArray} : tabL ((a.length + 1) * (b.length + 1)) (fun _ => 0) = tabL ((a.length + 1) * (b.length + 1)) (tabF a b (a.length * (b.length + 1))) := by
  refine tabL_congr fun k hk => ?_
  unfold tabF
  split
  · rename_i h
    rw [lcd_end (.inl ?_)]
    exact (Nat.le_div_iff_mul_le (by omega)).2 h
  · rfl
end Go.Proofs.Ytigmpablpmanpaa
