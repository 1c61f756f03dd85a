/- A text's lines: plain. -/
import Derived.Test.YtigmpablpmanpaaSA
namespace Go.Proofs.Ytigmpablpmanpaa
open Go.RowKit
set_option linter.unusedVariables false
set_option linter.unusedSimpArgs false

def lnsL : List UInt8 → List (List UInt8)
  | [] => []
  | c :: r => if c = 10 then [10] :: lnsL r else match lnsL r with
    | [] => [[c]]
    | l :: ls => (c :: l) :: ls
/-- How many bytes the first line has. -/
def cutL (l : List UInt8) : Nat := if Lib.indexByte l 10 < 0 then l.length else (Lib.indexByte l 10 + 1).toNat
theorem cutL_nil : cutL [] = 0 := rfl
theorem cutL_cons (c : UInt8) (r : List UInt8) : cutL (c :: r) = if c = 10 then 1 else cutL r + 1 := by
  have hge := Lib.indexByte_ge r 10
  by_cases h : c = 10
  · subst h
    have h0 : Lib.indexByte (10 :: r) 10 = 0 := by simp [Lib.indexByte]
    rw [if_pos rfl]
    unfold cutL
    rw [h0]
    rfl
  · have hb : (c == 10) = false := by simpa using h
    rw [if_neg h]
    by_cases h1 : Lib.indexByte r 10 = -1
    · have h0 : Lib.indexByte (c :: r) 10 = -1 := by simp [Lib.indexByte, h, h1]
      unfold cutL
      rw [h0, h1]
      simp
    · have h0 : Lib.indexByte (c :: r) 10 = Lib.indexByte r 10 + 1 := by simp [Lib.indexByte, h, h1]
      unfold cutL
      rw [h0, if_neg (by omega), if_neg (by omega)]
      omega
theorem cutL_le : ∀ l : List UInt8, cutL l ≤ l.length
  | [] => Nat.le_refl _
  | c :: r => by
    rw [cutL_cons]
    have := cutL_le r
    split
    · simp
    · simp; omega
theorem cutL_pos : ∀ {l : List UInt8}, l ≠ [] → 1 ≤ cutL l
  | [], h => (h rfl).elim
  | c :: r, _ => by
    rw [cutL_cons]
    split <;> omega
theorem lnsL_eq : ∀ {l : List UInt8}, l ≠ [] → lnsL l = l.take (cutL l) :: lnsL (l.drop (cutL l))
  | [], h => (h rfl).elim
  | c :: r, _ => by
    rw [cutL_cons]
    by_cases h : c = 10
    · subst h
      simp [lnsL]
    · rw [if_neg h]
      simp only [lnsL, if_neg h, List.take_succ_cons, List.drop_succ_cons]
      by_cases hr : r = []
      · subst hr
        simp [lnsL, cutL_nil]
      · rw [lnsL_eq hr]
theorem lnsL_flat : ∀ l : List UInt8, (lnsL l).flatten = l
  | [] => rfl
  | c :: r => by
    have ih := lnsL_flat r
    simp only [lnsL]
    split
    · rename_i h; subst h; simp [ih]
    · split
      · rename_i h1 h2; rw [h2] at ih; simp at ih; subst ih; rfl
      · rename_i h1 l ls h2; rw [h2] at ih; simp at ih; simp [ih]
/-- Where the k-th line begins. -/
def atL (l : List UInt8) (k : Nat) : Nat := ((lnsL l).take k).flatten.length
theorem lnsL_drop (l : List UInt8) : ∀ k, k ≤ (lnsL l).length → lnsL (l.drop (atL l k)) = (lnsL l).drop k ∧ (k < (lnsL l).length → atL l k < l.length ∧ (lnsL l)[k]? = some ((l.drop (atL l k)).take (cutL (l.drop (atL l k)))) ∧ atL l (k + 1) = atL l k + cutL (l.drop (atL l k))) := by
  intro k
  have key : ∀ k, k ≤ (lnsL l).length → lnsL (l.drop (atL l k)) = (lnsL l).drop k → (k < (lnsL l).length → atL l k < l.length ∧ (lnsL l)[k]? = some ((l.drop (atL l k)).take (cutL (l.drop (atL l k)))) ∧ atL l (k + 1) = atL l k + cutL (l.drop (atL l k))) := by
    intro k hk h hlt
    have hne : l.drop (atL l k) ≠ [] := by
      intro e
      rw [e] at h
      have : (lnsL l).drop k = [] := h.symm
      rw [List.drop_eq_nil_iff] at this
      omega
    have hlen : atL l k < l.length := by
      rcases Nat.lt_or_ge (atL l k) l.length with h1 | h1
      · exact h1
      · exact absurd (List.drop_of_length_le h1) hne
    have h2 := lnsL_eq hne
    rw [h, List.drop_eq_getElem_cons hlt] at h2
    have h3 := (List.cons.inj h2).1
    refine ⟨hlen, by rw [List.getElem?_eq_getElem hlt, h3], ?_⟩
    have h4 : (lnsL l).take (k + 1) = (lnsL l).take k ++ [(lnsL l)[k]] := by rw [List.take_add_one, List.getElem?_eq_getElem hlt]; rfl
    unfold atL at h3 ⊢
    rw [h4, List.flatten_append, List.length_append]
    congr 1
    rw [h3]
    have := cutL_le (l.drop ((lnsL l).take k).flatten.length)
    simp only [List.flatten_cons, List.flatten_nil, List.append_nil, List.length_take]
    omega
  induction k with
  | zero =>
    intro hk
    have h0 : lnsL (l.drop (atL l 0)) = (lnsL l).drop 0 := by simp [atL]
    exact ⟨h0, key 0 hk h0⟩
  | succ k ih =>
    intro hk
    obtain ⟨h1, h2⟩ := ih (by omega)
    obtain ⟨h3, h4, h5⟩ := h2 (by omega)
    have hne : l.drop (atL l k) ≠ [] := by
      intro e
      have := congrArg List.length e
      simp at this
      omega
    have h6 := lnsL_eq hne
    rw [h1, List.drop_eq_getElem_cons (show k < (lnsL l).length by omega)] at h6
    have h7 := (List.cons.inj h6).2
    rw [List.drop_drop] at h7
    have h0 : lnsL (l.drop (atL l (k + 1))) = (lnsL l).drop (k + 1) := by rw [h5]; exact h7.symm
    exact ⟨h0, key (k + 1) hk h0⟩
theorem atL_end (l : List UInt8) : atL l (lnsL l).length = l.length := by
  unfold atL
  rw [List.take_length, lnsL_flat]

/-- The same of a text. -/
def lns (s : ByteArray) : List ByteArray := (lnsL s.data.toList).map fun l => ⟨l.toArray⟩
def atS (s : ByteArray) (k : Nat) : Nat := atL s.data.toList k
theorem lns_length (s : ByteArray) : (lns s).length = (lnsL s.data.toList).length := by simp [lns]
theorem bytes_len (s : ByteArray) : s.data.toList.length = s.size := by rw [Array.length_toList]; rfl
theorem extract_list (s : ByteArray) (a b : Nat) : (s.extract a b).data.toList = (s.data.toList.drop a).take (b - a) := by
  rw [ByteArray.data_extract, Array.toList_extract]
theorem bytes_ext {s t : ByteArray} (h : s.data.toList = t.data.toList) : s = t := by
  apply ByteArray.ext
  exact Array.toList_inj.1 h
theorem atS_zero (s : ByteArray) : atS s 0 = 0 := by simp [atS, atL]
theorem atS_end (s : ByteArray) : atS s (lns s).length = s.size := by rw [lns_length, ← bytes_len]; exact atL_end _
theorem atS_le (s : ByteArray) {k : Nat} (h : k ≤ (lns s).length) : atS s k ≤ s.size := by
  rcases Nat.lt_or_ge k (lns s).length with h1 | h1
  · have := ((lnsL_drop s.data.toList k (by rw [← lns_length]; omega)).2 (by rw [← lns_length]; exact h1)).1
    rw [bytes_len] at this
    exact Nat.le_of_lt this
  · have : k = (lns s).length := by omega
    rw [this, atS_end]
    exact Nat.le_refl _
/-- What the walk meets at a line. -/
theorem line_at (s : ByteArray) {k : Nat} (h : k < (lns s).length) : atS s k < s.size ∧ ∃ c : Nat, 1 ≤ c ∧ atS s k + c ≤ s.size ∧ atS s (k + 1) = atS s k + c ∧ nthS (lns s) k = s.extract (atS s k) (atS s k + c) ∧
    ((nl (s.extract (atS s k) s.size) + 1 = 0 ∧ c = s.size - atS s k) ∨ (nl (s.extract (atS s k) s.size) + 1 = (c : Int) ∧ nl (s.extract (atS s k) s.size) + 1 ≠ 0)) := by
  obtain ⟨h1, h2, h3⟩ := (lnsL_drop s.data.toList k (by rw [← lns_length]; omega)).2 (by rw [← lns_length]; exact h)
  rw [bytes_len] at h1
  have hnl : nl (s.extract (atS s k) s.size) = Lib.indexByte (s.data.toList.drop (atS s k)) 10 := by
    unfold nl
    rw [extract_list, List.take_of_length_le (by rw [List.length_drop, bytes_len]; exact Nat.le_refl _)]
  have hne : s.data.toList.drop (atS s k) ≠ [] := fun e => by
    have := congrArg List.length e
    rw [List.length_drop, bytes_len] at this
    simp at this
    unfold atS at this
    omega
  have hcl := cutL_le (s.data.toList.drop (atS s k))
  have hcp := cutL_pos hne
  rw [List.length_drop, bytes_len] at hcl
  have hle : atS s k + cutL (s.data.toList.drop (atS s k)) ≤ s.size := by unfold atS at hcl ⊢; omega
  refine ⟨h1, cutL (s.data.toList.drop (atS s k)), hcp, hle, h3, ?_, ?_⟩
  · rw [nthS_eq h]
    simp only [lns, List.getElem_map]
    apply bytes_ext
    rw [extract_list]
    have h4 := List.getElem?_eq_getElem (show k < (lnsL s.data.toList).length by rw [← lns_length]; exact h)
    rw [h2] at h4
    simp only [List.toList_toArray]
    rw [← Option.some.inj h4]
    congr 1
    unfold atS
    omega
  · rw [hnl]
    have hge := Lib.indexByte_ge (s.data.toList.drop (atS s k)) 10
    unfold cutL
    by_cases h5 : Lib.indexByte (s.data.toList.drop (atS s k)) 10 < 0
    · left
      rw [if_pos h5, List.length_drop, bytes_len]
      exact ⟨by omega, rfl⟩
    · right
      rw [if_neg h5]
      omega
end Go.Proofs.Ytigmpablpmanpaa
