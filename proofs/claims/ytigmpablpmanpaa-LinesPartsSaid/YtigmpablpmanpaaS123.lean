/- Lines and places: plain. -/
import Derived.Test.YtigmpablpmanpaaS122
namespace Go.Proofs.Ytigmpablpmanpaa
open Go.RowKit
set_option linter.unusedVariables false
set_option linter.unusedSimpArgs false

theorem cut_spec : ∀ {l : List UInt8}, l ≠ [] → (∃ b, l.take (cutL l) = b ++ [10] ∧ ∀ x ∈ b, x ≠ 10) ∨ ((∀ x ∈ l, x ≠ 10) ∧ cutL l = l.length)
  | [], h => (h rfl).elim
  | c :: r, _ => by
    rw [cutL_cons]
    by_cases h : c = 10
    · subst h
      exact .inl ⟨[], by simp, by simp⟩
    · rw [if_neg h]
      by_cases hr : r = []
      · subst hr
        exact .inr ⟨by simpa using h, by simp [cutL_nil]⟩
      · rcases cut_spec hr with ⟨b, h1, h2⟩ | ⟨h1, h2⟩
        · exact .inl ⟨c :: b, by rw [List.take_succ_cons, h1]; rfl, fun x hx => by
            rcases List.mem_cons.1 hx with rfl | hx
            · exact h
            · exact h2 x hx⟩
        · exact .inr ⟨fun x hx => by
            rcases List.mem_cons.1 hx with rfl | hx
            · exact h
            · exact h1 x hx, by simp [h2]⟩
theorem nthS_list (s : ByteArray) {k : Nat} (h : k < (lns s).length) : (nthS (lns s) k).data.toList = (s.data.toList.drop (atS s k)).take (cutL (s.data.toList.drop (atS s k))) := by
  obtain ⟨_, h2, _⟩ := (lnsL_drop s.data.toList k (by rw [← lns_length]; omega)).2 (by rw [← lns_length]; exact h)
  rw [nthS_eq h]
  simp only [lns, List.getElem_map, List.toList_toArray]
  have h4 := List.getElem?_eq_getElem (show k < (lnsL s.data.toList).length by rw [← lns_length]; exact h)
  rw [h2] at h4
  exact (Option.some.inj h4).symm
theorem atS_lt (s : ByteArray) {k : Nat} (h : k < (lns s).length) : atS s k < s.size := (line_at s h).1
theorem atS_step (s : ByteArray) {k : Nat} (h : k < (lns s).length) : atS s (k + 1) = atS s k + (nthS (lns s) k).size ∧ 1 ≤ (nthS (lns s) k).size := by
  obtain ⟨_, c, h2, h3, h4, h5, _⟩ := line_at s h
  rw [h5, ByteArray.size_extract]
  omega
theorem drop_at (s : ByteArray) {k : Nat} (h : k < (lns s).length) : s.data.toList.drop (atS s k) = (nthS (lns s) k).data.toList ++ s.data.toList.drop (atS s (k + 1)) := by
  have h1 := nthS_list s h
  have h2 := (lnsL_drop s.data.toList k (by rw [← lns_length]; omega)).2 (by rw [← lns_length]; exact h)
  have h3 : atS s (k + 1) = atS s k + cutL (s.data.toList.drop (atS s k)) := h2.2.2
  rw [h1, h3, ← List.drop_drop, List.take_append_drop]
theorem line_shape (s : ByteArray) {k : Nat} (h : k < (lns s).length) : (∃ b, (nthS (lns s) k).data.toList = b ++ [10] ∧ ∀ x ∈ b, x ≠ 10) ∨ ((∀ x ∈ (nthS (lns s) k).data.toList, x ≠ 10) ∧ k + 1 = (lns s).length) := by
  have hlt := atS_lt s h
  have hne : s.data.toList.drop (atS s k) ≠ [] := fun e => by
    have := congrArg List.length e
    rw [List.length_drop, bytes_len] at this
    simp at this
    omega
  rw [nthS_list s h]
  rcases cut_spec hne with h1 | ⟨h1, h2⟩
  · exact .inl h1
  · refine .inr ⟨fun x hx => h1 x (List.mem_of_mem_take hx), ?_⟩
    have h3 := (lnsL_drop s.data.toList k (by rw [← lns_length]; omega)).2 (by rw [← lns_length]; exact h)
    have h4 : atS s (k + 1) = s.size := by
      have : atS s (k + 1) = atS s k + cutL (s.data.toList.drop (atS s k)) := h3.2.2
      rw [this, h2, List.length_drop, bytes_len]
      omega
    rcases Nat.lt_or_ge (k + 1) (lns s).length with h5 | h5
    · have := atS_lt s h5
      omega
    · omega
theorem take_at (s : ByteArray) {k : Nat} (h : k < (lns s).length) {j : Nat} (hj : j ≤ (nthS (lns s) k).size) : s.data.toList.take (atS s k + j) = s.data.toList.take (atS s k) ++ (nthS (lns s) k).data.toList.take j := by
  rw [List.take_add, drop_at s h, List.take_append_of_le_length (by rw [bytes_len]; exact hj)]
theorem take_line (s : ByteArray) {k : Nat} (h : k < (lns s).length) : s.data.toList.take (atS s (k + 1)) = s.data.toList.take (atS s k) ++ (nthS (lns s) k).data.toList := by
  have h3 := take_at s h (Nat.le_refl _)
  have h4 : (nthS (lns s) k).data.toList.take (nthS (lns s) k).size = (nthS (lns s) k).data.toList := List.take_of_length_le (by rw [bytes_len]; exact Nat.le_refl _)
  rw [h4, ← (atS_step s h).1] at h3
  exact h3
theorem plc_append (a b : List UInt8) (h : ∀ x ∈ b, x ≠ 10) : plc (a ++ b) = ((plc a).1, (plc a).2 + b.length) := by
  have : plc (a ++ b) = b.foldl (fun p b => if b = 10 then (p.1 + 1, 0) else (p.1, p.2 + 1)) (plc a) := by unfold plc; rw [List.foldl_append]
  rw [this, plc_free b h]
theorem plc_at (s : ByteArray) : ∀ {k : Nat}, k < (lns s).length → plc (s.data.toList.take (atS s k)) = (k, 0)
  | 0, _ => by rw [atS_zero]; rfl
  | k + 1, h => by
    have ih := plc_at s (k := k) (by omega)
    have hk : k < (lns s).length := by omega
    rcases line_shape s hk with ⟨b, h1, h2⟩ | ⟨_, h2⟩
    · have h3 := take_line s hk
      rw [h1, ← List.append_assoc] at h3
      rw [h3, plc_snoc, if_pos rfl, plc_append _ _ h2, ih]
    · omega
theorem plc_in (s : ByteArray) {k j : Nat} (h : k < (lns s).length) (hj : j ≤ (nthS (lns s) k).size) (hx : j < (nthS (lns s) k).size ∨ ∀ x ∈ (nthS (lns s) k).data.toList, x ≠ 10) : plc (s.data.toList.take (atS s k + j)) = (k, j) := by
  rw [take_at s h hj, plc_append, plc_at s h]
  · simp [bytes_len]; omega
  · intro x hm
    rcases line_shape s h with ⟨b, h1, h2⟩ | ⟨h1, _⟩
    · rcases hx with hx | hx
      · have hs : (nthS (lns s) k).size = b.length + 1 := by rw [← bytes_len, h1]; simp
        rw [h1, List.take_append_of_le_length (by omega)] at hm
        exact h2 x (List.mem_of_mem_take hm)
      · exact hx x (List.mem_of_mem_take hm)
    · exact h1 x (List.mem_of_mem_take hm)
/-- Where a place lies. -/
theorem find_line (s : ByteArray) {at_ : Nat} (h : at_ < s.size) : ∃ k, k < (lns s).length ∧ atS s k ≤ at_ ∧ at_ < atS s (k + 1) := by
  have key : ∀ n, n ≤ (lns s).length → at_ < atS s n → ∃ k, k < n ∧ atS s k ≤ at_ ∧ at_ < atS s (k + 1) := by
    intro n
    induction n with
    | zero => intro _ h; rw [atS_zero] at h; omega
    | succ n ih =>
      intro h1 h2
      by_cases h3 : at_ < atS s n
      · obtain ⟨k, a, b, c⟩ := ih (by omega) h3
        exact ⟨k, by omega, b, c⟩
      · exact ⟨n, by omega, by omega, h2⟩
  obtain ⟨k, a, b, c⟩ := key _ (Nat.le_refl _) (by rw [atS_end]; exact h)
  exact ⟨k, a, b, c⟩
theorem plc_mid (s : ByteArray) {at_ : Nat} (h : at_ < s.size) : ∃ k, k < (lns s).length ∧ atS s k ≤ at_ ∧ at_ - atS s k < (nthS (lns s) k).size ∧ plc (s.data.toList.take at_) = (k, at_ - atS s k) := by
  obtain ⟨k, h1, h2, h3⟩ := find_line s h
  have h4 := (atS_step s h1).1
  refine ⟨k, h1, h2, by omega, ?_⟩
  have := plc_in s h1 (j := at_ - atS s k) (by omega) (.inl (by omega))
  rwa [show atS s k + (at_ - atS s k) = at_ from by omega] at this
/-- The last place. -/
theorem plc_end (s : ByteArray) {k j : Nat} (h : plc s.data.toList = (k, j)) : ¬ (k < (lns s).length ∧ j < (nthS (lns s) k).size) := by
  rintro ⟨h1, h2⟩
  have hn : 0 < (lns s).length := by omega
  obtain ⟨m, hm⟩ : ∃ m, (lns s).length = m + 1 := ⟨(lns s).length - 1, by omega⟩
  have hml : m < (lns s).length := by omega
  have hst := atS_step s hml
  have hend : atS s (m + 1) = s.size := by rw [← hm, atS_end]
  have hall : s.data.toList = s.data.toList.take (atS s m + (nthS (lns s) m).size) := by
    rw [← hst.1, hend, List.take_of_length_le (by rw [bytes_len]; exact Nat.le_refl _)]
  rcases line_shape s hml with ⟨b, h3, h4⟩ | ⟨h3, _⟩
  · have h5 := take_line s hml
    rw [hend, List.take_of_length_le (by rw [bytes_len]; exact Nat.le_refl _), h3, ← List.append_assoc] at h5
    rw [h5, plc_snoc, if_pos rfl, plc_append _ _ h4, plc_at s hml] at h
    have := (Prod.mk.inj h).1
    simp at this
    omega
  · have h5 := plc_in s hml (Nat.le_refl _) (.inr h3)
    rw [← hall, h] at h5
    have h6 := (Prod.mk.inj h5).1
    have h7 := (Prod.mk.inj h5).2
    subst h6
    omega

/-- What At tells. -/
def atR (s : ByteArray) (line col : Int) : Int × Int :=
  if line < 0 ∨ col < 0 then (0, 6) else if line.toNat < (lns s).length ∧ col < (nthS (lns s) line.toNat).size then (atS s line.toNat + col, 0)
  else if line = (plc s.data.toList).1 ∧ col = (plc s.data.toList).2 then (s.size, 0) else (0, 6)
theorem atR_hit {s : ByteArray} {line col : Int} {at_ : Nat} (h : at_ ≤ s.size) (h1 : line = (plc (s.data.toList.take at_)).1) (h2 : col = (plc (s.data.toList.take at_)).2) : atR s line col = ((at_ : Int), 0) := by
  unfold atR
  rw [if_neg (by omega)]
  rcases Nat.lt_or_ge at_ s.size with h3 | h3
  · obtain ⟨k, e1, e2, e3, e4⟩ := plc_mid s h3
    rw [e4] at h1 h2
    subst h1
    subst h2
    rw [if_pos ⟨by simpa using e1, by simpa using e3⟩]
    simp
    omega
  · have : at_ = s.size := by omega
    subst this
    rw [List.take_of_length_le (by rw [bytes_len]; exact Nat.le_refl _)] at h1 h2
    have := plc_end s (k := (plc s.data.toList).1) (j := (plc s.data.toList).2) rfl
    rw [if_neg (by rintro ⟨g1, g2⟩; rw [h1, Int.toNat_natCast] at g1 g2; exact this ⟨g1, by omega⟩), if_pos ⟨h1, h2⟩]
theorem atR_none {s : ByteArray} {line col : Int} (h : ∀ at_, at_ ≤ s.size → ¬ (((plc (s.data.toList.take at_)).1 : Int) = line ∧ ((plc (s.data.toList.take at_)).2 : Int) = col)) : atR s line col = (0, 6) := by
  unfold atR
  split
  · rfl
  rename_i h0
  split
  · rename_i h1
    exfalso
    have h2 := plc_in s h1.1 (j := col.toNat) (by omega) (.inl (by omega))
    have h3 := atS_step s h1.1
    have h4 := atS_le s (k := line.toNat + 1) (by omega)
    refine h (atS s line.toNat + col.toNat) (by omega) ?_
    rw [h2]
    exact ⟨by omega, by omega⟩
  · split
    · rename_i h1
      exfalso
      refine h s.size (Nat.le_refl _) ?_
      rw [List.take_of_length_le (by rw [bytes_len]; exact Nat.le_refl _)]
      exact ⟨h1.1.symm, h1.2.symm⟩
    · rfl
end Go.Proofs.Ytigmpablpmanpaa
