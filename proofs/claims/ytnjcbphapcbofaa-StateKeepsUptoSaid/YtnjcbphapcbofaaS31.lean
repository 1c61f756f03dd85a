/- Lists of texts that were lent: kept, and written over. -/
import Derived.Test.YtnjcbphapcbofaaS30
namespace Go.Proofs.Ytnjcbphapcbofaa
open Go.RowKit
set_option maxRecDepth 100000
set_option linter.unusedVariables false
set_option linter.unusedSimpArgs false

theorem mks_nth {l : List ByteArray} {j n : Nat} (h : j < n) : nthS (l ++ mks n) (l.length + j) = markT 1 j := by
  rw [nthS_eq (by simp [mks_length]; exact h)]
  rw [List.getElem_append_right (by omega)]
  simp [mks]
theorem lent_nth {l m : List ByteArray} {k : Nat} (h : k < l.length) : nthS (l ++ m) k = nthS l k := by
  rw [nthS_eq (by simp; omega), nthS_eq h, List.getElem_append_left h]

theorem set_same {H : AHeap} {i : Nat} {b : ABlk} (h : AHeap.find H i = some b) : AHeap.set H i (some b) = H := by
  induction H with
  | nil => rfl
  | cons x r ih =>
    simp only [AHeap.find] at h
    simp only [AHeap.set]
    split
    · rename_i e
      rw [if_pos e] at h
      rw [h]
    · rename_i e
      rw [if_neg e] at h
      rw [ih h]
/-- A list, written over up to place j. -/
def ovr (l : List ByteArray) (j : Nat) : List ByteArray := ((List.range j).map fun i : Nat => markT 2 (i : Int)) ++ l.drop j
theorem ovr_zero {l : List ByteArray} : ovr l 0 = l := by simp [ovr]
theorem ovr_length {l : List ByteArray} {j : Nat} (h : j ≤ l.length) : (ovr l j).length = l.length := by simp [ovr]; omega
theorem ovr_set {l : List ByteArray} {j : Nat} (h : j < l.length) : (strs (ovr l j)).set j (.sc (.string (markT 2 j))) = strs (ovr l (j + 1)) := by
  unfold ovr
  rw [strs_append, strs_append, List.set_append_right _ _ (by simp [strs_length])]
  rw [List.range_succ, List.map_append, strs_append, List.append_assoc, List.drop_eq_getElem_cons h]
  simp only [strs_length, List.length_map, List.length_range, Nat.sub_self]
  rfl

end Go.Proofs.Ytnjcbphapcbofaa
