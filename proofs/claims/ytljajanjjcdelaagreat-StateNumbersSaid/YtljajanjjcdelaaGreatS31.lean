/- Lists of texts that were lent: kept, and written over. -/
import Derived.Test.YtljajanjjcdelaaGreatS30
namespace Go.Proofs.YtljajanjjcdelaaGreat
open Go.RowKit
set_option maxRecDepth 100000
set_option linter.unusedVariables false
set_option linter.unusedSimpArgs false
theorem set_same {H : AHeap} {i : Nat} {b : ABlk} (h : AHeap.find H i = some b) : AHeap.set H i (some b) = H := by
 induction H with
 | nil => rfl
 | cons x r ih =>
  simp only [AHeap.find] at h
  simp only [AHeap.set]
  split
  ·rename_i e
   rw [if_pos e] at h
   rw [h]
  ·rename_i e
   rw [if_neg e] at h
   rw [ih h]
end Go.Proofs.YtljajanjjcdelaaGreat
