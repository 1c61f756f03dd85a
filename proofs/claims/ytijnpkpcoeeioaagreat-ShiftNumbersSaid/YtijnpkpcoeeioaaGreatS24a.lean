/- law03.great; counts of rows. -/
import Derived.Test.YtijnpkpcoeeioaaGreatSC
namespace Go.Proofs.YtijnpkpcoeeioaaGreat
open Go.RowKit
set_option maxRecDepth 100000
set_option linter.unusedVariables false
set_option linter.unusedSimpArgs false

def load3 : Int → List Hk → Int
  | n, [] => n
  | n, h :: r => if n ≤ 2000 then load3 (n + textsOf h.old 2000 + textsOf h.new 2000) r else n
theorem load3_step {l : List Hk} {k : Nat} (hk : k < l.length) (n : Int) : load3 n (l.drop k) = if n ≤ 2000 then load3 (n + textsOf (nthH l k).old 2000 + textsOf (nthH l k).new 2000) (l.drop (k + 1)) else n := by
  rw [List.drop_eq_getElem_cons hk, load3, nthH_eq hk]

theorem weak_end {F : AHeap} {v : Value} : Weak [] (.ret (.sc v)) F (.ret (.sc v)) [] :=
  weak_gen [] (by simp) (by simp) (by simp) (fun id k hid hk => by simp at hid) (fun i s k hs => by simp at hs) (.same trivial)

def sumL : List Hk → Nat
  | [] => 0
  | h :: r => h.old.length + h.new.length + sumL r
theorem sumL_new (l : List Hk) : newLen l ≤ sumL l := by
  induction l with
  | nil => exact Nat.le_refl _
  | cons h r ih => simp only [newLen, sumL]; omega
theorem sumL_app (a b : List Hk) : sumL (a ++ b) = sumL a + sumL b := by
  induction a with
  | nil => simp [sumL]
  | cons h r ih => simp only [List.cons_append, sumL, ih]; omega
theorem sumL_take (l : List Hk) (k : Nat) : sumL (l.take k) ≤ sumL l := by
  conv => rhs; rw [← List.take_append_drop k l, sumL_app]
  omega
end Go.Proofs.YtijnpkpcoeeioaaGreat
