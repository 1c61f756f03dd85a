/- How many there are, as far as is asked: the walk. -/
import Derived.Test.YtfnahogjkgcklaaDoorS248
namespace Go.Proofs.YtfnahogjkgcklaaDoor
open Go.RowKit
set_option maxRecDepth 100000
set_option linter.unusedVariables false
set_option linter.unusedSimpArgs false
mutual
def Nd.wt : Nd → Nat
 | ⟨_,s,_,l⟩ => 1 + s.size + Nd.wtL l
def Nd.wtL : List Nd → Nat
 | [] => 0
 | t :: r => t.wt + Nd.wtL r
end
theorem Nd.wt_eq (t : Nd) : t.wt = 1 + t.text.size + Nd.wtL t.kids := by cases t; simp [Nd.wt,Nd.kids,Nd.text]
theorem Nd.wtL_mem {l : List Nd} {t : Nd} (h : t ∈ l) : t.wt ≤ Nd.wtL l := by
 induction l with
 | nil => cases h
 | cons x r ih =>
  rcases List.mem_cons.1 h with rfl | h
  ·simp only [Nd.wtL]; omega
  ·have := ih h; simp only [Nd.wtL]; omega
theorem Nd.wt_pos (t : Nd) : 0 < t.wt := by rw [Nd.wt_eq]; omega
theorem Nd.wtL_len (l : List Nd) : l.length ≤ Nd.wtL l := by
 induction l with
 | nil => simp [Nd.wtL]
 | cons x r ih => have := x.wt_pos; simp only [List.length_cons,Nd.wtL]; omega
end Go.Proofs.YtfnahogjkgcklaaDoor
