/- How many there are: the document's; as far as is asked. -/
import Derived.Test.YtfnahogjkgcklaaDoorS247
namespace Go.Proofs.YtfnahogjkgcklaaDoor
open Go.RowKit
set_option maxRecDepth 100000
set_option linter.unusedVariables false
set_option linter.unusedSimpArgs false
/- Nodes, each eight bytes of a text one, as far as is asked. -/
mutual
def bulk : Nd → Int → Int
 | ⟨_,s,_,l⟩,most => bulkL l most (1 + ((s.size / 8 : Nat) : Int))
def bulkL : List Nd → Int → Int → Int
 | [],_,c => c
 | t :: r,most,c => if c ≤ most then bulkL r most (c + bulk t (most - c)) else c
end
theorem bulk_eq (t : Nd) (most : Int) : bulk t most = bulkL t.kids most (1 + ((t.text.size / 8 : Nat) : Int)) := by
 cases t; simp only [bulk,Nd.kids,Nd.text]
theorem bulk_lo (t : Nd) : ∀ most,1 ≤ bulk t most := by
 induction t using Nd.ind with
 | _ t ih =>
  intro most
  rw [bulk_eq]
  have key : ∀ (l : List Nd) (c : Int),(∀ k ∈ l,∀ m,1 ≤ bulk k m) → 1 ≤ c → 1 ≤ bulkL l most c := by
   intro l
   induction l with
   | nil => intro c _ h; simpa [bulkL] using h
   | cons x r ihr =>
    intro c hx hc
    unfold bulkL
    split
    ·exact ihr _ (fun k hk => hx k (by simp [hk])) (by have := hx x (by simp) (most - c); omega)
    ·exact hc
  exact key _ _ ih (by omega)
end Go.Proofs.YtfnahogjkgcklaaDoor
