/- Values: both tell the same of an operator. -/
import Derived.Test.YtpnnpooeheiedaaDoorS192
import Derived.Test.YtpnnpooeheiedaaDoorIc29
namespace Go.Proofs.YtpnnpooeheiedaaDoor
open Go.RowKit
set_option maxRecDepth 100000
set_option linter.unusedVariables false
set_option linter.unusedSimpArgs false
def orK : Opr → Int
 | .inl (k,_) => k
 | .inr _ => 0
def orN : Opr → Int
 | .inl (_,n) => n
 | .inr _ => 0
def orE : Opr → Int
 | .inl _ => 0
 | .inr e => e
theorem opTup_eq (r : Opr) : opTup r = .tup [nvA (orK r) (orN r),.sc (.int .i64 (orE r))] := by
 rcases r with ⟨k,n⟩ | e <;> rfl
theorem nvA_view {H : AHeap} (k n : Int) : View H (nvA k n) (vlA ⟨k,n,[]⟩ none) := .agg (.cons .sc (.cons .sc (.cons .nil .nil)))
theorem sameV_refl (a : Vl) : sameV a a = true := (sameV_iff a a).2 rfl
theorem sameN_d (k n : Int) (H : AHeap) : D Tryd.prog 25 [nvA k n,nvA k n] H (.ret (.sc (.bool true))) H := by
 have h := sameValue_d ⟨k,n,[]⟩ ⟨k,n,[]⟩ none none (by simp) []
 rw [sameV_refl] at h
 exact D_view (.cons (nvA_view k n) (.cons (nvA_view k n) .nil)) .sc h
end Go.Proofs.YtpnnpooeheiedaaDoor
