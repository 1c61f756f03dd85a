/- Values, as they come in: what is read of them, and how much that is. -/
import Derived.Test.YtpnnpooeheiedaaDoorS200
import Derived.Test.YtpnnpooeheiedaaDoorVC
import Derived.Test.YtpnnpooeheiedaaDoorRows
namespace Go.Proofs.YtpnnpooeheiedaaDoor
open Go.RowKit
set_option linter.unusedVariables false
set_option linter.unusedSimpArgs false
theorem wf_I64 {n : Int} (h : (Lit.int .i64 n).wf = true) : I64 n := by
 simp [Lit.wf,IntKind.min,IntKind.max,IntKind.signed,IntKind.bits] at h
 exact ⟨by omega,by omega⟩
/-- A value whose numbers are numbers of 64 bits. -/
def Vl.good (v : Vl) : Prop := I64 v.num ∧ (0 ≤ v.kind ∧ v.kind ≤ 255) ∧ ∀ n ∈ v.row,I64 n
section
variable {Hh : Type} {enc : TypeId × Value → Hh} {w : World} {n : Nat}
theorem rdv_i64 : Rdr enc Tryd.prog w n 2 (fun i : Int => .sc (.int .i64 i)) (fun i d => I64 i) :=
 (Rdr.int Tryd.underlying2).map id fun a d h => ⟨rfl,wf_I64 h.2⟩
end
end Go.Proofs.YtpnnpooeheiedaaDoor
