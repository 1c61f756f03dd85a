/- Values: the document's operators of two. -/
import Derived.Test.YtpnnpooeheiedaaDoorS189
namespace Go.Proofs.YtpnnpooeheiedaaDoor
open Go.RowKit
set_option maxRecDepth 100000
set_option linter.unusedVariables false
set_option linter.unusedSimpArgs false
def binaryR (op : ByteArray) (a b : Vl) : Opr :=
 if memS knownL op = false ∨ rightV a = false ∨ rightV b = false then .inr 2
 else if op = ⟨#[61,61]⟩ then .inl (2,if sameV a b = true then 1 else 0)
 else if op = ⟨#[33,61]⟩ then .inl (2,if sameV a b = true then 0 else 1)
 else if op = ⟨#[124,124]⟩ then (if a.kind = 2 ∧ b.kind = 2 then .inl (2,if a.num + b.num > 0 then 1 else 0) else .inr 200)
 else if op = ⟨#[38,38]⟩ then (if a.kind = 2 ∧ b.kind = 2 then .inl (2,if a.num + b.num = 2 then 1 else 0) else .inr 200)
 else if a.kind = 1 ∧ b.kind = 1 then (intsR op a.num b.num).getD (.inr 2) else .inr 200
theorem right_bool {v : Vl} (h : rightV v = true) (k : v.kind = 2) : v.num = 0 ∨ v.num = 1 := by
 simp [rightV,k] at h
 exact h.2
theorem nOE : ¬ (⟨#[33,61]⟩ : ByteArray) = ⟨#[61,61]⟩ := by decide
theorem nO1 : ¬ (⟨#[124,124]⟩ : ByteArray) = ⟨#[61,61]⟩ := by decide
theorem nO2 : ¬ (⟨#[124,124]⟩ : ByteArray) = ⟨#[33,61]⟩ := by decide
theorem nA1 : ¬ (⟨#[38,38]⟩ : ByteArray) = ⟨#[61,61]⟩ := by decide
theorem nA2 : ¬ (⟨#[38,38]⟩ : ByteArray) = ⟨#[33,61]⟩ := by decide
theorem nA3 : ¬ (⟨#[38,38]⟩ : ByteArray) = ⟨#[124,124]⟩ := by decide
theorem w0 : IntKind.i64.wrap 0 = 0 := by decide
theorem w1 : IntKind.i64.wrap 1 = 1 := by decide
theorem w2 : IntKind.i64.wrap 2 = 2 := by decide
end Go.Proofs.YtpnnpooeheiedaaDoor
