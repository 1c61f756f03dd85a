/- Values: what the operators of ints tell, one by one. -/
import Derived.Test.YtpnnpooeheiedaaDoorS198
namespace Go.Proofs.YtpnnpooeheiedaaDoor
open Go.RowKit
set_option maxRecDepth 100000
set_option linter.unusedVariables false
set_option linter.unusedSimpArgs false
theorem bin_ints {op : ByteArray} {x y : Int} {r : Opr} (hk : memS knownL op = true) (c1 : ¬ op = ⟨#[61,61]⟩) (c2 : ¬ op = ⟨#[33,61]⟩) (c3 : ¬ op = ⟨#[124,124]⟩) (c4 : ¬ op = ⟨#[38,38]⟩) (h : intsR op x y = some r) : binaryR op ⟨1,x,[]⟩ ⟨1,y,[]⟩ = r := by
 have e1 : rightV ⟨1,x,[]⟩ = true := rfl
 have e2 : rightV ⟨1,y,[]⟩ = true := rfl
 unfold binaryR
 rw [hk,e1,e2,if_neg (by simp),if_neg c1,if_neg c2,if_neg c3,if_neg c4,if_pos ⟨rfl,rfl⟩,h]
 rfl
theorem got_add (x y : Int) : gotR ⟨#[43]⟩ x y = IntKind.i64.wrap (x + y) := by
 unfold gotR
 rw [bin_ints (r := .inl (1,IntKind.i64.wrap (x + y))) (by decide) (by decide) (by decide) (by decide) (by decide) rfl]
 rfl
theorem got_sub (x y : Int) : gotR ⟨#[45]⟩ x y = IntKind.i64.wrap (x - y) := by
 unfold gotR
 rw [bin_ints (r := .inl (1,IntKind.i64.wrap (x - y))) (by decide) (by decide) (by decide) (by decide) (by decide) rfl]
 rfl
theorem got_mul (x y : Int) : gotR ⟨#[42]⟩ x y = IntKind.i64.wrap (x * y) := by
 unfold gotR
 rw [bin_ints (r := .inl (1,IntKind.i64.wrap (x * y))) (by decide) (by decide) (by decide) (by decide) (by decide) rfl]
 rfl
theorem got_lt (x y : Int) : gotR ⟨#[60]⟩ x y = if x < y then 1 else 0 := by
 unfold gotR
 rw [bin_ints (r := .inl (2,if x < y then 1 else 0)) (by decide) (by decide) (by decide) (by decide) (by decide) rfl]
 rfl
theorem got_le (x y : Int) : gotR ⟨#[60,61]⟩ x y = if x ≤ y then 1 else 0 := by
 unfold gotR
 rw [bin_ints (r := .inl (2,if x ≤ y then 1 else 0)) (by decide) (by decide) (by decide) (by decide) (by decide) rfl]
 rfl
theorem got_gt (x y : Int) : gotR ⟨#[62]⟩ x y = if x > y then 1 else 0 := by
 unfold gotR
 rw [bin_ints (r := .inl (2,if x > y then 1 else 0)) (by decide) (by decide) (by decide) (by decide) (by decide) rfl]
 rfl
theorem got_ge (x y : Int) : gotR ⟨#[62,61]⟩ x y = if x ≥ y then 1 else 0 := by
 unfold gotR
 rw [bin_ints (r := .inl (2,if x ≥ y then 1 else 0)) (by decide) (by decide) (by decide) (by decide) (by decide) rfl]
 rfl
theorem got_eq (x y : Int) : gotR ⟨#[61,61]⟩ x y = if x = y then 1 else 0 := by
 have e : binaryR ⟨#[61,61]⟩ ⟨1,x,[]⟩ ⟨1,y,[]⟩ = .inl (2,if x = y then 1 else 0) := by
  have e1 : rightV ⟨1,x,[]⟩ = true := rfl
  have e2 : rightV ⟨1,y,[]⟩ = true := rfl
  have e3 : memS knownL ⟨#[61,61]⟩ = true := by decide
  unfold binaryR
  rw [e1,e2,e3,if_neg (by simp),if_pos rfl]
  simp [sameV]
 unfold gotR
 rw [e]
 rfl
theorem got_quo (x y : Int) (h : ¬ y = 0) : gotR ⟨#[47]⟩ x y = IntKind.i64.wrap (x.tdiv y) := by
 unfold gotR
 rw [bin_ints (r := .inl (1,IntKind.i64.wrap (x.tdiv y))) (by decide) (by decide) (by decide) (by decide) (by decide) (by show some _ = some _; rw [if_neg h])]
 rfl
theorem got_rem (x y : Int) (h : ¬ y = 0) : gotR ⟨#[37]⟩ x y = x.tmod y := by
 unfold gotR
 rw [bin_ints (r := .inl (1,x.tmod y)) (by decide) (by decide) (by decide) (by decide) (by decide) (by show some _ = some _; rw [if_neg h])]
 rfl
end Go.Proofs.YtpnnpooeheiedaaDoor
