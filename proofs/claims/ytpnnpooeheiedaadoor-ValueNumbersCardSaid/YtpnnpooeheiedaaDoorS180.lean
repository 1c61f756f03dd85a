/- Values: as lists and numbers; what is right. -/
import Derived.Test.YtpnnpooeheiedaaDoorSA
import Derived.Test.YtpnnpooeheiedaaDoorIc27
import Derived.Test.YtpnnpooeheiedaaDoorIc28
namespace Go.Proofs.YtpnnpooeheiedaaDoor
open Go.RowKit
set_option maxRecDepth 100000
set_option linter.unusedVariables false
set_option linter.unusedSimpArgs false
/-- Numbers as what a slice holds. -/
def lng (l : List Int) : List AV := l.map fun n => .sc (.int .i64 n)
theorem lng_length (l : List Int) : (lng l).length = l.length := by simp [lng]
theorem lng_get {l : List Int} {k : Nat} (h : k < l.length) : (lng l).getD k .top = .sc (.int .i64 (l.getD k 0)) := by simp [lng,List.getD,h]
/-- A value: its kind, its number, its row. -/
structure Vl where
 kind : Int
 num : Int
 row : List Int
def vlA (v : Vl) (ro : Option (List AV)) : AV := .agg [.sc (.int .u8 v.kind),.sc (.int .i64 v.num),.lst 1 (lng v.row) ro]
theorem vlA_eq (v : Vl) (ro : Option (List AV)) : vlA v ro = .agg [.sc (.int .u8 v.kind),.sc (.int .i64 v.num),.lst 1 (lng v.row) ro] := rfl
def I64 (n : Int) : Prop := -9223372036854775808 ≤ n ∧ n ≤ 9223372036854775807
def rightV (v : Vl) : Bool :=
 if v.kind = 1 then decide (v.row.length = 0)
 else if v.kind = 2 then decide (v.row.length = 0) && decide (v.num = 0 ∨ v.num = 1)
 else if v.kind = 3 then decide (v.num = 0) && decide (v.row.length ≤ 1024)
 else false
theorem andNot_bv (x : BitVec 64) (h : x &&& ~~~(1#64) = 0#64) : x = 0#64 ∨ x = 1#64 := by
 have hb : ∀ i,0 < i → i < 64 → x.getLsbD i = false := fun i h0 h1 => by
  have h2 : (x &&& ~~~(1#64)).getLsbD i = (0#64).getLsbD i := by rw [h]
  have hne : i ≠ 0 := by omega
  simp only [BitVec.getLsbD_and,BitVec.getLsbD_not,BitVec.getLsbD_zero,BitVec.getLsbD_one,h1,hne,decide_true,decide_false,Bool.and_false,Bool.not_false,Bool.and_true] at h2
  exact h2
 cases hx : x.getLsbD 0
 ·left
  apply BitVec.eq_of_getLsbD_eq
  intro i hi
  rcases Nat.eq_zero_or_pos i with rfl | hp
  ·simpa using hx
  ·simpa using hb i hp hi
 ·right
  apply BitVec.eq_of_getLsbD_eq
  intro i hi
  rcases Nat.eq_zero_or_pos i with rfl | hp
  ·simpa using hx
  ·have hne : i ≠ 0 := by omega
   rw [hb i hp hi,BitVec.getLsbD_one]
   simp [hne]
theorem ofInt_inj {n m : Int} (hn : I64 n) (hm : I64 m) (h : BitVec.ofInt 64 n = BitVec.ofInt 64 m) : n = m := by
 have h2 := congrArg BitVec.toInt h
 rw [BitVec.toInt_ofInt,BitVec.toInt_ofInt] at h2
 unfold I64 at hn hm
 rw [Int.bmod_eq_of_le (by omega) (by omega),Int.bmod_eq_of_le (by omega) (by omega)] at h2
 exact h2
theorem andNot_one {n : Int} (h : I64 n) : (IntKind.i64.wrap ((BitVec.ofInt IntKind.i64.bits n &&& ~~~BitVec.ofInt IntKind.i64.bits 1).toNat : Int) = 0) ↔ (n = 0 ∨ n = 1) := by
 have e1 : BitVec.ofInt IntKind.i64.bits n = BitVec.ofInt 64 n := rfl
 have e2 : BitVec.ofInt IntKind.i64.bits 1 = 1#64 := rfl
 rw [e1,e2]
 constructor
 ·intro hz
  have hz2 : (BitVec.ofInt 64 n &&& ~~~1#64) = 0#64 := by
   obtain ⟨y,hy0⟩ : ∃ y,y = (BitVec.ofInt 64 n &&& ~~~1#64) := ⟨_,rfl⟩
   have hz3 : IntKind.i64.wrap (y.toNat : Int) = 0 := by rw [hy0]; exact hz
   rw [← hy0]
   have hy := y.isLt
   apply BitVec.eq_of_toNat_eq
   show y.toNat = 0
   simp only [IntKind.wrap,show IntKind.i64.bits = 64 from rfl,show IntKind.i64.signed = true from rfl,Bool.true_and,decide_eq_true_eq] at hz3
   split at hz3 <;> omega
  rcases andNot_bv _ hz2 with e | e
  ·exact .inl (ofInt_inj h (by unfold I64; omega) (e.trans rfl))
  ·exact .inr (ofInt_inj h (by unfold I64; omega) (e.trans rfl))
 ·rintro (rfl | rfl)
  ·decide
  ·decide
end Go.Proofs.YtpnnpooeheiedaaDoor
